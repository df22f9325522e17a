/- The law FnExactPlanOf holds: its row, and its card. -/
import Derived.Test.YtjbeigebbnonoaaGreatDoorPartQJ
import Derived.Test.YtjbeigebbnonoaaGreatDoorCards
import Derived.Test.YtjbeigebbnonoaaGreatDoorTie
import Derived.WalkKit
import Derived.ProofKit
import Derived.Lay
import Derived.LaidOnce
import Derived.SevenTiedAt
namespace Go.Proofs.YtjbeigebbnonoaaGreatDoor
open Go.ChangeShapes Go.WideShapes Go.ChangeAt Go.RowKit Go.Ev Go.Md
set_option linter.unusedSimpArgs false
set_option linter.unusedVariables false
theorem own : ownKnob Tryz.prog.godebug = none := by kernel_rfl
theorem laidOut : laidOutB Tryz.prog = true := by kernel_rfl
set_option maxRecDepth 100000 in
theorem planOf_lifted (os : Os) (started : os.Started) (H : Type) (enc : TypeId × Value → H) :
    ReturnsInHanded {} Tryz.checked os 6 .any (fun w args => (Rows.fnExactPlanOfSpec.pre enc Tryz.prog Tryz.f6 [] false w args ∧ laidMetH Tryz.prog Rows.fnExactPlanOfRow.laid w) ∧ sizedMet enc Tryz.prog Tryz.f6 (OpenSpec.ofChange Rows.fnExactPlanOfSpec) false w args)
      (Rows.fnExactPlanOfSpec.post enc Tryz.prog Tryz.f6 false true false false) := by
  refine returnsInHanded_of_change_and (C := Tryz.checked) (X := fun w _ => laidMetH Tryz.prog Rows.fnExactPlanOfRow.laid w) (fun _ _ _ hh h => h.of_heap hh) own started (by kernel_rfl) Tryz.func6
    (ChangeSpec.witness_shaped (enc := enc) (C := Tryz.checked) (os := os) (X := fun w _ => laidMetH Tryz.prog Rows.fnExactPlanOfRow.laid w) false (World.laidAll Tryz.prog os Rows.fnExactPlanOfRow.laid) #[.agg #[.slice none 0 0, .slice none 0 0, .int .i64 0, .int .i64 0, .slice none 0 0, .string ByteArray.empty], .slice none 0 0] 8 (World.laidAll_os _ _ _)
      (World.shaped_of_ZipB (by kernel_rfl) (by kernel_rfl)) (by kernel_rfl) (by kernel_rfl) (by kernel_rfl)
      (by rw [MakeChecks.laidMetH_plain _ _ _ (by kernel_rfl)]; exact laidMet_laidAll _ (by kernel_rfl) (by kernel_rfl))) ?_
  intro W base args ds gs before hval0 hW _ hsz0 _ _
  have hsz : (DataW.weightsEach Tryz.prog (Tryz.f6.params.toList ++ Rows.fnExactPlanOfSpec.plain.varTypes Tryz.prog) (ds ++ gs)).all (· ≤ reachBytes) = true := hsz0
  have hval : ∀ (j : Nat) t v, Tryz.f6.params[j]? = some t → args[j]? = some v → Value.okWide Tryz.prog W .any base t v := hval0
  have hW' := hW
  obtain ⟨p, q, hA0, hV, rfl, _, _⟩ := hW
  have hA : DataW.TrodAll enc Tryz.prog W 0 (fun _ => true) true Tryz.f6.params.toList args.toList ds p := hA0
  obtain ⟨rfl, rfl⟩ := trodVars_none hV
  have hpar : Tryz.f6.params.toList = [63, 64] := by rw [Tryz.params6]
  simp only [List.append_nil] at hW' hsz
  have hsz' : (DataW.weightsEach Tryz.prog Tryz.f6.params.toList ds).all (· ≤ reachBytes) = true := by
    have e : Tryz.f6.params.toList ++ Rows.fnExactPlanOfSpec.plain.varTypes Tryz.prog = Tryz.f6.params.toList := List.append_nil _
    rwa [e] at hsz
  rw [hpar] at hA hsz'
  obtain ⟨v0, v1, d0, d1, p0, p1, rfl, rfl, rfl, h0, h0'⟩ := trodAll_two hA
  obtain ⟨tss, ht, hx⟩ := args_ok (E := Md.E) (n := 9) E_sok.pok (by intro t ht; simp at ht; rcases ht with rfl | rfl <;> kernel_rfl) hA (fun j t v h1 h2 => hval j t v (by rw [Tryz.params6]; simpa using h1) (by simpa using h2)) (fun x hx => by simpa using List.all_eq_true.1 hsz' x hx)
  obtain ⟨ts, us, rfl, h1, h2⟩ : ∃ ts us, tss = [ts, us] ∧ typed Md.E 9 63 ts ∧ typed Md.E 9 64 us := by
    match tss, ht with
    | [ts, us], h => exact ⟨ts, us, rfl, h.1, h.2.1⟩
  obtain ⟨qq, hq, hwd⟩ := dec63 (n := 1) h1
  obtain ⟨vv, rfl, hvw, hvx⟩ := dec64 (n := 1) h2
  have hpk : packs Md.E [63, 64] [ts, [.list (vv.map ixT)]] = [.t (qryT qq), .t (.list (vv.map ixT))] := by simp [packs, pack, hq]
  rw [hpk] at hx
  refine (run_calls E_sok (fun _ => rfl) Tryz.func6 (by kernel_rfl) hx (lawPlanOf qq vv hwd hvw hvx)).mono fun e W' ⟨he, hb⟩ => ?_
  subst he
  have hback := trodAll_back (enc := enc) (ts := [63, 64]) laidOut (by intro t ht; simp at ht; rcases ht with rfl | rfl <;> exact ⟨by kernel_rfl, of_decide_eq_true (by kernel_rfl)⟩) hA hb
  exact ⟨_, rfl, _, _, _, [], _, [], hW', trodAll_mk1 (shut_bool Tryz.underlying4 _), hpar ▸ hback, rfl, hb.frame _, fun h => by cases h⟩

theorem q_fn : Tryz.pinned.checked.prog.funcNamed Rows.fnExactPlanOfRow.func = some 6 := by kernel_rfl
set_option maxHeartbeats 0 in
theorem q_closed : joinedFacts Tryz.pinned.checked.prog 6 Tryz.f6 Rows.fnExactPlanOfSpec Rows.fnExactPlanOfRow = true := by
  unfold joinedFacts
  simp only [Bool.and_eq_true]
  repeat' apply And.intro
  all_goals as_aux_lemma => kernel_rfl
theorem q_inst : Tryz.f6.isInstance Tryz.pinned.checked.prog Rows.fnExactPlanOfRow.origin Rows.fnExactPlanOfRow.targs := of_decide_eq_true (by kernel_rfl)
theorem q_wrap : Tryz.f6.isWrapper Tryz.pinned.checked.prog Rows.fnExactPlanOfRow.wrapper Rows.fnExactPlanOfRow.mainSum := by unfold Func.isWrapper; first | (rw [if_pos (by decide +kernel)]; kernel_rfl) | (rw [if_neg (by decide +kernel)]; exact ⟨rfl, rfl⟩)
theorem q_h (os : Os) (started : os.Started) (H : Type) (enc : TypeId × Value → H) : ReturnsInHanded Rows.fnExactPlanOfRow.assume Tryz.pinned.checked os 6 .any (Rows.fnExactPlanOfRow.pre enc Tryz.pinned.checked.prog Tryz.f6 (OpenSpec.ofChange Rows.fnExactPlanOfSpec)) (Rows.fnExactPlanOfSpec.post enc Tryz.pinned.checked.prog Tryz.f6 Rows.fnExactPlanOfRow.apart Rows.fnExactPlanOfRow.fresh Rows.fnExactPlanOfRow.handsOn Rows.fnExactPlanOfRow.again) := planOf_lifted os started H enc
theorem planOf_row : Rows.fnExactPlanOfRow.holds Tryz.pinned (OpenSpec.ofChange Rows.fnExactPlanOfSpec) :=
  OpenClaim.holds_of_wide (p := Tryz.pinned) (s := Rows.fnExactPlanOfSpec) (c := Rows.fnExactPlanOfRow) 6 Tryz.f6 rfl rfl rfl rfl rfl rfl rfl ⟨rfl, rfl, rfl, rfl, rfl⟩ rfl rfl rfl rfl rfl q_fn Tryz.func6 q_closed q_inst q_wrap
    (fun os started H enc _ => q_h os started H enc)
theorem q_wf : Rows.fnExactPlanOfRow.wfByText (OpenSpec.ofChange Rows.fnExactPlanOfSpec) = true := by kernel_rfl
theorem q_main : Tryz.pinned.checked.prog.mainIs = some (true, "96132cde341a62c4c7368a64236004e64c1120f973a8023f1217ea165166a05f".toList) := by kernel_rfl
theorem q_looks : false = Tryz.pinned.checked.prog.looks [] := by kernel_rfl
theorem q_goes : false = Rows.fnExactPlanOfRow.goesBy Tryz.pinned.checked.prog := by kernel_rfl
theorem q_stand : ([63, 64].all fun u => !Tryz.pinned.checked.prog.wantsStandIn u) = true := by kernel_rfl
theorem q_looks' : ∀ f fn, Tryz.pinned.checked.prog.funcNamed Rows.fnExactPlanOfRow.func = some f → Tryz.pinned.checked.prog.funcs[f]? = some fn → false = Tryz.pinned.checked.prog.looks [] ∧ ∀ (j : Nat) t, fn.params[j]? = some t → Tryz.pinned.checked.prog.wantsStandIn t = false := by
  intro f fn hf hfn
  obtain rfl : f = 6 := Option.some.inj (q_fn.symm.trans hf) |>.symm
  obtain rfl : fn = Tryz.f6 := (Option.some.inj (Tryz.func6.symm.trans hfn)).symm
  refine ⟨q_looks, fun j t ht => ?_⟩
  rw [Tryz.params6] at ht
  have hm : t ∈ [63, 64] := by simpa using Array.mem_of_getElem? ht
  simpa using List.all_eq_true.1 q_stand t hm
theorem planOf_holds : Rows.FnExactPlanOfCardSaid :=
  Claim7.holds_tied_plain_at (p := Tryz.pinned) (s := OpenSpec.ofChange Rows.fnExactPlanOfSpec) (c := Rows.fnExactPlanOfRow) .later [] [.data, .pinned] true (true, "96132cde341a62c4c7368a64236004e64c1120f973a8023f1217ea165166a05f") false planOf_row (fun _ h => by cases h) q_wf (fun _ h => by cases h) fnExactPlanOf_row_tie rfl ⟨rfl, rfl⟩ q_main rfl q_looks' q_goes
#print axioms planOf_holds
end Go.Proofs.YtjbeigebbnonoaaGreatDoor
