/- The law FnOrders holds: its row, and its card. -/
import Derived.Test.YtjbeigebbnonoaaGreatDoorPartOG
import Derived.Test.YtjbeigebbnonoaaGreatDoorPartOJ
import Derived.Test.YtjbeigebbnonoaaGreatDoorCards
import Derived.Test.YtjbeigebbnonoaaGreatDoorTie
import Derived.WalkKit
import Derived.ProofKit
import Derived.Lay
import Derived.LaidOnce
import Derived.SevenTiedAt
set_option linter.unusedSimpArgs false
set_option linter.unusedVariables false
namespace Go.Proofs.YtjbeigebbnonoaaGreatDoor
open Go.ChangeShapes Go.WideShapes Go.ChangeAt Go.RowKit Go.Ev Go.Md
theorem own : ownKnob Tryz.prog.godebug = none := by kernel_rfl
theorem laidOut : laidOutB Tryz.prog = true := by kernel_rfl
set_option maxRecDepth 100000 in
theorem orders_lifted (os : Os) (started : os.Started) (H : Type) (enc : TypeId × Value → H) :
    ReturnsInHanded {} Tryz.checked os 4 .any (fun w args => (Rows.fnOrdersSpec.pre enc Tryz.prog Tryz.f4 [] false w args ∧ laidMetH Tryz.prog Rows.fnOrdersRow.laid w) ∧ sizedMet enc Tryz.prog Tryz.f4 (OpenSpec.ofChange Rows.fnOrdersSpec) false w args)
      (Rows.fnOrdersSpec.post enc Tryz.prog Tryz.f4 false true false false) := by
  refine returnsInHanded_of_change_and (C := Tryz.checked) (X := fun w _ => laidMetH Tryz.prog Rows.fnOrdersRow.laid w) (fun _ _ _ hh h => h.of_heap hh) own started (by kernel_rfl) Tryz.func4
    (ChangeSpec.witness_shaped (enc := enc) (C := Tryz.checked) (os := os) (X := fun w _ => laidMetH Tryz.prog Rows.fnOrdersRow.laid w) false (World.laidAll Tryz.prog os Rows.fnOrdersRow.laid) #[.slice none 0 0] 8 (World.laidAll_os _ _ _)
      (World.shaped_of_ZipB (by kernel_rfl) (by kernel_rfl)) (by kernel_rfl) (by kernel_rfl) (by kernel_rfl)
      (by rw [MakeChecks.laidMetH_plain _ _ _ (by kernel_rfl)]; exact laidMet_laidAll _ (by kernel_rfl) (by kernel_rfl))) ?_
  intro W base args ds gs before hval0 hW _ hsz0 _ _
  have hsz : (DataW.weightsEach Tryz.prog (Tryz.f4.params.toList ++ Rows.fnOrdersSpec.plain.varTypes Tryz.prog) (ds ++ gs)).all (· ≤ reachBytes) = true := hsz0
  have hval : ∀ (j : Nat) t v, Tryz.f4.params[j]? = some t → args[j]? = some v → Value.okWide Tryz.prog W .any base t v := hval0
  have hW' := hW
  obtain ⟨p, q, hA0, hV, rfl, _, _⟩ := hW
  have hA : DataW.TrodAll enc Tryz.prog W 0 (fun _ => true) true Tryz.f4.params.toList args.toList ds p := hA0
  obtain ⟨rfl, rfl⟩ := trodVars_none hV
  have hpar : Tryz.f4.params.toList = [22] := by rw [Tryz.params4]
  simp only [List.append_nil] at hW' hsz
  have hsz' : (DataW.weightsEach Tryz.prog Tryz.f4.params.toList ds).all (· ≤ reachBytes) = true := by
    have e : Tryz.f4.params.toList ++ Rows.fnOrdersSpec.plain.varTypes Tryz.prog = Tryz.f4.params.toList := List.append_nil _
    rwa [e] at hsz
  rw [hpar] at hA hsz'
  obtain ⟨v0, d0, rfl, rfl, h0⟩ := trodAll_one hA
  obtain ⟨tss, ht, hx⟩ := args_ok (E := Md.E) (n := 9) E_sok.pok (by intro t ht; simp at ht; subst ht; kernel_rfl) hA (fun j t v h1 h2 => hval j t v (by rw [Tryz.params4]; simpa using h1) (by simpa using h2)) (fun x hx => by simpa using List.all_eq_true.1 hsz' x hx)
  obtain ⟨ts, rfl, h1⟩ : ∃ ts, tss = [ts] ∧ typed Md.E 9 22 ts := by
    match tss, ht with
    | [ts], h => exact ⟨ts, rfl, h.1⟩
  obtain ⟨qq, rfl, _⟩ := dec22 (n := 7) h1
  have hpk : packs Md.E [22] [[.list (qq.map byteT)]] = [.t (.list (qq.map byteT))] := by simp [packs, pack]
  rw [hpk] at hx
  refine (run_calls E_sok (fun _ => rfl) Tryz.func4 (by kernel_rfl) hx (lawOrders qq)).mono fun e W' ⟨he, hb⟩ => ?_
  subst he
  have hback := trodAll_back (enc := enc) (ts := [22]) laidOut (by intro t ht; simp at ht; subst ht; exact ⟨by kernel_rfl, of_decide_eq_true (by kernel_rfl)⟩) hA hb
  exact ⟨_, rfl, _, _, _, [], _, [], hW', trodAll_mk1 (shut_bool Tryz.underlying4 _), hpar ▸ hback, rfl, hb.frame _, fun h => by cases h⟩

theorem q_fn : Tryz.pinned.checked.prog.funcNamed Rows.fnOrdersRow.func = some 4 := by kernel_rfl
set_option maxHeartbeats 0 in
theorem q_closed : joinedFacts Tryz.pinned.checked.prog 4 Tryz.f4 Rows.fnOrdersSpec Rows.fnOrdersRow = true := by
  unfold joinedFacts
  simp only [Bool.and_eq_true]
  repeat' apply And.intro
  all_goals as_aux_lemma => kernel_rfl
theorem q_inst : Tryz.f4.isInstance Tryz.pinned.checked.prog Rows.fnOrdersRow.origin Rows.fnOrdersRow.targs := of_decide_eq_true (by kernel_rfl)
theorem q_wrap : Tryz.f4.isWrapper Tryz.pinned.checked.prog Rows.fnOrdersRow.wrapper Rows.fnOrdersRow.mainSum := by unfold Func.isWrapper; first | (rw [if_pos (by decide +kernel)]; kernel_rfl) | (rw [if_neg (by decide +kernel)]; exact ⟨rfl, rfl⟩)
theorem q_h (os : Os) (started : os.Started) (H : Type) (enc : TypeId × Value → H) : ReturnsInHanded Rows.fnOrdersRow.assume Tryz.pinned.checked os 4 .any (Rows.fnOrdersRow.pre enc Tryz.pinned.checked.prog Tryz.f4 (OpenSpec.ofChange Rows.fnOrdersSpec)) (Rows.fnOrdersSpec.post enc Tryz.pinned.checked.prog Tryz.f4 Rows.fnOrdersRow.apart Rows.fnOrdersRow.fresh Rows.fnOrdersRow.handsOn Rows.fnOrdersRow.again) := orders_lifted os started H enc
theorem orders_row : Rows.fnOrdersRow.holds Tryz.pinned (OpenSpec.ofChange Rows.fnOrdersSpec) :=
  OpenClaim.holds_of_wide (p := Tryz.pinned) (s := Rows.fnOrdersSpec) (c := Rows.fnOrdersRow) 4 Tryz.f4 rfl rfl rfl rfl rfl rfl rfl ⟨rfl, rfl, rfl, rfl, rfl⟩ rfl rfl rfl rfl rfl q_fn Tryz.func4 q_closed q_inst q_wrap
    (fun os started H enc _ => q_h os started H enc)
theorem q_wf : Rows.fnOrdersRow.wfByText (OpenSpec.ofChange Rows.fnOrdersSpec) = true := by kernel_rfl
theorem q_main : Tryz.pinned.checked.prog.mainIs = some (true, "96132cde341a62c4c7368a64236004e64c1120f973a8023f1217ea165166a05f".toList) := by kernel_rfl
theorem q_looks : false = Tryz.pinned.checked.prog.looks [] := by kernel_rfl
theorem q_goes : false = Rows.fnOrdersRow.goesBy Tryz.pinned.checked.prog := by kernel_rfl
theorem q_stand : ([22].all fun u => !Tryz.pinned.checked.prog.wantsStandIn u) = true := by kernel_rfl
theorem q_looks' : ∀ f fn, Tryz.pinned.checked.prog.funcNamed Rows.fnOrdersRow.func = some f → Tryz.pinned.checked.prog.funcs[f]? = some fn → false = Tryz.pinned.checked.prog.looks [] ∧ ∀ (j : Nat) t, fn.params[j]? = some t → Tryz.pinned.checked.prog.wantsStandIn t = false := by
  intro f fn hf hfn
  obtain rfl : f = 4 := Option.some.inj (q_fn.symm.trans hf) |>.symm
  obtain rfl : fn = Tryz.f4 := (Option.some.inj (Tryz.func4.symm.trans hfn)).symm
  refine ⟨q_looks, fun j t ht => ?_⟩
  rw [Tryz.params4] at ht
  have hm : t ∈ [22] := by simpa using Array.mem_of_getElem? ht
  simpa using List.all_eq_true.1 q_stand t hm
theorem orders_holds : Rows.FnOrdersCardSaid :=
  Claim7.holds_tied_plain_at (p := Tryz.pinned) (s := OpenSpec.ofChange Rows.fnOrdersSpec) (c := Rows.fnOrdersRow) .later [] [.data, .pinned] true (true, "96132cde341a62c4c7368a64236004e64c1120f973a8023f1217ea165166a05f") false orders_row (fun _ h => by cases h) q_wf (fun _ h => by cases h) fnOrders_row_tie rfl ⟨rfl, rfl⟩ q_main rfl q_looks' q_goes
#print axioms orders_holds
end Go.Proofs.YtjbeigebbnonoaaGreatDoor
