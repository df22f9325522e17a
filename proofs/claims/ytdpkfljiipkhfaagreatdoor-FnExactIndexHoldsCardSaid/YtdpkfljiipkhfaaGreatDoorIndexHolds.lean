/- The law FnExactIndexHolds holds: its row, and its card. -/
import Derived.Test.YtdpkfljiipkhfaaGreatDoorPartUA
import Derived.Test.YtdpkfljiipkhfaaGreatDoorPartTA
import Derived.Test.YtdpkfljiipkhfaaGreatDoorPartUB
import Derived.Test.YtdpkfljiipkhfaaGreatDoorCards
import Derived.Test.YtdpkfljiipkhfaaGreatDoorTie
import Derived.WalkKit
import Derived.ProofKit
import Derived.Lay
import Derived.LaidOnce
import Derived.SevenTiedAt
namespace Go.Proofs.YtdpkfljiipkhfaaGreatDoor
open Go.ChangeShapes Go.WideShapes Go.ChangeAt Go.RowKit Go.Ev Go.Rd
set_option linter.unusedSimpArgs false
set_option linter.unusedVariables false
theorem own : ownKnob Tryz.prog.godebug = none := by kernel_rfl
theorem laidOut : laidOutB Tryz.prog = true := by kernel_rfl
set_option maxRecDepth 100000 in
theorem indexHolds_lifted (os : Os) (started : os.Started) (H : Type) (enc : TypeId × Value → H) :
    ReturnsInHanded {} Tryz.checked os 4 .any (fun w args => (Rows.fnExactIndexHoldsSpec.pre enc Tryz.prog Tryz.f4 [] false w args ∧ laidMetH Tryz.prog Rows.fnExactIndexHoldsRow.laid w) ∧ sizedMet enc Tryz.prog Tryz.f4 (OpenSpec.ofChange Rows.fnExactIndexHoldsSpec) false w args)
      (Rows.fnExactIndexHoldsSpec.post enc Tryz.prog Tryz.f4 false true false false) := by
  refine returnsInHanded_of_change_and (C := Tryz.checked) (X := fun w _ => laidMetH Tryz.prog Rows.fnExactIndexHoldsRow.laid w) (fun _ _ _ hh h => h.of_heap hh) own started (by kernel_rfl) Tryz.func4
    (ChangeSpec.witness_shaped (enc := enc) (C := Tryz.checked) (os := os) (X := fun w _ => laidMetH Tryz.prog Rows.fnExactIndexHoldsRow.laid w) false (World.laidAll Tryz.prog os Rows.fnExactIndexHoldsRow.laid) #[.agg #[.string ByteArray.empty, .slice none 0 0, .slice none 0 0, .int .i64 0], .slice none 0 0] 8 (World.laidAll_os _ _ _)
      (World.shaped_of_ZipB (by kernel_rfl) (by kernel_rfl)) (by kernel_rfl) (by kernel_rfl) (by kernel_rfl)
      (by rw [MakeChecks.laidMetH_plain _ _ _ (by kernel_rfl)]; exact laidMet_laidAll _ (by kernel_rfl) (by kernel_rfl))) ?_
  intro W base args ds gs before hval0 hW _ hsz0 _ _
  have hsz : (DataW.weightsEach Tryz.prog (Tryz.f4.params.toList ++ Rows.fnExactIndexHoldsSpec.plain.varTypes Tryz.prog) (ds ++ gs)).all (· ≤ reachBytes) = true := hsz0
  have hval : ∀ (j : Nat) t v, Tryz.f4.params[j]? = some t → args[j]? = some v → Value.okWide Tryz.prog W .any base t v := hval0
  have hW' := hW
  obtain ⟨p, q, hA0, hV, rfl, _, _⟩ := hW
  have hA : DataW.TrodAll enc Tryz.prog W 0 (fun _ => true) true Tryz.f4.params.toList args.toList ds p := hA0
  obtain ⟨rfl, rfl⟩ := trodVars_none hV
  have hpar : Tryz.f4.params.toList = [43, 22] := by rw [Tryz.params4]
  simp only [List.append_nil] at hW' hsz
  have hsz' : (DataW.weightsEach Tryz.prog Tryz.f4.params.toList ds).all (· ≤ reachBytes) = true := by
    have e : Tryz.f4.params.toList ++ Rows.fnExactIndexHoldsSpec.plain.varTypes Tryz.prog = Tryz.f4.params.toList := List.append_nil _
    rwa [e] at hsz
  rw [hpar] at hA hsz'
  obtain ⟨v0, v1, d0, d1, p0, p1, rfl, rfl, rfl, h0, h0'⟩ := trodAll_two hA
  obtain ⟨tss, ht, hx⟩ := args_ok (E := Rd.E1) (n := 9) E1_sok.pok (by intro t ht; simp at ht; rcases ht with rfl | rfl <;> kernel_rfl) hA (fun j t v h1 h2 => hval j t v (by rw [Tryz.params4]; simpa using h1) (by simpa using h2)) (fun x hx => by simpa using List.all_eq_true.1 hsz' x hx)
  obtain ⟨ts, us, rfl, h1, h2⟩ : ∃ ts us, tss = [ts, us] ∧ typed Rd.E1 9 43 ts ∧ typed Rd.E1 9 22 us := by
    match tss, ht with
    | [ts, us], h => exact ⟨ts, us, rfl, h.1, h.2.1⟩
  obtain ⟨qq, hq, hwd⟩ := dec43 (n := 2) (by rwa [typed_E1] at h1)
  obtain ⟨vv, rfl, hvw, hvx⟩ := dec22 (n := 6) (by rwa [typed_E1] at h2)
  have hpk : packs Rd.E1 [43, 22] [ts, [.list (vv.map valT)]] = [.t (ixT qq), .t (.list (vv.map valT))] := by simp [packs, pack, hq]
  rw [hpk] at hx
  refine (run_calls E1_sok (fun _ => rfl) Tryz.func4 (by kernel_rfl) hx (lawIndexHolds qq hwd vv hvw hvx)).mono fun e W' ⟨he, hb⟩ => ?_
  subst he
  have hback := trodAll_back (enc := enc) (ts := [43, 22]) laidOut (by intro t ht; simp at ht; rcases ht with rfl | rfl <;> exact ⟨by kernel_rfl, of_decide_eq_true (by kernel_rfl)⟩) hA hb
  exact ⟨_, rfl, _, _, _, [], _, [], hW', trodAll_mk1 (shut_bool Tryz.underlying4 _), hpar ▸ hback, rfl, hb.frame _, fun h => by cases h⟩

theorem q_fn : Tryz.pinned.checked.prog.funcNamed Rows.fnExactIndexHoldsRow.func = some 4 := by kernel_rfl
set_option maxHeartbeats 0 in
theorem q_closed : joinedFacts Tryz.pinned.checked.prog 4 Tryz.f4 Rows.fnExactIndexHoldsSpec Rows.fnExactIndexHoldsRow = true := by
  unfold joinedFacts
  simp only [Bool.and_eq_true]
  repeat' apply And.intro
  all_goals as_aux_lemma => kernel_rfl
theorem q_inst : Tryz.f4.isInstance Tryz.pinned.checked.prog Rows.fnExactIndexHoldsRow.origin Rows.fnExactIndexHoldsRow.targs := of_decide_eq_true (by kernel_rfl)
theorem q_wrap : Tryz.f4.isWrapper Tryz.pinned.checked.prog Rows.fnExactIndexHoldsRow.wrapper Rows.fnExactIndexHoldsRow.mainSum := by unfold Func.isWrapper; first | (rw [if_pos (by decide +kernel)]; kernel_rfl) | (rw [if_neg (by decide +kernel)]; exact ⟨rfl, rfl⟩)
theorem q_h (os : Os) (started : os.Started) (H : Type) (enc : TypeId × Value → H) : ReturnsInHanded Rows.fnExactIndexHoldsRow.assume Tryz.pinned.checked os 4 .any (Rows.fnExactIndexHoldsRow.pre enc Tryz.pinned.checked.prog Tryz.f4 (OpenSpec.ofChange Rows.fnExactIndexHoldsSpec)) (Rows.fnExactIndexHoldsSpec.post enc Tryz.pinned.checked.prog Tryz.f4 Rows.fnExactIndexHoldsRow.apart Rows.fnExactIndexHoldsRow.fresh Rows.fnExactIndexHoldsRow.handsOn Rows.fnExactIndexHoldsRow.again) := indexHolds_lifted os started H enc
theorem indexHolds_row : Rows.fnExactIndexHoldsRow.holds Tryz.pinned (OpenSpec.ofChange Rows.fnExactIndexHoldsSpec) :=
  OpenClaim.holds_of_wide (p := Tryz.pinned) (s := Rows.fnExactIndexHoldsSpec) (c := Rows.fnExactIndexHoldsRow) 4 Tryz.f4 rfl rfl rfl rfl rfl rfl rfl ⟨rfl, rfl, rfl, rfl, rfl⟩ rfl rfl rfl rfl rfl q_fn Tryz.func4 q_closed q_inst q_wrap
    (fun os started H enc _ => q_h os started H enc)
theorem q_wf : Rows.fnExactIndexHoldsRow.wfByText (OpenSpec.ofChange Rows.fnExactIndexHoldsSpec) = true := by kernel_rfl
theorem q_main : Tryz.pinned.checked.prog.mainIs = some (true, "89fa5c2c5ed15bbb660ccddf0399433218c717eb09a9ea3d52e22cb8361849bf".toList) := by kernel_rfl
theorem q_looks : false = Tryz.pinned.checked.prog.looks [] := by kernel_rfl
theorem q_goes : false = Rows.fnExactIndexHoldsRow.goesBy Tryz.pinned.checked.prog := by kernel_rfl
theorem q_stand : ([43, 22].all fun u => !Tryz.pinned.checked.prog.wantsStandIn u) = true := by kernel_rfl
theorem q_looks' : ∀ f fn, Tryz.pinned.checked.prog.funcNamed Rows.fnExactIndexHoldsRow.func = some f → Tryz.pinned.checked.prog.funcs[f]? = some fn → false = Tryz.pinned.checked.prog.looks [] ∧ ∀ (j : Nat) t, fn.params[j]? = some t → Tryz.pinned.checked.prog.wantsStandIn t = false := by
  intro f fn hf hfn
  obtain rfl : f = 4 := Option.some.inj (q_fn.symm.trans hf) |>.symm
  obtain rfl : fn = Tryz.f4 := (Option.some.inj (Tryz.func4.symm.trans hfn)).symm
  refine ⟨q_looks, fun j t ht => ?_⟩
  rw [Tryz.params4] at ht
  have hm : t ∈ [43, 22] := by simpa using Array.mem_of_getElem? ht
  simpa using List.all_eq_true.1 q_stand t hm
theorem indexHolds_holds : Rows.FnExactIndexHoldsCardSaid :=
  Claim7.holds_tied_plain_at (p := Tryz.pinned) (s := OpenSpec.ofChange Rows.fnExactIndexHoldsSpec) (c := Rows.fnExactIndexHoldsRow) .later [] [.data, .pinned] true (true, "89fa5c2c5ed15bbb660ccddf0399433218c717eb09a9ea3d52e22cb8361849bf") false indexHolds_row (fun _ h => by cases h) q_wf (fun _ h => by cases h) fnExactIndexHolds_row_tie rfl ⟨rfl, rfl⟩ q_main rfl q_looks' q_goes
#print axioms indexHolds_holds
end Go.Proofs.YtdpkfljiipkhfaaGreatDoor
