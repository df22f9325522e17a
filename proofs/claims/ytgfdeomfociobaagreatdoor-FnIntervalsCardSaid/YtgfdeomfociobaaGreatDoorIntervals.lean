/- The law FnIntervals holds: its row, and its card. -/
import Derived.Test.YtgfdeomfociobaaGreatDoorPartIA
import Derived.Test.YtgfdeomfociobaaGreatDoorCards
import Derived.Test.YtgfdeomfociobaaGreatDoorTie
import Derived.WalkKit
import Derived.ProofKit
import Derived.Lay
import Derived.LaidOnce
import Derived.SevenTiedAt
set_option linter.unusedSimpArgs false
set_option linter.unusedVariables false
namespace Go.Proofs.YtgfdeomfociobaaGreatDoor
open Go.ChangeShapes Go.WideShapes Go.ChangeAt Go.RowKit Go.Ev Go.Yd
theorem own : ownKnob Tryz.prog.godebug = none := by kernel_rfl
theorem laidOut : laidOutB Tryz.prog = true := by kernel_rfl
set_option maxRecDepth 100000 in
theorem intervals_lifted (os : Os) (started : os.Started) (H : Type) (enc : TypeId × Value → H) :
    ReturnsInHanded {} Tryz.checked os 10 .any (fun w args => (Rows.fnIntervalsSpec.pre enc Tryz.prog Tryz.f10 [] false w args ∧ laidMetH Tryz.prog Rows.fnIntervalsRow.laid w) ∧ sizedMet enc Tryz.prog Tryz.f10 (OpenSpec.ofChange Rows.fnIntervalsSpec) false w args)
      (Rows.fnIntervalsSpec.post enc Tryz.prog Tryz.f10 false true false false) := by
  refine returnsInHanded_of_change_and (C := Tryz.checked) (X := fun w _ => laidMetH Tryz.prog Rows.fnIntervalsRow.laid w) (fun _ _ _ hh h => h.of_heap hh) own started (by kernel_rfl) Tryz.func10
    (ChangeSpec.witness_shaped (enc := enc) (C := Tryz.checked) (os := os) (X := fun w _ => laidMetH Tryz.prog Rows.fnIntervalsRow.laid w) false (World.laidAll Tryz.prog os Rows.fnIntervalsRow.laid) #[.slice none 0 0, .slice none 0 0] 8 (World.laidAll_os _ _ _)
      (World.shaped_of_ZipB (by kernel_rfl) (by kernel_rfl)) (by kernel_rfl) (by kernel_rfl) (by kernel_rfl)
      (by rw [MakeChecks.laidMetH_plain _ _ _ (by kernel_rfl)]; exact laidMet_laidAll _ (by kernel_rfl) (by kernel_rfl))) ?_
  intro W base args ds gs before hval0 hW _ hsz0 _ _
  have hsz : (DataW.weightsEach Tryz.prog (Tryz.f10.params.toList ++ Rows.fnIntervalsSpec.plain.varTypes Tryz.prog) (ds ++ gs)).all (· ≤ reachBytes) = true := hsz0
  have hval : ∀ (j : Nat) t v, Tryz.f10.params[j]? = some t → args[j]? = some v → Value.okWide Tryz.prog W .any base t v := hval0
  have hW' := hW
  obtain ⟨p, q, hA0, hV, rfl, _, _⟩ := hW
  have hA : DataW.TrodAll enc Tryz.prog W 0 (fun _ => true) true Tryz.f10.params.toList args.toList ds p := hA0
  obtain ⟨rfl, rfl⟩ := trodVars_none hV
  have hpar : Tryz.f10.params.toList = [110, 110] := by rw [Tryz.params10]
  simp only [List.append_nil] at hW' hsz
  have hsz' : (DataW.weightsEach Tryz.prog Tryz.f10.params.toList ds).all (· ≤ reachBytes) = true := by
    have e : Tryz.f10.params.toList ++ Rows.fnIntervalsSpec.plain.varTypes Tryz.prog = Tryz.f10.params.toList := List.append_nil _
    rwa [e] at hsz
  rw [hpar] at hA hsz'
  obtain ⟨v0, v1, d0, d1, p0, p1, rfl, rfl, rfl, h0, h0'⟩ := trodAll_two hA
  obtain ⟨tss, ht, hx⟩ := args_ok (E := Yd.E) (n := 9) E_sok.pok (by intro t ht; simp at ht; subst ht; kernel_rfl) hA (fun j t v h1 h2 => hval j t v (by rw [Tryz.params10]; simpa using h1) (by simpa using h2)) (fun x hx => by simpa using List.all_eq_true.1 hsz' x hx)
  obtain ⟨ts, us, rfl, h1, h2⟩ : ∃ ts us, tss = [ts, us] ∧ typed Yd.E 9 110 ts ∧ typed Yd.E 9 110 us := by
    match tss, ht with
    | [ts, us], h => exact ⟨ts, us, rfl, h.1, h.2.1⟩
  obtain ⟨qq, rfl, _⟩ := dec110 (n := 7) h1
  obtain ⟨vv, rfl, _⟩ := dec110 (n := 7) h2
  have hpk : packs Yd.E [110, 110] [[.list (qq.map byteT)], [.list (vv.map byteT)]] = [.t (.list (qq.map byteT)), .t (.list (vv.map byteT))] := by simp [packs, pack]
  rw [hpk] at hx
  refine (run_calls E_sok (fun _ => rfl) Tryz.func10 (by kernel_rfl) hx (lawIntervals qq vv)).mono fun e W' ⟨he, hb⟩ => ?_
  subst he
  have hback := trodAll_back (enc := enc) (ts := [110, 110]) laidOut (by intro t ht; simp at ht; subst ht; exact ⟨by kernel_rfl, of_decide_eq_true (by kernel_rfl)⟩) hA hb
  exact ⟨_, rfl, _, _, _, [], _, [], hW', trodAll_mk1 (shut_bool Tryz.underlying4 _), hpar ▸ hback, rfl, hb.frame _, fun h => by cases h⟩

theorem q_fn : Tryz.pinned.checked.prog.funcNamed Rows.fnIntervalsRow.func = some 10 := by kernel_rfl
set_option maxHeartbeats 0 in
theorem q_closed : joinedFacts Tryz.pinned.checked.prog 10 Tryz.f10 Rows.fnIntervalsSpec Rows.fnIntervalsRow = true := by
  unfold joinedFacts
  simp only [Bool.and_eq_true]
  repeat' apply And.intro
  all_goals as_aux_lemma => kernel_rfl
theorem q_inst : Tryz.f10.isInstance Tryz.pinned.checked.prog Rows.fnIntervalsRow.origin Rows.fnIntervalsRow.targs := of_decide_eq_true (by kernel_rfl)
theorem q_wrap : Tryz.f10.isWrapper Tryz.pinned.checked.prog Rows.fnIntervalsRow.wrapper Rows.fnIntervalsRow.mainSum := by unfold Func.isWrapper; first | (rw [if_pos (by decide +kernel)]; kernel_rfl) | (rw [if_neg (by decide +kernel)]; exact ⟨rfl, rfl⟩)
theorem q_h (os : Os) (started : os.Started) (H : Type) (enc : TypeId × Value → H) : ReturnsInHanded Rows.fnIntervalsRow.assume Tryz.pinned.checked os 10 .any (Rows.fnIntervalsRow.pre enc Tryz.pinned.checked.prog Tryz.f10 (OpenSpec.ofChange Rows.fnIntervalsSpec)) (Rows.fnIntervalsSpec.post enc Tryz.pinned.checked.prog Tryz.f10 Rows.fnIntervalsRow.apart Rows.fnIntervalsRow.fresh Rows.fnIntervalsRow.handsOn Rows.fnIntervalsRow.again) := intervals_lifted os started H enc
theorem intervals_row : Rows.fnIntervalsRow.holds Tryz.pinned (OpenSpec.ofChange Rows.fnIntervalsSpec) :=
  OpenClaim.holds_of_wide (p := Tryz.pinned) (s := Rows.fnIntervalsSpec) (c := Rows.fnIntervalsRow) 10 Tryz.f10 rfl rfl rfl rfl rfl rfl rfl ⟨rfl, rfl, rfl, rfl, rfl⟩ rfl rfl rfl rfl rfl q_fn Tryz.func10 q_closed q_inst q_wrap
    (fun os started H enc _ => q_h os started H enc)
theorem q_wf : Rows.fnIntervalsRow.wfByText (OpenSpec.ofChange Rows.fnIntervalsSpec) = true := by kernel_rfl
theorem q_main : Tryz.pinned.checked.prog.mainIs = some (true, "d543eacdc6b9aa5c3a8937bca7929534cb39b90af0d1d9ff07d7b8a027f0d443".toList) := by kernel_rfl
theorem q_looks : false = Tryz.pinned.checked.prog.looks [] := by kernel_rfl
theorem q_goes : false = Rows.fnIntervalsRow.goesBy Tryz.pinned.checked.prog := by kernel_rfl
theorem q_stand : ([110, 110].all fun u => !Tryz.pinned.checked.prog.wantsStandIn u) = true := by kernel_rfl
theorem q_looks' : ∀ f fn, Tryz.pinned.checked.prog.funcNamed Rows.fnIntervalsRow.func = some f → Tryz.pinned.checked.prog.funcs[f]? = some fn → false = Tryz.pinned.checked.prog.looks [] ∧ ∀ (j : Nat) t, fn.params[j]? = some t → Tryz.pinned.checked.prog.wantsStandIn t = false := by
  intro f fn hf hfn
  obtain rfl : f = 10 := Option.some.inj (q_fn.symm.trans hf) |>.symm
  obtain rfl : fn = Tryz.f10 := (Option.some.inj (Tryz.func10.symm.trans hfn)).symm
  refine ⟨q_looks, fun j t ht => ?_⟩
  rw [Tryz.params10] at ht
  have hm : t ∈ [110, 110] := by simpa using Array.mem_of_getElem? ht
  simpa using List.all_eq_true.1 q_stand t hm
theorem intervals_holds : Rows.FnIntervalsCardSaid :=
  Claim7.holds_tied_plain_at (p := Tryz.pinned) (s := OpenSpec.ofChange Rows.fnIntervalsSpec) (c := Rows.fnIntervalsRow) .later [] [.data, .pinned] true (true, "d543eacdc6b9aa5c3a8937bca7929534cb39b90af0d1d9ff07d7b8a027f0d443") false intervals_row (fun _ h => by cases h) q_wf (fun _ h => by cases h) fnIntervals_row_tie rfl ⟨rfl, rfl⟩ q_main rfl q_looks' q_goes
#print axioms intervals_holds
end Go.Proofs.YtgfdeomfociobaaGreatDoor
