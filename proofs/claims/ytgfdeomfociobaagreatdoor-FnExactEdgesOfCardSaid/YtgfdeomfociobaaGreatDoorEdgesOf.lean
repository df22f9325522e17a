/- The law FnExactEdgesOf holds: its row, and its card. -/
import Derived.Test.YtgfdeomfociobaaGreatDoorPartNI
import Derived.Test.YtgfdeomfociobaaGreatDoorPartEA
import Derived.Test.YtgfdeomfociobaaGreatDoorCards
import Derived.Test.YtgfdeomfociobaaGreatDoorTie
import Derived.WalkKit
import Derived.ProofKit
import Derived.Lay
import Derived.LaidOnce
import Derived.SevenTiedAt
set_option linter.unusedSimpArgs false
set_option linter.unusedVariables false
namespace Go.Proofs.YtgfdeomfociobaaGreatDoor
open Go.ChangeShapes Go.WideShapes Go.ChangeAt Go.RowKit Go.Ev Go.Nd
theorem own : ownKnob Tryz.prog.godebug = none := by kernel_rfl
theorem laidOut : laidOutB Tryz.prog = true := by kernel_rfl
set_option maxRecDepth 100000 in
theorem edgesOf_lifted (os : Os) (started : os.Started) (H : Type) (enc : TypeId × Value → H) :
    ReturnsInHanded {} Tryz.checked os 8 .any (fun w args => (Rows.fnExactEdgesOfSpec.pre enc Tryz.prog Tryz.f8 [] false w args ∧ laidMetH Tryz.prog Rows.fnExactEdgesOfRow.laid w) ∧ sizedMet enc Tryz.prog Tryz.f8 (OpenSpec.ofChange Rows.fnExactEdgesOfSpec) false w args)
      (Rows.fnExactEdgesOfSpec.post enc Tryz.prog Tryz.f8 false true false false) := by
  refine returnsInHanded_of_change_and (C := Tryz.checked) (X := fun w _ => laidMetH Tryz.prog Rows.fnExactEdgesOfRow.laid w) (fun _ _ _ hh h => h.of_heap hh) own started (by kernel_rfl) Tryz.func8
    (ChangeSpec.witness_shaped (enc := enc) (C := Tryz.checked) (os := os) (X := fun w _ => laidMetH Tryz.prog Rows.fnExactEdgesOfRow.laid w) false (World.laidAll Tryz.prog os Rows.fnExactEdgesOfRow.laid) #[.slice none 0 0] 8 (World.laidAll_os _ _ _)
      (World.shaped_of_ZipB (by kernel_rfl) (by kernel_rfl)) (by kernel_rfl) (by kernel_rfl) (by kernel_rfl)
      (by rw [MakeChecks.laidMetH_plain _ _ _ (by kernel_rfl)]; exact laidMet_laidAll _ (by kernel_rfl) (by kernel_rfl))) ?_
  intro W base args ds gs before hval0 hW _ hsz0 _ _
  have hsz : (DataW.weightsEach Tryz.prog (Tryz.f8.params.toList ++ Rows.fnExactEdgesOfSpec.plain.varTypes Tryz.prog) (ds ++ gs)).all (· ≤ reachBytes) = true := hsz0
  have hval : ∀ (j : Nat) t v, Tryz.f8.params[j]? = some t → args[j]? = some v → Value.okWide Tryz.prog W .any base t v := hval0
  have hW' := hW
  obtain ⟨p, q, hA0, hV, rfl, _, _⟩ := hW
  have hA : DataW.TrodAll enc Tryz.prog W 0 (fun _ => true) true Tryz.f8.params.toList args.toList ds p := hA0
  obtain ⟨rfl, rfl⟩ := trodVars_none hV
  have hpar : Tryz.f8.params.toList = [87] := by rw [Tryz.params8]
  simp only [List.append_nil] at hW' hsz
  have hsz' : (DataW.weightsEach Tryz.prog Tryz.f8.params.toList ds).all (· ≤ reachBytes) = true := by
    have e : Tryz.f8.params.toList ++ Rows.fnExactEdgesOfSpec.plain.varTypes Tryz.prog = Tryz.f8.params.toList := List.append_nil _
    rwa [e] at hsz
  rw [hpar] at hA hsz'
  obtain ⟨v0, d0, rfl, rfl, h0⟩ := trodAll_one hA
  obtain ⟨tss, ht, hx⟩ := args_ok (E := Nd.E) (n := 11) E_sok.pok (by simp; kernel_rfl) hA (fun j t v h1 h2 => hval j t v (by rw [Tryz.params8]; simpa using h1) (by simpa using h2)) (fun x hx => by simpa using List.all_eq_true.1 hsz' x hx)
  obtain ⟨ts, rfl, h1⟩ : ∃ ts, tss = [ts] ∧ typed Nd.E 11 87 ts := by
    match tss, ht with
    | [ts], h => exact ⟨ts, rfl, h.1⟩
  obtain ⟨qq, rfl, hwd⟩ := dec87 (n := 0) h1
  have hpk : packs Nd.E [87] [[.list (qq.map dnT)]] = [.t (.list (qq.map dnT))] := by simp [packs, pack]
  rw [hpk] at hx
  refine (run_calls E_sok (fun _ => rfl) Tryz.func8 (by kernel_rfl) hx (lawEdgesOf qq hwd)).mono fun e W' ⟨he, hb⟩ => ?_
  subst he
  have hback := trodAll_back (enc := enc) (ts := [87]) laidOut (by intro t ht; simp at ht; subst ht; exact ⟨by kernel_rfl, of_decide_eq_true (by kernel_rfl)⟩) hA hb
  exact ⟨_, rfl, _, _, _, [], _, [], hW', trodAll_mk1 (shut_bool Tryz.underlying4 _), hpar ▸ hback, rfl, hb.frame _, fun h => by cases h⟩

theorem q_fn : Tryz.pinned.checked.prog.funcNamed Rows.fnExactEdgesOfRow.func = some 8 := by kernel_rfl
set_option maxHeartbeats 0 in
theorem q_closed : joinedFacts Tryz.pinned.checked.prog 8 Tryz.f8 Rows.fnExactEdgesOfSpec Rows.fnExactEdgesOfRow = true := by
  unfold joinedFacts
  simp only [Bool.and_eq_true]
  repeat' apply And.intro
  all_goals as_aux_lemma => kernel_rfl
theorem q_inst : Tryz.f8.isInstance Tryz.pinned.checked.prog Rows.fnExactEdgesOfRow.origin Rows.fnExactEdgesOfRow.targs := of_decide_eq_true (by kernel_rfl)
theorem q_wrap : Tryz.f8.isWrapper Tryz.pinned.checked.prog Rows.fnExactEdgesOfRow.wrapper Rows.fnExactEdgesOfRow.mainSum := by unfold Func.isWrapper; first | (rw [if_pos (by decide +kernel)]; kernel_rfl) | (rw [if_neg (by decide +kernel)]; exact ⟨rfl, rfl⟩)
theorem q_h (os : Os) (started : os.Started) (H : Type) (enc : TypeId × Value → H) : ReturnsInHanded Rows.fnExactEdgesOfRow.assume Tryz.pinned.checked os 8 .any (Rows.fnExactEdgesOfRow.pre enc Tryz.pinned.checked.prog Tryz.f8 (OpenSpec.ofChange Rows.fnExactEdgesOfSpec)) (Rows.fnExactEdgesOfSpec.post enc Tryz.pinned.checked.prog Tryz.f8 Rows.fnExactEdgesOfRow.apart Rows.fnExactEdgesOfRow.fresh Rows.fnExactEdgesOfRow.handsOn Rows.fnExactEdgesOfRow.again) := edgesOf_lifted os started H enc
theorem edgesOf_row : Rows.fnExactEdgesOfRow.holds Tryz.pinned (OpenSpec.ofChange Rows.fnExactEdgesOfSpec) :=
  OpenClaim.holds_of_wide (p := Tryz.pinned) (s := Rows.fnExactEdgesOfSpec) (c := Rows.fnExactEdgesOfRow) 8 Tryz.f8 rfl rfl rfl rfl rfl rfl rfl ⟨rfl, rfl, rfl, rfl, rfl⟩ rfl rfl rfl rfl rfl q_fn Tryz.func8 q_closed q_inst q_wrap
    (fun os started H enc _ => q_h os started H enc)
theorem q_wf : Rows.fnExactEdgesOfRow.wfByText (OpenSpec.ofChange Rows.fnExactEdgesOfSpec) = true := by kernel_rfl
theorem q_main : Tryz.pinned.checked.prog.mainIs = some (true, "d543eacdc6b9aa5c3a8937bca7929534cb39b90af0d1d9ff07d7b8a027f0d443".toList) := by kernel_rfl
theorem q_looks : false = Tryz.pinned.checked.prog.looks [] := by kernel_rfl
theorem q_goes : false = Rows.fnExactEdgesOfRow.goesBy Tryz.pinned.checked.prog := by kernel_rfl
theorem q_stand : ([87].all fun u => !Tryz.pinned.checked.prog.wantsStandIn u) = true := by kernel_rfl
theorem q_looks' : ∀ f fn, Tryz.pinned.checked.prog.funcNamed Rows.fnExactEdgesOfRow.func = some f → Tryz.pinned.checked.prog.funcs[f]? = some fn → false = Tryz.pinned.checked.prog.looks [] ∧ ∀ (j : Nat) t, fn.params[j]? = some t → Tryz.pinned.checked.prog.wantsStandIn t = false := by
  intro f fn hf hfn
  obtain rfl : f = 8 := Option.some.inj (q_fn.symm.trans hf) |>.symm
  obtain rfl : fn = Tryz.f8 := (Option.some.inj (Tryz.func8.symm.trans hfn)).symm
  refine ⟨q_looks, fun j t ht => ?_⟩
  rw [Tryz.params8] at ht
  have hm : t ∈ [87] := by simpa using Array.mem_of_getElem? ht
  simpa using List.all_eq_true.1 q_stand t hm
theorem edgesOf_holds : Rows.FnExactEdgesOfCardSaid :=
  Claim7.holds_tied_plain_at (p := Tryz.pinned) (s := OpenSpec.ofChange Rows.fnExactEdgesOfSpec) (c := Rows.fnExactEdgesOfRow) .later [] [.data, .pinned] true (true, "d543eacdc6b9aa5c3a8937bca7929534cb39b90af0d1d9ff07d7b8a027f0d443") false edgesOf_row (fun _ h => by cases h) q_wf (fun _ h => by cases h) fnExactEdgesOf_row_tie rfl ⟨rfl, rfl⟩ q_main rfl q_looks' q_goes
#print axioms edgesOf_holds
end Go.Proofs.YtgfdeomfociobaaGreatDoor
