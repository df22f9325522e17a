/- The law FnExactStoreOK holds: its row, and its card. -/
import Derived.Test.YtgfdeomfociobaaGreatDoorPartSA
import Derived.Test.YtgfdeomfociobaaGreatDoorPartSB
import Derived.Test.YtgfdeomfociobaaGreatDoorCards
import Derived.Test.YtgfdeomfociobaaGreatDoorTie
import Derived.WalkKit
import Derived.ProofKit
import Derived.Lay
import Derived.LaidOnce
import Derived.SevenTiedAt
set_option linter.unusedSimpArgs false
set_option linter.unusedVariables false
namespace Go.Proofs.YtgfdeomfociobaaGreatDoor
open Go.ChangeShapes Go.WideShapes Go.ChangeAt Go.RowKit Go.Ev Go.Yd
theorem own : ownKnob Tryz.prog.godebug = none := by kernel_rfl
theorem laidOut : laidOutB Tryz.prog = true := by kernel_rfl
set_option maxRecDepth 100000 in
theorem storeOK_lifted (os : Os) (started : os.Started) (H : Type) (enc : TypeId × Value → H) :
    ReturnsInHanded {} Tryz.checked os 7 .any (fun w args => (Rows.fnExactStoreOKSpec.pre enc Tryz.prog Tryz.f7 [] false w args ∧ laidMetH Tryz.prog Rows.fnExactStoreOKRow.laid w) ∧ sizedMet enc Tryz.prog Tryz.f7 (OpenSpec.ofChange Rows.fnExactStoreOKSpec) false w args)
      (Rows.fnExactStoreOKSpec.post enc Tryz.prog Tryz.f7 false true false false) := by
  refine returnsInHanded_of_change_and (C := Tryz.checked) (X := fun w _ => laidMetH Tryz.prog Rows.fnExactStoreOKRow.laid w) (fun _ _ _ hh h => h.of_heap hh) own started (by kernel_rfl) Tryz.func7
    (ChangeSpec.witness_shaped (enc := enc) (C := Tryz.checked) (os := os) (X := fun w _ => laidMetH Tryz.prog Rows.fnExactStoreOKRow.laid w) false (World.laidAll Tryz.prog os Rows.fnExactStoreOKRow.laid) #[.agg #[.slice none 0 0, .slice none 0 0, .slice none 0 0, .int .i64 0]] 8 (World.laidAll_os _ _ _)
      (World.shaped_of_ZipB (by kernel_rfl) (by kernel_rfl)) (by kernel_rfl) (by kernel_rfl) (by kernel_rfl)
      (by rw [MakeChecks.laidMetH_plain _ _ _ (by kernel_rfl)]; exact laidMet_laidAll _ (by kernel_rfl) (by kernel_rfl))) ?_
  intro W base args ds gs before hval0 hW _ hsz0 _ _
  have hsz : (DataW.weightsEach Tryz.prog (Tryz.f7.params.toList ++ Rows.fnExactStoreOKSpec.plain.varTypes Tryz.prog) (ds ++ gs)).all (· ≤ reachBytes) = true := hsz0
  have hval : ∀ (j : Nat) t v, Tryz.f7.params[j]? = some t → args[j]? = some v → Value.okWide Tryz.prog W .any base t v := hval0
  have hW' := hW
  obtain ⟨p, q, hA0, hV, rfl, _, _⟩ := hW
  have hA : DataW.TrodAll enc Tryz.prog W 0 (fun _ => true) true Tryz.f7.params.toList args.toList ds p := hA0
  obtain ⟨rfl, rfl⟩ := trodVars_none hV
  have hpar : Tryz.f7.params.toList = [89] := by rw [Tryz.params7]
  simp only [List.append_nil] at hW' hsz
  have hsz' : (DataW.weightsEach Tryz.prog Tryz.f7.params.toList ds).all (· ≤ reachBytes) = true := by
    have e : Tryz.f7.params.toList ++ Rows.fnExactStoreOKSpec.plain.varTypes Tryz.prog = Tryz.f7.params.toList := List.append_nil _
    rwa [e] at hsz
  rw [hpar] at hA hsz'
  obtain ⟨v0, d0, rfl, rfl, h0⟩ := trodAll_one hA
  obtain ⟨tss, ht, hx⟩ := args_ok (E := Yd.E) (n := 12) E_sok.pok (by simp; kernel_rfl) hA (fun j t v h1 h2 => hval j t v (by rw [Tryz.params7]; simpa using h1) (by simpa using h2)) (fun x hx => by simpa using List.all_eq_true.1 hsz' x hx)
  obtain ⟨ts, rfl, h1⟩ : ∃ ts, tss = [ts] ∧ typed Yd.E 12 89 ts := by
    match tss, ht with
    | [ts], h => exact ⟨ts, rfl, h.1⟩
  obtain ⟨qq, hq, hwd⟩ := dec89 (n := 0) h1
  have hpk : packs Yd.E [89] [ts] = [.t (stoT qq)] := by simp [packs, pack, hq]
  rw [hpk] at hx
  refine (run_calls E_sok (fun _ => rfl) Tryz.func7 (by kernel_rfl) hx (lawStoreOK qq hwd)).mono fun e W' ⟨he, hb⟩ => ?_
  subst he
  have hback := trodAll_back (enc := enc) (ts := [89]) laidOut (by intro t ht; simp at ht; subst ht; exact ⟨by kernel_rfl, of_decide_eq_true (by kernel_rfl)⟩) hA hb
  exact ⟨_, rfl, _, _, _, [], _, [], hW', trodAll_mk1 (shut_bool Tryz.underlying4 _), hpar ▸ hback, rfl, hb.frame _, fun h => by cases h⟩

theorem q_fn : Tryz.pinned.checked.prog.funcNamed Rows.fnExactStoreOKRow.func = some 7 := by kernel_rfl
set_option maxHeartbeats 0 in
theorem q_closed : joinedFacts Tryz.pinned.checked.prog 7 Tryz.f7 Rows.fnExactStoreOKSpec Rows.fnExactStoreOKRow = true := by
  unfold joinedFacts
  simp only [Bool.and_eq_true]
  repeat' apply And.intro
  all_goals as_aux_lemma => kernel_rfl
theorem q_inst : Tryz.f7.isInstance Tryz.pinned.checked.prog Rows.fnExactStoreOKRow.origin Rows.fnExactStoreOKRow.targs := of_decide_eq_true (by kernel_rfl)
theorem q_wrap : Tryz.f7.isWrapper Tryz.pinned.checked.prog Rows.fnExactStoreOKRow.wrapper Rows.fnExactStoreOKRow.mainSum := by unfold Func.isWrapper; first | (rw [if_pos (by decide +kernel)]; kernel_rfl) | (rw [if_neg (by decide +kernel)]; exact ⟨rfl, rfl⟩)
theorem q_h (os : Os) (started : os.Started) (H : Type) (enc : TypeId × Value → H) : ReturnsInHanded Rows.fnExactStoreOKRow.assume Tryz.pinned.checked os 7 .any (Rows.fnExactStoreOKRow.pre enc Tryz.pinned.checked.prog Tryz.f7 (OpenSpec.ofChange Rows.fnExactStoreOKSpec)) (Rows.fnExactStoreOKSpec.post enc Tryz.pinned.checked.prog Tryz.f7 Rows.fnExactStoreOKRow.apart Rows.fnExactStoreOKRow.fresh Rows.fnExactStoreOKRow.handsOn Rows.fnExactStoreOKRow.again) := storeOK_lifted os started H enc
theorem storeOK_row : Rows.fnExactStoreOKRow.holds Tryz.pinned (OpenSpec.ofChange Rows.fnExactStoreOKSpec) :=
  OpenClaim.holds_of_wide (p := Tryz.pinned) (s := Rows.fnExactStoreOKSpec) (c := Rows.fnExactStoreOKRow) 7 Tryz.f7 rfl rfl rfl rfl rfl rfl rfl ⟨rfl, rfl, rfl, rfl, rfl⟩ rfl rfl rfl rfl rfl q_fn Tryz.func7 q_closed q_inst q_wrap
    (fun os started H enc _ => q_h os started H enc)
theorem q_wf : Rows.fnExactStoreOKRow.wfByText (OpenSpec.ofChange Rows.fnExactStoreOKSpec) = true := by kernel_rfl
theorem q_main : Tryz.pinned.checked.prog.mainIs = some (true, "d543eacdc6b9aa5c3a8937bca7929534cb39b90af0d1d9ff07d7b8a027f0d443".toList) := by kernel_rfl
theorem q_looks : false = Tryz.pinned.checked.prog.looks [] := by kernel_rfl
theorem q_goes : false = Rows.fnExactStoreOKRow.goesBy Tryz.pinned.checked.prog := by kernel_rfl
theorem q_stand : ([89].all fun u => !Tryz.pinned.checked.prog.wantsStandIn u) = true := by kernel_rfl
theorem q_looks' : ∀ f fn, Tryz.pinned.checked.prog.funcNamed Rows.fnExactStoreOKRow.func = some f → Tryz.pinned.checked.prog.funcs[f]? = some fn → false = Tryz.pinned.checked.prog.looks [] ∧ ∀ (j : Nat) t, fn.params[j]? = some t → Tryz.pinned.checked.prog.wantsStandIn t = false := by
  intro f fn hf hfn
  obtain rfl : f = 7 := Option.some.inj (q_fn.symm.trans hf) |>.symm
  obtain rfl : fn = Tryz.f7 := (Option.some.inj (Tryz.func7.symm.trans hfn)).symm
  refine ⟨q_looks, fun j t ht => ?_⟩
  rw [Tryz.params7] at ht
  have hm : t ∈ [89] := by simpa using Array.mem_of_getElem? ht
  simpa using List.all_eq_true.1 q_stand t hm
theorem storeOK_holds : Rows.FnExactStoreOKCardSaid :=
  Claim7.holds_tied_plain_at (p := Tryz.pinned) (s := OpenSpec.ofChange Rows.fnExactStoreOKSpec) (c := Rows.fnExactStoreOKRow) .later [] [.data, .pinned] true (true, "d543eacdc6b9aa5c3a8937bca7929534cb39b90af0d1d9ff07d7b8a027f0d443") false storeOK_row (fun _ h => by cases h) q_wf (fun _ h => by cases h) fnExactStoreOK_row_tie rfl ⟨rfl, rfl⟩ q_main rfl q_looks' q_goes
#print axioms storeOK_holds
end Go.Proofs.YtgfdeomfociobaaGreatDoor
