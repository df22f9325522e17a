/- The law FnExactFilterText holds: its row, and its card. -/
import Derived.Test.YtgfdeomfociobaaGreatDoorPartXC
import Derived.Test.YtgfdeomfociobaaGreatDoorPartXE
import Derived.Test.YtgfdeomfociobaaGreatDoorCards
import Derived.Test.YtgfdeomfociobaaGreatDoorTie
import Derived.WalkKit
import Derived.ProofKit
import Derived.Lay
import Derived.LaidOnce
import Derived.SevenTiedAt
set_option linter.unusedSimpArgs false
set_option linter.unusedVariables false
namespace Go.Proofs.YtgfdeomfociobaaGreatDoor
open Go.ChangeShapes Go.WideShapes Go.ChangeAt Go.RowKit Go.Ev Go.Xd
theorem own : ownKnob Tryz.prog.godebug = none := by kernel_rfl
theorem laidOut : laidOutB Tryz.prog = true := by kernel_rfl
/-- The variable's name, as the row tells it. -/
def q_var : String := Rows.fnExactFilterTextSpec.vars.headD ""
theorem q_vars : ∀ n ∈ [q_var], ∀ g t, Tryz.prog.globalNamed n = some g → (Tryz.prog.globals[g]?).map (·.type) = some t → Tryz.prog.readableRec t = true ∧ t < Tryz.prog.types.size := by
  intro n hn g t h1 h2
  obtain rfl := List.mem_singleton.1 hn
  have e0 : Tryz.prog.globalNamed q_var = some 0 := by kernel_rfl
  obtain rfl : g = 0 := (Option.some.inj (e0.symm.trans h1)).symm
  have e1 : (Tryz.prog.globals[0]?).map (·.type) = some 237 := by kernel_rfl
  obtain rfl : t = 237 := (Option.some.inj (e1.symm.trans h2)).symm
  exact ⟨by kernel_rfl, of_decide_eq_true (by kernel_rfl)⟩
def q_nm (i : Nat) : String := ((Rows.fnExactFilterTextRow.laid[i]?).map (·.1)).getD ""
theorem q_tabs {W : World} (h : laidMet Tryz.prog Rows.fnExactFilterTextRow.laid W) : Laid Xd.E (fun k => k < W.heap.size) W := by
  have hlt : ∀ {g : Nat} {x : Obj}, W.heap[g]? = some x → g < W.heap.size := by
    intro g x hx
    by_cases hg : g < W.heap.size
    · exact hg
    · rw [Array.getElem?_eq_none (by omega)] at hx; cases hx
  intro g hg
  match g, hg with
  | 0, _ =>
    obtain ⟨a, b, hh⟩ := laid_strs (name := q_nm 4) (zs := tabWords) (g := 0) (t := 237) (e := 9) (n := 10) h (List.mem_of_getElem? (i := 4) rfl) (by kernel_rfl) (by kernel_rfl) (by kernel_rfl) (by kernel_rfl) (by kernel_rfl) (by kernel_rfl)
    exact ⟨hlt hh, a, b, hh⟩
  | 2, _ =>
    obtain ⟨a, b, hh⟩ := laid_ints (name := q_nm 2) (k := .u64) (zs := Lib.pow10Tab) (g := 2) (t := 440) (e := 423) (n := 20) h (List.mem_of_getElem? (i := 2) rfl) (by kernel_rfl) (by kernel_rfl) (by kernel_rfl) (by kernel_rfl) (by kernel_rfl) (by kernel_rfl)
    exact ⟨hlt hh, a, b, hh⟩
  | 1, h => exact absurd rfl h
  | n + 3, h => exact absurd rfl h
set_option maxRecDepth 100000 in
theorem filterText_lifted (os : Os) (started : os.Started) (H : Type) (enc : TypeId × Value → H) :
    ReturnsInHanded {} Tryz.checked os 12 .any (fun w args => (Rows.fnExactFilterTextSpec.pre enc Tryz.prog Tryz.f12 [] false w args ∧ laidMetH Tryz.prog Rows.fnExactFilterTextRow.laid w) ∧ sizedMet enc Tryz.prog Tryz.f12 (OpenSpec.ofChange Rows.fnExactFilterTextSpec) false w args)
      (Rows.fnExactFilterTextSpec.post enc Tryz.prog Tryz.f12 false true false false) := by
  refine returnsInHanded_of_change_and (C := Tryz.checked) (X := fun w _ => laidMetH Tryz.prog Rows.fnExactFilterTextRow.laid w) (fun _ _ _ hh h => h.of_heap hh) own started (by kernel_rfl) Tryz.func12
    (ChangeSpec.witness_shaped (enc := enc) (C := Tryz.checked) (os := os) (X := fun w _ => laidMetH Tryz.prog Rows.fnExactFilterTextRow.laid w) false (World.laidAll Tryz.prog os Rows.fnExactFilterTextRow.laid) #[.agg #[.slice none 0 0]] 8 (World.laidAll_os _ _ _)
      (World.shaped_of_ZipB (by kernel_rfl) (by kernel_rfl)) (by kernel_rfl) (by kernel_rfl) (by kernel_rfl)
      (by rw [MakeChecks.laidMetH_plain _ _ _ (by kernel_rfl)]; exact laidMet_laidAll _ (by kernel_rfl) (by kernel_rfl))) ?_
  intro W base args ds gs before hval0 hW _ hsz0 hX0 _
  have hsz : (DataW.weightsEach Tryz.prog (Tryz.f12.params.toList ++ Rows.fnExactFilterTextSpec.plain.varTypes Tryz.prog) (ds ++ gs)).all (· ≤ reachBytes) = true := hsz0
  have hval : ∀ (j : Nat) t v, Tryz.f12.params[j]? = some t → args[j]? = some v → Value.okWide Tryz.prog W .any base t v := hval0
  have hW' := hW
  obtain ⟨p, q, hA0, hV, rfl, _, _⟩ := hW
  have hA : DataW.TrodAll enc Tryz.prog W 0 (fun _ => true) true Tryz.f12.params.toList args.toList ds p := hA0
  have hV1 : DataW.TrodVars enc Tryz.prog W (fun _ => true) [q_var] gs q := hV
  obtain ⟨_, _, _, _, g0, _, rfl, _⟩ := trodVars_one hV1
  have hpar : Tryz.f12.params.toList = [24] := by rw [Tryz.params12]
  rw [hpar] at hA hsz
  obtain ⟨v0, d0, rfl, rfl, h0⟩ := trodAll_one hA
  have hsz' : (DataW.weightsEach Tryz.prog [24] [d0]).all (· ≤ reachBytes) = true := by
    simp only [List.cons_append, List.nil_append, DataW.weightsEach, List.all_append, Bool.and_eq_true] at hsz
    simp only [DataW.weightsEach, List.append_nil]
    exact hsz.1
  obtain ⟨tss, ht, hx⟩ := args_ok (E := Xd.E) (n := 9) E_sok.pok (by simp; kernel_rfl) hA (fun j t v h1 h2 => hval j t v (by rw [Tryz.params12]; simpa using h1) (by simpa using h2)) (fun x hx => by simpa using List.all_eq_true.1 hsz' x hx)
  obtain ⟨ts, rfl, h1⟩ : ∃ ts, tss = [ts] ∧ typed Xd.E 9 24 ts := by
    match tss, ht with
    | [ts], h => exact ⟨ts, rfl, h.1⟩
  obtain ⟨qq, rfl, hwd⟩ := dec24 (n := 2) h1
  have hpk : packs Xd.E [24] [[.list (qq.map clsT)]] = [.t (filT qq)] := by simp [packs, pack]
  rw [hpk] at hx
  refine (run_callsL E_sok (q_tabs (by rw [MakeChecks.laidMetH_plain _ _ _ (by kernel_rfl)] at hX0; exact hX0)) Tryz.func12 (by kernel_rfl) hx (lawFilterText qq hwd)).mono fun e W' ⟨he, hb⟩ => ?_
  subst he
  have hback := trodAll_back (enc := enc) (ts := [24]) laidOut (by intro t ht; simp at ht; subst ht; exact ⟨by kernel_rfl, of_decide_eq_true (by kernel_rfl)⟩) hA hb
  exact ⟨_, rfl, _, _, _, [], _, q, hW', trodAll_mk1 (shut_bool Tryz.underlying4 _), hpar ▸ hback, trodVars_back laidOut q_vars hV hb, hb.frame _, fun h => by cases h⟩

theorem q_fn : Tryz.pinned.checked.prog.funcNamed Rows.fnExactFilterTextRow.func = some 12 := by kernel_rfl
set_option maxHeartbeats 0 in
theorem q_closed : joinedFacts Tryz.pinned.checked.prog 12 Tryz.f12 Rows.fnExactFilterTextSpec Rows.fnExactFilterTextRow = true := by
  unfold joinedFacts
  simp only [Bool.and_eq_true]
  repeat' apply And.intro
  all_goals as_aux_lemma => kernel_rfl
theorem q_inst : Tryz.f12.isInstance Tryz.pinned.checked.prog Rows.fnExactFilterTextRow.origin Rows.fnExactFilterTextRow.targs := of_decide_eq_true (by kernel_rfl)
theorem q_wrap : Tryz.f12.isWrapper Tryz.pinned.checked.prog Rows.fnExactFilterTextRow.wrapper Rows.fnExactFilterTextRow.mainSum := by unfold Func.isWrapper; first | (rw [if_pos (by decide +kernel)]; kernel_rfl) | (rw [if_neg (by decide +kernel)]; exact ⟨rfl, rfl⟩)
theorem q_h (os : Os) (started : os.Started) (H : Type) (enc : TypeId × Value → H) : ReturnsInHanded Rows.fnExactFilterTextRow.assume Tryz.pinned.checked os 12 .any (Rows.fnExactFilterTextRow.pre enc Tryz.pinned.checked.prog Tryz.f12 (OpenSpec.ofChange Rows.fnExactFilterTextSpec)) (Rows.fnExactFilterTextSpec.post enc Tryz.pinned.checked.prog Tryz.f12 Rows.fnExactFilterTextRow.apart Rows.fnExactFilterTextRow.fresh Rows.fnExactFilterTextRow.handsOn Rows.fnExactFilterTextRow.again) := filterText_lifted os started H enc
theorem filterText_row : Rows.fnExactFilterTextRow.holds Tryz.pinned (OpenSpec.ofChange Rows.fnExactFilterTextSpec) :=
  OpenClaim.holds_of_wide (p := Tryz.pinned) (s := Rows.fnExactFilterTextSpec) (c := Rows.fnExactFilterTextRow) 12 Tryz.f12 rfl rfl rfl rfl rfl rfl rfl ⟨rfl, rfl, rfl, rfl, rfl⟩ rfl rfl rfl rfl rfl q_fn Tryz.func12 q_closed q_inst q_wrap
    (fun os started H enc _ => q_h os started H enc)
theorem q_wf : Rows.fnExactFilterTextRow.wfByText (OpenSpec.ofChange Rows.fnExactFilterTextSpec) = true := by kernel_rfl
theorem q_main : Tryz.pinned.checked.prog.mainIs = some (true, "d543eacdc6b9aa5c3a8937bca7929534cb39b90af0d1d9ff07d7b8a027f0d443".toList) := by kernel_rfl
theorem q_looks : false = Tryz.pinned.checked.prog.looks [] := by kernel_rfl
theorem q_goes : false = Rows.fnExactFilterTextRow.goesBy Tryz.pinned.checked.prog := by kernel_rfl
theorem q_stand : ([24].all fun u => !Tryz.pinned.checked.prog.wantsStandIn u) = true := by kernel_rfl
theorem q_looks' : ∀ f fn, Tryz.pinned.checked.prog.funcNamed Rows.fnExactFilterTextRow.func = some f → Tryz.pinned.checked.prog.funcs[f]? = some fn → false = Tryz.pinned.checked.prog.looks [] ∧ ∀ (j : Nat) t, fn.params[j]? = some t → Tryz.pinned.checked.prog.wantsStandIn t = false := by
  intro f fn hf hfn
  obtain rfl : f = 12 := Option.some.inj (q_fn.symm.trans hf) |>.symm
  obtain rfl : fn = Tryz.f12 := (Option.some.inj (Tryz.func12.symm.trans hfn)).symm
  refine ⟨q_looks, fun j t ht => ?_⟩
  rw [Tryz.params12] at ht
  have hm : t ∈ [24] := by simpa using Array.mem_of_getElem? ht
  simpa using List.all_eq_true.1 q_stand t hm
theorem filterText_holds : Rows.FnExactFilterTextCardSaid :=
  Claim7.holds_tied_plain_at (p := Tryz.pinned) (s := OpenSpec.ofChange Rows.fnExactFilterTextSpec) (c := Rows.fnExactFilterTextRow) .later [] [.data, .data, .data, .data, .widerDeep, .pinned] true (true, "d543eacdc6b9aa5c3a8937bca7929534cb39b90af0d1d9ff07d7b8a027f0d443") false filterText_row (fun _ h => by cases h) q_wf (fun _ h => by cases h) fnExactFilterText_row_tie rfl ⟨rfl, rfl⟩ q_main rfl q_looks' q_goes
#print axioms filterText_holds
end Go.Proofs.YtgfdeomfociobaaGreatDoor
