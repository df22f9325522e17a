/- The law FnExactUpdateText holds: its row, and its card. -/
import Derived.Test.YtgfdeomfociobaaDoorPartUB
import Derived.Test.YtgfdeomfociobaaDoorPartUC
import Derived.Test.YtgfdeomfociobaaDoorCards
import Derived.Test.YtgfdeomfociobaaDoorTie
import Derived.WalkKit
import Derived.ProofKit
import Derived.Lay
import Derived.LaidOnce
import Derived.SevenTiedAt
set_option linter.unusedSimpArgs false
set_option linter.unusedVariables false
namespace Go.Proofs.YtgfdeomfociobaaDoor
open Go.ChangeShapes Go.WideShapes Go.ChangeAt Go.RowKit Go.Ev Go.Ud
theorem own : ownKnob Tryd.prog.godebug = none := by kernel_rfl
theorem laidOut : laidOutB Tryd.prog = true := by kernel_rfl
/-- The variable's name, as the row tells it. -/
def q_var : String := Rows.fnExactUpdateTextSpec.vars.headD ""
theorem q_vars : ∀ n ∈ [q_var], ∀ g t, Tryd.prog.globalNamed n = some g → (Tryd.prog.globals[g]?).map (·.type) = some t → Tryd.prog.readableRec t = true ∧ t < Tryd.prog.types.size := by
  intro n hn g t h1 h2
  obtain rfl := List.mem_singleton.1 hn
  have e0 : Tryd.prog.globalNamed q_var = some 0 := by kernel_rfl
  obtain rfl : g = 0 := (Option.some.inj (e0.symm.trans h1)).symm
  have e1 : (Tryd.prog.globals[0]?).map (·.type) = some 52 := by kernel_rfl
  obtain rfl : t = 52 := (Option.some.inj (e1.symm.trans h2)).symm
  exact ⟨by kernel_rfl, of_decide_eq_true (by kernel_rfl)⟩
def q_nm (i : Nat) : String := ((Rows.fnExactUpdateTextRow.laid[i]?).map (·.1)).getD ""
theorem q_tabs {W : World} (h : laidMet Tryd.prog Rows.fnExactUpdateTextRow.laid W) : Laid Ud.E (fun k => k < W.heap.size) W := by
  have hlt : ∀ {g : Nat} {x : Obj}, W.heap[g]? = some x → g < W.heap.size := by
    intro g x hx
    by_cases hg : g < W.heap.size
    · exact hg
    · rw [Array.getElem?_eq_none (by omega)] at hx; cases hx
  intro g hg
  match g, hg with
  | 0, _ =>
    obtain ⟨a, b, hh⟩ := laid_strs (name := q_nm 4) (zs := tabWords) (g := 0) (t := 52) (e := 9) (n := 5) h (List.mem_of_getElem? (i := 4) rfl) (by kernel_rfl) (by kernel_rfl) (by kernel_rfl) (by kernel_rfl) (by kernel_rfl) (by kernel_rfl)
    exact ⟨hlt hh, a, b, hh⟩
  | 2, _ =>
    obtain ⟨a, b, hh⟩ := laid_ints (name := q_nm 2) (k := .u64) (zs := Lib.pow10Tab) (g := 2) (t := 133) (e := 118) (n := 20) h (List.mem_of_getElem? (i := 2) rfl) (by kernel_rfl) (by kernel_rfl) (by kernel_rfl) (by kernel_rfl) (by kernel_rfl) (by kernel_rfl)
    exact ⟨hlt hh, a, b, hh⟩
  | 1, h => exact absurd rfl h
  | n + 3, h => exact absurd rfl h
set_option maxRecDepth 100000 in
theorem updateText_lifted (os : Os) (started : os.Started) (H : Type) (enc : TypeId × Value → H) :
    ReturnsInHanded {} Tryd.checked os 4 .any (fun w args => (Rows.fnExactUpdateTextSpec.pre enc Tryd.prog Tryd.f4 [] false w args ∧ laidMetH Tryd.prog Rows.fnExactUpdateTextRow.laid w) ∧ sizedMet enc Tryd.prog Tryd.f4 (OpenSpec.ofChange Rows.fnExactUpdateTextSpec) false w args)
      (Rows.fnExactUpdateTextSpec.post enc Tryd.prog Tryd.f4 false true false false) := by
  refine returnsInHanded_of_change_and (C := Tryd.checked) (X := fun w _ => laidMetH Tryd.prog Rows.fnExactUpdateTextRow.laid w) (fun _ _ _ hh h => h.of_heap hh) own started (by kernel_rfl) Tryd.func4
    (ChangeSpec.witness_shaped (enc := enc) (C := Tryd.checked) (os := os) (X := fun w _ => laidMetH Tryd.prog Rows.fnExactUpdateTextRow.laid w) false (World.laidAll Tryd.prog os Rows.fnExactUpdateTextRow.laid) #[.agg #[.int .i64 0, .string ByteArray.empty, .int .i64 0, .int .i64 0, .string ByteArray.empty]] 8 (World.laidAll_os _ _ _)
      (World.shaped_of_ZipB (by kernel_rfl) (by kernel_rfl)) (by kernel_rfl) (by kernel_rfl) (by kernel_rfl)
      (by rw [MakeChecks.laidMetH_plain _ _ _ (by kernel_rfl)]; exact laidMet_laidAll _ (by kernel_rfl) (by kernel_rfl))) ?_
  intro W base args ds gs before hval0 hW _ hsz0 hX0 _
  have hsz : (DataW.weightsEach Tryd.prog (Tryd.f4.params.toList ++ Rows.fnExactUpdateTextSpec.plain.varTypes Tryd.prog) (ds ++ gs)).all (· ≤ reachBytes) = true := hsz0
  have hval : ∀ (j : Nat) t v, Tryd.f4.params[j]? = some t → args[j]? = some v → Value.okWide Tryd.prog W .any base t v := hval0
  have hW' := hW
  obtain ⟨p, q, hA0, hV, rfl, _, _⟩ := hW
  have hA : DataW.TrodAll enc Tryd.prog W 0 (fun _ => true) true Tryd.f4.params.toList args.toList ds p := hA0
  have hV1 : DataW.TrodVars enc Tryd.prog W (fun _ => true) [q_var] gs q := hV
  obtain ⟨_, _, _, _, g0, _, rfl, _⟩ := trodVars_one hV1
  have hpar : Tryd.f4.params.toList = [34] := by rw [Tryd.params4]
  rw [hpar] at hA hsz
  obtain ⟨v0, d0, rfl, rfl, h0⟩ := trodAll_one hA
  have hsz' : (DataW.weightsEach Tryd.prog [34] [d0]).all (· ≤ reachBytes) = true := by
    simp only [List.cons_append, List.nil_append, DataW.weightsEach, List.all_append, Bool.and_eq_true] at hsz
    simp only [DataW.weightsEach, List.append_nil]
    exact hsz.1
  obtain ⟨tss, ht, hx⟩ := args_ok (E := Ud.E) (n := 9) E_sok.pok (by simp; kernel_rfl) hA (fun j t v h1 h2 => hval j t v (by rw [Tryd.params4]; simpa using h1) (by simpa using h2)) (fun x hx => by simpa using List.all_eq_true.1 hsz' x hx)
  obtain ⟨ts, rfl, h1⟩ : ∃ ts, tss = [ts] ∧ typed Ud.E 9 34 ts := by
    match tss, ht with
    | [ts], h => exact ⟨ts, rfl, h.1⟩
  obtain ⟨qq, hq, hwd⟩ := dec34 (n := 6) h1
  have hpk : packs Ud.E [34] [ts] = [.t (trmT qq)] := by simp [packs, pack, hq]
  rw [hpk] at hx
  refine (run_callsL E_sok (q_tabs (by rw [MakeChecks.laidMetH_plain _ _ _ (by kernel_rfl)] at hX0; exact hX0)) Tryd.func4 (by kernel_rfl) hx (lawUpdateText qq hwd)).mono fun e W' ⟨he, hb⟩ => ?_
  subst he
  have hback := trodAll_back (enc := enc) (ts := [34]) laidOut (by intro t ht; simp at ht; subst ht; exact ⟨by kernel_rfl, of_decide_eq_true (by kernel_rfl)⟩) hA hb
  exact ⟨_, rfl, _, _, _, [], _, q, hW', trodAll_mk1 (shut_bool Tryd.underlying4 _), hpar ▸ hback, trodVars_back laidOut q_vars hV hb, hb.frame _, fun h => by cases h⟩

theorem q_fn : Tryd.pinned.checked.prog.funcNamed Rows.fnExactUpdateTextRow.func = some 4 := by kernel_rfl
set_option maxHeartbeats 0 in
theorem q_closed : joinedFacts Tryd.pinned.checked.prog 4 Tryd.f4 Rows.fnExactUpdateTextSpec Rows.fnExactUpdateTextRow = true := by
  unfold joinedFacts
  simp only [Bool.and_eq_true]
  repeat' apply And.intro
  all_goals as_aux_lemma => kernel_rfl
theorem q_inst : Tryd.f4.isInstance Tryd.pinned.checked.prog Rows.fnExactUpdateTextRow.origin Rows.fnExactUpdateTextRow.targs := of_decide_eq_true (by kernel_rfl)
theorem q_wrap : Tryd.f4.isWrapper Tryd.pinned.checked.prog Rows.fnExactUpdateTextRow.wrapper Rows.fnExactUpdateTextRow.mainSum := by unfold Func.isWrapper; first | (rw [if_pos (by decide +kernel)]; kernel_rfl) | (rw [if_neg (by decide +kernel)]; exact ⟨rfl, rfl⟩)
theorem q_h (os : Os) (started : os.Started) (H : Type) (enc : TypeId × Value → H) : ReturnsInHanded Rows.fnExactUpdateTextRow.assume Tryd.pinned.checked os 4 .any (Rows.fnExactUpdateTextRow.pre enc Tryd.pinned.checked.prog Tryd.f4 (OpenSpec.ofChange Rows.fnExactUpdateTextSpec)) (Rows.fnExactUpdateTextSpec.post enc Tryd.pinned.checked.prog Tryd.f4 Rows.fnExactUpdateTextRow.apart Rows.fnExactUpdateTextRow.fresh Rows.fnExactUpdateTextRow.handsOn Rows.fnExactUpdateTextRow.again) := updateText_lifted os started H enc
theorem updateText_row : Rows.fnExactUpdateTextRow.holds Tryd.pinned (OpenSpec.ofChange Rows.fnExactUpdateTextSpec) :=
  OpenClaim.holds_of_wide (p := Tryd.pinned) (s := Rows.fnExactUpdateTextSpec) (c := Rows.fnExactUpdateTextRow) 4 Tryd.f4 rfl rfl rfl rfl rfl rfl rfl ⟨rfl, rfl, rfl, rfl, rfl⟩ rfl rfl rfl rfl rfl q_fn Tryd.func4 q_closed q_inst q_wrap
    (fun os started H enc _ => q_h os started H enc)
theorem q_wf : Rows.fnExactUpdateTextRow.wfByText (OpenSpec.ofChange Rows.fnExactUpdateTextSpec) = true := by kernel_rfl
theorem q_main : Tryd.pinned.checked.prog.mainIs = some (true, "0c58b6bf8fed37f323b199147fcc930ebeb1ee8167a15513300cfa00edc52b0a".toList) := by kernel_rfl
theorem q_looks : false = Tryd.pinned.checked.prog.looks [] := by kernel_rfl
theorem q_goes : false = Rows.fnExactUpdateTextRow.goesBy Tryd.pinned.checked.prog := by kernel_rfl
theorem q_stand : ([34].all fun u => !Tryd.pinned.checked.prog.wantsStandIn u) = true := by kernel_rfl
theorem q_looks' : ∀ f fn, Tryd.pinned.checked.prog.funcNamed Rows.fnExactUpdateTextRow.func = some f → Tryd.pinned.checked.prog.funcs[f]? = some fn → false = Tryd.pinned.checked.prog.looks [] ∧ ∀ (j : Nat) t, fn.params[j]? = some t → Tryd.pinned.checked.prog.wantsStandIn t = false := by
  intro f fn hf hfn
  obtain rfl : f = 4 := Option.some.inj (q_fn.symm.trans hf) |>.symm
  obtain rfl : fn = Tryd.f4 := (Option.some.inj (Tryd.func4.symm.trans hfn)).symm
  refine ⟨q_looks, fun j t ht => ?_⟩
  rw [Tryd.params4] at ht
  have hm : t ∈ [34] := by simpa using Array.mem_of_getElem? ht
  simpa using List.all_eq_true.1 q_stand t hm
theorem updateText_holds : Rows.FnExactUpdateTextCardSaid :=
  Claim7.holds_tied_plain_at (p := Tryd.pinned) (s := OpenSpec.ofChange Rows.fnExactUpdateTextSpec) (c := Rows.fnExactUpdateTextRow) .later [] [.data, .data, .data, .data, .widerDeep, .pinned] true (true, "0c58b6bf8fed37f323b199147fcc930ebeb1ee8167a15513300cfa00edc52b0a") false updateText_row (fun _ h => by cases h) q_wf (fun _ h => by cases h) fnExactUpdateText_row_tie rfl ⟨rfl, rfl⟩ q_main rfl q_looks' q_goes
#print axioms updateText_holds
end Go.Proofs.YtgfdeomfociobaaDoor
