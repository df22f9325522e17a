/- The law FnOrder holds: its row, and its card. -/
import Derived.Test.YtgfdeomfociobaaDoorPartF
import Derived.Test.YtgfdeomfociobaaDoorPartH
import Derived.Test.YtgfdeomfociobaaDoorCards
import Derived.Test.YtgfdeomfociobaaDoorTie
import Derived.WalkKit
import Derived.ProofKit
import Derived.Lay
import Derived.LaidOnce
import Derived.SevenTiedAt
set_option linter.unusedSimpArgs false
set_option linter.unusedVariables false
namespace Go.Proofs.YtgfdeomfociobaaDoor
open Go.ChangeShapes Go.WideShapes Go.ChangeAt Go.RowKit Go.Ev Go.Vd
theorem own : ownKnob Tryd.prog.godebug = none := by kernel_rfl
theorem laidOut : laidOutB Tryd.prog = true := by kernel_rfl
def q_nm (i : Nat) : String := ((Rows.fnOrderRow.laid[i]?).map (·.1)).getD ""
theorem q_tabs {W : World} (h : laidMet Tryd.prog Rows.fnOrderRow.laid W) : Laid Vd.E (fun k => k < W.heap.size) W := by
  have hlt : ∀ {g : Nat} {x : Obj}, W.heap[g]? = some x → g < W.heap.size := by
    intro g x hx
    by_cases hg : g < W.heap.size
    · exact hg
    · rw [Array.getElem?_eq_none (by omega)] at hx; cases hx
  intro g hg
  match g, hg with
  | 2, _ =>
    obtain ⟨a, b, hh⟩ := laid_ints (name := q_nm 2) (k := .u64) (zs := Lib.pow10Tab) (g := 2) (t := 133) (e := 118) (n := 20) h (List.mem_of_getElem? (i := 2) rfl) (by kernel_rfl) (by kernel_rfl) (by kernel_rfl) (by kernel_rfl) (by kernel_rfl) (by kernel_rfl)
    exact ⟨hlt hh, a, b, hh⟩
  | 0, h => exact absurd rfl h
  | 1, h => exact absurd rfl h
  | n + 3, h => exact absurd rfl h
set_option maxRecDepth 100000 in
theorem order_lifted (os : Os) (started : os.Started) (H : Type) (enc : TypeId × Value → H) :
    ReturnsInHanded {} Tryd.checked os 3 .any (fun w args => (Rows.fnOrderSpec.pre enc Tryd.prog Tryd.f3 [] false w args ∧ laidMetH Tryd.prog Rows.fnOrderRow.laid w) ∧ sizedMet enc Tryd.prog Tryd.f3 (OpenSpec.ofChange Rows.fnOrderSpec) false w args)
      (Rows.fnOrderSpec.post enc Tryd.prog Tryd.f3 false true false false) := by
  refine returnsInHanded_of_change_and (C := Tryd.checked) (X := fun w _ => laidMetH Tryd.prog Rows.fnOrderRow.laid w) (fun _ _ _ hh h => h.of_heap hh) own started (by kernel_rfl) Tryd.func3
    (ChangeSpec.witness_shaped (enc := enc) (C := Tryd.checked) (os := os) (X := fun w _ => laidMetH Tryd.prog Rows.fnOrderRow.laid w) false (World.laidAll Tryd.prog os Rows.fnOrderRow.laid) #[.slice none 0 0, .slice none 0 0] 8 (World.laidAll_os _ _ _)
      (World.shaped_of_ZipB (by kernel_rfl) (by kernel_rfl)) (by kernel_rfl) (by kernel_rfl) (by kernel_rfl)
      (by rw [MakeChecks.laidMetH_plain _ _ _ (by kernel_rfl)]; exact laidMet_laidAll _ (by kernel_rfl) (by kernel_rfl))) ?_
  intro W base args ds gs before hval0 hW _ hsz0 hX0 _
  have hsz : (DataW.weightsEach Tryd.prog (Tryd.f3.params.toList ++ Rows.fnOrderSpec.plain.varTypes Tryd.prog) (ds ++ gs)).all (· ≤ reachBytes) = true := hsz0
  have hval : ∀ (j : Nat) t v, Tryd.f3.params[j]? = some t → args[j]? = some v → Value.okWide Tryd.prog W .any base t v := hval0
  have hW' := hW
  obtain ⟨p, q, hA0, hV, rfl, _, _⟩ := hW
  have hA : DataW.TrodAll enc Tryd.prog W 0 (fun _ => true) true Tryd.f3.params.toList args.toList ds p := hA0
  obtain ⟨rfl, rfl⟩ := trodVars_none hV
  have hpar : Tryd.f3.params.toList = [22, 22] := by rw [Tryd.params3]
  simp only [List.append_nil] at hW' hsz
  have hsz' : (DataW.weightsEach Tryd.prog Tryd.f3.params.toList ds).all (· ≤ reachBytes) = true := by
    have e : Tryd.f3.params.toList ++ Rows.fnOrderSpec.plain.varTypes Tryd.prog = Tryd.f3.params.toList := List.append_nil _
    rwa [e] at hsz
  rw [hpar] at hA hsz'
  obtain ⟨v0, v1, d0, d1, p0, p1, rfl, rfl, rfl, h0, h0'⟩ := trodAll_two hA
  obtain ⟨tss, ht, hx⟩ := args_ok (E := Vd.E) (n := 9) E_sok.pok (by intro t ht; simp at ht; subst ht; kernel_rfl) hA (fun j t v h1 h2 => hval j t v (by rw [Tryd.params3]; simpa using h1) (by simpa using h2)) (fun x hx => by simpa using List.all_eq_true.1 hsz' x hx)
  obtain ⟨ts, us, rfl, h1, h2⟩ : ∃ ts us, tss = [ts, us] ∧ typed Vd.E 9 22 ts ∧ typed Vd.E 9 22 us := by
    match tss, ht with
    | [ts, us], h => exact ⟨ts, us, rfl, h.1, h.2.1⟩
  obtain ⟨qq, rfl, _⟩ := dec22 (n := 7) h1
  obtain ⟨vv, rfl, _⟩ := dec22 (n := 7) h2
  have hpk : packs Vd.E [22, 22] [[.list (qq.map byteT)], [.list (vv.map byteT)]] = [.t (.list (qq.map byteT)), .t (.list (vv.map byteT))] := by simp [packs, pack]
  rw [hpk] at hx
  refine (run_callsL E_sok (q_tabs (by rw [MakeChecks.laidMetH_plain _ _ _ (by kernel_rfl)] at hX0; exact hX0)) Tryd.func3 (by kernel_rfl) hx (lawOrder qq vv)).mono fun e W' ⟨he, hb⟩ => ?_
  subst he
  have hback := trodAll_back (enc := enc) (ts := [22, 22]) laidOut (by intro t ht; simp at ht; subst ht; exact ⟨by kernel_rfl, of_decide_eq_true (by kernel_rfl)⟩) hA hb
  exact ⟨_, rfl, _, _, _, [], _, [], hW', trodAll_mk1 (shut_bool Tryd.underlying4 _), hpar ▸ hback, rfl, hb.frame _, fun h => by cases h⟩

theorem q_fn : Tryd.pinned.checked.prog.funcNamed Rows.fnOrderRow.func = some 3 := by kernel_rfl
set_option maxHeartbeats 0 in
theorem q_closed : joinedFacts Tryd.pinned.checked.prog 3 Tryd.f3 Rows.fnOrderSpec Rows.fnOrderRow = true := by
  unfold joinedFacts
  simp only [Bool.and_eq_true]
  repeat' apply And.intro
  all_goals as_aux_lemma => kernel_rfl
theorem q_inst : Tryd.f3.isInstance Tryd.pinned.checked.prog Rows.fnOrderRow.origin Rows.fnOrderRow.targs := of_decide_eq_true (by kernel_rfl)
theorem q_wrap : Tryd.f3.isWrapper Tryd.pinned.checked.prog Rows.fnOrderRow.wrapper Rows.fnOrderRow.mainSum := by unfold Func.isWrapper; first | (rw [if_pos (by decide +kernel)]; kernel_rfl) | (rw [if_neg (by decide +kernel)]; exact ⟨rfl, rfl⟩)
theorem q_h (os : Os) (started : os.Started) (H : Type) (enc : TypeId × Value → H) : ReturnsInHanded Rows.fnOrderRow.assume Tryd.pinned.checked os 3 .any (Rows.fnOrderRow.pre enc Tryd.pinned.checked.prog Tryd.f3 (OpenSpec.ofChange Rows.fnOrderSpec)) (Rows.fnOrderSpec.post enc Tryd.pinned.checked.prog Tryd.f3 Rows.fnOrderRow.apart Rows.fnOrderRow.fresh Rows.fnOrderRow.handsOn Rows.fnOrderRow.again) := order_lifted os started H enc
theorem order_row : Rows.fnOrderRow.holds Tryd.pinned (OpenSpec.ofChange Rows.fnOrderSpec) :=
  OpenClaim.holds_of_wide (p := Tryd.pinned) (s := Rows.fnOrderSpec) (c := Rows.fnOrderRow) 3 Tryd.f3 rfl rfl rfl rfl rfl rfl rfl ⟨rfl, rfl, rfl, rfl, rfl⟩ rfl rfl rfl rfl rfl q_fn Tryd.func3 q_closed q_inst q_wrap
    (fun os started H enc _ => q_h os started H enc)
theorem q_wf : Rows.fnOrderRow.wfByText (OpenSpec.ofChange Rows.fnOrderSpec) = true := by kernel_rfl
theorem q_main : Tryd.pinned.checked.prog.mainIs = some (true, "0c58b6bf8fed37f323b199147fcc930ebeb1ee8167a15513300cfa00edc52b0a".toList) := by kernel_rfl
theorem q_looks : false = Tryd.pinned.checked.prog.looks [] := by kernel_rfl
theorem q_goes : false = Rows.fnOrderRow.goesBy Tryd.pinned.checked.prog := by kernel_rfl
theorem q_stand : ([22, 22].all fun u => !Tryd.pinned.checked.prog.wantsStandIn u) = true := by kernel_rfl
theorem q_looks' : ∀ f fn, Tryd.pinned.checked.prog.funcNamed Rows.fnOrderRow.func = some f → Tryd.pinned.checked.prog.funcs[f]? = some fn → false = Tryd.pinned.checked.prog.looks [] ∧ ∀ (j : Nat) t, fn.params[j]? = some t → Tryd.pinned.checked.prog.wantsStandIn t = false := by
  intro f fn hf hfn
  obtain rfl : f = 3 := Option.some.inj (q_fn.symm.trans hf) |>.symm
  obtain rfl : fn = Tryd.f3 := (Option.some.inj (Tryd.func3.symm.trans hfn)).symm
  refine ⟨q_looks, fun j t ht => ?_⟩
  rw [Tryd.params3] at ht
  have hm : t ∈ [22, 22] := by simpa using Array.mem_of_getElem? ht
  simpa using List.all_eq_true.1 q_stand t hm
theorem order_holds : Rows.FnOrderCardSaid :=
  Claim7.holds_tied_plain_at (p := Tryd.pinned) (s := OpenSpec.ofChange Rows.fnOrderSpec) (c := Rows.fnOrderRow) .later [] [.data, .data, .data] true (true, "0c58b6bf8fed37f323b199147fcc930ebeb1ee8167a15513300cfa00edc52b0a") false order_row (fun _ h => by cases h) q_wf (fun _ h => by cases h) fnOrder_row_tie rfl ⟨rfl, rfl⟩ q_main rfl q_looks' q_goes
#print axioms order_holds
end Go.Proofs.YtgfdeomfociobaaDoor
