/- CommandOK: both. -/
import Derived.Test.YtgfdeomfociobaaGreatDoorPartJA
set_option linter.unusedSimpArgs false
set_option linter.unusedVariables false
namespace Go.Yd
open Go.Ev Go.Proofs Go.Pu
set_option maxRecDepth 100000
set_option maxHeartbeats 16000000
theorem updClosure (t : Trm) (h : t.sm) : run E (.call 220 [.t (trmT t)]) = some (.res [xB (!updOK t)] []) := by
  rw [run_call E 220 _ rfl Tryz.func220 rfl rfl rfl (by simp)]
  simp [implUpdateOK t h]
def updsOK (l : List Trm) : Bool := in1 1 4 l.length && l.all updOK
theorem areUpdates (l : List Trm) (hl : l.length < 4294967296) (h : ∀ r ∈ l, r.sm) : run E (.call 117 [.t (.list (l.map trmT))]) = some (.res [xB (updsOK l)] []) := by
  rw [run_call E 117 _ rfl Tryz.func117 rfl rfl rfl (by simp)]
  have hc := containsFunc_219_0 l 220 (fun r => !updOK r) (by omega) rfl (by simp) (fun r hr => updClosure r (h r hr))
  rw [any_not_all] at hc
  have h1 := inR l.length 1 4
  unfold updsOK
  cases hi : in1 1 4 l.length with
  | false => rw [hi] at h1; simp [h1]
  | true => rw [hi] at h1; simp [h1, hc, -List.all_eq_true]
theorem specUpdates (l : List Trm) (hl : l.length < 4294967296) (h : ∀ r ∈ l, r.sm) : run E (.call 110 [.t (.list (l.map trmT))]) = some (.res [xB (updsOK l)] []) := by
  rw [run_call E 110 _ rfl Tryz.func110 rfl rfl rfl (by simp)]
  have h1 := l01In1 l.length 1 4
  have lp := fun b (hb : b = l.all updOK) => sk (fun s o q hI => loop_for (c := loopAt Tryz.f110 0) (N := 19)
    (fun i s o q => s 0 = .t (.list (l.map trmT)) ∧ s 3 = .t (.int .i64 i) ∧ b = (l.drop i).all updOK)
    (fun e s' o' q' => e = (if b then .exit 0 else .ret) ∧ s' 0 = .t (.list (l.map trmT)) ∧ (b = false → s' 2 = .t (.bool false))) l.length
    (by
      rintro i s o q hi ⟨g0, g3, hp⟩
      have hi' : (i : Int) < (l.length : Int) := by omega
      have hwi := wrap_succ (n := i) (by omega)
      have hxi : l[i]? = some l[i] := List.getElem?_eq_getElem hi
      have ht := specUpdateOK l[i] (h _ (List.getElem_mem hi))
      rw [List.drop_eq_getElem_cons hi, List.all_cons] at hp
      cases hok : updOK l[i] <;> simp [hok] at hp ht <;> simp [loopAt, loopsOf, Tryz.f110, g0, g3, hi', hxi, hwi, ht, hp])
    (by
      rintro s o q ⟨g0, g3, hp⟩
      simp at hp
      simp [loopAt, loopsOf, Tryz.f110, g0, g3, hp])
    l.length 0 s o q (by omega) hI)
  simp only [loopAt, loopsOf, Tryz.f110] at lp
  unfold updsOK
  cases hb : l.all updOK with
  | true =>
    obtain ⟨X, A, B, C, hx⟩ := lp true hb.symm
    simp [-List.all_eq_true, hb] at hx
    simp (maxDischargeDepth := 6) [hx, h1, -List.all_eq_true]
  | false =>
    obtain ⟨X, A, B, C, hx⟩ := lp false hb.symm
    simp [-List.all_eq_true, -List.all_eq_false, hb] at hx
    simp (maxDischargeDepth := 6) [hx, -List.all_eq_true, -List.all_eq_false]
theorem isPlace4 (n : Int) : run E (.call 91 [xI n, xI 4]) = some (.res [xB (in1 0 3 n)] []) := by
  rw [run_call E 91 _ rfl Tryz.func91 rfl rfl rfl (by simp)]
  have hw : IntKind.i64.wrap 3 = 3 := by decide
  simp [inR n 0 3, hw]
def cmdBody (c : Cmd) : Bool :=
  if c.kind ≤ 3 then true else nameP c.coll && (if c.kind = 4 then isDocP c.doc else if c.kind = 5 ∨ c.kind = 8 then queryOK c.q else if c.kind = 6 then filterOK c.q.filter && updsOK c.ups else if c.kind = 7 then filterOK c.q.filter else if c.kind = 9 then defOK c.d else nameP c.d.name)
def cmdOK (c : Cmd) : Bool := in1 1 10 c.kind && (in1 0 3 c.session && cmdBody c)
theorem in10 {k : Int} (h : in1 1 10 k = true) : k = 1 ∨ k = 2 ∨ k = 3 ∨ k = 4 ∨ k = 5 ∨ k = 6 ∨ k = 7 ∨ k = 8 ∨ k = 9 ∨ k = 10 := by
  unfold in1 at h
  simp at h
  omega
theorem defOK_name {d : Dfn} (h : defOK d = true) : nameP d.name = true := by
  unfold defOK at h
  simp only [Bool.and_eq_true] at h
  first | exact h.1 | exact h.1.1 | exact h.1.1.1 | exact h.1.1.1.1
theorem implCommandOK (c : Cmd) (h : c.Sm) : run E (.call 33 [.t (cmdT c)]) = some (.res [xB (cmdOK c)] []) := by
  rw [run_call E 33 _ rfl Tryz.func33 rfl rfl rfl (by simp)]
  have h1 := inR c.kind 1 10
  have h2 := isPlace4 c.session
  have h3 := isShort c.coll (by have := h.coll; omega)
  have h4 := isDoc c.doc h.doc
  have h5 := implQueryOK c.q h.q
  have h6 := implFilterOK c.q.filter h.q.filter
  have h7 := areUpdates c.ups h.ups.1 h.ups.2
  have h8 := implDefOK c.d h.d
  have h9 := isShort c.d.name (by have := h.d.1; omega)
  unfold cmdOK cmdBody
  cases c1 : in1 1 10 c.kind with
  | false => rw [c1] at h1; simp [h1]
  | true =>
    rw [c1] at h1
    cases c2 : in1 0 3 c.session with
    | false => rw [c2] at h2; simp [h1, h2]
    | true =>
      rw [c2] at h2
      have hk := in10 c1
      clear c1 c2
      generalize hkk : c.kind = k at *
      rcases hk with rfl | rfl | rfl | rfl | rfl | rfl | rfl | rfl | rfl | rfl
      · simp [hkk, h1, h2]
      · simp [hkk, h1, h2]
      · simp [hkk, h1, h2]
      all_goals
        cases c3 : nameP c.coll with
        | false => rw [c3] at h3; simp [hkk, h1, h2, h3]
        | true =>
          rw [c3] at h3
          cases c4 : filterOK c.q.filter <;> rw [c4] at h6 <;> simp [hkk, h1, h2, h3, h4, h5, h6, h7, h8, h9]
theorem specCommandOK (c : Cmd) (h : c.Sm) : run E (.call 31 [.t (cmdT c)]) = some (.res [xB (cmdOK c)] []) := by
  rw [run_call E 31 _ rfl Tryz.func31 rfl rfl rfl (by simp)]
  have h1 := l01In1 c.kind 1 10
  have h2 := l01In1 c.session 0 3
  have h3 := l01Name c.coll (by have := h.coll; omega)
  have h4 := l03Doc c.doc h.doc
  have h5 := specQueryOK c.q h.q
  have h6 := specFilterOK c.q.filter h.q.filter
  have h7 := specUpdates c.ups h.ups.1 h.ups.2
  have h8 := specDefOK c.d h.d
  have h9 := l01Name c.d.name (by have := h.d.1; omega)
  unfold cmdOK cmdBody
  cases c1 : in1 1 10 c.kind with
  | false => rw [c1] at h1; simp [h1]
  | true =>
    rw [c1] at h1
    cases c2 : in1 0 3 c.session with
    | false => rw [c2] at h2; simp [h1, h2]
    | true =>
      rw [c2] at h2
      have hk := in10 c1
      clear c1 c2
      generalize hkk : c.kind = k at *
      rcases hk with rfl | rfl | rfl | rfl | rfl | rfl | rfl | rfl | rfl | rfl
      · simp [hkk, h1, h2]
      · simp [hkk, h1, h2]
      · simp [hkk, h1, h2]
      all_goals
        cases c3 : nameP c.coll with
        | false => rw [c3] at h3; simp [hkk, h1, h2, h3]
        | true =>
          rw [c3] at h3
          cases c4 : filterOK c.q.filter <;> rw [c4] at h6 <;> cases c5 : nameP c.d.name <;> rw [c5] at h9 <;> cases c6 : defOK c.d <;> rw [c6] at h8 <;> first
            | (exact absurd ((defOK_name c6).symm.trans c5) (by decide))
            | simp [hkk, h1, h2, h3, h4, h5, h6, h7, h8, h9]
end Go.Yd
/- The law FnExactCommandOK over plain data. -/
set_option linter.unusedSimpArgs false
set_option linter.unusedVariables false
namespace Go.Yd
open Go.Ev Go.Proofs Go.Pu
set_option maxRecDepth 100000
set_option maxHeartbeats 16000000
theorem lawCommandOK (x : Cmd) (h : x.Wd) : run E (.call 6 [.t (cmdT x)]) = some (.res [xB true] []) := by
  rw [run_call E 6 _ rfl Tryz.func6 rfl rfl rfl (by simp)]
  have h1 := szLCmd x h 1048576 (by omega) (by omega)
  by_cases hn : szCmd x 1048576 < 0
  · simp [h1, hn]
  · have hs := szCmd_sm (by omega) (by omega) hn
    have h2 := toCmd x hs
    have h3 := specCommandOK x hs
    have h4 := implCommandOK x hs
    have h5 := eqCmd x hs
    have d10 := d6_10
    simp [regionOf, findR, pick, Tryz.f6] at d10
    have dd := fun st => run_region_draw E st 10 _ d10
    clear d10
    simp [h1, hn, h2, h3, h4, h5, dd]
end Go.Yd
