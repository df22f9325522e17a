/- EdgesOf: both sides. -/
import Derived.Test.YtgfdeomfociobaaGreatDoorPartNI
import Derived.Test.YtgfdeomfociobaaGreatDoorPartNJ
set_option linter.unusedSimpArgs false
set_option linter.unusedVariables false
namespace Go.Nd
open Go.Ev Go.Proofs Go.Pu
set_option maxRecDepth 100000
set_option maxHeartbeats 16000000
theorem specEdges_in (l : List Dn) (hn : l.length ≤ 30) (hf : ∀ d ∈ l, dnFit d) (i : Nat) (hi : i < l.length) (pre : List Nat) (hp : pre.length ≤ 2000) (r0 : Nat) : ∀ s o q, (s 0 = .t (.list (l.map dnT)) ∧ s 4 = .row r0 ∧ s 5 = .t (.int .i64 i) ∧ s 6 = .t (.int .i64 0) ∧ o r0 = .row 3 (pre.map intT) true ∧ r0 < q) →
    ∃ e s' o' q', run E (.code (.loop (loopAt Tryz.f41 1)) ⟨s, o, q, 48⟩) = some (.st e ⟨s', o', q', 48⟩) ∧ ∃ r : Nat, (e = .exit 2 ∧ s' 0 = .t (.list (l.map dnT)) ∧ s' 4 = .row r ∧ s' 5 = .t (.int .i64 i) ∧ o' r = .row 3 ((pre ++ edgesI l i l.length).map intT) true ∧ r < q') := by
  intro s o q hI
  have d12 := d41_12
  simp [regionOf, findR, pick, Tryz.f41] at d12
  have dd := fun st => run_region_draw E st 12 _ d12
  clear d12
  refine loop_for (c := loopAt Tryz.f41 1) (N := 48)
    (fun k s o q => ∃ r : Nat, s 0 = .t (.list (l.map dnT)) ∧ s 4 = .row r ∧ s 5 = .t (.int .i64 i) ∧ s 6 = .t (.int .i64 k) ∧ o r = .row 3 ((pre ++ edgesI l i k).map intT) true ∧ r < q)
    (fun e s' o' q' => ∃ r : Nat, (e = .exit 2 ∧ s' 0 = .t (.list (l.map dnT)) ∧ s' 4 = .row r ∧ s' 5 = .t (.int .i64 i) ∧ o' r = .row 3 ((pre ++ edgesI l i l.length).map intT) true ∧ r < q')) l.length ?_ ?_
    l.length 0 s o q (by omega) (by
      obtain ⟨h0, h4, h5, h6, ho, hq⟩ := hI
      exact ⟨r0, h0, h4, h5, h6, by simpa [edgesI] using ho, hq⟩)
  · rintro k s o q hk ⟨r, h0, h4, h5, h6, ho, hq⟩
    have hk' : (k : Int) < (l.length : Int) := by omega
    have hi' : (i : Int) < (l.length : Int) := by omega
    have hwk := wrap_succ (n := k) (by omega)
    have hxi : l[i]? = some l[i] := List.getElem?_eq_getElem hi
    have hxk : l[k]? = some l[k] := List.getElem?_eq_getElem hk
    have hc := specAhead l[i] l[k] (hf _ (List.getElem_mem hi)) (hf _ (List.getElem_mem hk))
    have hes := edgesI_succ l i k
    have hel := edgesI_len l i k
    rw [aheadAt_eq hi hk] at hes
    generalize aheadP l[i] l[k] = z at *
    generalize edgesI l i k = es at *
    have hr2 : ([0, 1] : List Nat) = List.range 2 := rfl
    have hq1 : r ≠ q := by omega
    have hq2 : q ≠ r := by omega
    have hcat : pre.length + es.length + 2 ≤ 140737488355328 := by omega
    have hcat2 : (pre.length + es.length + 2) * 8 ≤ 140737488355328 := by omega
    by_cases hik : i = k
    · subst hik
      simp at hes
      simp [loopAt, loopsOf, Tryz.f41, dd, h0, h4, h5, h6, ho, hi, hi', hwk, hes, hq]
    · have hik' : ¬ ((i : Int) = (k : Int)) := by omega
      have hbn : ((i : Int) != (k : Int)) = true := by simp; omega
      cases z with
      | false =>
        simp at hes
        simp [loopAt, loopsOf, Tryz.f41, dd, h0, h4, h5, h6, ho, hk', hi', hxi, hxk, hwk, hc, hik', hbn, hes, hq]
      | true =>
        simp [hik] at hes
        simp [loopAt, loopsOf, Tryz.f41, dd, h0, h4, h5, h6, ho, hk', hi', hxi, hxk, hwk, hc, hik', hbn, hes, hq, hr2, hq1, hq2, hcat, hcat2]
  · rintro s o q ⟨r, h0, h4, h5, h6, ho, hq⟩
    simp at ho
    simp [loopAt, loopsOf, Tryz.f41, h0, h4, h5, h6, ho, hq]
theorem specEdges_loop (l : List Dn) (hn : l.length ≤ 30) (hf : ∀ d ∈ l, dnFit d) (r0 : Nat) : ∀ s o q, (s 0 = .t (.list (l.map dnT)) ∧ s 4 = .row r0 ∧ s 5 = .t (.int .i64 0) ∧ o r0 = .row 3 [] true ∧ r0 < q) →
    ∃ e s' o' q', run E (.code (.loop (loopAt Tryz.f41 0)) ⟨s, o, q, 48⟩) = some (.st e ⟨s', o', q', 48⟩) ∧ ∃ r : Nat, (e = .exit 0 ∧ s' 4 = .row r ∧ o' r = .row 3 ((edgesP l l.length).map intT) true ∧ r < q') := by
  intro s o q hI
  refine loop_for (c := loopAt Tryz.f41 0) (N := 48)
    (fun i s o q => ∃ r : Nat, s 0 = .t (.list (l.map dnT)) ∧ s 4 = .row r ∧ s 5 = .t (.int .i64 i) ∧ o r = .row 3 ((edgesP l i).map intT) true ∧ r < q)
    (fun e s' o' q' => ∃ r : Nat, (e = .exit 0 ∧ s' 4 = .row r ∧ o' r = .row 3 ((edgesP l l.length).map intT) true ∧ r < q')) l.length ?_ ?_
    l.length 0 s o q (by omega) (by
      obtain ⟨h0, h4, h5, ho, hq⟩ := hI
      exact ⟨r0, h0, h4, h5, by simpa [edgesP] using ho, hq⟩)
  · rintro i s o q hi ⟨r, h0, h4, h5, ho, hq⟩
    have hi' : (i : Int) < (l.length : Int) := by omega
    have hwi := wrap_succ (n := i) (by omega)
    have hlen := edgesP_len l i
    have hlen2 : i * (2 * l.length) ≤ 2000 := by
      have := Nat.mul_le_mul (show i ≤ 30 by omega) (show 2 * l.length ≤ 60 by omega)
      omega
    obtain ⟨X, A, B, C, M, hx⟩ := sk1 (specEdges_in l hn hf i hi (edgesP l i) (by omega) r)
    simp only [loopAt, loopsOf, Tryz.f41] at hx
    rw [← edgesP_succ] at hx
    simp at hx
    simp [loopAt, loopsOf, Tryz.f41, h0, h4, h5, ho, hi', hwi, hq, hx]
  · rintro s o q ⟨r, h0, h4, h5, ho, hq⟩
    simp [loopAt, loopsOf, Tryz.f41, h0, h4, h5, ho, hq]
def edgesOut (l : List Dn) : List Nat × Int := if 4096 < l.length then ([], 2) else if donesOK l then (edgesP l l.length, 0) else ([], 1)
theorem dones_fit {l : List Dn} (h : donesOK l = true) (hs : ∀ d ∈ l, d.Sm) : l.length ≤ 30 ∧ ∀ d ∈ l, dnFit d := by
  unfold donesOK at h
  simp only [Bool.and_eq_true, decide_eq_true_eq] at h
  refine ⟨h.2, fun d hd => done_fit ?_ (hs d hd)⟩
  have h1 := steps_all.1 h.1
  obtain ⟨i, hi, rfl⟩ := List.getElem_of_mem hd
  have h2 := h1 i hi
  cases i with
  | zero =>
    rw [seq_zero hi] at h2
    unfold dnFine at h2
    simp only [Bool.and_eq_true] at h2
    exact h2.1
  | succ k =>
    rw [seq_succ hi] at h2
    unfold dnFine at h2
    simp only [Bool.and_eq_true] at h2
    exact h2.1.1
theorem specEdges (l : List Dn) (hl : l.length < 4294967296) (h : ∀ d ∈ l, d.Sm) : run E (.call 41 [.t (.list (l.map dnT))]) = some (.res [.row 3 ((edgesOut l).1.map intT), xI (edgesOut l).2] []) := by
  rw [run_call E 41 _ rfl Tryz.func41 rfl rfl rfl (by simp)]
  unfold edgesOut
  have h1 := specDones l hl h
  by_cases hlen : 4096 < l.length
  · have hlen' : (4096 : Int) < (l.length : Int) := by omega
    simp [hlen, hlen']
  · have hlen' : ¬ (4096 : Int) < (l.length : Int) := by omega
    cases hd : donesOK l with
    | false =>
      rw [hd] at h1
      simp [hlen, hlen', h1]
    | true =>
      rw [hd] at h1
      obtain ⟨hn, hf⟩ := dones_fit hd h
      obtain ⟨X, A, B, C, M, hx⟩ := sk1 (specEdges_loop l hn hf 0)
      simp only [loopAt, loopsOf, Tryz.f41] at hx
      simp at hx
      simp [hlen, hlen', h1, hx]
abbrev dnB (d : Dn) : Ob := .box 59 [.t (.int .i64 d.snap), .t (.int .i64 d.at_), .t (.list (d.reads.map rdT)), .t (.list (d.changes.map chgT)), .t (.bool d.inn), .t (.bool d.out)]
theorem implEdges_in (l : List Dn) (hn : l.length ≤ 30) (hf : ∀ d ∈ l, dnFit d) (i : Nat) (hi : i < l.length) (pre : List Nat) (hp : pre.length ≤ 2000) (r0 a : Nat) : ∀ s o q, (s 0 = .t (.list (l.map dnT)) ∧ s 4 = .row r0 ∧ s 5 = .t (.int .i64 i) ∧ s 6 = .ptr a 0 ∧ s 18 = .t (.list (l.map dnT)) ∧ s 19 = .t (.int .i64 l.length) ∧ s 20 = .t (.int .i64 i) ∧ s 25 = .t (.list (l.map dnT)) ∧ s 26 = .t (.int .i64 l.length) ∧ s 27 = .t (.int .i64 0) ∧ o r0 = .row 3 (pre.map intT) true ∧ o a = dnB l[i] ∧ r0 < q ∧ a < q ∧ r0 ≠ a) →
    ∃ e s' o' q', run E (.code (.loop (loopAt Tryz.f43 1)) ⟨s, o, q, 48⟩) = some (.st e ⟨s', o', q', 48⟩) ∧ ∃ r : Nat, (e = .exit 3 ∧ s' 0 = .t (.list (l.map dnT)) ∧ s' 4 = .row r ∧ s' 18 = .t (.list (l.map dnT)) ∧ s' 19 = .t (.int .i64 l.length) ∧ s' 20 = .t (.int .i64 i) ∧ o' r = .row 3 ((pre ++ edgesI l i l.length).map intT) true ∧ r < q') := by
  intro s o q hI
  refine loop_for (c := loopAt Tryz.f43 1) (N := 48)
    (fun k s o q => ∃ r : Nat, s 0 = .t (.list (l.map dnT)) ∧ s 4 = .row r ∧ s 5 = .t (.int .i64 i) ∧ s 6 = .ptr a 0 ∧ s 18 = .t (.list (l.map dnT)) ∧ s 19 = .t (.int .i64 l.length) ∧ s 20 = .t (.int .i64 i) ∧ s 25 = .t (.list (l.map dnT)) ∧ s 26 = .t (.int .i64 l.length) ∧ s 27 = .t (.int .i64 k) ∧ o r = .row 3 ((pre ++ edgesI l i k).map intT) true ∧ o a = dnB l[i] ∧ r < q ∧ a < q ∧ r ≠ a)
    (fun e s' o' q' => ∃ r : Nat, (e = .exit 3 ∧ s' 0 = .t (.list (l.map dnT)) ∧ s' 4 = .row r ∧ s' 18 = .t (.list (l.map dnT)) ∧ s' 19 = .t (.int .i64 l.length) ∧ s' 20 = .t (.int .i64 i) ∧ o' r = .row 3 ((pre ++ edgesI l i l.length).map intT) true ∧ r < q')) l.length ?_ ?_
    l.length 0 s o q (by omega) (by
      obtain ⟨h0, h4, h5, h6, h18, h19, h20, h25, h26, h27, ho, ha, hq, hqa, hra⟩ := hI
      exact ⟨r0, h0, h4, h5, h6, h18, h19, h20, h25, h26, h27, by simpa [edgesI] using ho, ha, hq, hqa, hra⟩)
  · rintro k s o q hk ⟨r, h0, h4, h5, h6, h18, h19, h20, h25, h26, h27, ho, ha, hq, hqa, hra⟩
    have hk' : (k : Int) < (l.length : Int) := by omega
    have hwk := wrap_succ (n := k) (by omega)
    have hxk : l[k]? = some l[k] := List.getElem?_eq_getElem hk
    have hc := implAhead l[i] l[k] (hf _ (List.getElem_mem hi)) (hf _ (List.getElem_mem hk))
    have hes := edgesI_succ l i k
    have hel := edgesI_len l i k
    rw [aheadAt_eq hi hk] at hes
    generalize aheadP l[i] l[k] = z at *
    generalize edgesI l i k = es at *
    have hr2 : ([0, 1] : List Nat) = List.range 2 := rfl
    have q1 : r ≠ q := by omega
    have q2 : q ≠ r := by omega
    have q3 : a ≠ q := by omega
    have q4 : q ≠ a := by omega
    have q5 : r ≠ q + 1 := by omega
    have q6 : q + 1 ≠ r := by omega
    have q7 : a ≠ q + 1 := by omega
    have q8 : a ≠ r := fun e => hra e.symm
    have q9 : a ≠ q + 1 + 1 := by omega
    have q10 : a ≠ q + 2 := by omega
    have hcat : pre.length + es.length + 2 ≤ 140737488355328 := by omega
    have hcat2 : (pre.length + es.length + 2) * 8 ≤ 140737488355328 := by omega
    by_cases hik : i = k
    · subst hik
      simp at hes
      simp [loopAt, loopsOf, Tryz.f43, h0, h4, h5, h6, h18, h19, h20, h25, h26, h27, ho, ha, hk, hk', hxk, hwk, hes, q1, q2, q3, q4, q8]
      try omega
    · have hik' : ¬ ((i : Int) = (k : Int)) := by omega
      have hbn : ((i : Int) != (k : Int)) = true := by simp; omega
      cases z with
      | false =>
        simp at hes
        simp [loopAt, loopsOf, Tryz.f43, h0, h4, h5, h6, h18, h19, h20, h25, h26, h27, ho, ha, hk, hk', hxk, hwk, hc, hik', hbn, hes, q1, q2, q3, q4, q8]
        try omega
      | true =>
        simp [hik] at hes
        simp [loopAt, loopsOf, Tryz.f43, h0, h4, h5, h6, h18, h19, h20, h25, h26, h27, ho, ha, hk, hk', hxk, hwk, hc, hik', hbn, hes, hr2, q1, q2, q3, q4, q5, q6, q7, q8, q9, q10, hcat, hcat2]
        try omega
  · rintro s o q ⟨r, h0, h4, h5, h6, h18, h19, h20, h25, h26, h27, ho, ha, hq, hqa, hra⟩
    simp at ho
    simp [loopAt, loopsOf, Tryz.f43, h0, h4, h5, h6, h18, h19, h20, h25, h26, h27, ho, hq]
theorem implEdges_loop (l : List Dn) (hn : l.length ≤ 30) (hf : ∀ d ∈ l, dnFit d) (r0 : Nat) : ∀ s o q, (s 0 = .t (.list (l.map dnT)) ∧ s 4 = .row r0 ∧ s 18 = .t (.list (l.map dnT)) ∧ s 19 = .t (.int .i64 l.length) ∧ s 20 = .t (.int .i64 0) ∧ o r0 = .row 3 [] true ∧ r0 < q) →
    ∃ e s' o' q', run E (.code (.loop (loopAt Tryz.f43 0)) ⟨s, o, q, 48⟩) = some (.st e ⟨s', o', q', 48⟩) ∧ ∃ r : Nat, (e = .exit 1 ∧ s' 4 = .row r ∧ o' r = .row 3 ((edgesP l l.length).map intT) true ∧ r < q') := by
  intro s o q hI
  refine loop_for (c := loopAt Tryz.f43 0) (N := 48)
    (fun i s o q => ∃ r : Nat, s 0 = .t (.list (l.map dnT)) ∧ s 4 = .row r ∧ s 18 = .t (.list (l.map dnT)) ∧ s 19 = .t (.int .i64 l.length) ∧ s 20 = .t (.int .i64 i) ∧ o r = .row 3 ((edgesP l i).map intT) true ∧ r < q)
    (fun e s' o' q' => ∃ r : Nat, (e = .exit 1 ∧ s' 4 = .row r ∧ o' r = .row 3 ((edgesP l l.length).map intT) true ∧ r < q')) l.length ?_ ?_
    l.length 0 s o q (by omega) (by
      obtain ⟨h0, h4, h18, h19, h20, ho, hq⟩ := hI
      exact ⟨r0, h0, h4, h18, h19, h20, by simpa [edgesP] using ho, hq⟩)
  · rintro i s o q hi ⟨r, h0, h4, h18, h19, h20, ho, hq⟩
    have hi' : (i : Int) < (l.length : Int) := by omega
    have hwi := wrap_succ (n := i) (by omega)
    have hxi : l[i]? = some l[i] := List.getElem?_eq_getElem hi
    have hlen := edgesP_len l i
    have hlen2 : i * (2 * l.length) ≤ 2000 := by
      have := Nat.mul_le_mul (show i ≤ 30 by omega) (show 2 * l.length ≤ 60 by omega)
      omega
    have q1 : r ≠ q := by omega
    have q2 : q ≠ r := by omega
    obtain ⟨X, A, B, C, M, hx⟩ := sk1 (implEdges_in l hn hf i hi (edgesP l i) (by omega) r q)
    simp only [loopAt, loopsOf, Tryz.f43] at hx
    rw [← edgesP_succ] at hx
    simp at hx
    have hrq : r < q + 1 := by omega
    simp [loopAt, loopsOf, Tryz.f43, h0, h4, h18, h19, h20, ho, hi, hi', hxi, hwi, hq, hrq, q1, q2, hx]
  · rintro s o q ⟨r, h0, h4, h18, h19, h20, ho, hq⟩
    simp [loopAt, loopsOf, Tryz.f43, h0, h4, h18, h19, h20, ho, hq]
def edgesX (l : List Dn) : X := if 4096 < l.length then .nil else if donesOK l then .row 3 ((edgesP l l.length).map intT) else .nil
theorem implEdges (l : List Dn) (hl : l.length < 4294967296) (h : ∀ d ∈ l, d.Sm) : run E (.call 43 [.t (.list (l.map dnT))]) = some (.res [edgesX l, xI (edgesOut l).2] []) := by
  rw [run_call E 43 _ rfl Tryz.func43 rfl rfl rfl (by simp)]
  unfold edgesOut edgesX
  have h1 := implDones l hl h
  by_cases hlen : 4096 < l.length
  · have hlen' : (4096 : Int) < (l.length : Int) := by omega
    simp [hlen, hlen']
  · have hlen' : ¬ (4096 : Int) < (l.length : Int) := by omega
    cases hd : donesOK l with
    | false =>
      rw [hd] at h1
      simp [hlen, hlen', h1]
    | true =>
      rw [hd] at h1
      obtain ⟨hn, hf⟩ := dones_fit hd h
      obtain ⟨X, A, B, C, M, hx⟩ := sk1 (implEdges_loop l hn hf 0)
      simp only [loopAt, loopsOf, Tryz.f43] at hx
      simp at hx
      simp [hlen, hlen', h1, hx]
end Go.Nd
/- The law FnExactEdgesOf over plain data. -/
set_option linter.unusedSimpArgs false
set_option linter.unusedVariables false
namespace Go.Nd
open Go.Ev Go.Proofs Go.Pu
set_option maxRecDepth 100000
set_option maxHeartbeats 16000000
theorem lawEdges_body (l : List Dn) (hw : l.length < 4294967296) (hs : ∀ d ∈ l, d.Sm) (hc : cntDs l ≤ 16777216) (z : Int) (hz : ¬ z < 0) (h1 : run E (.call 40 [.t (.list (l.map dnT)), xI 1048576]) = some (.res [xI z] [])) : run E (.call 8 [.t (.list (l.map dnT))]) = some (.res [xB true] []) := by
  rw [run_call E 8 _ rfl Tryz.func8 rfl rfl rfl (by simp)]
  have h2 := toDnS l hw (fun x hx => toDnD x (hs x hx))
  have h3 := specEdges l hw hs
  have h4 := implEdges l hw hs
  have h5 := eq_45 l (by omega) (fun x hx => eqDn x (hs x hx))
  obtain ⟨bs, h6, hbs⟩ := markDoneS l 1 (by omega) (by omega) (fun d hd => ⟨(hs d hd).changes.1, (hs d hd).reads.1, fun r hr => ⟨((hs d hd).reads.2 r hr).filter.1, fun c hcm => (((hs d hd).reads.2 r hr).filter.2 c hcm).1⟩⟩)
  rw [show ((1 : Nat) : Int) = 1 from rfl] at h6
  have hown := dnsX_own l
  have hdat := dnsX_dat l
  have hpl : (dnsX l).plain = false := srX_plain
  have hge : ¬ ((1 + cntDs l : Nat) : Int) < 0 := by omega
  generalize dnsX l = D at *
  generalize (l.map dnT) = dl at *
  generalize ((1 + cntDs l : Nat) : Int) = km at *
  obtain ⟨V0, A0, n0, i0, hb0, H0, c0, m0, low0⟩ := made hown 0 (fun _ => Ob.dead)
  by_cases hok : l.length ≤ 4096 ∧ donesOK l = true
  · obtain ⟨es, hes, he1, he2⟩ : ∃ es : List Nat, es.length ≤ 2000 ∧ edgesX l = .row 3 (es.map intT) ∧ edgesOut l = (es, 0) := by
      refine ⟨edgesP l l.length, ?_, ?_, ?_⟩
      · have h7 := edgesP_len l l.length
        have h8 := (dones_fit hok.2 hs).1
        have h9 := Nat.mul_le_mul (show l.length ≤ 30 by omega) (show 2 * l.length ≤ 60 by omega)
        omega
      · unfold edgesX
        rw [if_neg (by omega), if_pos hok.2]
      · unfold edgesOut
        rw [if_neg (by omega), if_pos hok.2]
    rw [he2] at h3 h4
    rw [he1] at h4
    have h7 := eqIntS es (by omega)
    have h8 := markIntS es 1 (by omega) (by omega)
    have h9 := heldIntS es.length 1 (by omega) (by omega)
    rw [show ((1 : Nat) : Int) = 1 from rfl] at h8 h9
    have hge2 : ¬ ((1 + es.length : Nat) : Int) < 0 := by omega
    have hfl := flats_ints es
    have hfl2 := flats_ints (marksI 1 es.length)
    generalize ((1 + es.length : Nat) : Int) = ki at *
    generalize (marksI 1 es.length).map intT = ms at *
    generalize es.map intT = es' at *
    obtain ⟨V1, A1, n1, i1, hb1, H1, c1, m1, low1⟩ := made hown (n0 + 1) (upd A0 n0 (.row 3 es' true))
    obtain ⟨V2, A2, n2, i2, hb2, H2, c2, m2, low2⟩ := made hown (n1 + 1) (upd A1 n1 (.row 3 es' true))
    have H12 : Held 3 A2 V1 D i1 := H1.frame (fun i hi => by
      have := c1 i hi
      rw [low2 i (by omega), upd_ne _ _ (by omega)])
    have r0 := fun s q N => look_rule H0 (by omega) s q N
    have r1 := fun s q N => look_rule H1 (by omega) s q N
    have r2 := fun s q N => look_rule H2 (by omega) s q N
    have r12 := fun s q N => look_rule H12 (by omega) s q N
    rw [hdat] at r0 r1 r2 r12
    have g1 := fun s q N => give_rule H12 (by omega) hpl ⟨s, A2, q, N⟩ (fun _ _ => rfl)
    have hrg := fun st st0 => back_rule H12 hbs st st0
    have hnd := H12.nodup
    have a1 : A1 n0 = .row 3 es' true := by rw [low1 n0 (by omega), show ∀ (o : Nat → Ob) i x, upd o i x i = x from fun _ _ _ => by simp [upd]]
    have a2 : A2 n0 = .row 3 es' true := by rw [low2 n0 (by omega), upd_ne _ _ (by omega), a1]
    have a3 : A2 n1 = .row 3 es' true := by rw [low2 n1 (by omega), show ∀ (o : Nat → Ob) i x, upd o i x i = x from fun _ _ _ => by simp [upd]]
    have k0 : deadO i1 A2 n0 = .row 3 es' true := by rw [dead_out (fun hm => by have := c1 _ hm; omega), a2]
    have k1 : deadO i1 A2 n1 = .row 3 es' true := by rw [dead_out (fun hm => by have := c1 _ hm; omega), a3]
    generalize hA3 : deadO i1 A2 = A3 at *
    have e1 : n0 ≠ n1 := by omega
    have e2 : n1 ≠ n0 := by omega
    have hb3 : ∀ s o N, St.bind ⟨s, o, n2, N⟩ D = (D.bV n2, ⟨s, D.bO n2 o, D.bN n2, N⟩) := fun s o N => bind_own hown _
    have r3 : ∀ s q N o, St.giveRo ⟨s, D.bO n2 o, q, N⟩ (D.bV n2) = some (.t (.list dl)) := fun s q N o => by
      obtain ⟨ids, hh, _⟩ := X.bHeld D 3 n2 o hown
      rw [← hdat]
      exact (look_rule hh (by omega) s q N).1
    have l30 : ∀ o, D.bO n2 o n0 = o n0 := fun o => X.bO_low D n2 o n0 (by omega)
    have l31 : ∀ o, D.bO n2 o n1 = o n1 := fun o => X.bO_low D n2 o n1 (by omega)
    have hn3 := X.bN_le D n2
    generalize D.bN n2 = n3 at *
    have e3 : n0 ≠ n3 := by omega
    have e4 : n1 ≠ n3 := by omega
    have e5 : n3 ≠ n0 := by omega
    have e6 : n3 ≠ n1 := by omega
    clear H0 H1 H2 H12 low0 low1 low2 c0 c1 c2
    simp [h1, hz, h2, h3, h4, h5, h6, h7, h8, h9, hge, hge2, hb0, hb1, hb2, r0, r1, r2, r12, g1, hrg, hnd, a1, a2, a3, k0, k1, hA3, e1, e2, e3, e4, e5, e6, hb3, r3, l30, l31, hfl, hfl2, bind_tt, bind_row, bind_nil, kill_dead, deadO_nil, dead_one, ro_row, ro_nil, ro_list, ro_int, rid_row, rid_nil, rid_t, mut_row, mut_nil, mid_row, mid_nil, rg_row, rg_nil, -St.bind, -kill, -St.giveRo, -St.roIds, -St.giveMut, -St.mutIds, -St.regain]
  · obtain ⟨c, he1, he2⟩ : ∃ c : Int, edgesX l = .nil ∧ edgesOut l = ([], c) := by
      unfold edgesX edgesOut
      by_cases hlen : 4096 < l.length
      · exact ⟨2, by rw [if_pos hlen], by rw [if_pos hlen]⟩
      · have hd : ¬ donesOK l = true := fun hd => hok ⟨by omega, hd⟩
        exact ⟨1, by rw [if_neg hlen, if_neg hd], by rw [if_neg hlen, if_neg hd]⟩
    rw [he2] at h3 h4
    rw [he1] at h4
    have h7 := eqIntS [] (by simp)
    have h8 := markIntS_nil 1 (by omega)
    have h9 := heldIntS 0 1 (by omega) (by omega)
    simp [marksI] at h3 h4 h7 h8 h9
    obtain ⟨V1, A1, n1, i1, hb1, H1, c1, m1, low1⟩ := made hown (n0 + 1) (upd A0 n0 (.row 3 [] true))
    obtain ⟨V2, A2, n2, i2, hb2, H2, c2, m2, low2⟩ := made hown n1 A1
    have H12 : Held 3 A2 V1 D i1 := H1.frame (fun i hi => by
      have := c1 i hi
      rw [low2 i (by omega)])
    have r0 := fun s q N => look_rule H0 (by omega) s q N
    have r1 := fun s q N => look_rule H1 (by omega) s q N
    have r2 := fun s q N => look_rule H2 (by omega) s q N
    have r12 := fun s q N => look_rule H12 (by omega) s q N
    rw [hdat] at r0 r1 r2 r12
    have g1 := fun s q N => give_rule H12 (by omega) hpl ⟨s, A2, q, N⟩ (fun _ _ => rfl)
    have hrg := fun st st0 => back_rule H12 hbs st st0
    have hnd := H12.nodup
    have a1 : A1 n0 = .row 3 [] true := by rw [low1 n0 (by omega), show ∀ (o : Nat → Ob) i x, upd o i x i = x from fun _ _ _ => by simp [upd]]
    have a2 : A2 n0 = .row 3 [] true := by rw [low2 n0 (by omega), a1]
    have k0 : deadO i1 A2 n0 = .row 3 [] true := by rw [dead_out (fun hm => by have := c1 _ hm; omega), a2]
    generalize hA3 : deadO i1 A2 = A3 at *
    have hb3 : ∀ s o N, St.bind ⟨s, o, n2, N⟩ D = (D.bV n2, ⟨s, D.bO n2 o, D.bN n2, N⟩) := fun s o N => bind_own hown _
    have r3 : ∀ s q N o, St.giveRo ⟨s, D.bO n2 o, q, N⟩ (D.bV n2) = some (.t (.list dl)) := fun s q N o => by
      obtain ⟨ids, hh, _⟩ := X.bHeld D 3 n2 o hown
      rw [← hdat]
      exact (look_rule hh (by omega) s q N).1
    have l30 : ∀ o, D.bO n2 o n0 = o n0 := fun o => X.bO_low D n2 o n0 (by omega)
    have hn3 := X.bN_le D n2
    generalize D.bN n2 = n3 at *
    have e3 : n0 ≠ n3 := by omega
    have e5 : n3 ≠ n0 := by omega
    clear H0 H1 H2 H12 low0 low1 low2 c0 c1 c2
    simp [h1, hz, h2, h3, h4, h5, h6, h7, h8, h9, hge, T.flats, hb0, hb1, hb2, r0, r1, r2, r12, g1, hrg, hnd, a1, a2, k0, hA3, e3, e5, hb3, r3, l30, bind_tt, bind_row, bind_nil, kill_dead, deadO_nil, dead_one, ro_row, ro_nil, ro_list, ro_int, rid_row, rid_nil, rid_t, mut_row, mut_nil, mid_row, mid_nil, rg_row, rg_nil, -St.bind, -kill, -St.giveRo, -St.roIds, -St.giveMut, -St.mutIds, -St.regain]
theorem lawEdgesOf (l : List Dn) (h : W l.length ∧ ∀ d ∈ l, d.Wd) : run E (.call 8 [.t (.list (l.map dnT))]) = some (.res [xB true] []) := by
  have hW := h.1
  unfold W at hW
  have h1 := sz_40 l szDn (by omega) (fun x hx l h0 hm => szLDn x (h.2 x hx) l h0 hm) (fun x _ k hk => szDn_le x k hk) 1048576 (by omega) (by omega)
  by_cases hn : lstSz szDn l 1048576 < 0
  · rw [run_call E 8 _ rfl Tryz.func8 rfl rfl rfl (by simp)]
    simp [h1, hn]
  · obtain ⟨b1, b2⟩ := lstSz_all (P := fun y : Dn => y.Sm) (m := 1048576) (by omega) (by omega) (fun y _ k hk => szDn_le y k hk) (fun y _ k hk hm h => szDn_sm hk hm h) hn
    have hb := szDns_bd (l := l) (k := 1048576) (by omega) hn
    exact lawEdges_body l (by omega) b2 (by omega) _ hn h1
end Go.Nd
