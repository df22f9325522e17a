/- Certifying: impl's CleanDone. -/
import Derived.Test.YtjbeigebbnonoaaGreatDoorPartCJ
import Derived.Test.YtjbeigebbnonoaaGreatDoorPartCH
namespace Go.Md
open Go.Ev Go.Proofs Go.Pu
set_option linter.unusedSimpArgs false
set_option linter.unusedVariables false
set_option maxRecDepth 100000
set_option maxHeartbeats 4000000
theorem indexFunc_176 (xs : List Dn) (g : Nat) (c0 : List T) (p : Dn → Bool) (hl : xs.length < 9223372036854775807) (hm : E.md g = []) (hf : E.flat g = true) (hp : ∀ x ∈ xs, run E (.call g [.t (dnT x), .dref c0]) = some (.res [xB (p x)] [])) :
    run E (.call 176 [.t (.list (xs.map dnT)), .fn g [c0]]) = some (.res [xI (idxP p xs)] []) := by
  rw [run_call E 176 _ rfl Tryz.func176 rfl rfl rfl (by simp)]
  rw [E_md] at hm
  have lp := fun (r : Int) (hr : r = idxP p xs) => sk (fun s o q hI => loop_for (c := loopAt Tryz.f176 0) (N := 19)
    (fun i s o q => s 0 = .t (.list (xs.map dnT)) ∧ s 1 = .fn g [.dptr c0] ∧ s 7 = .t (.int .i64 xs.length) ∧ s 8 = .t (.int .i64 i) ∧ r = if idxP p (xs.drop i) < 0 then -1 else idxP p (xs.drop i) + i)
    (fun e s' o' q' => e = (if r < 0 then .exit 0 else .ret) ∧ (0 ≤ r → s' 4 = .t (.int .i64 r))) xs.length
    (by
      rintro i s o q hi ⟨h0, h1, h7, h8, hr⟩
      have hd : xs.drop i = xs[i] :: xs.drop (i + 1) := by rw [List.drop_eq_getElem_cons hi]
      have hi' : (i : Int) < (xs.length : Int) := by omega
      have hw := wrap_succ (n := i) (by omega)
      have hx := hp xs[i] (List.getElem_mem hi)
      rw [hd, idxP] at hr
      cases hpx : p xs[i] with
      | true =>
        simp [hpx] at hr hx
        have hr' : ¬ r < 0 := by omega
        simp [-mdOf, loopAt, loopsOf, Tryz.f176, h0, h1, h7, h8, hi, hi', hx, hw, hm, hf, hr', hr]
      | false =>
        simp [hpx] at hr hx
        have hr2 : r = if idxP p (xs.drop (i + 1)) < 0 then -1 else idxP p (xs.drop (i + 1)) + ((i : Int) + 1) := by
          rw [hr]
          by_cases hq : idxP p (xs.drop (i + 1)) < 0
          · simp [hq]
          · have : ¬ idxP p (xs.drop (i + 1)) + 1 < 0 := by omega
            simp [hq, this]; omega
        clear hr
        simp [-mdOf, loopAt, loopsOf, Tryz.f176, h0, h1, h7, h8, hi, hi', hx, hw, hm, hf]
        exact hr2)
    (by
      rintro s o q ⟨h0, h1, h7, h8, hr⟩
      simp [idxP] at hr
      simp [loopAt, loopsOf, Tryz.f176, h0, h1, h7, h8, hr])
    xs.length 0 s o q (by omega) hI)
  simp only [loopAt, loopsOf, Tryz.f176] at lp
  obtain ⟨X, A, B, C, hx⟩ := lp _ rfl
  have hz : idxP p xs = if idxP p xs < 0 then -1 else idxP p xs := by
    cases xs with
    | nil => simp [idxP]
    | cons x r =>
      unfold idxP
      split
      · simp
      · split
        · simp
        · have : ¬ idxP p r + 1 < 0 := by omega
          simp [this]
  simp [← hz] at hx
  by_cases h : idxP p xs < 0
  · have h1 : idxP p xs = -1 := by rw [hz]; simp [h]
    simp [h] at hx
    simp [hx, h1]
  · have h2 : 0 ≤ idxP p xs := by omega
    simp [h, h2] at hx
    simp [hx]
theorem cleanClos (d : Dn) (n : Int) : run E (.call 125 [.t (dnT d), .dref [.int .i64 n]]) = some (.res [xB (decide (d.at_ ≤ n))] []) := by
  rw [run_call E 125 _ rfl Tryz.func125 rfl rfl rfl (by simp)]
  simp
theorem clean_take (n : Int) (l : List Dn) (j : Nat) (hj : j < l.length) : cleanP n (l.take (j + 1)) = cleanP n (l.take j) ++ (if n < l[j].at_ then [l[j]] else []) := by
  have ht : l.take (j + 1) = l.take j ++ [l[j]] := by rw [List.take_add_one, List.getElem?_eq_getElem hj]; rfl
  rw [ht, cleanP, List.filter_append]
  congr 1
  by_cases h : n < l[j].at_ <;> simp [h]
theorem clean_len (n : Int) (l : List Dn) (j : Nat) : (cleanP n (l.take j)).length ≤ j := by
  have h1 : (cleanP n (l.take j)).length ≤ (l.take j).length := List.length_filter_le _ _
  have h2 : (l.take j).length ≤ j := by rw [List.length_take]; omega
  omega
/-- What the walk has left in the row. -/
def CleanAt (n : Int) (l : List Dn) (i j : Nat) (W : List Dn) : Prop := W.length = l.length ∧ W.take i = cleanP n (l.take j) ∧ W.drop j = l.drop j ∧ i = (cleanP n (l.take j)).length
theorem cleanAt_keep {n : Int} {l W : List Dn} {i j : Nat} (hj : j < l.length) (h : CleanAt n l i j W) (hk : n < l[j].at_) : CleanAt n l (i + 1) (j + 1) (W.set i l[j]) := by
  obtain ⟨h1, h2, h3, h4⟩ := h
  have hij : i ≤ j := by rw [h4]; exact clean_len n l j
  have hc := clean_take n l j hj
  rw [if_pos hk] at hc
  refine ⟨by simp [h1], ?_, ?_, by rw [hc, h4]; simp⟩
  · rw [hc, ← h2, List.take_add_one, List.take_set_of_le (Nat.le_refl _)]
    congr 1
    rw [List.getElem?_set_self (by omega)]
    rfl
  · rw [List.drop_set_of_lt (by omega), List.drop_add_one_eq_tail_drop, h3, ← List.drop_add_one_eq_tail_drop]
theorem cleanAt_drop {n : Int} {l W : List Dn} {i j : Nat} (hj : j < l.length) (h : CleanAt n l i j W) (hk : ¬ n < l[j].at_) : CleanAt n l i (j + 1) W := by
  obtain ⟨h1, h2, h3, h4⟩ := h
  have hc := clean_take n l j hj
  rw [if_neg hk, List.append_nil] at hc
  refine ⟨h1, by rw [hc, h2], ?_, by rw [hc, h4]⟩
  rw [List.drop_add_one_eq_tail_drop, h3, ← List.drop_add_one_eq_tail_drop]
theorem del124_loop (l : List Dn) (hl : l.length < 4294967296) (n : Int) (i0 j0 : Nat) (hj0 : j0 ≤ l.length) (hc0 : CleanAt n l i0 j0 l) : ∀ s o q, (s 0 = .row 0 ∧ s 1 = .fn 125 [.dptr [.int .i64 n]] ∧ s 5 = .t (.int .i64 i0) ∧ s 6 = .t (.int .i64 j0) ∧ o 0 = .row 26 (l.map dnT) true ∧ 0 < q) →
    ∃ e s' o' q', run E (.code (.loop (loopAt Tryz.f124 0)) ⟨s, o, q, 42⟩) = some (.st e ⟨s', o', q', 42⟩) ∧ ∃ W : List Dn, CleanAt n l (cleanP n l).length l.length W ∧ (e = .exit 0 ∧ s' 0 = .row 0 ∧ s' 5 = .t (.int .i64 (cleanP n l).length) ∧ o' 0 = .row 26 (W.map dnT) true) := by
  intro s o q hI
  refine loop_for (c := loopAt Tryz.f124 0) (N := 42)
    (fun k s o q => ∃ (i : Nat) (W : List Dn), j0 ≤ l.length ∧ s 0 = .row 0 ∧ s 1 = .fn 125 [.dptr [.int .i64 n]] ∧ s 5 = .t (.int .i64 i) ∧ s 6 = .t (.int .i64 ((j0 + k : Nat) : Int)) ∧ o 0 = .row 26 (W.map dnT) true ∧ 0 < q ∧ CleanAt n l i (j0 + k) W)
    (fun e s' o' q' => ∃ W : List Dn, CleanAt n l (cleanP n l).length l.length W ∧ (e = .exit 0 ∧ s' 0 = .row 0 ∧ s' 5 = .t (.int .i64 (cleanP n l).length) ∧ o' 0 = .row 26 (W.map dnT) true)) (l.length - j0) ?_ ?_
    (l.length - j0) 0 s o q (by omega) ⟨i0, l, hj0, hI.1, hI.2.1, hI.2.2.1, hI.2.2.2.1, hI.2.2.2.2.1, hI.2.2.2.2.2, hc0⟩
  · rintro k s o q hk ⟨i, W, _, h0, h1, h5, h6, o0, p, hC⟩
    obtain ⟨j, hj⟩ : ∃ j, j = j0 + k := ⟨_, rfl⟩
    rw [← hj] at h6 hC
    have hjl : j < l.length := by omega
    obtain ⟨c1, c2, c3, c4⟩ := id hC
    have hij : i ≤ j := by rw [c4]; exact clean_len n l j
    have hj' : (j : Int) < (W.length : Int) := by omega
    have hjW : j < W.length := by omega
    have hiW : i < W.length := by omega
    have hiW' : (i : Int) < (W.length : Int) := by omega
    have hw := wrap_succ (n := j) (by omega)
    have hw2 := wrap_succ (n := i) (by omega)
    have hxi : W[j]? = some l[j] := by
      have := congrArg (fun z => z[0]?) c3
      simpa [List.getElem?_drop, List.getElem?_eq_getElem hjl] using this
    have hxi' : W[j] = l[j] := by rw [List.getElem?_eq_getElem hjW] at hxi; exact Option.some.inj hxi
    have hcl := cleanClos l[j] n
    obtain ⟨a1, a2⟩ : 0 ≠ q ∧ q ≠ 0 := ⟨by omega, by omega⟩
    by_cases ht : n < l[j].at_
    · have ht' : ¬ l[j].at_ ≤ n := by omega
      have hn := cleanAt_keep hjl hC ht
      have hset : (W.map dnT).set i (dnT l[j]) = (W.set i l[j]).map dnT := by rw [List.map_set]
      try simp at hcl
      simp [loopAt, loopsOf, Tryz.f124, h0, h1, h5, h6, o0, hj', hjW, hiW, hiW', hxi, hxi', hw, hw2, hcl, ht, ht', a1, a2, p]
      exact ⟨hj0, i + 1, by omega, by omega, W.set i l[j], hset, by rw [show j0 + (k + 1) = j + 1 by omega]; exact hn⟩
    · have ht' : l[j].at_ ≤ n := by omega
      have hn := cleanAt_drop hjl hC ht
      try simp at hcl
      simp [loopAt, loopsOf, Tryz.f124, h0, h1, h5, h6, o0, hj', hjW, hxi, hxi', hw, hw2, hcl, ht, ht', a1, a2, p]
      exact ⟨hj0, i, rfl, by omega, W, rfl, by rw [show j0 + (k + 1) = j + 1 by omega]; exact hn⟩
  · rintro s o q ⟨i, W, _, h0, h1, h5, h6, o0, p, hC⟩
    have hjj : j0 + (l.length - j0) = l.length := by omega
    rw [hjj] at h6 hC
    obtain ⟨c1, c2, c3, c4⟩ := id hC
    rw [List.take_of_length_le (Nat.le_refl _)] at c4
    subst c4
    have hW : ¬ (l.length : Int) < (W.length : Int) := by omega
    simp [loopAt, loopsOf, Tryz.f124, h0, h1, h5, h6, o0, hW]
    exact ⟨W, hC, rfl⟩
theorem clean_idx (n : Int) : ∀ l : List Dn, (idxP (fun d : Dn => decide (d.at_ ≤ n)) l = -1 ∧ cleanP n l = l) ∨ ∃ k : Nat, idxP (fun d : Dn => decide (d.at_ ≤ n)) l = k ∧ k < l.length ∧ CleanAt n l k (k + 1) l
  | [] => .inl ⟨by simp [idxP], rfl⟩
  | x :: r => by
    rw [idxP]
    by_cases h : x.at_ ≤ n
    · refine .inr ⟨0, by simp [h], by simp, rfl, ?_, ?_, ?_⟩
      · have : ¬ n < x.at_ := by omega
        simp [cleanP, this]
      · rfl
      · have : ¬ n < x.at_ := by omega
        simp [cleanP, this]
    · have h' : n < x.at_ := by omega
      have hc : ∀ z : List Dn, cleanP n (x :: z) = x :: cleanP n z := fun z => by simp [cleanP, h']
      rcases clean_idx n r with ⟨a, b⟩ | ⟨k, a, hk, c1, c2, c3, c4⟩
      · refine .inl ⟨by simp [h, a], ?_⟩
        rw [hc, b]
      · refine .inr ⟨k + 1, ?_, by simp; omega, rfl, ?_, rfl, ?_⟩
        · have : ¬ (k : Int) < 0 := by omega
          simp [h, a, this]
        · rw [List.take_succ_cons, List.take_succ_cons, hc, c2]
        · rw [List.take_succ_cons, hc, List.length_cons, ← c4]
theorem del_124 (xs : List Dn) (n : Int) (hl : xs.length < 4294967296) : run E (.call 124 [.row 26 (xs.map dnT), .fn 125 [[.int .i64 n]]]) = some (.res [.row 26 ((cleanP n xs).map dnT)] [none]) := by
  rw [run_call E 124 _ rfl Tryz.func124 rfl rfl rfl (by simp)]
  have hI := indexFunc_176 xs 125 [.int .i64 n] (fun d : Dn => decide (d.at_ ≤ n)) (by omega) rfl (by simp) (fun x _ => cleanClos x n)
  have hcl : (cleanP n xs).length ≤ xs.length := List.length_filter_le _ _
  rcases clean_idx n xs with ⟨a, b⟩ | ⟨k, a, hk, hC⟩
  · rw [a] at hI
    rw [b]
    try simp at hI
    simp [hI]
  · rw [a] at hI
    obtain ⟨X, S, O, Q, W, hW, hx⟩ := skG (fun W : List Dn => CleanAt n xs (cleanP n xs).length xs.length W) (cleanP n xs ++ xs.drop (cleanP n xs).length) ⟨by simp; omega, by rw [List.take_left, List.take_of_length_le (Nat.le_refl _)], by rw [List.drop_of_length_le (by simp; omega), List.drop_of_length_le (Nat.le_refl _)], by rw [List.take_of_length_le (Nat.le_refl _)]⟩ (fun s o q h => by
      obtain ⟨e, s', o', q', hr, m, hm, hk⟩ := del124_loop xs hl n k (k + 1) (by omega) hC s o q h
      exact ⟨e, s', o', q', hr, m, hm, hk⟩)
    simp only [loopAt, loopsOf, Tryz.f124] at hx
    try simp at hI hx
    have e1 : ¬ ((k : Int) = -1) := by omega
    have hw := wrap_succ (n := k) (by omega)
    have hWl : ∀ s o q, (W s o q).length = xs.length := fun s o q => (hW s o q).1
    have hWt : ∀ s o q, List.map dnT (cleanP n xs) = List.take (cleanP n xs).length (List.map dnT (W s o q)) := fun s o q => by
      rw [← List.map_take, (hW s o q).2.1, List.take_of_length_le (Nat.le_refl _)]
    simp [hI, hx, e1, hw, hWl, hcl]
    exact (hWt _ _ _).symm
theorem implCleanDone (l : List Dn) (hl : l.length ≤ 1000) (n : Int) (hs : ∀ x ∈ l, dnFit x) (hk : ∀ x ∈ l, DnK x) (hok : donesOK l = true) : run E (.call 22 [.t (.list (l.map dnT)), xI n]) = some (.res [.row 26 ((cleanP n l).map dnT), xI 0] []) := by
  have h65 : run E (.call 65 [.t (.list (l.map dnT)), xI n]) = some (.res [.row 26 ((cleanP n l).map dnT)] []) := by
    rw [run_call E 65 _ rfl Tryz.func65 rfl rfl rfl (by simp)]
    have h1 := cloneDone l (by omega) hk
    have h2 := del_124 l n (by omega)
    try simp at h1 h2
    simp [h1, h2]
  rw [run_call E 22 _ rfl Tryz.func22 rfl rfl rfl (by simp)]
  have h1 := implDones l (by omega) (fun x hx => (hs x hx).sm)
  rw [hok] at h1
  have hb : ¬ (4096 : Int) < (l.length : Int) := by omega
  try simp at h1 h65
  simp [h1, h65, hb]
set_option maxHeartbeats 8000000
theorem flats_nat : ∀ l : List Nat, T.flats (l.map intT) = true
  | [] => rfl
  | a :: r => by
    have := flats_nat r
    simp [T.flats, T.flat, this]
theorem certLaw_loop (C : List Dn) (hl : C.length ≤ 1000) (hC : ∀ x ∈ C, (x.inn && x.out) = false) (lv lb : Bool) (L : List Dn) (z : Int) : ∀ s o q, (s 5 = .row 0 ∧ s 9 = .row 5 ∧ s 10 = .t (.int .i64 z) ∧ s 24 = .t (.int .i64 0) ∧ o 0 = .row 26 (L.map dnT) lb ∧ o 5 = .row 26 (C.map dnT) lv) →
    ∃ e s' o' q', run E (.code (.loop (loopAt Tryz.f5 0)) ⟨s, o, q, 173⟩) = some (.st e ⟨s', o', q', 173⟩) ∧ (e = .exit 0 ∧ s' 5 = .row 0 ∧ s' 9 = .row 5 ∧ s' 10 = .t (.int .i64 z) ∧ o' 0 = .row 26 (L.map dnT) lb ∧ o' 5 = .row 26 (C.map dnT) lv) := by
  intro s o q hI
  refine loop_for (c := loopAt Tryz.f5 0) (N := 173)
    (fun i s o q => s 5 = .row 0 ∧ s 9 = .row 5 ∧ s 10 = .t (.int .i64 z) ∧ s 24 = .t (.int .i64 i) ∧ o 0 = .row 26 (L.map dnT) lb ∧ o 5 = .row 26 (C.map dnT) lv)
    (fun e s' o' q' => e = .exit 0 ∧ s' 5 = .row 0 ∧ s' 9 = .row 5 ∧ s' 10 = .t (.int .i64 z) ∧ o' 0 = .row 26 (L.map dnT) lb ∧ o' 5 = .row 26 (C.map dnT) lv) C.length ?_ ?_
    C.length 0 s o q (by omega) hI
  · rintro i s o q hi ⟨h5, h9, h10, h24, o0, o5⟩
    have hi' : (i : Int) < (C.length : Int) := by omega
    have hw := wrap_succ (n := i) (by omega)
    have hxi : C[i]? = some C[i] := List.getElem?_eq_getElem hi
    have hc := hC _ (List.getElem_mem hi)
    cases hin : C[i].inn with
    | false => simp [loopAt, loopsOf, Tryz.f5, h5, h9, h10, h24, o0, o5, hi, hi', hxi, hw, hin]
    | true =>
      have hout : C[i].out = false := by simpa [hin] using hc
      simp [loopAt, loopsOf, Tryz.f5, h5, h9, h10, h24, o0, o5, hi, hi', hxi, hw, hin, hout]
  · rintro s o q ⟨h5, h9, h10, h24, o0, o5⟩
    simp [loopAt, loopsOf, Tryz.f5, h5, h9, h10, h24, o0, o5]
theorem lawCertify (c0 c1 : Bytes) : run E (.call 5 [.t (.list (c0.map byteT)), .t (.list (c1.map byteT))]) = some (.res [xB true] []) := by
  rw [run_call E 5 _ rfl Tryz.func5 rfl rfl rfl (by simp)]
  by_cases n0 : (1048576 : Int) < (c0.length : Int)
  · simp [n0]
  by_cases n1 : (1048576 : Int) < (c1.length : Int)
  · simp [n0, n1]
  obtain ⟨L, hL, hD⟩ := donesOf c0 (by omega)
  obtain ⟨d, hd, hdf, hdat⟩ := doneOf c1 (by omega) 10 (by omega) (by omega)
  have q8 := specDoneOK d hdf.sm
  have q9 := implDoneOK d hdf.sm
  cases hdo : doneOK d with
  | false =>
    rw [hdo] at q8 q9
    try simp at hd q8 q9
    simp [n0, n1, hL, hd, q8, q9]
  | true =>
    rw [hdo] at q8 q9
    have hsm : ∀ x ∈ L, x.Sm := fun x hx => (hD.fit x hx).sm
    have hlen := hD.len
    have e1 := specEdges L (by omega) hsm
    have hb : ¬ 4096 < L.length := by omega
    rw [show edgesOut L = (if donesOK L then (edgesP L L.length, 0) else ([], 1)) from by unfold edgesOut; rw [if_neg hb]] at e1
    cases hk : donesOK L with
    | false =>
      rw [hk] at e1
      try simp at e1 hd q8 q9
      have f0 : T.flats [] = true := rfl
      simp [n0, n1, hL, hd, q8, q9, e1, f0]
    | true =>
      rw [hk] at e1
      have hKd : DnK d := done_K hdo hdf.sm
      have hKL : ∀ x ∈ L, DnK x := fun x hx => done_K (by have := (dones_each hk).1 x hx; unfold dnFine at this; simp only [Bool.and_eq_true] at this; exact this.1) (hsm x hx)
      have hat : ∀ x ∈ L, x.at_ < d.at_ := fun x hx => by have := hD.at_ x hx; omega
      have s1 := implCertify L d (by omega) hD.fit hKL hdf hKd hk hdo hat
      have s2 := specCertify L d (by omega) hD.fit hdf hk hdo hat
      have hd9 : dnFit ⟨9, d.at_, d.reads, d.changes, d.inn, d.out⟩ := ⟨⟨hdf.sm.reads, hdf.sm.changes⟩, hdf.rd, hdf.ch⟩
      have hK9 : DnK ⟨9, d.at_, d.reads, d.changes, d.inn, d.out⟩ := ⟨hKd.l, hKd.ne⟩
      have hdo9 : doneOK ⟨9, d.at_, d.reads, d.changes, d.inn, d.out⟩ = true := by
        unfold doneOK at hdo ⊢
        simp only [Bool.and_eq_true] at hdo ⊢
        obtain ⟨h1, ⟨⟨⟨_, h3⟩, h4⟩, h5⟩, h6⟩ := hdo
        refine ⟨h1, ⟨⟨⟨?_, h3⟩, h4⟩, h5⟩, h6⟩
        rw [times_spec]
        simp only [hdat]
        decide
      have s3 := implCertify L ⟨9, d.at_, d.reads, d.changes, d.inn, d.out⟩ (by omega) hD.fit hKL hd9 hK9 hk hdo9 hat
      rw [cert_far (d := ⟨9, d.at_, d.reads, d.changes, d.inn, d.out⟩) (fun x hx => by have := hD.at_ x hx; show x.at_ ≤ 9; omega) (by omega)] at s3
      have hcode := cert_code L d (by omega)
      have hCl := (certOut_len L d).1
      have hCd := cert_dones hk hdo hat
      have hCf := cert_fit hD.fit hdf
      have hCK := cert_K hKL hKd
      obtain ⟨C, hC⟩ : ∃ C, C = (certOut L d).1 := ⟨_, rfl⟩
      rw [← hC] at s1 s2 hCl hCd hCf hCK
      have hCs : ∀ x ∈ C, x.Sm := fun x hx => (hCf x hx).sm
      have t1 := sameDones_self C (by omega) (fun x hx => fit_L (hCf x hx))
      have t2 := implCleanDone C (by omega) 5 hCf hCK hCd
      have t3 := specCleanDone C (by omega) 5 hCf hCd
      have t4 := sameDones_self (cleanP 5 C) (by have := List.length_filter_le (fun d : Dn => decide (5 < d.at_)) C; unfold cleanP; omega) (fun x hx => fit_L (hCf x (List.mem_filter.1 (show x ∈ C.filter _ from hx)).1))
      have t5 := implEdges C (by omega) hCs
      have t6 := specEdges C (by omega) hCs
      have hbC : ¬ 4096 < C.length := by omega
      rw [show edgesOut C = (edgesP C C.length, 0) from by unfold edgesOut; rw [if_neg hbC, hCd]; rfl] at t5 t6
      rw [show edgesX C = .row 3 ((edgesP C C.length).map intT) from by unfold edgesX; rw [if_neg hbC, hCd]; rfl] at t5
      have t7 := sameInts_self (edgesP C C.length) (by
        have := edgesP_len C C.length
        have : C.length * (2 * C.length) ≤ 8 * (2 * 8) := Nat.mul_le_mul (by omega) (Nat.mul_le_mul (Nat.le_refl _) (by omega))
        omega)
      have t8 := sameDones_self L (by omega) (fun x hx => fit_L (hD.fit x hx))
      have hio : ∀ x ∈ C, (x.inn && x.out) = false := fun x hx => by
        have := (dones_each hCd).1 x hx
        unfold dnFine at this
        simp only [Bool.and_eq_true, Bool.not_eq_true'] at this
        exact this.2
      obtain ⟨ed, hed⟩ : ∃ ed, ed = edgesP C C.length := ⟨_, rfl⟩
      obtain ⟨el, hel⟩ : ∃ el, el = edgesP L L.length := ⟨_, rfl⟩
      have hee : C = L → ed = el := fun h => by rw [hed, hel, h]
      rw [← hed] at t5 t6 t7
      rw [← hel] at e1
      clear hed hel
      generalize cleanP 5 C = CL at *
      have fe := flats_nat ed
      have fl := flats_nat el
      rcases hcode with ⟨hz, x, l', hE, hx, hl'⟩ | ⟨hz, hE⟩
      · rw [hE] at hC
        simp only at hC
        rw [hz] at s1 s2
        obtain ⟨X1, A1, B1, C1, hx1⟩ := sk (certLaw_loop C (by omega) hio false false L 0)
        simp only [loopAt, loopsOf, Tryz.f5] at hx1
        try simp at e1 hd q8 q9 s1 s2 s3 t1 t2 t3 t4 t5 t6 t7 t8 hx1
        have hw := wrap_succ (n := L.length) (by omega)
        have hlC : C.length = L.length + 1 := by rw [hC]; simp [hl']
        have hgx : C[L.length]? = some x := by rw [hC, ← hl']; simp
        have hx10 : x.at_ = 10 := by rw [hx, hdat]; rfl
        have hlt : (L.length : Int) < (L.length : Int) + 1 := by omega
        have hlt2 : L.length < C.length := by omega
        have hgx2 : C[L.length] = x := by rw [List.getElem?_eq_getElem hlt2] at hgx; exact Option.some.inj hgx
        simp [n0, n1, hL, hd, q8, q9, e1, s1, s2, s3, t1, t2, t3, t4, t5, t6, t7, fe, fl, hx1, hw, hlC, hgx, hx10, hlt, hgx2]
      · have hCL : C = L := by rw [hC, hE]
        have hE2 := hee hCL
        rw [hCL] at s1 s2 t1 t2 t3 t5 t6 hio
        rw [hE2] at t5 t6 t7 fe
        obtain ⟨X1, A1, B1, C1, hx1⟩ := sk (certLaw_loop L (by omega) hio false false L (certOut L d).2)
        simp only [loopAt, loopsOf, Tryz.f5] at hx1
        have hw := wrap_succ (n := L.length) (by omega)
        try simp at e1 hd q8 q9 s1 s2 s3 t1 t2 t3 t4 t5 t6 t7 t8
        rcases hz with hz | hz
        · rw [hz] at s1 s2 hx1
          try simp at s1 s2 hx1
          simp [n0, n1, hL, hd, q8, q9, e1, s1, s2, s3, t1, t2, t3, t4, t5, t6, t7, t8, fe, fl, hx1, hw]
        · rw [hz] at s1 s2 hx1
          try simp at s1 s2 hx1
          simp [n0, n1, hL, hd, q8, q9, e1, s1, s2, s3, t1, t2, t3, t4, t5, t6, t7, t8, fe, fl, hx1, hw]
end Go.Md
