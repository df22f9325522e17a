/- Keys: impl's eight, fallen. -/
import Derived.Test.YtdpkfljiipkhfaaGreatDoorPartTA
import Derived.Test.YtdpkfljiipkhfaaGreatDoorPartRG
namespace Go.Rd
open Go.Ev Go.Proofs Go.Pu
set_option linter.unusedSimpArgs false
set_option linter.unusedVariables false
set_option maxRecDepth 100000
set_option maxHeartbeats 16000000
theorem numP_get (n : Int) : ∀ (k i : Nat), i < k → (numP n k)[i]? = some (byteAt n (k - 1 - i))
  | 0, i, h => by omega
  | k + 1, 0, h => by simp [numP]
  | k + 1, i + 1, h => by
    have := numP_get n k i (by omega)
    simp [numP, this]
    congr 1; omega
theorem eight (n : Int) : run E (.call 316 [xI n]) = some (.res [.row 5 ((numP n 8).map byteT)] []) := by
  rw [run_call E 316 _ rfl Tryz.func316 rfl rfl rfl (by simp)]
  obtain ⟨L, hL⟩ : ∃ L, L = (numP n 8).map byteT := ⟨_, rfl⟩
  have hLl : L.length = 8 := by rw [hL]; simp [numP_len]
  have lp := sk (fun s o q hI => loop_for (c := loopAt Tryz.f316 0) (N := 20)
    (fun i s o q => s 0 = .t (.int .i64 n) ∧ s 3 = .row 0 ∧ s 6 = .t (.int .i64 i) ∧ o 0 = .row 5 (L.take i ++ List.replicate (8 - i) (.int .u8 0)) true)
    (fun e s' o' q' => e = .exit 0 ∧ s' 3 = .row 0 ∧ o' 0 = .row 5 L true) 8
    (by
      rintro i s o q hi ⟨h0, h3, h6, ho⟩
      have hi' : (i : Int) < 8 := by omega
      have hw := wrap_succ (n := i) (by omega)
      obtain ⟨j, hj⟩ : ∃ j : Nat, j = 7 - i := ⟨_, rfl⟩
      have hw8 : IntKind.i64.wrap (8 * (i : Int)) = 8 * (i : Int) := wrap_of (by omega) (by omega)
      have hw56 : IntKind.i64.wrap (56 - 8 * (i : Int)) = 8 * (j : Int) := by rw [wrap_of (by omega) (by omega)]; omega
      have hneg : ¬ (8 * (j : Int) < 0) := by omega
      have hnat : (8 * (j : Int)).toNat = 8 * j := by omega
      have hmin : min (8 * j) IntKind.i64.bits = 8 * j := by simp [IntKind.bits]; omega
      have hb := byteAt_wrap n j
      have hx : L[i]? = some (byteT (byteAt n j)) := by
        rw [hL, List.getElem?_map, numP_get n 8 i hi, hj]; rfl
      have hget := mid_get L (T.int .u8 0) i 8 hi (by omega)
      have hset := mid_set L (T.int .u8 0) (byteT (byteAt n j)) i 8 hi hx
      have hge : (0 : Int) ≤ (i : Int) := by omega
      simp [loopAt, loopsOf, Tryz.f316, h0, h3, h6, hi', hw, ho, hw8, hw56, hneg, hnat, hmin, hb, hget, hset])
    (by
      rintro s o q ⟨h0, h3, h6, ho⟩
      have hfull : L.take 8 = L := List.take_of_length_le (by omega)
      simp [hfull] at ho
      simp [loopAt, loopsOf, Tryz.f316, h0, h3, h6, ho])
    8 0 s o q (by omega) hI)
  simp only [loopAt, loopsOf, Tryz.f316] at lp
  obtain ⟨X, A, B, C, hx⟩ := lp
  simp at hx
  rw [← hL]
  simp [hx]
theorem flats_bytes : ∀ (l : Bytes), T.flats (l.map byteT) = true
  | [] => rfl
  | b :: r => by simp [T.flats, T.flat, flats_bytes r]
theorem fallen (l : Bytes) (f : Bool) (hl : l.length < 4294967296) : run E (.call 303 [.row 5 (l.map byteT), xB f]) = some (.res [xS (if f then turnP l else l)] [some (.row 5 ((if f then turnP l else l).map byteT))]) := by
  rw [run_call E 303 _ rfl Tryz.func303 rfl rfl rfl (by simp)]
  cases f with
  | false =>
    have hb := toBytes_map l
    simp [hb, flats_bytes]
  | true =>
    have lp := sk (fun s o q hI => loop_for (c := loopAt Tryz.f303 0) (N := 23)
      (fun i s o q => s 0 = .row 0 ∧ s 8 = .row 0 ∧ s 9 = .t (.int .i64 l.length) ∧ s 10 = .t (.int .i64 i) ∧ o 0 = .row 5 ((turnP (l.take i) ++ l.drop i).map byteT) true)
      (fun e s' o' q' => e = .exit 0 ∧ s' 0 = .row 0 ∧ o' 0 = .row 5 ((turnP l).map byteT) true) l.length
      (by
        rintro i s o q hi ⟨h0, h8, h9, h10, ho⟩
        have hi' : (i : Int) < (l.length : Int) := by omega
        have hw := wrap_succ (n := i) (by omega)
        have htw := turn_wrap l[i]
        have e : l.take (i + 1) = l.take i ++ [l[i]] := by rw [List.take_add_one, List.getElem?_eq_getElem hi]; rfl
        have hli : (turnP (l.take i)).length = i := by simp [turnP]; omega
        have hget : ((turnP (l.take i) ++ l.drop i).map byteT)[i]? = some (byteT l[i]) := by
          rw [List.getElem?_map, List.getElem?_append_right (by omega), hli]
          simp [List.getElem?_eq_getElem hi]
        have hset : ((turnP (l.take i) ++ l.drop i).map byteT).set i (byteT (turnB l[i])) = (turnP (l.take (i + 1)) ++ l.drop (i + 1)).map byteT := by
          have et : turnP (l.take (i + 1)) = turnP (l.take i) ++ [turnB l[i]] := by rw [e]; simp only [turnP, List.map_append, List.map_cons, List.map_nil]
          rw [et, List.drop_eq_getElem_cons hi, List.map_append, List.set_append_right _ _ (by simp; omega)]
          have hd : (l[i] :: l.drop (i + 1)).map byteT = byteT l[i] :: (l.drop (i + 1)).map byteT := rfl
          have hz : i - ((turnP (l.take i)).map byteT).length = 0 := by simp; omega
          rw [hd, hz, List.set_cons_zero, List.map_append, List.map_append, List.map_cons, List.map_nil, List.append_assoc]
          rfl
        generalize (turnP (l.take i) ++ l.drop i).map byteT = m at *
        generalize (turnP (l.take (i + 1)) ++ l.drop (i + 1)).map byteT = m' at *
        simp [loopAt, loopsOf, Tryz.f303, h0, h8, h9, h10, hi', hw, ho, htw, hget, hset])
      (by
        rintro s o q ⟨h0, h8, h9, h10, ho⟩
        simp only [List.take_length, List.drop_length, List.append_nil] at ho
        simp [loopAt, loopsOf, Tryz.f303, h0, h8, h9, h10, ho])
      l.length 0 s o q (by omega) hI)
    simp only [loopAt, loopsOf, Tryz.f303] at lp
    obtain ⟨X, A, B, C, hx⟩ := lp
    have hb := toBytes_map (turnP l)
    have hf := flats_bytes (turnP l)
    simp only [turnP] at hf
    simp [turnP] at hx hb hf
    simp [hx, hb, turnP, hf]
theorem u8_wrap (n : Int) : IntKind.u8.wrap n = ((byteAt n 0).toNat : Int) := by
  have := byteAt_wrap n 0
  simpa using this
set_option maxHeartbeats 4000000
/-- The digits of a number ahead of a text. -/
def digs (n : Nat) (acc : Bytes) : Bytes := if h : n = 0 then acc else digs (n / 10) (byteAt (48 + (n : Int) % 10) 0 :: acc)
termination_by n
decreasing_by omega
theorem digs_len : ∀ (n : Nat) (acc : Bytes), (digs n acc).length ≤ acc.length + n := by
  intro n
  induction n using Nat.strongRecOn with
  | ind n ih =>
    intro acc
    rw [digs]
    by_cases h : n = 0
    · rw [dif_pos h]; omega
    · rw [dif_neg h]
      have := ih (n / 10) (by omega) (byteAt (48 + (n : Int) % 10) 0 :: acc)
      simp at this
      omega
def markT (n : Nat) : Bytes := if n = 0 then [109, 48] else 109 :: digs n []
theorem markText (n : Nat) (hn : n ≤ 1099511627776) : run E (.call 65 [xI n]) = some (.res [xS (markT n)] []) := by
  rw [run_call E 65 _ rfl Tryz.func65 rfl rfl rfl (by simp)]
  unfold markT
  by_cases h0 : n = 0
  · subst h0
    simp
  · have hpos : ¬ ((n : Int) ≤ 0) := by omega
    have lp := fun (R : Bytes) (hR : R = digs n []) => sk (fun s o q hI => loop_wf (c := loopAt Tryz.f65 0) (N := 20)
      (fun k s o q => ∃ m acc, s 0 = .t (.int .i64 (m : Nat)) ∧ s 3 = .t (.str acc) ∧ k = m ∧ acc.length + m ≤ 1099511627776 ∧ digs m acc = R)
      (fun e s' o' q' => e = .exit 0 ∧ s' 3 = .t (.str R))
      (by
        rintro k s o q ⟨m, acc, s0, s3, hk, hl, hp⟩
        rw [digs] at hp
        by_cases hm : m = 0
        · rw [dif_pos hm] at hp
          subst hm
          subst hp
          simp at s0
          simp [loopAt, loopsOf, Tryz.f65, s0, s3]
        · rw [dif_neg hm] at hp
          have hm' : (0 : Int) < (m : Int) := by omega
          have hmp : 0 < m := by omega
          have hw2 : IntKind.i64.wrap ((m : Int) / 10) = ((m / 10 : Nat) : Int) := by rw [wrap_of (by omega) (by omega)]; omega
          have hw3 : IntKind.i64.wrap (48 + (m : Int) % 10) = 48 + (m : Int) % 10 := wrap_of (by omega) (by omega)
          have hw4 := u8_wrap (48 + (m : Int) % 10)
          have hr1 : (m : Int).tmod 10 = (m : Int) % 10 := Int.tmod_eq_emod_of_nonneg (by omega)
          have hr2 : (m : Int).tdiv 10 = (m : Int) / 10 := Int.tdiv_eq_ediv_of_nonneg (by omega)
          have hcc : 1 + acc.length ≤ 140737488355328 := by omega
          simp [loopAt, loopsOf, Tryz.f65, s0, s3, hm', hmp, hr1, hr2, hw2, hw3, hw4, hcc]
          exact ⟨m / 10, by omega, m / 10, rfl, rfl, by omega, hp⟩)
      n s o q hI)
    simp only [loopAt, loopsOf, Tryz.f65] at lp
    obtain ⟨X, A, B, C, hx⟩ := lp _ rfl
    have hx' := fun s o q a0 a3 => hx s o q ⟨n, [], a0, a3, rfl, by simp; omega, rfl⟩
    clear hx lp
    simp at hx'
    have hdl := digs_len n []
    have hcc : 1 + (digs n []).length ≤ 140737488355328 := by simp at hdl; omega
    simp [hpos, h0, hx', hcc]
def marks (k n : Nat) : List Bytes := (List.range n).map fun i => markT (k + i)
def markP (k n : Nat) : List Prt := (List.range n).map fun i => ⟨markT (k + 2 * i), (k + 2 * i + 1) % 3 == 0⟩
theorem markP_len (k n : Nat) : (markP k n).length = n := by simp [markP]
theorem markPartS (xs : List Prt) (k : Nat) (hl : xs.length ≤ 4294967296) (hk : k ≤ 500000000) : run E (.call 19 [.row 62 (xs.map prtT), xI k]) = some (.res [xI (k + 2 * xs.length : Nat)] [some (.row 62 ((markP k xs.length).map prtT))]) := by
  rw [run_call E 19 _ rfl Tryz.func19 rfl rfl rfl (by simp)]
  have lp := sk (fun s o q hI => loop_for (c := loopAt Tryz.f19 0) (N := 30)
    (fun i s o q => s 0 = .row 0 ∧ s 1 = .t (.int .i64 (k + 2 * i : Nat)) ∧ s 5 = .t (.int .i64 i) ∧ o 0 = .row 62 ((markP k i ++ xs.drop i).map prtT) true)
    (fun e s' o' q' => e = .exit 0 ∧ s' 0 = .row 0 ∧ s' 1 = .t (.int .i64 (k + 2 * xs.length : Nat)) ∧ o' 0 = .row 62 ((markP k xs.length).map prtT) true) xs.length
    (by
      rintro i s o q hi ⟨h0, h1, h5, ho⟩
      have hd : markP k (i + 1) ++ xs.drop (i + 1) = (markP k i ++ xs.drop i).set i ⟨markT (k + 2 * i), (k + 2 * i + 1) % 3 == 0⟩ := by
        rw [List.set_append_right _ _ (by rw [markP_len]; exact Nat.le_refl _), markP_len, Nat.sub_self, List.drop_eq_getElem_cons hi, List.set_cons_zero]
        simp [markP, List.range_succ]
      have hlen : (markP k i ++ xs.drop i).length = xs.length := by simp [markP_len]; omega
      rw [hd]
      clear hd
      generalize markP k i ++ xs.drop i = ys at *
      have hi' : (i : Int) < (xs.length : Int) := by omega
      have hiy : i < ys.length := by omega
      have hwi := wrap_succ (n := i) (by omega)
      have hek2 : k + 2 * (i + 1) = k + 2 * i + 1 + 1 := by omega
      rw [hek2]
      generalize hKi : k + 2 * i = ki at *
      have hwk := wrap_succ (n := ki) (by omega)
      have hwk2 := wrap_succ (n := ki + 1) (by omega)
      have hmk := markText ki (by omega)
      have hxi : ys[i]? = some ys[i] := List.getElem?_eq_getElem hiy
      have hr1 : (((ki + 1 : Nat) : Int)).tmod 3 = (((ki + 1) % 3 : Nat) : Int) := by rw [Int.tmod_eq_emod_of_nonneg (by omega)]; omega
      have hw3 := wrap_nat (n := (ki + 1) % 3) (by omega)
      simp at hwk2 hr1 hw3
      simp [loopAt, loopsOf, Tryz.f19, h0, h1, h5, ho, hi', hi, hiy, hwi, hwk, hwk2, hmk, hxi, hlen, hr1, hw3]
      have hbb : (((ki : Int) + 1) % 3 == 0) = ((ki + 1) % 3 == 0) := by
        rw [Bool.eq_iff_iff]; simp only [beq_iff_eq]; omega
      rw [hbb])
    (by
      rintro s o q ⟨h0, h1, h5, ho⟩
      simp at ho
      simp [loopAt, loopsOf, Tryz.f19, h0, h1, h5, ho, markP_len])
    xs.length 0 s o q (by omega) hI)
  simp only [loopAt, loopsOf, Tryz.f19] at lp
  obtain ⟨X, A, B, C, hx⟩ := lp
  simp [markP] at hx
  simp [hx, markP]
set_option maxHeartbeats 16000000
theorem sz_10 (xs : List Val) (f : Val → Int → Int) (hl : xs.length < 9223372036854775807) (hf : ∀ x ∈ xs, ∀ l, 0 ≤ l → l ≤ 1048576 → run E (.call 34 [.t (valT x), xI l]) = some (.res [xI (f x l)] [])) (hle : ∀ x ∈ xs, ∀ k, 0 ≤ k → f x k ≤ k) (l : Int) (h0 : 0 ≤ l) (hm : l ≤ 1048576) :
    run E (.call 10 [.t (.list (xs.map valT)), xI l]) = some (.res [xI (lstSz f xs l)] []) := by
  rw [run_call E 10 _ rfl Tryz.func10 rfl rfl rfl (by simp)]
  have hw : IntKind.i64.wrap (l - (xs.length : Int)) = l - xs.length := wrap_of (by omega) (by omega)
  unfold lstSz szB
  by_cases hb : l - (xs.length : Int) < 0
  · simp [hw, hb]
  · have hb0 : ¬ l < (xs.length : Int) := by omega
    have lp := fun (r : Int) (hr : r = goSz f xs (l - xs.length)) => sk (fun s o q hI => loop_for (c := loopAt Tryz.f10 0) (N := 27)
      (fun i s o q => ∃ k : Int, s 0 = .t (.list (xs.map valT)) ∧ s 1 = .t (.int .i64 k) ∧ s 5 = .t (.int .i64 i) ∧ 0 ≤ k ∧ k ≤ 1048576 ∧ r = goSz f (xs.drop i) k)
      (fun e s' o' q' => e = (if r < 0 then .ret else .exit 0) ∧ (r < 0 → s' 4 = .t (.int .i64 r)) ∧ (0 ≤ r → s' 1 = .t (.int .i64 r))) xs.length
      (by
        rintro i s o q hi ⟨k, g0, g1, g5, hk0, hkm, hp⟩
        have hi' : (i : Int) < (xs.length : Int) := by omega
        have hwi := wrap_succ (n := i) (by omega)
        have hxi : xs[i]? = some xs[i] := List.getElem?_eq_getElem hi
        have hx := hf _ (List.getElem_mem hi) k hk0 hkm
        have hxl := hle _ (List.getElem_mem hi) k hk0
        rw [List.drop_eq_getElem_cons hi, goSz] at hp
        by_cases hn : f xs[i] k < 0
        · simp [hn] at hp
          simp [loopAt, loopsOf, Tryz.f10, g0, g1, g5, hi', hxi, hwi, hx, hn, hp]
        · simp [hn] at hp
          simp [loopAt, loopsOf, Tryz.f10, g0, g1, g5, hi', hxi, hwi, hx, hn]
          exact ⟨by omega, by omega, hp⟩)
      (by
        rintro s o q ⟨k, g0, g1, g5, hk0, hkm, hp⟩
        simp [goSz] at hp
        have hn : ¬ r < 0 := by omega
        have hn' : 0 ≤ r := by omega
        have hk1 : ¬ k < 0 := by omega
        simp [loopAt, loopsOf, Tryz.f10, g0, g1, g5, hp, hk1]
        try omega)
      xs.length 0 s o q (by omega) hI)
    simp only [loopAt, loopsOf, Tryz.f10] at lp
    obtain ⟨r, hr⟩ : ∃ r, r = goSz f xs (l - xs.length) := ⟨_, rfl⟩
    obtain ⟨X, A, B, C, hx⟩ := lp r hr
    have hx' := fun s o q a0 a1 a5 => hx s o q ⟨l - xs.length, a0, a1, a5, by omega, by omega, by simpa using hr⟩
    clear hx
    by_cases hn : r < 0
    · have hn' : ¬ 0 ≤ r := by omega
      simp [hn, hn'] at hx'
      simp [hw, hb, hb0, hx', hn, ← hr]
    · have hn' : 0 ≤ r := by omega
      simp [hn, hn'] at hx'
      simp [hw, hb, hb0, hx', hn, ← hr]
theorem to_13 (xs : List Val) (hl : xs.length < 4294967296) (hf : ∀ x ∈ xs, run E (.call 37 [.t (valT x)]) = some (.res [valX x] [])) :
    run E (.call 13 [.t (.list (xs.map valT))]) = some (.res [.row 74 (xs.map valT)] []) := by
  rw [run_call E 13 _ rfl Tryz.func13 rfl rfl rfl (by simp)]
  have lp := sk (fun s o q hI => loop_for (c := loopAt Tryz.f13 0) (N := 23)
    (fun i s o q => s 0 = .t (.list (xs.map valT)) ∧ s 3 = .row 0 ∧ s 4 = .t (.int .i64 i) ∧ 0 < q ∧ o 0 = .row 74 ((xs.map valT).take i ++ List.replicate (xs.length - i) (.agg [.int .i64 0, .int .i64 0, .str []])) true)
    (fun e s' o' q' => e = .exit 0 ∧ s' 3 = .row 0 ∧ o' 0 = .row 74 (xs.map valT) true) xs.length
    (by
      rintro i s o q hi ⟨g0, g3, g4, hq, ho⟩
      have hi' : (i : Int) < (xs.length : Int) := by omega
      have hwi := wrap_succ (n := i) (by omega)
      have hxi : xs[i]? = some xs[i] := List.getElem?_eq_getElem hi
      have hx := hf _ (List.getElem_mem hi)
      have hq0 : q ≠ 0 := by omega
      have h0q : 0 ≠ q := by omega
      have hget := mid_get (xs.map valT) (.agg [.int .i64 0, .int .i64 0, .str []]) i xs.length hi (by simp; omega)
      have hset := mid_set (xs.map valT) (.agg [.int .i64 0, .int .i64 0, .str []]) (valT xs[i]) i xs.length hi (by simp [hxi])
      simp [loopAt, loopsOf, Tryz.f13, g0, g3, g4, hi', hxi, hwi, hx, ho, hget, hset, hq0, h0q]
      try omega)
    (by
      rintro s o q ⟨g0, g3, g4, hq, ho⟩
      have hfull : (xs.map valT).take xs.length = xs.map valT := List.take_of_length_le (by simp)
      simp [hfull] at ho
      simp [loopAt, loopsOf, Tryz.f13, g0, g3, g4, ho])
    xs.length 0 s o q (by omega) hI)
  simp only [loopAt, loopsOf, Tryz.f13] at lp
  obtain ⟨X, A, B, C, hx⟩ := lp
  simp at hx
  have h1 : xs.length ≤ 140737488355328 := by omega
  have h2 : xs.length * 32 ≤ 140737488355328 := by omega
  simp [h1, h2, hx]
theorem eq_16 (xs : List Val) (hl : xs.length < 9223372036854775807) (hf : ∀ x ∈ xs, run E (.call 40 [.t (valT x), .t (valT x)]) = some (.res [xB true] [])) :
    run E (.call 16 [.t (.list (xs.map valT)), .t (.list (xs.map valT))]) = some (.res [xB true] []) := by
  rw [run_call E 16 _ rfl Tryz.func16 rfl rfl rfl (by simp)]
  have d6 := d16_6
  simp [regionOf, findR, pick, Tryz.f16] at d6
  have dd := fun st => run_region_draw E st 6 _ d6
  clear d6
  have lp := sk (fun s o q hI => loop_for (c := loopAt Tryz.f16 0) (N := 27)
    (fun i s o q => s 0 = .t (.list (xs.map valT)) ∧ s 1 = .t (.list (xs.map valT)) ∧ s 5 = .t (.int .i64 i))
    (fun e s' o' q' => e = .exit 0) xs.length
    (by
      rintro i s o q hi ⟨g0, g1, g5⟩
      have hi' : (i : Int) < (xs.length : Int) := by omega
      have hwi := wrap_succ (n := i) (by omega)
      have hxi : xs[i]? = some xs[i] := List.getElem?_eq_getElem hi
      have hx := hf _ (List.getElem_mem hi)
      simp [loopAt, loopsOf, Tryz.f16, dd, g0, g1, g5, hi', hxi, hwi, hx])
    (by
      rintro s o q ⟨g0, g1, g5⟩
      simp [loopAt, loopsOf, Tryz.f16, g0, g1, g5])
    xs.length 0 s o q (by omega) hI)
  simp only [loopAt, loopsOf, Tryz.f16] at lp
  obtain ⟨X, A, B, C, hx⟩ := lp
  simp at hx
  simp [hx]
def markV (k n : Nat) : List Val := (List.range n).map fun i => ⟨((k + 3 * i : Nat) : Int), ((k + 3 * i + 1 : Nat) : Int), markT (k + 3 * i + 2)⟩
theorem markV_len (k n : Nat) : (markV k n).length = n := by simp [markV]
theorem markV_get (k n i : Nat) (h : i < n) : (markV k n)[i]? = some ⟨((k + 3 * i : Nat) : Int), ((k + 3 * i + 1 : Nat) : Int), markT (k + 3 * i + 2)⟩ := by simp [markV, h]
theorem markValueS (xs : List Val) (k : Nat) (hl : xs.length ≤ 4294967296) (hk : k ≤ 500000000) : run E (.call 18 [.row 74 (xs.map valT), xI k]) = some (.res [xI (k + 3 * xs.length : Nat)] [some (.row 74 ((markV k xs.length).map valT))]) := by
  rw [run_call E 18 _ rfl Tryz.func18 rfl rfl rfl (by simp)]
  have lp := sk (fun s o q hI => loop_for (c := loopAt Tryz.f18 0) (N := 35)
    (fun i s o q => s 0 = .row 0 ∧ s 1 = .t (.int .i64 (k + 3 * i : Nat)) ∧ s 5 = .t (.int .i64 i) ∧ o 0 = .row 74 ((markV k i ++ xs.drop i).map valT) true)
    (fun e s' o' q' => e = .exit 0 ∧ s' 0 = .row 0 ∧ s' 1 = .t (.int .i64 (k + 3 * xs.length : Nat)) ∧ o' 0 = .row 74 ((markV k xs.length).map valT) true) xs.length
    (by
      rintro i s o q hi ⟨h0, h1, h5, ho⟩
      have hd : markV k (i + 1) ++ xs.drop (i + 1) = (markV k i ++ xs.drop i).set i ⟨((k + 3 * i : Nat) : Int), ((k + 3 * i + 1 : Nat) : Int), markT (k + 3 * i + 2)⟩ := by
        rw [List.set_append_right _ _ (by rw [markV_len]; exact Nat.le_refl _), markV_len, Nat.sub_self, List.drop_eq_getElem_cons hi, List.set_cons_zero]
        simp [markV, List.range_succ]
      have hlen : (markV k i ++ xs.drop i).length = xs.length := by simp [markV_len]; omega
      rw [hd]
      clear hd
      generalize markV k i ++ xs.drop i = ys at *
      have hi' : (i : Int) < (xs.length : Int) := by omega
      have hiy : i < ys.length := by omega
      have hwi := wrap_succ (n := i) (by omega)
      have hek2 : k + 3 * (i + 1) = k + 3 * i + 1 + 1 + 1 := by omega
      rw [hek2]
      generalize hKi : k + 3 * i = ki at *
      have hwk := wrap_succ (n := ki) (by omega)
      have hwk2 := wrap_succ (n := ki + 1) (by omega)
      have hwk3 := wrap_succ (n := ki + 2) (by omega)
      have hmk := markText (ki + 2) (by omega)
      have hxi : ys[i]? = some ys[i] := List.getElem?_eq_getElem hiy
      simp at hwk2 hwk3 hmk
      have ea : (ki : Int) + 1 + 1 = (ki : Int) + 2 := by omega
      have eb : (ki : Int) + 2 + 1 = (ki : Int) + 3 := by omega
      simp only [ea, eb] at hwk2 hwk3
      simp [loopAt, loopsOf, Tryz.f18, h0, h1, h5, ho, hi', hi, hiy, hwi, hwk, hwk2, hwk3, hmk, hxi, hlen, ea, eb])
    (by
      rintro s o q ⟨h0, h1, h5, ho⟩
      simp at ho
      simp [loopAt, loopsOf, Tryz.f18, h0, h1, h5, ho, markV_len])
    xs.length 0 s o q (by omega) hI)
  simp only [loopAt, loopsOf, Tryz.f18] at lp
  obtain ⟨X, A, B, C, hx⟩ := lp
  simp [markV] at hx
  simp [hx, markV]
theorem heldValueS (n k : Nat) (hl : n ≤ 400000) (hk : k ≤ 500000000) : run E (.call 20 [.t (.list ((markV k n).map valT)), xI k]) = some (.res [xI (k + 3 * n : Nat)] []) := by
  rw [run_call E 20 _ rfl Tryz.func20 rfl rfl rfl (by simp)]
  have d10 := d20_10
  simp [regionOf, findR, pick, Tryz.f20] at d10
  have dd := fun st => run_region_draw E st 10 _ d10
  clear d10
  have lp := sk (fun s o q hI => loop_for (c := loopAt Tryz.f20 0) (N := 41)
    (fun i s o q => s 0 = .t (.list ((markV k n).map valT)) ∧ s 1 = .t (.int .i64 (k + 3 * i : Nat)) ∧ s 5 = .t (.int .i64 i))
    (fun e s' o' q' => e = .exit 0 ∧ s' 1 = .t (.int .i64 (k + 3 * n : Nat))) n
    (by
      rintro i s o q hi ⟨h0, h1, h5⟩
      have hi' : (i : Int) < (n : Int) := by omega
      have hwi := wrap_succ (n := i) (by omega)
      have hg := markV_get k n i hi
      have hlen := markV_len k n
      generalize markV k n = ys at *
      have hek2 : k + 3 * (i + 1) = k + 3 * i + 1 + 1 + 1 := by omega
      rw [hek2]
      generalize hKi : k + 3 * i = ki at *
      have hwk := wrap_succ (n := ki) (by omega)
      have hwk2 := wrap_succ (n := ki + 1) (by omega)
      have hwk3 := wrap_succ (n := ki + 2) (by omega)
      have hmk := markText (ki + 2) (by omega)
      have hiy : i < ys.length := by omega
      have hgi : ys[i] = ⟨((ki : Nat) : Int), ((ki + 1 : Nat) : Int), markT (ki + 2)⟩ := by
        rw [List.getElem?_eq_getElem hiy] at hg
        exact Option.some.inj hg
      simp at hwk2 hwk3 hmk
      have ea : (ki : Int) + 1 + 1 = (ki : Int) + 2 := by omega
      have eb : (ki : Int) + 2 + 1 = (ki : Int) + 3 := by omega
      simp only [ea, eb] at hwk2 hwk3
      simp [loopAt, loopsOf, Tryz.f20, dd, h0, h1, h5, hi', hi, hiy, hwi, hwk, hwk2, hwk3, hmk, hg, hgi, hlen, ea, eb])
    (by
      rintro s o q ⟨h0, h1, h5⟩
      simp [loopAt, loopsOf, Tryz.f20, h0, h1, h5, markV_len])
    n 0 s o q (by omega) hI)
  simp only [loopAt, loopsOf, Tryz.f20] at lp
  obtain ⟨X, A, B, C, hx⟩ := lp
  simp at hx
  simp [hx]
theorem markValueS_nil (k : Nat) (hk : k ≤ 500000000) : run E (.call 18 [.nil, xI k]) = some (.res [xI k] [some .nil]) := by
  rw [run_call E 18 _ rfl Tryz.func18 rfl rfl rfl (by simp)]
  have lp := sk (fun s o q hI => loop_for (c := loopAt Tryz.f18 0) (N := 35)
    (fun i s o q => s 0 = .nil ∧ s 1 = .t (.int .i64 k) ∧ s 5 = .t (.int .i64 i))
    (fun e s' o' q' => e = .exit 0 ∧ s' 0 = .nil ∧ s' 1 = .t (.int .i64 k)) 0
    (by
      rintro i s o q hi ⟨h0, h1, h5⟩
      omega)
    (by
      rintro s o q ⟨h0, h1, h5⟩
      simp [loopAt, loopsOf, Tryz.f18, h0, h1, h5])
    0 0 s o q (by omega) hI)
  simp only [loopAt, loopsOf, Tryz.f18] at lp
  obtain ⟨X, A, B, C, hx⟩ := lp
  simp at hx
  simp [hx]
theorem flats_parts : ∀ xs : List Prt, T.flats (xs.map prtT) = true
  | [] => rfl
  | x :: r => by
    have := flats_parts r
    simp [T.flats, T.flat, this]
theorem sortOut_case (xs : List Val) (ps : List Prt) : (∃ ys : List Val, ys.length = xs.length ∧ ys.length ≤ 20 ∧ sortOut xs ps = (ys, 0) ∧ sortRow xs ps = .row 74 (ys.map valT)) ∨ ∃ c : Int, sortOut xs ps = ([], c) ∧ sortRow xs ps = .nil := by
  unfold sortOut sortRow
  by_cases h : 4096 < xs.length ∨ 4096 < ps.length
  · exact .inr ⟨2, by rw [if_pos h], by rw [if_pos h]⟩
  · rw [if_neg h, if_neg h]
    by_cases hb : (docsOK xs && partsOK ps) = true
    · rw [if_pos hb, if_pos hb]
      rw [Bool.and_eq_true] at hb
      have := (docsOK_all hb.1).1
      exact .inl ⟨_, by simp, by simp; omega, rfl, rfl⟩
    · rw [if_neg hb, if_neg hb]
      exact .inr ⟨1, rfl, rfl⟩
theorem lawSortDocs (xs : List Val) (ps : List Prt) (hxl : W xs.length) (hx : ∀ x ∈ xs, W x.t.length) (hp : prtsWd ps) : run E1 (.call 3 [.t (.list (xs.map valT)), .t (.list (ps.map prtT))]) = some (.res [xB true] []) := by
  rw [run_call E1 3 _ rfl Tryz.func3 rfl rfl rfl (by simp)]
  have h1 := up (sz_10 xs szVal (by unfold W at hxl; omega) (fun x hm l h0 hl => szValue x (hx x hm) l h0 hl) (fun x _ k hk => szVal_le x k hk) 1048576 (by omega) (by omega))
  have l1 : lstSz szVal xs 1048576 ≤ 1048576 := lstSz_le (by omega) (fun x _ k hk => szVal_le x k hk)
  by_cases n1 : lstSz szVal xs 1048576 < 0
  · simp [h1, n1]
  · obtain ⟨b1, b2⟩ := lstSz_all (P := fun v : Val => v.t.length < 4294967296) (m := 1048576) (by omega) (by omega) (fun x _ k hk => szVal_le x k hk) (fun x _ k hk hm h => by have := szB_bound h; omega) n1
    have h2 := up (szPartS ps hp (lstSz szVal xs 1048576) (by omega) (by omega))
    by_cases n2 : lstSz szPrt ps (lstSz szVal xs 1048576) < 0
    · simp [h1, n1, h2, n2]
    · have hsp := lstPrt_sm (by omega) (by omega) n2
      obtain ⟨c1, _⟩ := lstSz_all (P := fun _ : Prt => True) (m := 1048576) (by omega) (by omega) (fun x _ k hk => szPrt_le x k hk) (fun _ _ _ _ _ _ => trivial) n2
      have t1 := up (to_13 xs (by omega) (fun x _ => toValue x))
      have t2 := up (toPartS ps hsp.1)
      have p1 := up (specSortDocs xs ps (by omega) b2 hsp)
      have p2 := implSortDocs xs ps (by omega) b2 hsp
      have e1 := up (eq_16 xs (by omega) (fun x _ => eqValue x))
      have e2 := up (eqPartS ps hsp.1)
      have m1 := up (markValueS xs 1 (by omega) (by omega))
      have m2 := up (markPartS ps (1 + 3 * xs.length) (by omega) (by omega))
      rw [show ((1 : Nat) : Int) = 1 from rfl] at m1
      have hge : ¬ ((1 + 3 * xs.length + 2 * ps.length : Nat) : Int) < 0 := by omega
      generalize ((1 + 3 * xs.length + 2 * ps.length : Nat) : Int) = kk at *
      generalize ((1 + 3 * xs.length : Nat) : Int) = kx at *
      rcases sortOut_case xs ps with ⟨ys, g1, g2, g3, g4⟩ | ⟨c, g3, g4⟩
      · rw [g3] at p1 p2
        rw [g4] at p2
        have e3 := up (eq_16 ys (by omega) (fun x _ => eqValue x))
        have m3 := up (markValueS ys 1 (by omega) (by omega))
        have m4 := up (heldValueS ys.length 1 (by omega) (by omega))
        rw [show ((1 : Nat) : Int) = 1 from rfl] at m3 m4
        have hge2 : ¬ ((1 + 3 * ys.length : Nat) : Int) < 0 := by omega
        have hfy := flats_vals ys
        have hfn := flats_vals (markV 1 ys.length)
        generalize ((1 + 3 * ys.length : Nat) : Int) = ky at *
        have hfx := flats_vals xs
        have hfp := flats_parts ps
        have hfm := flats_vals (markV 1 xs.length)
        have hfq := flats_parts (markP (1 + 3 * xs.length) ps.length)
        generalize (markV 1 xs.length).map valT = mx at *
        generalize (markP (1 + 3 * xs.length) ps.length).map prtT = mp at *
        generalize (markV 1 ys.length).map valT = my at *
        generalize xs.map valT = xt at *
        generalize ps.map prtT = pt at *
        generalize ys.map valT = yt at *
        dsimp only at p1 p2
        clear g3 g4
        simp [h1, n1, h2, n2, t1, t2, p1, p2, e1, e2, e3, m1, m2, m3, m4, hge, hge2, hfx, hfp, hfm, hfq, hfy, hfn]
      · rw [g3] at p1 p2
        rw [g4] at p2
        have e3 := up (eq_16 [] (by simp) (fun x _ => eqValue x))
        have m3 := up (markValueS_nil 1 (by omega))
        have m4 := up (heldValueS 0 1 (by omega) (by omega))
        rw [show ((1 : Nat) : Int) = 1 from rfl] at m3 m4
        simp [markV] at m4 e3
        have hfx := flats_vals xs
        have hfp := flats_parts ps
        have hfm := flats_vals (markV 1 xs.length)
        have hfq := flats_parts (markP (1 + 3 * xs.length) ps.length)
        generalize (markV 1 xs.length).map valT = mx at *
        generalize (markP (1 + 3 * xs.length) ps.length).map prtT = mp at *
        generalize xs.map valT = xt at *
        generalize ps.map prtT = pt at *
        dsimp only [List.map_nil] at p1 p2
        clear g3 g4
        simp [h1, n1, h2, n2, t1, t2, p1, p2, e1, e2, e3, m1, m2, m3, m4, hge, hfx, hfp, hfm, hfq, show T.flats [] = true from rfl]
end Go.Rd
