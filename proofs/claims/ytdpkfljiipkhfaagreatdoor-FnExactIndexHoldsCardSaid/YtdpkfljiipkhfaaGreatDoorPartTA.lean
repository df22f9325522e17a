/- spec's order of values is impl's: the whole. -/
import Derived.Test.YtdpkfljiipkhfaaGreatDoorPartRG
import Derived.Shelf.SlGeneric
import Derived.Shelf.SlLaysF0
import Derived.Test.YtdpkfljiipkhfaaGreatDoorProg
import Derived.Test.YtdpkfljiipkhfaaGreatDoorPartRX
namespace Go.Rd
open Go.Ev Go.Proofs Go.Pu
set_option linter.unusedSimpArgs false
set_option linter.unusedVariables false
set_option maxRecDepth 100000
set_option maxHeartbeats 16000000
theorem cmpI_ne {a b : Int} (h : a ≠ b) : cmpI a b = if b < a then 1 else -1 := by
  unfold cmpI
  by_cases h1 : a < b
  · have : ¬ b < a := by omega
    simp [h1, this]
  · have : b < a := by omega
    simp [h1, this]
/-- Ahead of the bodies: kinds, numbers, one and the same text. -/
theorem specOrder_head (d : Nat) (a b : Val) (ha : okP d a = true) (hb : okP d b = true) (hal : a.t.length < 4294967296) (hbl : b.t.length < 4294967296) (h : ¬ (a.k = b.k ∧ a.n = b.n ∧ a.t ≠ b.t ∧ (a.k = 4 ∨ a.k = 5))) : run E (.call 205 [xV a, xV b]) = some (.res [xI (ordD d a b)] []) := by
  rw [run_call E 205 _ rfl Tryz.func205 rfl rfl rfl (by simp)]
  have b1 := l01Bit true
  have b0 := l01Bit false
  simp at b1 b0
  have w2 : IntKind.i64.wrap 2 = 2 := rfl
  have wm : IntKind.i64.wrap (-1) = -1 := rfl
  by_cases hk : a.k = b.k
  · by_cases hn : a.n = b.n
    · by_cases ht : a.t = b.t
      · have e : a = b := val_eq hk hn ht
        subst e
        rw [ordD_refl d a ha]
        simp
      · have hk4 : ¬ a.k = 4 := fun h4 => h ⟨hk, hn, ht, .inl h4⟩
        have hk5 : ¬ a.k = 5 := fun h5 => h ⟨hk, hn, ht, .inr h5⟩
        have h3 : a.k = 3 := by
          by_cases h3 : a.k = 3
          · exact h3
          · exact absurd ((okP_small ha h3 hk4 hk5).trans (okP_small hb (by omega) (by omega) (by omega)).symm) ht
        have ho : ordD d a b = Lib.compareBytes a.t b.t := by
          unfold ordD
          simp [hk, hn, cmpI_refl, orI]
          have e4 : ¬ b.k = 4 := by omega
          have e5 : ¬ b.k = 5 := by omega
          simp [e4, e5]
        rw [ho, cmpB_sign _ _ ht]
        have e3 : (a.k = 3) = True := eq_true h3
        have ek : (a.k = b.k) = True := eq_true hk
        have en : (a.n = b.n) = True := eq_true hn
        have et : (a.t = b.t) = False := eq_false ht
        have hne : (a.t == b.t) = false := by simpa using ht
        clear h3 hk hn ho
        cases hbl : Op.bytesLess a.t b.t <;> simp [e3, ek, en, et, hne, hbl, b1, b0, w2, wm]
    · have ho : ordD d a b = cmpI a.n b.n := by
        have : ¬ cmpI a.n b.n = 0 := by rw [cmpI_eq]; exact hn
        unfold ordD
        simp [hk, cmpI_refl, orI, this]
      rw [ho, cmpI_ne hn]
      have ek : (a.k = b.k) = True := eq_true hk
      have en : (a.n = b.n) = False := eq_false hn
      clear hk ho h
      by_cases hlt : b.n < a.n <;> simp [ek, en, hlt, b1, b0, w2, wm]
  · have ho : ordD d a b = cmpI a.k b.k := by
      have : ¬ cmpI a.k b.k = 0 := by rw [cmpI_eq]; exact hk
      unfold ordD
      simp [orI, this]
    rw [ho, cmpI_ne hk]
    have ek : (a.k = b.k) = False := eq_false hk
    clear ho h
    by_cases hlt : b.k < a.k <;> simp [ek, hlt, b1, b0, w2, wm]
theorem specOrder : ∀ (d : Nat) (a b : Val), okP d a = true → okP d b = true → a.t.length < 4294967296 → b.t.length < 4294967296 → run E (.call 205 [xV a, xV b]) = some (.res [xI (ordD d a b)] []) := by
  intro d
  induction d with
  | zero =>
    intro a b ha hb hal hbl
    refine specOrder_head 0 a b ha hb hal hbl ?_
    rintro ⟨_, _, _, h4 | h5⟩
    · obtain ⟨e, _, hd, _⟩ := okP_list ha h4; omega
    · obtain ⟨e, _, hd, _⟩ := okP_doc ha h5; omega
  | succ d ih =>
    intro a b ha hb hal hbl
    by_cases hh : a.k = b.k ∧ a.n = b.n ∧ a.t ≠ b.t ∧ (a.k = 4 ∨ a.k = 5)
    · obtain ⟨hk, hn, ht, h45⟩ := hh
      have b1 := l01Bit true
      have b0 := l01Bit false
      simp at b1 b0
      have w2 : IntKind.i64.wrap 2 = 2 := rfl
      have wm : IntKind.i64.wrap (-1) = -1 := rfl
      have ek : (a.k = b.k) = True := eq_true hk
      have en : (a.n = b.n) = True := eq_true hn
      have et : (a.t = b.t) = False := eq_false ht
      have hne : (a.t == b.t) = false := by simpa using ht
      have hnz : ¬ ordD (d + 1) a b = 0 := fun h0 => ht (by rw [ordD_zero (d + 1) a b ha hb h0])
      rw [run_call E 205 _ rfl Tryz.func205 rfl rfl rfl (by simp)]
      by_cases h4 : a.k = 4
      · obtain ⟨e, xs, hd, _, hi, hx⟩ := okP_list ha h4
        obtain ⟨e', ys, hd', _, hi', hy⟩ := okP_list hb (by omega)
        obtain rfl : d = e := by omega
        obtain rfl : d = e' := by omega
        obtain ⟨s1, s2⟩ := items_small hi
        obtain ⟨t1, t2⟩ := items_small hi'
        have i1 := l01Items a.t hal
        have i2 := l01Items b.t hbl
        rw [hi] at i1
        rw [hi'] at i2
        simp only [itemsX] at i1 i2
        have ho : ordD (d + 1) a b = ordL (ordD d) xs ys := by
          unfold ordD
          have e4 : b.k = 4 := by omega
          simp [hk, hn, cmpI_refl, orI, e4, itemsL, hi, hi']
        rw [ho] at hnz ⊢
        have e3 : (a.k = 3) = False := by simp; omega
        have e4 : (a.k = 4) = True := eq_true h4
        clear h4 h45 hk hn ho
        obtain ⟨w, hw⟩ : ∃ w, w = cutB (ordD d) xs ys := ⟨_, rfl⟩
        obtain ⟨X, A, B, C, hl⟩ := sk (specItems_loop d xs ys (by omega) (by omega) (fun x hx' y hy' => ih x y (hx x hx') (hy y hy') (by have := s2 x hx'; omega) (by have := t2 y hy'; omega)) _ w rfl hw)
        simp only [loopAt, loopsOf, Tryz.f205] at hl
        cases w with
        | true =>
          have hr := cutB_ord hw.symm
          have hlt1 : ((ys.length : Int) < (xs.length : Int)) = (ys.length < xs.length) := by simp
          simp at hl
          by_cases h1 : ys.length < xs.length
          · have h2 : ¬ xs.length < ys.length := by omega
            rw [hr, if_neg h2, if_pos h1]
            simp [ek, en, et, hne, e3, e4, i1, i2, hl, h1, hlt1, b1, b0, w2, wm]
          · have h2 : xs.length < ys.length := by
              by_cases h2 : xs.length < ys.length
              · exact h2
              · rw [hr, if_neg h2, if_neg h1] at hnz; exact absurd rfl hnz
            rw [hr, if_pos h2]
            simp [ek, en, et, hne, e3, e4, i1, i2, hl, h1, hlt1, b1, b0, w2, wm]
        | false =>
          simp at hl
          simp [ek, en, et, hne, e3, e4, i1, i2, hl, b1, b0, w2, wm]
      · have h5 : a.k = 5 := by omega
        obtain ⟨e, xs, hd, _, hi, _, hx⟩ := okP_doc ha h5
        obtain ⟨e', ys, hd', _, hi', _, hy⟩ := okP_doc hb (by omega)
        obtain rfl : d = e := by omega
        obtain rfl : d = e' := by omega
        obtain ⟨s1, s2⟩ := fields_small hi
        obtain ⟨t1, t2⟩ := fields_small hi'
        have i1 := l01Fields a.t hal
        have i2 := l01Fields b.t hbl
        rw [hi] at i1
        rw [hi'] at i2
        simp only [fieldsX] at i1 i2
        have ho : ordD (d + 1) a b = ordL (fldO d) xs ys := by
          unfold ordD
          have e4 : ¬ b.k = 4 := by omega
          have e5 : b.k = 5 := by omega
          simp [hk, hn, cmpI_refl, orI, e4, e5, fieldsL, hi, hi']
          rfl
        rw [ho] at hnz ⊢
        have e3 : (a.k = 3) = False := by simp; omega
        have e4 : (a.k = 4) = False := eq_false h4
        clear h4 h5 h45 hk hn ho
        obtain ⟨w, hw⟩ : ∃ w, w = cutB (fldO d) xs ys := ⟨_, rfl⟩
        obtain ⟨X, A, B, C, hl⟩ := sk (specFields_loop d xs ys (by omega) (by omega) (fun x hx' y hy' => ih x.v y.v (hx x hx').2 (hy y hy').2 (by have := s2 x hx'; omega) (by have := t2 y hy'; omega)) _ w rfl hw)
        simp only [loopAt, loopsOf, Tryz.f205] at hl
        cases w with
        | true =>
          have hr := cutB_ord hw.symm
          have hlt1 : ((ys.length : Int) < (xs.length : Int)) = (ys.length < xs.length) := by simp
          simp at hl
          by_cases h1 : ys.length < xs.length
          · have h2 : ¬ xs.length < ys.length := by omega
            rw [hr, if_neg h2, if_pos h1]
            simp [ek, en, et, hne, e3, e4, i1, i2, hl, h1, hlt1, b1, b0, w2, wm]
          · have h2 : xs.length < ys.length := by
              by_cases h2 : xs.length < ys.length
              · exact h2
              · rw [hr, if_neg h2, if_neg h1] at hnz; exact absurd rfl hnz
            rw [hr, if_pos h2]
            simp [ek, en, et, hne, e3, e4, i1, i2, hl, h1, hlt1, b1, b0, w2, wm]
        | false =>
          simp at hl
          simp [ek, en, et, hne, e3, e4, i1, i2, hl, b1, b0, w2, wm]
    · exact specOrder_head (d + 1) a b ha hb hal hbl hh
/-- A text's bytes with its zeros marked. -/
def escGo : Bytes → Bytes
  | [] => []
  | b :: r => (if b = 0 then [b, 255] else [b]) ++ escGo r
def escP (t : Bytes) : Bytes := escGo t ++ [0, 0]
def turnB (b : UInt8) : UInt8 := 255 - b
def turnP (t : Bytes) : Bytes := t.map turnB
theorem escGo_len : ∀ (t : Bytes), (escGo t).length ≤ 2 * t.length
  | [] => by simp [escGo]
  | b :: r => by
    have := escGo_len r
    unfold escGo
    split <;> simp <;> omega
theorem turn_wrap (b : UInt8) : IntKind.u8.wrap (255 - (b.toNat : Int)) = ((turnB b).toNat : Int) := by
  have hb : b.toNat < 256 := b.toNat_lt
  have h : (255 - b).toNat = 255 - b.toNat := by
    rw [UInt8.toNat_sub]
    simp
    omega
  unfold turnB
  rw [h]
  simp [IntKind.wrap, IntKind.bits, IntKind.signed]
  omega
theorem toBytes_app (l : Bytes) (m : List T) : toBytes (l.map byteT ++ m) = (toBytes m).map (l ++ ·) := by
  induction l with
  | nil => simp [toBytes]
  | cons b r ih =>
    simp only [List.map_cons, List.cons_append, toBytes, ih]
    cases toBytes m <;> simp
theorem toBytes_map (l : Bytes) : toBytes (l.map byteT) = some l := by
  have := toBytes_app l []
  simpa [toBytes] using this
theorem l04Turn (t : Bytes) (ht : t.length < 4294967296) : run E (.call 215 [xS t]) = some (.res [xS (turnP t)] []) := by
  rw [run_call E 215 _ rfl Tryz.func215 rfl rfl rfl (by simp)]
  have lp := sk1 (fun s o q hI => loop_for (c := loopAt Tryz.f215 0) (N := 21)
    (fun i s o q => ∃ r, s 0 = .t (.str t) ∧ s 3 = .row r ∧ s 4 = .t (.int .i64 i) ∧ o r = .row 5 ((turnP (t.take i)).map byteT) true ∧ r < q)
    (fun e s' o' q' => ∃ r, e = .exit 0 ∧ s' 3 = .row r ∧ o' r = .row 5 ((turnP t).map byteT) true) t.length
    (by
      rintro i s o q hi ⟨r, h0, h3, h4, ho, hrq⟩
      have hi' : (i : Int) < (t.length : Int) := by omega
      have hw := wrap_succ (n := i) (by omega)
      have hrn : r ≠ q := by omega
      have hrn2 : r ≠ q + 1 := by omega
      have hqn : q ≠ r := by omega
      have hl : (turnP (t.take i)).length = i := by simp [turnP]; omega
      have htw := turn_wrap t[i]
      have htk : (turnP (t.take (i + 1))).map byteT = (turnP (t.take i)).map byteT ++ [byteT (turnB t[i])] := by
        have e : t.take (i + 1) = t.take i ++ [t[i]] := by rw [List.take_add_one, List.getElem?_eq_getElem hi]; rfl
        rw [e]; simp only [turnP, List.map_append, List.map_cons, List.map_nil]
      have hpl : i + 1 ≤ 140737488355328 := by omega
      rw [htk]
      generalize turnP (t.take i) = l at *
      simp [loopAt, loopsOf, Tryz.f215, h0, h3, h4, hi, hi', hw, ho, hrn, hrn2, hqn, htw, hl, hpl]
      try omega)
    (by
      rintro s o q ⟨r, h0, h3, h4, ho, hrq⟩
      simp at ho
      simp [loopAt, loopsOf, Tryz.f215, h0, h3, h4, ho])
    t.length 0 s o q (by omega) hI)
  simp only [loopAt, loopsOf, Tryz.f215] at lp
  obtain ⟨X, A, B, C, M, hx⟩ := lp
  have hx' := fun s o q r a0 a3 a4 a5 a6 => hx s o q ⟨r, a0, a3, a4, a5, a6⟩
  clear hx
  simp [turnP] at hx'
  have hb := toBytes_map (turnP t)
  simp [turnP] at hb
  simp [hx', turnP, hb]
theorem l04Escape (t : Bytes) (ht : t.length < 4294967296) : run E (.call 298 [xS t]) = some (.res [xS (escP t)] []) := by
  rw [run_call E 298 _ rfl Tryz.func298 rfl rfl rfl (by simp)]
  have lp := sk1 (fun s o q hI => loop_for (c := loopAt Tryz.f298 0) (N := 29)
    (fun i s o q => ∃ r, s 0 = .t (.str t) ∧ s 3 = .row r ∧ s 4 = .t (.int .i64 i) ∧ o r = .row 5 ((escGo (t.take i)).map byteT) true ∧ r < q)
    (fun e s' o' q' => ∃ r, e = .exit 0 ∧ s' 3 = .row r ∧ o' r = .row 5 ((escGo t).map byteT) true ∧ ¬ r = q' ∧ ¬ r = q' + 1 ∧ ¬ q' = r) t.length
    (by
      rintro i s o q hi ⟨r, h0, h3, h4, ho, hrq⟩
      have hi' : (i : Int) < (t.length : Int) := by omega
      have hw := wrap_succ (n := i) (by omega)
      have hrn : r ≠ q := by omega
      have hrn2 : r ≠ q + 1 := by omega
      have hqn : q ≠ r := by omega
      have hl : (escGo (t.take i)).length ≤ 2 * i := by have := escGo_len (t.take i); simp at this; omega
      have hsnoc : ∀ (a : Bytes) (b : UInt8), escGo (a ++ [b]) = escGo a ++ (if b = 0 then [b, 255] else [b]) := by
        intro a b
        induction a with
        | nil => simp [escGo]
        | cons c a ih => simp [escGo, ih]
      have htk : escGo (t.take (i + 1)) = escGo (t.take i) ++ (if t[i] = 0 then [t[i], 255] else [t[i]]) := by
        have e : t.take (i + 1) = t.take i ++ [t[i]] := by rw [List.take_add_one, List.getElem?_eq_getElem hi]; rfl
        rw [e]; exact hsnoc _ _
      have hpl : (escGo (t.take i)).length + 1 ≤ 140737488355328 := by omega
      have hpl2 : (escGo (t.take i)).length + 1 + 1 ≤ 140737488355328 := by omega
      rw [htk]
      generalize escGo (t.take i) = l at *
      by_cases hz : t[i] = 0
      · simp [hz]
        simp [loopAt, loopsOf, Tryz.f298, h0, h3, h4, hi, hi', hw, ho, hrn, hrn2, hqn, hz, hpl, hpl2]
        try omega
      · have hzn : ¬ ((t[i].toNat : Int) = 0) := by
          intro h; exact hz (UInt8.toNat_inj.1 (by simp; omega))
        simp [hz]
        simp [loopAt, loopsOf, Tryz.f298, h0, h3, h4, hi, hi', hw, ho, hrn, hrn2, hqn, hz, hzn, hpl, hpl2]
        try omega)
    (by
      rintro s o q ⟨r, h0, h3, h4, ho, hrq⟩
      simp at ho
      have hrn : r ≠ q := by omega
      have hrn2 : r ≠ q + 1 := by omega
      have hqn : q ≠ r := by omega
      simp [loopAt, loopsOf, Tryz.f298, h0, h3, h4, ho, hrn, hrn2, hqn])
    t.length 0 s o q (by omega) hI)
  simp only [loopAt, loopsOf, Tryz.f298] at lp
  obtain ⟨X, A, B, C, M, hx⟩ := lp
  have hx' := fun s o q r a0 a3 a4 a5 a6 => hx s o q ⟨r, a0, a3, a4, a5, a6⟩
  clear hx
  simp [escGo] at hx'
  have hl : (escGo t).length + 2 ≤ 140737488355328 := by have := escGo_len t; omega
  have hb := toBytes_app (escGo t) [.int .u8 0, .int .u8 0]
  simp [toBytes] at hb
  have hr2 : List.range 2 = [0, 1] := rfl
  simp [hx', escP, hb, hl, hr2]
/-- A number's byte at a place. -/
def byteAt (n : Int) (j : Nat) : UInt8 := UInt8.ofNat (IntKind.u8.wrap (n.fdiv (2 ^ (8 * j)))).toNat
theorem byteAt_wrap (n : Int) (j : Nat) : IntKind.u8.wrap (n.fdiv (2 ^ (8 * j))) = ((byteAt n j).toNat : Int) := by
  unfold byteAt
  have h : 0 ≤ IntKind.u8.wrap (n.fdiv (2 ^ (8 * j))) ∧ IntKind.u8.wrap (n.fdiv (2 ^ (8 * j))) < 256 := by
    simp [IntKind.wrap, IntKind.bits, IntKind.signed]
    omega
  generalize IntKind.u8.wrap (n.fdiv (2 ^ (8 * j))) = m at *
  rw [UInt8.toNat_ofNat']
  omega
/-- A number's bytes from the place k - 1 downwards. -/
def numP (n : Int) : Nat → Bytes
  | 0 => []
  | k + 1 => byteAt n k :: numP n k
theorem numP_len (n : Int) : ∀ k, (numP n k).length = k
  | 0 => rfl
  | k + 1 => by simp [numP, numP_len n k]
theorem l01Number (n : Int) (k : Nat) (hk : k ≤ 8) : run E (.call 267 [xI n, xI k]) = some (.res [xS (numP n k)] []) := by
  rw [run_call E 267 _ rfl Tryz.func267 rfl rfl rfl (by simp)]
  have lp := sk1 (fun s o q hI => loop_for (c := loopAt Tryz.f267 0) (N := 25)
    (fun i s o q => ∃ r l, s 0 = .t (.int .i64 n) ∧ s 5 = .row r ∧ s 6 = .t (.int .i64 ((k : Int) - 1 - i)) ∧ o r = .row 5 (l.map byteT) true ∧ r < q ∧ l.length = i ∧ numP n k = l ++ numP n (k - i))
    (fun e s' o' q' => ∃ r, e = .exit 0 ∧ s' 5 = .row r ∧ o' r = .row 5 ((numP n k).map byteT) true) k
    (by
      rintro i s o q hi ⟨r, l, h0, h5, h6, ho, hrq, hl, hp⟩
      have hge : (0 : Int) ≤ (k : Int) - 1 - i := by omega
      obtain ⟨j, hj⟩ : ∃ j : Nat, k = j + 1 + i := ⟨k - 1 - i, by omega⟩
      have hjj : (k : Int) - 1 - i = j := by omega
      have hki : k - i = j + 1 := by omega
      have hki2 : k - (i + 1) = j := by omega
      rw [hki, numP] at hp
      rw [hjj] at h6
      have hw : IntKind.i64.wrap ((j : Int) - 1) = (k : Int) - 1 - ((i + 1 : Nat) : Int) := by rw [wrap_of (by omega) (by omega)]; omega
      have hw8 : IntKind.i64.wrap (8 * (j : Int)) = ((8 * j : Nat) : Int) := by rw [wrap_of (by omega) (by omega)]; omega
      have hwu := wrap_u64 (n := 8 * j) (by omega)
      have hmin : min (8 * j) IntKind.i64.bits = 8 * j := by simp [IntKind.bits]; omega
      have hj0 : (0 : Int) ≤ (j : Int) := by omega
      have hrn : r ≠ q := by omega
      have hrn2 : r ≠ q + 1 := by omega
      have hqn : q ≠ r := by omega
      have hpl : l.length + 1 ≤ 140737488355328 := by omega
      have hb := byteAt_wrap n j
      have hneg : ¬ (8 * (j : Int) < 0) := by omega
      have hnat : (8 * (j : Int)).toNat = 8 * j := by omega
      simp at hw hw8 hwu
      simp [loopAt, loopsOf, Tryz.f267, h0, h5, h6, ho, hrn, hrn2, hqn, hw, hw8, hwu, hmin, hb, hpl, hneg, hnat]
      exact ⟨l ++ [byteAt n j], by simp, by simp [hl], by rw [hp, hki2]; simp⟩)
    (by
      rintro s o q ⟨r, l, h0, h5, h6, ho, hrq, hl, hp⟩
      have h6' : s 6 = .t (.int .i64 (-1)) := by rw [h6]; congr 2; omega
      simp [numP] at hp
      simp [loopAt, loopsOf, Tryz.f267, h0, h5, h6', ho, hp])
    k 0 s o q (by omega) hI)
  simp only [loopAt, loopsOf, Tryz.f267] at lp
  obtain ⟨X, A, B, C, M, hx⟩ := lp
  have hx' := fun s o q r a0 a5 a6 a7 a8 => hx s o q ⟨r, [], a0, a5, a6, a7, a8, rfl, by simp⟩
  clear hx
  simp at hx'
  have hb := toBytes_map (numP n k)
  have hw : IntKind.i64.wrap ((k : Int) - 1) = (k : Int) - 1 := wrap_of (by omega) (by omega)
  simp [hx', hb, hw]
def headK (v : Val) : Bytes := numP (v.k + 1) 1
/-- A value's key. -/
def keyD : Nat → Val → Bytes
  | d, v =>
    if v.k = 0 then headK v
    else if v.k = 1 then headK v ++ numP v.n 1
    else if v.k = 2 then headK v ++ numP (v.n + 4611686018427387904) 8
    else if v.k = 3 then headK v ++ escP v.t
    else match d with
      | 0 => []
      | d + 1 =>
        if v.k = 4 then headK v ++ (itemsL v.t).flatMap (keyD d) ++ [0]
        else headK v ++ (fieldsL v.t).flatMap (fun f => [1] ++ escP f.name ++ keyD d f.v) ++ [0]
theorem escP_len (t : Bytes) : (escP t).length ≤ 2 * t.length + 2 := by
  have := escGo_len t
  simp [escP]; omega
def sumL {α : Type} (f : α → Nat) : List α → Nat
  | [] => 0
  | x :: r => f x + sumL f r
theorem flat_len {α : Type} {f : α → Bytes} {g : α → Nat} : ∀ {l : List α}, (∀ x ∈ l, (f x).length ≤ 11 * g x) → (l.flatMap f).length ≤ 11 * sumL g l
  | [], _ => by simp
  | x :: r, h => by
    have h1 := h x (by simp)
    have h2 := flat_len (f := f) (g := g) (l := r) (fun y hy => h y (by simp [hy]))
    simp [sumL]; simp at h2; omega
theorem items_sum : ∀ {xs : List Val} {t : Bytes}, itemsP t = some xs → sumL (fun x => x.t.length + 1) xs ≤ t.length
  | xs, t, h => by
    rcases items_cases h with ⟨rfl, rfl⟩ | ⟨v, r, ys, h1, h2, rfl⟩
    · simp [sumL]
    · have := nextP_len h1
      have := items_sum h2
      simp [sumL]; omega
  termination_by xs => xs.length
  decreasing_by simp_all
theorem fields_sum : ∀ {xs : List Fld} {t : Bytes}, fieldsP t = some xs → sumL (fun f => f.name.length + f.v.t.length + 2) xs ≤ t.length
  | xs, t, h => by
    rcases fields_cases h with ⟨rfl, rfl⟩ | ⟨b, q, v, r, ys, rfl, h0, h1, h2, rfl⟩
    · simp [sumL]
    · have := nextP_len h1
      have := fields_sum h2
      simp at *
      simp [sumL]; omega
  termination_by xs => xs.length
  decreasing_by simp_all
theorem keyD_len : ∀ (d : Nat) (v : Val), okP d v = true → (keyD d v).length ≤ 11 * (v.t.length + 1) := by
  intro d
  induction d with
  | zero =>
    intro v h
    unfold keyD headK
    have := escP_len v.t
    split
    · simp [numP_len]; omega
    · split
      · simp [numP_len]; omega
      · split
        · simp [numP_len]; omega
        · split
          · simp [numP_len]; omega
          · simp
  | succ d ih =>
    intro v h
    have he := escP_len v.t
    by_cases h0 : v.k = 0
    · simp [keyD, headK, h0, numP_len]; omega
    by_cases h1 : v.k = 1
    · simp [keyD, headK, h1, numP_len]; omega
    by_cases h2 : v.k = 2
    · simp [keyD, headK, h2, numP_len]; omega
    by_cases h3 : v.k = 3
    · simp [keyD, headK, h3, numP_len]; omega
    by_cases h4 : v.k = 4
    · obtain ⟨e, xs, hd, _, hi, hx⟩ := okP_list h h4
      obtain rfl : d = e := by omega
      have hf := flat_len (f := keyD d) (g := fun x => x.t.length + 1) (l := xs) (fun x hm => ih x (hx x hm))
      have hs := items_sum hi
      have e : itemsL v.t = xs := by simp [itemsL, hi]
      simp [keyD, headK, h4, e, numP_len]
      simp at hf
      omega
    · have h5 : v.k = 5 := by
        unfold okP at h
        simp [h0, h1, h2, h3, h4] at h
        exact h.1
      obtain ⟨e, fs, hd, _, hi, _, hx⟩ := okP_doc h h5
      obtain rfl : d = e := by omega
      have hf := flat_len (f := fun f : Fld => [1] ++ escP f.name ++ keyD d f.v) (g := fun f => f.name.length + f.v.t.length + 2) (l := fs) (fun f hm => by
        have h1 := ih f.v (hx f hm).2
        have h2 := escP_len f.name
        simp; omega)
      have hs := fields_sum hi
      have e : fieldsL v.t = fs := by simp [fieldsL, hi]
      simp [keyD, headK, h5, e, numP_len]
      simp at hf
      omega
theorem flat_le {α β : Type} {f : α → List β} {g : α → Nat} : ∀ {l : List α}, (∀ x ∈ l, (f x).length ≤ g x) → (l.flatMap f).length ≤ sumL g l
  | [], _ => by simp
  | x :: r, h => by
    have h1 := h x (by simp)
    have h2 := flat_le (f := f) (g := g) (l := r) (fun y hy => h y (by simp [hy]))
    simp [sumL]; simp at h2; omega
theorem itemsL_sum (t : Bytes) : sumL (fun x => x.t.length + 1) (itemsL t) ≤ t.length := by
  unfold itemsL
  cases h : itemsP t with
  | none => simp [sumL]
  | some xs => exact items_sum h
theorem itemsL_len (t : Bytes) : (itemsL t).length ≤ t.length ∧ ∀ x ∈ itemsL t, x.t.length < t.length := by
  unfold itemsL
  cases h : itemsP t with
  | none => simp
  | some xs => exact items_small h
theorem fieldP_len {v x : Val} {w : Bytes} (h : fieldP v w = some x) : x.t.length < v.t.length := by
  unfold fieldP fieldsL at h
  cases hf : fieldsP v.t with
  | none => simp [hf] at h
  | some fs =>
    rw [hf] at h
    simp only [Option.getD_some, Option.map_eq_some_iff] at h
    obtain ⟨f, h1, rfl⟩ := h
    exact ((fields_small hf).2 f (List.mem_of_find?_eq_some h1)).1
/-- A name, then the rest of a path. -/
def oneP (w : Bytes) (ws : List Bytes) (x : Val) : List Val := match fieldP x w with
  | none => []
  | some y => getP ws y
theorem getP_cons (w : Bytes) (ws : List Bytes) (v : Val) : getP (w :: ws) v = if v.k = 5 then oneP w ws v else if v.k = 4 then (itemsL v.t).flatMap (fun x => if x.k = 5 then oneP w ws x else []) else [] := rfl
theorem getP_len : ∀ (ws : List Bytes) (v : Val), (getP ws v).length ≤ v.t.length + 1
  | [], v => by
    unfold getP
    have := (itemsL_len v.t).1
    split <;> simp <;> omega
  | w :: ws, v => by
    have one : ∀ x : Val, (oneP w ws x).length ≤ x.t.length + 1 := by
      intro x
      unfold oneP
      cases h : fieldP x w with
      | none => simp
      | some y =>
        have := fieldP_len h
        have := getP_len ws y
        simp only; omega
    rw [getP_cons]
    split
    · exact one v
    · split
      · have := flat_le (f := fun x : Val => if x.k = 5 then oneP w ws x else []) (g := fun x => x.t.length + 1) (l := itemsL v.t) (fun x _ => by
          by_cases h : x.k = 5
          · rw [if_pos h]; exact one x
          · rw [if_neg h]; simp)
        have := itemsL_sum v.t
        omega
      · simp
theorem itemsX_L (t : Bytes) : ∃ b, itemsX (itemsP t) = [.row 74 ((itemsL t).map valT), xB b] := by
  unfold itemsL
  cases itemsP t with
  | none => exact ⟨false, rfl⟩
  | some xs => exact ⟨true, rfl⟩
theorem l02Get_nil (v : Val) (hv : v.t.length < 1048576) : run E (.call 297 [xV v, .t (.list [])]) = some (.res [.row 74 ((getP [] v).map valT)] []) := by
  rw [run_call E 297 _ rfl Tryz.func297 rfl rfl rfl (by simp)]
  have hi := l01Items v.t (by omega)
  obtain ⟨b, hb⟩ := itemsX_L v.t
  rw [hb] at hi
  have hl := (itemsL_len v.t).1
  have h1 : 1 + (itemsL v.t).length ≤ 140737488355328 := by omega
  have h2 : (1 + (itemsL v.t).length) * 32 ≤ 140737488355328 := by omega
  by_cases h4 : v.k = 4
  · have e4 : (v.k = 4) = True := eq_true h4
    have eg : getP [] v = v :: itemsL v.t := by simp [getP, h4]
    rw [eg]
    clear h4 eg
    simp [e4, hi, h1, h2]
  · have e4 : (v.k = 4) = False := eq_false h4
    have eg : getP [] v = [v] := by simp [getP, h4]
    rw [eg]
    clear h4 eg
    simp [e4]
theorem l02Get_doc (w : Bytes) (ws : List Bytes) (hws : ws.length < 4294967296) (ih : ∀ v : Val, v.t.length < 1048576 → run E (.call 297 [xV v, .t (.list (ws.map strT))]) = some (.res [.row 74 ((getP ws v).map valT)] []))
    (v : Val) (hv : v.t.length < 1048576) (hk : v.k = 5) : run E (.call 297 [xV v, .t (.list ((w :: ws).map strT))]) = some (.res [.row 74 ((oneP w ws v).map valT)] []) := by
  rw [run_call E 297 _ rfl Tryz.func297 rfl rfl rfl (by simp)]
  have d9 := d297_9
  simp [regionOf, findR, pick, Tryz.f297] at d9
  have dd := fun st => run_region_draw E st 9 _ d9
  clear d9
  have d12 := d297_12
  simp [regionOf, findR, pick, Tryz.f297] at d12
  have de := fun st => run_region_draw E st 12 _ d12
  clear d12
  have e5 : (v.k = 5) = True := eq_true hk
  have hf := specField v w (by omega)
  have hpos : ¬ ((ws.length : Int) + 1 = 0) := by omega
  have hle : (1 : Int) ≤ (ws.length : Int) + 1 := by omega
  clear hk
  unfold oneP
  cases hx : fieldP v w with
  | none =>
    rw [hx] at hf
    simp only [optX] at hf
    simp [dd, de, e5, hf, hpos, hle]
  | some y =>
    have hl := fieldP_len hx
    have hy := ih y (by omega)
    rw [hx] at hf
    simp only [optX] at hf
    have htk : List.take ws.length (List.map strT ws) = List.map strT ws := List.take_of_length_le (by simp)
    simp [dd, de, e5, hf, hpos, hle, hy, htk]
theorem l02Get_cons (w : Bytes) (ws : List Bytes) (hws : ws.length < 4294967296) (ih : ∀ v : Val, v.t.length < 1048576 → run E (.call 297 [xV v, .t (.list (ws.map strT))]) = some (.res [.row 74 ((getP ws v).map valT)] []))
    (v : Val) (hv : v.t.length < 1048576) : run E (.call 297 [xV v, .t (.list ((w :: ws).map strT))]) = some (.res [.row 74 ((getP (w :: ws) v).map valT)] []) := by
  rw [getP_cons]
  by_cases hk : v.k = 5
  · rw [if_pos hk]; exact l02Get_doc w ws hws ih v hv hk
  rw [if_neg hk]
  rw [run_call E 297 _ rfl Tryz.func297 rfl rfl rfl (by simp)]
  have e5 : (v.k = 5) = False := eq_false hk
  have hpos : ¬ ((ws.length : Int) + 1 = 0) := by omega
  by_cases h4 : v.k = 4
  · rw [if_pos h4]
    have e4 : (v.k = 4) = True := eq_true h4
    clear h4 hk
    have hi := l01Items v.t (by omega)
    obtain ⟨b, hb⟩ := itemsX_L v.t
    rw [hb] at hi
    obtain ⟨hl, hs⟩ := itemsL_len v.t
    generalize hxs : itemsL v.t = xs at *
    have hsum := itemsL_sum v.t
    rw [hxs] at hsum
    obtain ⟨F, hF⟩ : ∃ F : Val → List Val, F = (fun x => if x.k = 5 then oneP w ws x else []) := ⟨_, rfl⟩
    have hF5 : ∀ x : Val, x.k = 5 → F x = oneP w ws x := by intro x h; rw [hF]; simp [h]
    have hFn : ∀ x : Val, ¬ x.k = 5 → F x = [] := by intro x h; rw [hF]; simp [h]
    have hFl : (xs.flatMap F).length ≤ 1048576 := by
      have := flat_le (f := F) (g := fun x => x.t.length + 1) (l := xs) (fun x _ => by
        by_cases h : x.k = 5
        · have h1 := getP_len (w :: ws) x
          rw [getP_cons, if_pos h] at h1
          rw [hF5 x h]; exact h1
        · rw [hFn x h]; simp)
      omega
    rw [← hF]
    clear hF
    have lp := fun (R : List Val) (hR : R = xs.flatMap F) => sk1 (fun s o q hI => loop_for (c := loopAt Tryz.f297 0) (N := 82)
      (fun i s o q => ∃ r acc, s 1 = .t (.list ((w :: ws).map strT)) ∧ s 10 = .row r ∧ s 11 = .row 2 ∧ s 13 = .t (.int .i64 i) ∧ o r = .row 74 (acc.map valT) true ∧ o 2 = .row 74 (xs.map valT) true ∧ r < q ∧ r ≠ 2 ∧ 2 < q ∧ R = acc ++ (xs.drop i).flatMap F)
      (fun e s' o' q' => ∃ r, e = .exit 1 ∧ s' 10 = .row r ∧ o' r = .row 74 (R.map valT) true) xs.length
      (by
        rintro i s o q hi ⟨r, acc, h1, h10, h11, h13, ho, ho2, hrq, hr2, h2q, hp⟩
        have hi' : (i : Int) < (xs.length : Int) := by omega
        have hwi := wrap_succ (n := i) (by omega)
        have hxi : xs[i]? = some xs[i] := List.getElem?_eq_getElem hi
        have hrn : r ≠ q := by omega
        have hrn2 : r ≠ q + 1 := by omega
        have hqn : q ≠ r := by omega
        have h2n : 2 ≠ q := by omega
        have h2n1 : 2 ≠ q + 1 := by omega
        have h2r : 2 ≠ r := fun h => hr2 h.symm
        have hxl := hs _ (List.getElem_mem hi)
        rw [List.drop_eq_getElem_cons hi, List.flatMap_cons, ← List.append_assoc] at hp
        by_cases h5 : xs[i].k = 5
        · have hd := l02Get_doc w ws hws ih xs[i] (by omega) h5
          have e5 : (xs[i].k = 5) = True := eq_true h5
          have hf := hF5 _ h5
          rw [← hf] at hd
          rw [List.map_cons] at hd
          have hcat : (acc.map valT).length + ((F xs[i]).map valT).length ≤ 140737488355328 := by
            have h1 := congrArg List.length hp
            simp [hR] at h1 hFl ⊢
            omega
          have hcat2 : ((acc.map valT).length + ((F xs[i]).map valT).length) * 32 ≤ 140737488355328 := by
            have h1 := congrArg List.length hp
            simp [hR] at h1 hFl ⊢
            omega
          simp only [List.length_map] at hcat hcat2
          clear h5
          simp [loopAt, loopsOf, Tryz.f297, h1, h10, h11, h13, ho, ho2, hi, hi', hwi, hxi, hrn, hrn2, hqn, h2n, h2n1, h2r, hr2, e5, hd, hcat, hcat2]
          exact ⟨acc ++ F xs[i], by simp, by omega, by omega, hp⟩
        · have e5 : (xs[i].k = 5) = False := eq_false h5
          rw [hFn _ h5, List.append_nil] at hp
          clear h5
          simp [loopAt, loopsOf, Tryz.f297, h1, h10, h11, h13, ho, ho2, hi, hi', hwi, hxi, hrn, hrn2, hqn, h2n, h2n1, h2r, hr2, e5]
          exact ⟨acc, rfl, hrq, h2q, hp⟩)
      (by
        rintro s o q ⟨r, acc, h1, h10, h11, h13, ho, ho2, hrq, hr2, h2q, hp⟩
        simp at hp
        simp [loopAt, loopsOf, Tryz.f297, h1, h10, h11, h13, ho, ho2, hp])
      xs.length 0 s o q (by omega) hI)
    simp only [loopAt, loopsOf, Tryz.f297] at lp
    obtain ⟨X, A, B, C, M, hx⟩ := lp _ rfl
    have hx' := fun s o q r a1 a10 a11 a13 ao ao2 arq ar2 a2q => hx s o q ⟨r, [], a1, a10, a11, a13, ao, ao2, arq, ar2, a2q, by simp⟩
    clear hx lp
    simp at hx'
    simp [e5, e4, hpos, hi, hx']
  · rw [if_neg h4]
    have e4 : (v.k = 4) = False := eq_false h4
    simp [e5, e4, hpos]
theorem l02Get : ∀ (ws : List Bytes) (v : Val), ws.length < 4294967296 → v.t.length < 1048576 → run E (.call 297 [xV v, .t (.list (ws.map strT))]) = some (.res [.row 74 ((getP ws v).map valT)] [])
  | [], v, _, hv => l02Get_nil v hv
  | w :: ws, v, hws, hv => l02Get_cons w ws (by simp at hws; omega) (fun v hv => l02Get ws v (by simp at hws; omega) hv) v hv
theorem l02Values (v : Val) (p : Bytes) (hv : v.t.length < 1048576) (hp : p.length < 4294967295) : run E (.call 214 [xV v, xS p]) = some (.res [.row 74 ((getP (cutP 46 p) v).map valT)] []) := by
  rw [run_call E 214 _ rfl Tryz.func214 rfl rfl rfl (by simp)]
  have d1 := d214_1
  simp [regionOf, findR, pick, Tryz.f214] at d1
  have dd := fun st => run_region_draw E st 1 _ d1
  clear d1
  have e46 : ((46 : UInt8).toNat : Int) = 46 := rfl
  have hc := l00Cut p 46 (by omega) (by omega)
  rw [xU, e46] at hc
  have hcl := cutP_length 46 p
  have hct : p.count 46 ≤ p.length := List.count_le_length
  have hg := l02Get (cutP 46 p) v (by omega) hv
  simp [dd, hc, hg]
theorem fieldI_ok {d : Nat} {v : Val} (h : okP d v = true) (hk : v.k = 5) (w : Bytes) : fieldI v w = fieldP v w := by
  obtain ⟨e, fs, _, _, hf, hr, _⟩ := okP_doc h hk
  exact fieldI_eq w hf hr
theorem fieldP_ok {d : Nat} {v y : Val} {w : Bytes} (h : okP d v = true) (hk : v.k = 5) (hx : fieldP v w = some y) : ∃ e, okP e y = true := by
  obtain ⟨e, fs, _, _, hf, hr, hall⟩ := okP_doc h hk
  unfold fieldP fieldsL at hx
  rw [hf] at hx
  simp only [Option.getD_some, Option.map_eq_some_iff] at hx
  obtain ⟨f, h1, rfl⟩ := hx
  exact ⟨e, (hall f (List.mem_of_find?_eq_some h1)).2⟩
theorem comesTo_nil (d : Nat) (v : Val) (hok : okP d v = true) (hv : v.t.length < 1048576) : run E (.call 185 [xV v, .t (.list [])]) = some (.res [.row 74 ((getP [] v).map valT)] []) := by
  rw [run_call E 185 _ rfl Tryz.func185 rfl rfl rfl (by simp)]
  by_cases h4 : v.k = 4
  · obtain ⟨e, xs, _, _, hit, _⟩ := okP_list hok h4
    have hi := implItems v (by omega)
    rw [itemsI_some hit] at hi
    have hl := (items_small hit).1
    have h1 : 1 + xs.length ≤ 140737488355328 := by omega
    have h2 : (1 + xs.length) * 32 ≤ 140737488355328 := by omega
    have e4 : (v.k = 4) = True := eq_true h4
    have eg : getP [] v = v :: xs := by simp [getP, h4, itemsL, hit]
    rw [eg]
    clear h4 eg
    simp at hi
    simp [e4, hi, h1, h2]
  · have e4 : (v.k = 4) = False := eq_false h4
    have eg : getP [] v = [v] := by simp [getP, h4]
    rw [eg]
    clear h4 eg
    simp [e4]
theorem comesTo_doc (w : Bytes) (ws : List Bytes) (hws : ws.length < 4294967296) (ih : ∀ (d : Nat) (v : Val), okP d v = true → v.t.length < 1048576 → run E (.call 185 [xV v, .t (.list (ws.map strT))]) = some (.res [.row 74 ((getP ws v).map valT)] []))
    (d : Nat) (v : Val) (hok : okP d v = true) (hv : v.t.length < 1048576) (hk : v.k = 5) : run E (.call 185 [xV v, .t (.list ((w :: ws).map strT))]) = some (.res [.row 74 ((oneP w ws v).map valT)] []) := by
  rw [run_call E 185 _ rfl Tryz.func185 rfl rfl rfl (by simp)]
  have d9 := d185_10
  simp [regionOf, findR, pick, Tryz.f185] at d9
  have dd := fun st => run_region_draw E st 10 _ d9
  clear d9
  have d12 := d185_12
  simp [regionOf, findR, pick, Tryz.f185] at d12
  have de := fun st => run_region_draw E st 12 _ d12
  clear d12
  have hf := implField v w (by omega)
  rw [fieldI_ok hok hk] at hf
  have hpos : ¬ ((ws.length : Int) + 1 = 0) := by omega
  have hle : (1 : Int) ≤ (ws.length : Int) + 1 := by omega
  unfold oneP
  cases hx : fieldP v w with
  | none =>
    rw [hx] at hf
    simp only [optX] at hf
    have e5 : (v.k = 5) = True := eq_true hk
    clear hk
    simp [dd, de, e5, hf, hpos, hle]
  | some y =>
    have hl := fieldP_len hx
    obtain ⟨e, he⟩ := fieldP_ok hok hk hx
    have hy := ih e y he (by omega)
    rw [hx] at hf
    simp only [optX] at hf
    have htk : List.take ws.length (List.map strT ws) = List.map strT ws := List.take_of_length_le (by simp)
    have e5 : (v.k = 5) = True := eq_true hk
    clear hk
    simp [dd, de, e5, hf, hpos, hle, hy, htk]
theorem comesTo_cons (w : Bytes) (ws : List Bytes) (hws : ws.length < 4294967296) (ih : ∀ (d : Nat) (v : Val), okP d v = true → v.t.length < 1048576 → run E (.call 185 [xV v, .t (.list (ws.map strT))]) = some (.res [.row 74 ((getP ws v).map valT)] []))
    (d : Nat) (v : Val) (hok : okP d v = true) (hv : v.t.length < 1048576) : run E (.call 185 [xV v, .t (.list ((w :: ws).map strT))]) = some (.res [.row 74 ((getP (w :: ws) v).map valT)] []) := by
  rw [getP_cons]
  by_cases hk : v.k = 5
  · rw [if_pos hk]; exact comesTo_doc w ws hws ih d v hok hv hk
  rw [if_neg hk]
  rw [run_call E 185 _ rfl Tryz.func185 rfl rfl rfl (by simp)]
  have e5 : (v.k = 5) = False := eq_false hk
  have hpos : ¬ ((ws.length : Int) + 1 = 0) := by omega
  by_cases h4 : v.k = 4
  · rw [if_pos h4]
    obtain ⟨e, xs, _, _, hit, hxok⟩ := okP_list hok h4
    have hi := implItems v (by omega)
    rw [itemsI_some hit] at hi
    simp at hi
    obtain ⟨hl, hs⟩ := items_small hit
    have hsum := items_sum hit
    have hxs : itemsL v.t = xs := by simp [itemsL, hit]
    rw [hxs]
    have e4 : (v.k = 4) = True := eq_true h4
    clear h4 hk hxs
    obtain ⟨F, hF⟩ : ∃ F : Val → List Val, F = (fun x => if x.k = 5 then oneP w ws x else []) := ⟨_, rfl⟩
    have hF5 : ∀ x : Val, x.k = 5 → F x = oneP w ws x := by intro x h; rw [hF]; simp [h]
    have hFn : ∀ x : Val, ¬ x.k = 5 → F x = [] := by intro x h; rw [hF]; simp [h]
    have hFl : (xs.flatMap F).length ≤ 1048576 := by
      have := flat_le (f := F) (g := fun x => x.t.length + 1) (l := xs) (fun x _ => by
        by_cases h : x.k = 5
        · have h1 := getP_len (w :: ws) x
          rw [getP_cons, if_pos h] at h1
          rw [hF5 x h]; exact h1
        · rw [hFn x h]; simp)
      omega
    rw [← hF]
    clear hF
    have lp := fun (R : List Val) (hR : R = xs.flatMap F) => sk1 (fun s o q hI => loop_for (c := loopAt Tryz.f185 0) (N := 74)
      (fun i s o q => ∃ r acc, s 1 = .t (.list ((w :: ws).map strT)) ∧ s 5 = .row r ∧ s 58 = .row 2 ∧ s 59 = .t (.int .i64 xs.length) ∧ s 60 = .t (.int .i64 i) ∧ o r = .row 74 (acc.map valT) true ∧ o 2 = .row 74 (xs.map valT) true ∧ r < q ∧ r ≠ 2 ∧ 2 < q ∧ R = acc ++ (xs.drop i).flatMap F)
      (fun e s' o' q' => ∃ r, e = .exit 1 ∧ s' 5 = .row r ∧ o' r = .row 74 (R.map valT) true) xs.length
      (by
        rintro i s o q hi ⟨r, acc, h1, h5s, h58, h59, h60, ho, ho2, hrq, hr2, h2q, hp⟩
        have hi' : (i : Int) < (xs.length : Int) := by omega
        have hwi := wrap_succ (n := i) (by omega)
        have hxi : xs[i]? = some xs[i] := List.getElem?_eq_getElem hi
        have hrn : r ≠ q := by omega
        have hrn2 : r ≠ q + 1 := by omega
        have hqn : q ≠ r := by omega
        have hqn1 : q + 1 ≠ r := by omega
        have h2n : 2 ≠ q := by omega
        have h2n1 : 2 ≠ q + 1 := by omega
        have h2r : 2 ≠ r := fun h => hr2 h.symm
        have hxl := hs _ (List.getElem_mem hi)
        rw [List.drop_eq_getElem_cons hi, List.flatMap_cons, ← List.append_assoc] at hp
        by_cases h5 : xs[i].k = 5
        · have hd := comesTo_doc w ws hws ih e xs[i] (hxok _ (List.getElem_mem hi)) (by omega) h5
          have e5 : (xs[i].k = 5) = True := eq_true h5
          have hf := hF5 _ h5
          rw [← hf] at hd
          rw [List.map_cons] at hd
          have hcat : (acc.map valT).length + ((F xs[i]).map valT).length ≤ 140737488355328 := by
            have h1 := congrArg List.length hp
            simp [hR] at h1 hFl ⊢
            omega
          have hcat2 : ((acc.map valT).length + ((F xs[i]).map valT).length) * 32 ≤ 140737488355328 := by
            have h1 := congrArg List.length hp
            simp [hR] at h1 hFl ⊢
            omega
          simp only [List.length_map] at hcat hcat2
          clear h5
          simp [loopAt, loopsOf, Tryz.f185, h1, h5s, h58, h59, h60, ho, ho2, hi, hi', hwi, hxi, hrn, hrn2, hqn, hqn1, h2n, h2n1, h2r, hr2, e5, hd, hcat, hcat2]
          exact ⟨acc ++ F xs[i], by simp, by omega, by omega, hp⟩
        · have e5 : (xs[i].k = 5) = False := eq_false h5
          rw [hFn _ h5, List.append_nil] at hp
          clear h5
          simp [loopAt, loopsOf, Tryz.f185, h1, h5s, h58, h59, h60, ho, ho2, hi, hi', hwi, hxi, hrn, hrn2, hqn, hqn1, h2n, h2n1, h2r, hr2, e5]
          exact ⟨acc, rfl, by omega, by omega, hp⟩)
      (by
        rintro s o q ⟨r, acc, h1, h5s, h58, h59, h60, ho, ho2, hrq, hr2, h2q, hp⟩
        simp at hp
        simp [loopAt, loopsOf, Tryz.f185, h1, h5s, h58, h59, h60, ho, ho2, hp])
      xs.length 0 s o q (by omega) hI)
    simp only [loopAt, loopsOf, Tryz.f185] at lp
    obtain ⟨X, A, B, C, M, hx⟩ := lp _ rfl
    have hx' := fun s o q r a1 a5 a58 a59 a60 ao ao2 arq ar2 a2q => hx s o q ⟨r, [], a1, a5, a58, a59, a60, ao, ao2, arq, ar2, a2q, by simp⟩
    clear hx lp
    simp at hx'
    simp [e5, e4, hpos, hi, hx']
  · rw [if_neg h4]
    have e4 : (v.k = 4) = False := eq_false h4
    simp [e5, e4, hpos]
theorem comesTo : ∀ (ws : List Bytes) (d : Nat) (v : Val), ws.length < 4294967296 → okP d v = true → v.t.length < 1048576 → run E (.call 185 [xV v, .t (.list (ws.map strT))]) = some (.res [.row 74 ((getP ws v).map valT)] [])
  | [], d, v, _, hok, hv => comesTo_nil d v hok hv
  | w :: ws, d, v, hws, hok, hv => comesTo_cons w ws (by simp at hws; omega) (fun d v hok hv => comesTo ws d v (by simp at hws; omega) hok hv) d v hok hv
theorem getPath (d : Nat) (v : Val) (p : Bytes) (hok : okP d v = true) (hv : v.t.length < 1048576) (hp : p.length < 4294967295) : run E (.call 105 [xV v, xS p]) = some (.res [.row 74 ((getP (cutP 46 p) v).map valT)] []) := by
  rw [run_call E 105 _ rfl Tryz.func105 rfl rfl rfl (by simp)]
  have d1 := d105_1
  simp [regionOf, findR, pick, Tryz.f105] at d1
  have dd := fun st => run_region_draw E st 1 _ d1
  clear d1
  have hc := split p 46 (by omega)
  have hcl := cutP_length 46 p
  have hct : p.count 46 ≤ p.length := List.count_le_length
  have hg := comesTo (cutP 46 p) d v (by omega) hok hv
  simp [dd, hc, hg]
def sameV (a b : Val) : Bool := (a.k == b.k) && ((a.n == b.n) && (a.t == b.t))
/-- One value against a term whose value is v. -/
def oneT (op : Int) (v x : Val) : Bool :=
  if op = 1 then sameV x v
  else if op = 2 then sameV x v
  else if op = 3 then (x.k == v.k) && decide (ordD 5 x v < 0)
  else if op = 4 then (x.k == v.k) && decide (ordD 5 x v ≤ 0)
  else if op = 5 then (x.k == v.k) && decide (0 < ordD 5 x v)
  else if op = 6 then (x.k == v.k) && decide (0 ≤ ordD 5 x v)
  else if op = 7 then (itemsL v.t).any (fun y => sameV y x)
  else if op = 9 then x.k == v.n
  else (x.k == 4) && (((itemsL x.t).length : Int) == v.n)
abbrev valBox (x : Val) : Ob := .box 74 [.t (.int .i64 x.k), .t (.int .i64 x.n), .t (.str x.t)]
theorem okP_up : ∀ (d e : Nat) (v : Val), d ≤ e → okP d v = true → okP e v = true
  | 0, e, v, _, h => by
    unfold okP at h ⊢
    split at h
    · rename_i hk; simp only [hk, if_true]; exact h
    · rename_i h0
      split at h
      · rename_i h1; simp only [h1]; simpa using h
      · rename_i h1
        split at h
        · rename_i h2; simp only [h2]; simpa using h
        · rename_i h2
          split at h
          · rename_i h3; simp only [h3]; simpa using h
          · cases h
  | d + 1, 0, v, hle, _ => by omega
  | d + 1, e + 1, v, hle, h => by
    by_cases h4 : v.k = 4
    · obtain ⟨d', xs, hd, hn, hi, hx⟩ := okP_list h h4
      obtain rfl : d = d' := by omega
      have hl : v.t.length ≤ 300 := by unfold okP at h; simp [h4] at h; exact h.1.2
      unfold okP
      simp [h4, hn, hi, hl]
      exact fun x hm => okP_up d e x (by omega) (hx x hm)
    · by_cases h5 : v.k = 5
      · obtain ⟨d', fs, hd, hn, hi, hr, hx⟩ := okP_doc h h5
        obtain rfl : d = d' := by omega
        have hl : v.t.length ≤ 300 := by unfold okP at h; simp [h5] at h; exact h.1.2
        unfold okP
        simp [h5, hn, hi, hr, hl]
        exact fun f hm => ⟨(hx f hm).1, okP_up d e f.v (by omega) (hx f hm).2⟩
      · unfold okP at h ⊢
        simp only [h4, h5, if_false] at h ⊢
        exact h
theorem okP_size {d : Nat} {v : Val} (h : okP d v = true) : v.t.length ≤ 300 := by
  by_cases h3 : v.k = 3
  · unfold okP at h; simp [h3] at h; exact h.2
  by_cases h4 : v.k = 4
  · obtain ⟨e, _, rfl, _⟩ := okP_list h h4
    unfold okP at h; simp [h4] at h; exact h.1.2
  by_cases h5 : v.k = 5
  · obtain ⟨e, _, rfl, _⟩ := okP_doc h h5
    unfold okP at h; simp [h5] at h; exact h.1.2
  rw [okP_small h h3 h4 h5]; simp
theorem getP_ok : ∀ (ws : List Bytes) (d : Nat) (v : Val), d ≤ 5 → okP d v = true → ∀ y ∈ getP ws v, okP 5 y = true
  | [], d, v, hd, h, y, hy => by
    unfold getP at hy
    rcases List.mem_cons.1 hy with rfl | hy
    · exact okP_up d 5 _ hd h
    · by_cases h4 : v.k = 4
      · obtain ⟨e, xs, he, _, hi, hx⟩ := okP_list h h4
        rw [if_pos h4] at hy
        simp [itemsL, hi] at hy
        exact okP_up e 5 y (by omega) (hx y hy)
      · rw [if_neg h4] at hy; simp at hy
  | w :: ws, d, v, hd, h, y, hy => by
    have one : ∀ (e : Nat) (x : Val), e ≤ 5 → okP e x = true → x.k = 5 → y ∈ oneP w ws x → okP 5 y = true := by
      intro e x he hx hk hy
      unfold oneP at hy
      cases hf : fieldP x w with
      | none => rw [hf] at hy; simp at hy
      | some z =>
        rw [hf] at hy
        simp only at hy
        obtain ⟨e', fs, he', _, hi, _, hall⟩ := okP_doc hx hk
        unfold fieldP fieldsL at hf
        rw [hi] at hf
        simp only [Option.getD_some, Option.map_eq_some_iff] at hf
        obtain ⟨f, h1, rfl⟩ := hf
        exact getP_ok ws e' f.v (by omega) (hall f (List.mem_of_find?_eq_some h1)).2 y hy
    rw [getP_cons] at hy
    by_cases h5 : v.k = 5
    · rw [if_pos h5] at hy
      exact one d v hd h h5 hy
    · rw [if_neg h5] at hy
      by_cases h4 : v.k = 4
      · obtain ⟨e, xs, he, _, hi, hx⟩ := okP_list h h4
        rw [if_pos h4] at hy
        have e : itemsL v.t = xs := by simp [itemsL, hi]
        rw [e, List.mem_flatMap] at hy
        obtain ⟨x, hm, hy⟩ := hy
        by_cases hk : x.k = 5
        · rw [if_pos hk] at hy
          exact one _ x (by omega) (hx x hm) hk hy
        · rw [if_neg hk] at hy; simp at hy
      · rw [if_neg h4] at hy; simp at hy
abbrev nulV : Val := ⟨0, 0, []⟩
/-- What stands against a term. -/
def standP (t : Trm) (doc : Val) : List Val := if (getP (cutP 46 t.path) doc).length = 0 ∧ t.op ≠ 9 then [nulV] else getP (cutP 46 t.path) doc
def matchT (t : Trm) (doc : Val) : Bool :=
  if t.op = 8 then (decide (0 < (getP (cutP 46 t.path) doc).length) == decide (t.v.n = 1))
  else (((standP t doc).any (oneT t.op t.v)) != decide (t.op = 2))
def minV (m x : Val) : Val := if ordD 5 x m < 0 then x else m
def leastV (x : Val) (l : List Val) : Val := l.foldl minV x
def leastL : List Val → Val
  | [] => nulV
  | x :: l => leastV x l
def firstV (p : Bytes) (v : Val) : Val := leastL (getP (cutP 46 p) v)
theorem minV_ok {m x : Val} (hm : okP 5 m = true) (hx : okP 5 x = true) : okP 5 (minV m x) = true := by
  unfold minV; split <;> assumption
theorem leastV_ok : ∀ (l : List Val) (x : Val), okP 5 x = true → (∀ y ∈ l, okP 5 y = true) → okP 5 (leastV x l) = true
  | [], x, hx, _ => hx
  | y :: l, x, hx, h => leastV_ok l (minV x y) (minV_ok hx (h y (by simp))) (fun z hz => h z (by simp [hz]))
theorem nulV_ok : okP 5 nulV = true := by decide
theorem firstV_ok {v : Val} (p : Bytes) (h : okP 5 v = true) : okP 5 (firstV p v) = true := by
  unfold firstV
  have := getP_ok (cutP 46 p) 5 v (Nat.le_refl _) h
  cases hg : getP (cutP 46 p) v with
  | nil => exact nulV_ok
  | cons x l => rw [hg] at this; exact leastV_ok l x (this x (by simp)) (fun z hz => this z (by simp [hz]))
abbrev vBox (v : Val) : Ob := .box 74 [.t (.int .i64 v.k), .t (.int .i64 v.n), .t (.str v.t)]
theorem l02First_loop (x : Val) (xs : List Val) (hx : ∀ y ∈ x :: xs, okP 5 y = true) (hl : (x :: xs).length < 4294967296) (b : Ob) : ∀ s o q, (s 4 = .ptr 1 0 ∧ s 5 = .row 2 ∧ s 6 = .ptr 3 0 ∧ s 7 = .t (.int .i64 1) ∧ o 1 = b ∧ o 2 = .row 74 ((x :: xs).map valT) true ∧ o 3 = vBox x) →
    ∃ e s' o' q', run E (.code (.loop (loopAt Tryz.f206 0)) ⟨s, o, q, 36⟩) = some (.st e ⟨s', o', q', 36⟩) ∧ (e = .exit 0 ∧ s' 4 = .ptr 1 0 ∧ s' 6 = .ptr 3 0 ∧ o' 1 = b ∧ o' 3 = vBox (leastV x xs)) := by
  intro s o q hI
  have d8 := d206_8
  simp [regionOf, findR, pick, Tryz.f206] at d8
  have dd := fun st => run_region_draw E st 8 _ d8
  clear d8
  refine loop_wf (c := loopAt Tryz.f206 0) (N := 36)
    (fun k s o q => ∃ (i : Nat) (m : Val), k = xs.length - i ∧ s 4 = .ptr 1 0 ∧ s 5 = .row 2 ∧ s 6 = .ptr 3 0 ∧ s 7 = .t (.int .i64 ((i : Int) + 1)) ∧ o 1 = b ∧ o 2 = .row 74 ((x :: xs).map valT) true ∧ o 3 = vBox m ∧ i ≤ xs.length ∧ okP 5 m = true ∧ leastV m (xs.drop i) = leastV x xs)
    (fun e s' o' q' => e = .exit 0 ∧ s' 4 = .ptr 1 0 ∧ s' 6 = .ptr 3 0 ∧ o' 1 = b ∧ o' 3 = vBox (leastV x xs))
    ?_ xs.length s o q ⟨0, x, by omega, hI.1, hI.2.1, hI.2.2.1, by simpa using hI.2.2.2.1, hI.2.2.2.2.1, hI.2.2.2.2.2.1, hI.2.2.2.2.2.2, Nat.zero_le _, hx x (by simp), by simp⟩
  rintro k s o q ⟨i, m, hk, h4, h5, h6, h7, ho1, ho2, ho3, hix, hm, hlv⟩
  simp only [List.length_cons] at hl
  have hwi : IntKind.i64.wrap ((i : Int) + 1 + 1) = (i : Int) + 1 + 1 := wrap_of (by omega) (by omega)
  have hlen : (((x :: xs).map valT).length : Int) = (xs.length : Int) + 1 := by simp
  by_cases hi : i < xs.length
  · have hi' : (i : Int) < (xs.length : Int) := by omega
    have hi0 : 0 ≤ (i : Int) + 1 := by omega
    have hin : ((i : Int) + 1).toNat = i + 1 := by omega
    have hxi : xs[i]? = some xs[i] := List.getElem?_eq_getElem hi
    have hxo := hx xs[i] (by simp)
    have hc := specOrder 5 xs[i] m hxo hm (by have := okP_size hxo; omega) (by have := okP_size hm; omega)
    rw [List.drop_eq_getElem_cons hi] at hlv
    simp only [leastV, List.foldl_cons] at hlv
    by_cases hz : ordD 5 xs[i] m < 0
    · have hmv : minV m xs[i] = xs[i] := by simp [minV, hz]
      rw [hmv] at hlv
      simp [loopAt, loopsOf, Tryz.f206, dd, h4, h5, h6, h7, ho1, ho2, ho3, hi, hi', hi0, hin, hxi, hc, hwi, hz]
      exact ⟨xs.length - (i + 1), by omega, i + 1, rfl, by simp, xs[i], ⟨rfl, rfl, rfl⟩, by omega, hxo, hlv⟩
    · have hmv : minV m xs[i] = m := by simp [minV, hz]
      rw [hmv] at hlv
      simp [loopAt, loopsOf, Tryz.f206, dd, h4, h5, h6, h7, ho1, ho2, ho3, hi, hi', hi0, hin, hxi, hc, hwi, hz]
      exact ⟨xs.length - (i + 1), by omega, i + 1, rfl, by simp, m, ⟨rfl, rfl, rfl⟩, by omega, hm, hlv⟩
  · have hi' : ¬ (i : Int) < (xs.length : Int) := by omega
    rw [List.drop_of_length_le (by omega)] at hlv
    simp only [leastV, List.foldl_nil] at hlv
    subst hlv
    simp [loopAt, loopsOf, Tryz.f206, dd, h4, h5, h6, h7, ho1, ho2, ho3, hi, hi', leastV]
theorem l02First (v : Val) (p : Bytes) (h : okP 5 v = true) (hp : p.length < 4294967295) (hl : (getP (cutP 46 p) v).length < 4294967296) : run E (.call 206 [xV v, xS p]) = some (.res [valX (firstV p v)] []) := by
  rw [run_call E 206 _ rfl Tryz.func206 rfl rfl rfl (by simp)]
  have hg := l02Values v p (by have := okP_size h; omega) hp
  have ho := getP_ok (cutP 46 p) 5 v (Nat.le_refl _) h
  unfold firstV
  cases hv : getP (cutP 46 p) v with
  | nil => rw [hv] at hg; simp [hg, leastL]
  | cons x l =>
    rw [hv] at hg ho hl
    obtain ⟨X, A, B, C, hx⟩ := sk (l02First_loop x l ho hl (vBox ⟨0, 0, []⟩))
    simp only [loopAt, loopsOf, Tryz.f206] at hx
    simp at hx
    have hne : ¬ ((l.length : Int) + 1 = 0) := by omega
    simp [hg, leastL, hx, hne]
theorem minFunc_loop (x : Val) (xs : List Val) (hx : ∀ y ∈ x :: xs, okP 5 y = true) (hl : (x :: xs).length < 4294967296) (b : Ob) : ∀ s o q, (s 0 = .t (.list ((x :: xs).map valT)) ∧ s 1 = .fn 134 [] ∧ s 4 = .ptr 0 0 ∧ s 5 = .ptr 1 0 ∧ s 6 = .t (.int .i64 1) ∧ o 0 = b ∧ o 1 = vBox x) →
    ∃ e s' o' q', run E (.code (.loop (loopAt Tryz.f186 0)) ⟨s, o, q, 33⟩) = some (.st e ⟨s', o', q', 33⟩) ∧ (e = .exit 0 ∧ s' 4 = .ptr 0 0 ∧ s' 5 = .ptr 1 0 ∧ o' 0 = b ∧ o' 1 = vBox (leastV x xs)) := by
  intro s o q hI
  have d8 := d186_7
  simp [regionOf, findR, pick, Tryz.f186] at d8
  have dd := fun st => run_region_draw E st 7 _ d8
  clear d8
  refine loop_wf (c := loopAt Tryz.f186 0) (N := 33)
    (fun k s o q => ∃ (i : Nat) (m : Val), k = xs.length - i ∧ s 0 = .t (.list ((x :: xs).map valT)) ∧ s 1 = .fn 134 [] ∧ s 4 = .ptr 0 0 ∧ s 5 = .ptr 1 0 ∧ s 6 = .t (.int .i64 ((i : Int) + 1)) ∧ o 0 = b ∧ o 1 = vBox m ∧ i ≤ xs.length ∧ okP 5 m = true ∧ leastV m (xs.drop i) = leastV x xs)
    (fun e s' o' q' => e = .exit 0 ∧ s' 4 = .ptr 0 0 ∧ s' 5 = .ptr 1 0 ∧ o' 0 = b ∧ o' 1 = vBox (leastV x xs))
    ?_ xs.length s o q ⟨0, x, by omega, hI.1, hI.2.1, hI.2.2.1, hI.2.2.2.1, by simpa using hI.2.2.2.2.1, hI.2.2.2.2.2.1, hI.2.2.2.2.2.2, Nat.zero_le _, hx x (by simp), by simp⟩
  rintro k s o q ⟨i, m, hk, h0, h1, h4, h5, h6, ho1, ho3, hix, hm, hlv⟩
  simp only [List.length_cons] at hl
  have hwi : IntKind.i64.wrap ((i : Int) + 1 + 1) = (i : Int) + 1 + 1 := wrap_of (by omega) (by omega)
  by_cases hi : i < xs.length
  · have hi' : (i : Int) < (xs.length : Int) := by omega
    have hi0 : 0 ≤ (i : Int) + 1 := by omega
    have hin : ((i : Int) + 1).toNat = i + 1 := by omega
    have hxi : xs[i]? = some xs[i] := List.getElem?_eq_getElem hi
    have hxo := hx xs[i] (by simp)
    have hc := implOrder 5 xs[i] m hxo hm (by have := okP_size hxo; omega) (by have := okP_size hm; omega)
    rw [List.drop_eq_getElem_cons hi] at hlv
    simp only [leastV, List.foldl_cons] at hlv
    by_cases hz : ordD 5 xs[i] m < 0
    · have hmv : minV m xs[i] = xs[i] := by simp [minV, hz]
      rw [hmv] at hlv
      simp [loopAt, loopsOf, Tryz.f186, dd, h0, h1, h4, h5, h6, ho1, ho3, hi, hi', hi0, hin, hxi, hc, hwi, hz]
      exact ⟨xs.length - (i + 1), by omega, i + 1, rfl, by simp, xs[i], ⟨rfl, rfl, rfl⟩, by omega, hxo, hlv⟩
    · have hmv : minV m xs[i] = m := by simp [minV, hz]
      rw [hmv] at hlv
      simp [loopAt, loopsOf, Tryz.f186, dd, h0, h1, h4, h5, h6, ho1, ho3, hi, hi', hi0, hin, hxi, hc, hwi, hz]
      exact ⟨xs.length - (i + 1), by omega, i + 1, rfl, by simp, m, ⟨rfl, rfl, rfl⟩, by omega, hm, hlv⟩
  · have hi' : ¬ (i : Int) < (xs.length : Int) := by omega
    rw [List.drop_of_length_le (by omega)] at hlv
    simp only [leastV, List.foldl_nil] at hlv
    subst hlv
    simp [loopAt, loopsOf, Tryz.f186, dd, h0, h1, h4, h5, h6, ho1, ho3, hi, hi', leastV]
theorem minFunc (x : Val) (l : List Val) (ho : ∀ y ∈ x :: l, okP 5 y = true) (hl : (x :: l).length < 4294967296) : run E (.call 186 [.t (.list ((x :: l).map valT)), .fn 134 []]) = some (.res [valX (leastV x l)] []) := by
  rw [run_call E 186 _ rfl Tryz.func186 rfl rfl rfl (by simp)]
  obtain ⟨X, A, B, C, hx⟩ := sk (minFunc_loop x l ho hl (vBox ⟨0, 0, []⟩))
  simp only [loopAt, loopsOf, Tryz.f186] at hx
  simp at hx
  have hne : ¬ ((l.length : Int) + 1 < 1) := by omega
  simp [hx, hne]
theorem firstPath (v : Val) (p : Bytes) (h : okP 5 v = true) (hp : p.length < 4294967295) (hl : (getP (cutP 46 p) v).length < 4294967296) : run E (.call 106 [xV v, xS p]) = some (.res [valX (firstV p v)] []) := by
  rw [run_call E 106 _ rfl Tryz.func106 rfl rfl rfl (by simp)]
  have hg := getPath 5 v p h (by have := okP_size h; omega) hp
  have ho := getP_ok (cutP 46 p) 5 v (Nat.le_refl _) h
  unfold firstV
  cases hv : getP (cutP 46 p) v with
  | nil => rw [hv] at hg; simp [hg, leastL]
  | cons x l =>
    rw [hv] at hg ho hl
    have hm := minFunc x l ho hl
    simp only [List.map_cons] at hm
    have hne : ¬ ((l.length : Int) + 1 = 0) := by omega
    simp [hg, leastL, hm, hne]
def docsGo : Int → List Val → Bool
  | _, [] => true
  | p, v :: r => (isDocP v && !decide (specId v < 0)) && (!decide (specId v ≤ p) && docsGo (specId v) r)
def docsOK (l : List Val) : Bool := docsGo (-1) l && decide (l.length ≤ 20)
theorem specId_low (v : Val) : -1 ≤ specId v ∧ specId v ≤ 99 := by
  unfold specId
  cases fieldP v idB with
  | none => simp
  | some x =>
    dsimp only
    cases h : okId x with
    | false => simp
    | true =>
      unfold okId at h
      simp at h
      simp; omega
theorem idI_spec {v : Val} (h : isDocP v = true) : (idI v).2 = !decide (specId v < 0) ∧ ((idI v).2 = true → (idI v).1 = specId v) := by
  have hok : okP 5 v = true ∧ v.k = 5 := by simpa [isDocP, valueOK] using h
  obtain ⟨e, fs, _, _, hf, hr, _⟩ := okP_doc hok.1 hok.2
  unfold idI specId
  rw [fieldI_eq idB hf hr]
  cases fieldP v idB with
  | none => simp
  | some x =>
    dsimp only
    by_cases h : okId x = true
    · have h' := h
      unfold okId at h'
      simp at h'
      simp [h]
      exact h'.2.1
    · simp [h]
theorem l06Docs_loop (xs : List Val) (hl : xs.length < 4294967296) (hs : ∀ x ∈ xs, x.t.length < 4294967296) (r : Bool) (hr : r = docsGo (-1) xs) : ∀ s o q, (s 0 = .t (.list (xs.map valT)) ∧ s 3 = .t (.int .i64 0)) →
    ∃ e s' o' q', run E (.code (.loop (loopAt Tryz.f57 0)) ⟨s, o, q, 45⟩) = some (.st e ⟨s', o', q', 45⟩) ∧ (e = (if r then .exit 0 else .ret) ∧ s' 0 = .t (.list (xs.map valT)) ∧ (r = false → s' 2 = .t (.bool false))) := by
  intro s o q hI
  have d4 := d57_4
  simp [regionOf, findR, pick, Tryz.f57] at d4
  have dd := fun st => run_region_draw E st 4 _ d4
  clear d4
  refine loop_for (c := loopAt Tryz.f57 0) (N := 45)
    (fun i s o q => s 0 = .t (.list (xs.map valT)) ∧ s 3 = .t (.int .i64 i) ∧ ∃ p, (i = 0 → p = -1) ∧ (∀ j, i = j + 1 → ∃ x, xs[j]? = some x ∧ p = specId x) ∧ r = docsGo p (xs.drop i))
    (fun e s' o' q' => e = (if r then .exit 0 else .ret) ∧ s' 0 = .t (.list (xs.map valT)) ∧ (r = false → s' 2 = .t (.bool false))) xs.length ?_ ?_
    xs.length 0 s o q (by omega) ⟨hI.1, by simpa using hI.2, -1, fun _ => rfl, fun j h => by omega, by simpa using hr⟩
  · rintro i s o q hi ⟨h0, h3, p, hp0, hp1, hr⟩
    have hi' : (i : Int) < (xs.length : Int) := by omega
    have hwi := wrap_succ (n := i) (by omega)
    have hxi : xs[i]? = some xs[i] := List.getElem?_eq_getElem hi
    have hsm := hs xs[i] (List.getElem_mem hi)
    have hD := l03Doc xs[i] hsm
    have hID := specIdOf xs[i] hsm
    have hlo := specId_low xs[i]
    rw [List.drop_eq_getElem_cons hi, docsGo] at hr
    generalize hnx : specId xs[i] = n at *
    cases hA : isDocP xs[i] with
    | false =>
      rw [hA] at hr hD
      simp at hr
      simp [loopAt, loopsOf, Tryz.f57, dd, h0, h3, hi, hi', hxi, hD, hr]
    | true =>
      rw [hA] at hr hD
      by_cases hB : n < 0
      · simp [hB] at hr
        simp [loopAt, loopsOf, Tryz.f57, dd, h0, h3, hi, hi', hxi, hD, hID, hB, hr]
      · cases i with
        | zero =>
          have : p = -1 := hp0 rfl
          subst this
          have hC : ¬ n ≤ -1 := by omega
          simp [hB, hC] at hr
          simp [loopAt, loopsOf, Tryz.f57, dd, h0, h3, hi, hi', hxi, hD, hID, hB, hr]
          rw [hnx]
        | succ j =>
          obtain ⟨y, hy, hpy⟩ := hp1 j rfl
          have hj : j < xs.length := by omega
          obtain rfl : y = xs[j] := by rw [List.getElem?_eq_getElem hj] at hy; exact (Option.some.inj hy).symm
          have hysm := hs xs[j] (List.mem_of_getElem? hy)
          have hIDy := specIdOf xs[j] hysm
          rw [← hpy] at hIDy
          have hwj : IntKind.i64.wrap (j : Int) = j := wrap_nat (by omega)
          have hi2 : (j : Int) + 1 < (xs.length : Int) := by omega
          have hwi2 : IntKind.i64.wrap ((j : Int) + 1 + 1) = (j : Int) + 1 + 1 := wrap_of (by omega) (by omega)
          have hj0 : (0 : Int) < (j : Int) + 1 := by omega
          have hj1 : 0 ≤ (j : Int) + 1 := by omega
          have hj2 : ((j : Int) + 1).toNat = j + 1 := by omega
          by_cases hC : n ≤ p
          · simp [hB, hC] at hr
            simp [loopAt, loopsOf, Tryz.f57, dd, h0, h3, hi, hi', hxi, hD, hID, hB, hr, hy, hIDy, hwj, hj, hj0, hj1, hj2, hC, hi2, hwi2]
          · simp [hB, hC] at hr
            simp [loopAt, loopsOf, Tryz.f57, dd, h0, h3, hi, hi', hxi, hD, hID, hB, hr, hy, hIDy, hwj, hj, hj0, hj1, hj2, hC, hi2, hwi2]
            rw [hnx]
  · rintro s o q ⟨h0, h3, p, hp0, hp1, hr⟩
    rw [List.drop_of_length_le (by omega), docsGo] at hr
    simp [loopAt, loopsOf, Tryz.f57, dd, h0, h3, hr]
theorem l06Docs (xs : List Val) (hl : xs.length < 4294967296) (hs : ∀ x ∈ xs, x.t.length < 4294967296) : run E (.call 57 [.t (.list (xs.map valT))]) = some (.res [xB (docsOK xs)] []) := by
  rw [run_call E 57 _ rfl Tryz.func57 rfl rfl rfl (by simp)]
  obtain ⟨X, A, B, C, hx⟩ := sk (l06Docs_loop xs hl hs _ rfl)
  simp only [loopAt, loopsOf, Tryz.f57] at hx
  simp at hx
  have h2 : ((xs.length : Int) ≤ 20) = (xs.length ≤ 20) := by simp; omega
  unfold docsOK
  cases hd : docsGo (-1) xs with
  | false => rw [hd] at hx; simp at hx; simp [hx]
  | true => rw [hd] at hx; simp at hx; simp [hx, h2]
theorem hasId (v : Val) (hv : v.t.length < 4294967296) : run E (.call 127 [xV v]) = some (.res [xB (isDocP v && !decide (specId v < 0))] []) := by
  rw [run_call E 127 _ rfl Tryz.func127 rfl rfl rfl (by simp)]
  have h := isDoc v hv
  have h2 := implIdOf v hv
  cases hd : isDocP v with
  | false => rw [hd] at h; simp [h]
  | true => rw [hd] at h; rw [(idI_spec hd).1] at h2; simp [h, h2]
theorem areDocs_loop (xs : List Val) (hl : xs.length < 4294967296) (hs : ∀ x ∈ xs, x.t.length < 4294967296) (r : Bool) (hr : r = docsGo (-1) xs) : ∀ s o q, (s 0 = .t (.list (xs.map valT)) ∧ s 8 = .t (.list (xs.map valT)) ∧ s 9 = .t (.int .i64 xs.length) ∧ s 10 = .t (.int .i64 0) ∧ s 3 = .t (.int .i64 (-1))) →
    ∃ e s' o' q', run E (.code (.loop (loopAt Tryz.f61 0)) ⟨s, o, q, 30⟩) = some (.st e ⟨s', o', q', 30⟩) ∧ (e = (if r then .exit 0 else .ret) ∧ s' 0 = .t (.list (xs.map valT)) ∧ (r = false → s' 2 = .t (.bool false))) := by
  intro s o q hI
  refine loop_for (c := loopAt Tryz.f61 0) (N := 30)
    (fun i s o q => s 0 = .t (.list (xs.map valT)) ∧ s 8 = .t (.list (xs.map valT)) ∧ s 9 = .t (.int .i64 xs.length) ∧ s 10 = .t (.int .i64 i) ∧ ∃ p, s 3 = .t (.int .i64 p) ∧ r = docsGo p (xs.drop i))
    (fun e s' o' q' => e = (if r then .exit 0 else .ret) ∧ s' 0 = .t (.list (xs.map valT)) ∧ (r = false → s' 2 = .t (.bool false))) xs.length ?_ ?_
    xs.length 0 s o q (by omega) ⟨hI.1, hI.2.1, hI.2.2.1, by simpa using hI.2.2.2.1, -1, hI.2.2.2.2, by simpa using hr⟩
  · rintro i s o q hi ⟨h0, h8, h9, h10, p, h3, hr⟩
    have hi' : (i : Int) < (xs.length : Int) := by omega
    have hwi := wrap_succ (n := i) (by omega)
    have hxi : xs[i]? = some xs[i] := List.getElem?_eq_getElem hi
    have hsm := hs xs[i] (List.getElem_mem hi)
    have hH := hasId xs[i] hsm
    have hI := implIdOf xs[i] hsm
    rw [List.drop_eq_getElem_cons hi, docsGo] at hr
    cases hA : isDocP xs[i] with
    | false =>
      rw [hA] at hr hH
      simp at hr hH
      simp [loopAt, loopsOf, Tryz.f61, h0, h8, h9, h10, h3, hi, hi', hxi, hH, hr]
    | true =>
      obtain ⟨j1, j2⟩ := idI_spec hA
      rw [hA] at hr hH
      generalize hnx : specId xs[i] = n at *
      by_cases hB : n < 0
      · simp [hB] at hr hH
        simp [loopAt, loopsOf, Tryz.f61, h0, h8, h9, h10, h3, hi, hi', hxi, hH, hr]
      · simp [hB] at hr hH j1
        rw [j1, j2 j1] at hI
        by_cases hC : n ≤ p
        · simp [hC] at hr
          simp [loopAt, loopsOf, Tryz.f61, h0, h8, h9, h10, h3, hi, hi', hxi, hH, hI, hr, hC]
        · simp [hC] at hr
          simp [loopAt, loopsOf, Tryz.f61, h0, h8, h9, h10, h3, hi, hi', hxi, hH, hI, hr, hC, hwi]
  · rintro s o q ⟨h0, h8, h9, h10, p, h3, hr⟩
    rw [List.drop_of_length_le (by omega), docsGo] at hr
    simp [loopAt, loopsOf, Tryz.f61, h0, h8, h9, h10, h3, hr]
theorem areDocs (xs : List Val) (hl : xs.length < 4294967296) (hs : ∀ x ∈ xs, x.t.length < 4294967296) : run E (.call 61 [.t (.list (xs.map valT))]) = some (.res [xB (docsOK xs)] []) := by
  rw [run_call E 61 _ rfl Tryz.func61 rfl rfl rfl (by simp)]
  obtain ⟨X, A, B, C, hx⟩ := sk (areDocs_loop xs hl hs _ rfl)
  simp only [loopAt, loopsOf, Tryz.f61] at hx
  simp at hx
  have h2 : ((xs.length : Int) ≤ 20) = (xs.length ≤ 20) := by simp; omega
  unfold docsOK
  cases hd : docsGo (-1) xs with
  | false => rw [hd] at hx; simp at hx; simp [hx]
  | true => rw [hd] at hx; simp at hx; simp [hx, h2]
def Bd (n : Int) : Prop := -1 ≤ n ∧ n ≤ 1
theorem cmpI_bd (a b : Int) : Bd (cmpI a b) := by
  unfold cmpI Bd
  split
  · simp
  · split <;> simp
theorem cmpB_bd : ∀ (a b : Bytes), Bd (Lib.compareBytes a b)
  | [], [] => by simp [Lib.compareBytes, Bd]
  | [], _ :: _ => by simp [Lib.compareBytes, Bd]
  | _ :: _, [] => by simp [Lib.compareBytes, Bd]
  | x :: a, y :: b => by
    unfold Lib.compareBytes
    split
    · simp [Bd]
    · split
      · simp [Bd]
      · exact cmpB_bd a b
theorem orI_bd {a b : Int} (ha : Bd a) (hb : Bd b) : Bd (orI a b) := by
  unfold orI; split <;> assumption
theorem ordL_bd {α : Type} {f : α → α → Int} (hf : ∀ x y, Bd (f x y)) : ∀ xs ys : List α, Bd (ordL f xs ys)
  | [], [] => by simp [ordL, Bd]
  | [], _ :: _ => by simp [ordL, Bd]
  | _ :: _, [] => by simp [ordL, Bd]
  | x :: xs, y :: ys => by
    unfold ordL
    split
    · exact ordL_bd hf xs ys
    · exact hf x y
theorem ordD_bd : ∀ (d : Nat) (a b : Val), Bd (ordD d a b)
  | 0, a, b => by
    unfold ordD
    split
    · split
      · simp [Bd]
      · split
        · simp [Bd]
        · exact cmpB_bd _ _
    · exact orI_bd (cmpI_bd _ _) (cmpI_bd _ _)
  | d + 1, a, b => by
    unfold ordD
    split
    · split
      · exact ordL_bd (ordD_bd d) _ _
      · split
        · exact ordL_bd (fun f g => orI_bd (cmpB_bd _ _) (ordD_bd d _ _)) _ _
        · exact cmpB_bd _ _
    · exact orI_bd (cmpI_bd _ _) (cmpI_bd _ _)
/-- What one part of an order says of two documents. -/
def partC (p : Prt) (a b : Val) : Int := if p.desc then - ordD 5 (firstV p.path a) (firstV p.path b) else ordD 5 (firstV p.path a) (firstV p.path b)
def cmpParts : List Prt → Val → Val → Int
  | [], a, b => cmpI (specId a) (specId b)
  | p :: r, a, b => if partC p a b = 0 then cmpParts r a b else partC p a b
def partsSn (l : List Prt) : Prop := l.length < 4294967296 ∧ ∀ p ∈ l, p.path.length < 4294967295
theorem specLess_loop (xs : List Prt) (hs : partsSn xs) (a b : Val) (ha : okP 5 a = true) (hb : okP 5 b = true) (r : Bool) (n : Int) (hr : r = xs.any (fun p => !decide (partC p a b = 0))) (hn : n = cmpParts xs a b) : ∀ s o q, (s 2 = .t (.list (xs.map prtT)) ∧ s 3 = .ptr 0 0 ∧ s 4 = .ptr 1 0 ∧ s 7 = .t (.int .i64 0) ∧ o 0 = vBox a ∧ o 1 = vBox b) →
    ∃ e s' o' q', run E (.code (.loop (loopAt Tryz.f126 0)) ⟨s, o, q, 45⟩) = some (.st e ⟨s', o', q', 45⟩) ∧ (e = (if r then .ret else .exit 0) ∧ s' 3 = .ptr 0 0 ∧ s' 4 = .ptr 1 0 ∧ o' 0 = vBox a ∧ o' 1 = vBox b ∧ (r = true → s' 6 = .t (.bool (decide (n < 0))))) := by
  intro s o q hI
  have d4 := d126_4
  simp [regionOf, findR, pick, Tryz.f126] at d4
  have dd := fun st => run_region_draw E st 4 _ d4
  clear d4
  refine loop_for (c := loopAt Tryz.f126 0) (N := 45)
    (fun i s o q => s 2 = .t (.list (xs.map prtT)) ∧ s 3 = .ptr 0 0 ∧ s 4 = .ptr 1 0 ∧ s 7 = .t (.int .i64 i) ∧ o 0 = vBox a ∧ o 1 = vBox b ∧ r = (xs.drop i).any (fun p => !decide (partC p a b = 0)) ∧ n = cmpParts (xs.drop i) a b)
    (fun e s' o' q' => e = (if r then .ret else .exit 0) ∧ s' 3 = .ptr 0 0 ∧ s' 4 = .ptr 1 0 ∧ o' 0 = vBox a ∧ o' 1 = vBox b ∧ (r = true → s' 6 = .t (.bool (decide (n < 0))))) xs.length ?_ ?_
    xs.length 0 s o q (by omega) ⟨hI.1, hI.2.1, hI.2.2.1, by simpa using hI.2.2.2.1, hI.2.2.2.2.1, hI.2.2.2.2.2, by simpa using hr, by simpa using hn⟩
  · rintro i s o q hi ⟨h2, h3, h4, h7, o0, o1, hr, hn⟩
    have hxl := hs.1
    have hi' : (i : Int) < (xs.length : Int) := by omega
    have hwi := wrap_succ (n := i) (by omega)
    have hxi : xs[i]? = some xs[i] := List.getElem?_eq_getElem hi
    have hp := hs.2 xs[i] (List.getElem_mem hi)
    have hp' := hp
    have hga := getP_len (cutP 46 xs[i].path) a
    have hgb := getP_len (cutP 46 xs[i].path) b
    have hza := okP_size ha
    have hzb := okP_size hb
    have hA := l02First a xs[i].path ha hp' (by omega)
    have hB := l02First b xs[i].path hb hp' (by omega)
    have fa := firstV_ok xs[i].path ha
    have fb := firstV_ok xs[i].path hb
    have hO := specOrder 5 _ _ fa fb (by have := okP_size fa; omega) (by have := okP_size fb; omega)
    have hbd := ordD_bd 5 (firstV xs[i].path a) (firstV xs[i].path b)
    rw [List.drop_eq_getElem_cons hi] at hr hn
    rw [List.any_cons] at hr
    rw [cmpParts] at hn
    unfold partC at hr hn
    unfold Bd at hbd
    generalize hc : ordD 5 (firstV xs[i].path a) (firstV xs[i].path b) = c at *
    by_cases hz : c = 0
    · subst hz
      simp at hr hn
      simp [loopAt, loopsOf, Tryz.f126, dd, h2, h3, h4, h7, o0, o1, hi, hi', hxi, hwi, hA, hB, hO]
      exact ⟨hr, hn⟩
    · cases hd : xs[i].desc with
      | false =>
        simp [hz, hd] at hr hn
        subst hn
        simp [loopAt, loopsOf, Tryz.f126, dd, h2, h3, h4, h7, o0, o1, hi, hi', hxi, hwi, hA, hB, hO, hz, hd, hr]
      | true =>
        simp [hz, hd] at hr hn
        subst hn
        have hsg : decide (c < 0) = !decide (-c < 0) := by
          by_cases h : c < 0
          · have : ¬ -c < 0 := by omega
            simp [h, this]; omega
          · have : -c < 0 := by omega
            simp [h, this]; omega
        simp [loopAt, loopsOf, Tryz.f126, dd, h2, h3, h4, h7, o0, o1, hi, hi', hxi, hwi, hA, hB, hO, hz, hd, hr, hsg]
  · rintro s o q ⟨h2, h3, h4, h7, o0, o1, hr, hn⟩
    rw [List.drop_of_length_le (by omega)] at hr hn
    simp at hr
    simp [loopAt, loopsOf, Tryz.f126, dd, h2, h3, h4, h7, o0, o1, hr]
theorem cmpParts_none : ∀ (xs : List Prt) (a b : Val), xs.any (fun p => !decide (partC p a b = 0)) = false → cmpParts xs a b = cmpI (specId a) (specId b)
  | [], a, b, _ => rfl
  | p :: r, a, b, h => by
    simp [-List.any_eq_false] at h
    rw [cmpParts, if_pos h.1]
    exact cmpParts_none r a b (by simpa [-List.any_eq_false] using h.2)
theorem l07Less (xs : List Prt) (hs : partsSn xs) (a b : Val) (ha : okP 5 a = true) (hb : okP 5 b = true) : run E (.call 126 [xV a, xV b, .t (.list (xs.map prtT))]) = some (.res [xB (decide (cmpParts xs a b < 0))] []) := by
  rw [run_call E 126 _ rfl Tryz.func126 rfl rfl rfl (by simp)]
  obtain ⟨X, A, B, C, hx⟩ := sk (specLess_loop xs hs a b ha hb _ _ rfl rfl)
  simp only [loopAt, loopsOf, Tryz.f126] at hx
  have d7 := d126_7
  simp [regionOf, findR, pick, Tryz.f126] at d7
  have dd := fun st => run_region_draw E st 7 _ d7
  clear d7
  have ia := specIdOf a (by have := okP_size ha; omega)
  have ib := specIdOf b (by have := okP_size hb; omega)
  cases hr : xs.any (fun p => !decide (partC p a b = 0)) with
  | true =>
    rw [hr] at hx
    simp at hx
    simp [hx]
  | false =>
    rw [hr] at hx
    simp at hx
    rw [cmpParts_none xs a b hr]
    simp [hx, dd, ia, ib, cmpI_lt]
theorem compareIds (a b : Val) (ha : isDocP a = true) (hb : isDocP b = true) (ia : 0 ≤ specId a) (ib : 0 ≤ specId b) (la : a.t.length < 4294967296) (lb : b.t.length < 4294967296) : run E (.call 135 [xV a, xV b]) = some (.res [xI (cmpI (specId a) (specId b))] []) := by
  rw [run_call E 135 _ rfl Tryz.func135 rfl rfl rfl (by simp)]
  have h1 := implIdOf a la
  have h2 := implIdOf b lb
  obtain ⟨a1, a2⟩ := idI_spec ha
  obtain ⟨b1, b2⟩ := idI_spec hb
  have na : ¬ specId a < 0 := by omega
  have nb : ¬ specId b < 0 := by omega
  simp [na] at a1
  simp [nb] at b1
  rw [a2 a1] at h1
  rw [b2 b1] at h2
  have hc := compareInt (specId a) (specId b)
  simp [h1, h2, hc]
theorem sortDocs1_loop (xs : List Prt) (hs : partsSn xs) (a b : Val) (ha : okP 5 a = true) (hb : okP 5 b = true) (r : Bool) (n : Int) (hr : r = xs.any (fun p => !decide (partC p a b = 0))) (hn : n = cmpParts xs a b) : ∀ s o q, (s 9 = .t (.list (xs.map prtT)) ∧ s 3 = .ptr 0 0 ∧ s 4 = .ptr 1 0 ∧ s 10 = .t (.int .i64 xs.length) ∧ s 11 = .t (.int .i64 0) ∧ o 0 = vBox a ∧ o 1 = vBox b ∧ 1 < q) →
    ∃ e s' o' q', run E (.code (.loop (loopAt Tryz.f133 0)) ⟨s, o, q, 35⟩) = some (.st e ⟨s', o', q', 35⟩) ∧ (e = (if r then .ret else .exit 0) ∧ s' 3 = .ptr 0 0 ∧ s' 4 = .ptr 1 0 ∧ o' 0 = vBox a ∧ o' 1 = vBox b ∧ (r = true → s' 5 = .t (.int .i64 n))) := by
  intro s o q hI
  have d4 := d133_4
  simp [regionOf, findR, pick, Tryz.f133] at d4
  have dd := fun st => run_region_draw E st 4 _ d4
  clear d4
  refine loop_for (c := loopAt Tryz.f133 0) (N := 35)
    (fun i s o q => s 9 = .t (.list (xs.map prtT)) ∧ s 3 = .ptr 0 0 ∧ s 4 = .ptr 1 0 ∧ s 10 = .t (.int .i64 xs.length) ∧ s 11 = .t (.int .i64 i) ∧ o 0 = vBox a ∧ o 1 = vBox b ∧ 1 < q ∧ r = (xs.drop i).any (fun p => !decide (partC p a b = 0)) ∧ n = cmpParts (xs.drop i) a b)
    (fun e s' o' q' => e = (if r then .ret else .exit 0) ∧ s' 3 = .ptr 0 0 ∧ s' 4 = .ptr 1 0 ∧ o' 0 = vBox a ∧ o' 1 = vBox b ∧ (r = true → s' 5 = .t (.int .i64 n))) xs.length ?_ ?_
    xs.length 0 s o q (by omega) ⟨hI.1, hI.2.1, hI.2.2.1, hI.2.2.2.1, by simpa using hI.2.2.2.2.1, hI.2.2.2.2.2.1, hI.2.2.2.2.2.2.1, hI.2.2.2.2.2.2.2, by simpa using hr, by simpa using hn⟩
  · rintro i s o q hi ⟨h2, h3, h4, h10, h7, o0, o1, hq, hr, hn⟩
    have hxl := hs.1
    have hi' : (i : Int) < (xs.length : Int) := by omega
    have hwi := wrap_succ (n := i) (by omega)
    have hxi : xs[i]? = some xs[i] := List.getElem?_eq_getElem hi
    have hp := hs.2 xs[i] (List.getElem_mem hi)
    have hga := getP_len (cutP 46 xs[i].path) a
    have hgb := getP_len (cutP 46 xs[i].path) b
    have hza := okP_size ha
    have hzb := okP_size hb
    have hA := firstPath a xs[i].path ha hp (by omega)
    have hB := firstPath b xs[i].path hb hp (by omega)
    have fa := firstV_ok xs[i].path ha
    have fb := firstV_ok xs[i].path hb
    have hO := implOrder 5 _ _ fa fb (by have := okP_size fa; omega) (by have := okP_size fb; omega)
    have hbd := ordD_bd 5 (firstV xs[i].path a) (firstV xs[i].path b)
    have q0 : ¬ q = 0 := by omega
    have q1 : ¬ q = 1 := by omega
    have q0' : ¬ 0 = q := by omega
    have q1' : ¬ 1 = q := by omega
    have q2 : 1 < q + 1 := by omega
    rw [List.drop_eq_getElem_cons hi] at hr hn
    rw [List.any_cons] at hr
    rw [cmpParts] at hn
    unfold partC at hr hn
    unfold Bd at hbd
    generalize hc : ordD 5 (firstV xs[i].path a) (firstV xs[i].path b) = c at *
    have hwc : IntKind.i64.wrap (-c) = -c := wrap_of (by omega) (by omega)
    by_cases hz : c = 0
    · subst hz
      have hwc : IntKind.i64.wrap 0 = 0 := wrap_of (by omega) (by omega)
      simp at hr hn
      cases hd : xs[i].desc <;> simp [loopAt, loopsOf, Tryz.f133, dd, h2, h3, h4, h7, h10, o0, o1, hi, hi', hxi, hwi, hA, hB, hO, q0, q1, q0', q1', q2, hd, hwc]
      · exact ⟨hr, hn⟩
      · exact ⟨hr, hn⟩
    · have hz' : ¬ -c = 0 := by omega
      cases hd : xs[i].desc with
      | false =>
        simp [hz, hd] at hr hn
        subst hn
        simp [loopAt, loopsOf, Tryz.f133, dd, h2, h3, h4, h7, h10, o0, o1, hi, hi', hxi, hwi, hA, hB, hO, q0, q1, q0', q1', q2, hz, hd, hr]
      | true =>
        simp [hz, hd] at hr hn
        subst hn
        simp [loopAt, loopsOf, Tryz.f133, dd, h2, h3, h4, h7, h10, o0, o1, hi, hi', hxi, hwi, hA, hB, hO, q0, q1, q0', q1', q2, hz, hz', hd, hr, hwc]
  · rintro s o q ⟨h2, h3, h4, h10, h7, o0, o1, hq, hr, hn⟩
    rw [List.drop_of_length_le (by omega)] at hr hn
    simp at hr
    simp [loopAt, loopsOf, Tryz.f133, dd, h2, h3, h4, h7, h10, o0, o1, hr]
theorem sortDocs1 (xs : List Prt) (hs : partsSn xs) (a b : Val) (ha : isDocP a = true) (hb : isDocP b = true) (ia : 0 ≤ specId a) (ib : 0 ≤ specId b) : run E (.call 133 [xV a, xV b, .dref [.list (xs.map prtT)]]) = some (.res [xI (cmpParts xs a b)] []) := by
  rw [run_call E 133 _ rfl Tryz.func133 rfl rfl rfl (by simp)]
  have oa : okP 5 a = true := by simp [isDocP, valueOK] at ha; exact ha.1
  have ob : okP 5 b = true := by simp [isDocP, valueOK] at hb; exact hb.1
  obtain ⟨X, A, B, C, hx⟩ := sk (sortDocs1_loop xs hs a b oa ob _ _ rfl rfl)
  simp only [loopAt, loopsOf, Tryz.f133] at hx
  have hc := compareIds a b ha hb ia ib (by have := okP_size oa; omega) (by have := okP_size ob; omega)
  cases hr : xs.any (fun p => !decide (partC p a b = 0)) with
  | true =>
    rw [hr] at hx
    simp at hx
    simp [hx]
  | false =>
    rw [hr] at hx
    simp at hx
    rw [cmpParts_none xs a b hr]
    simp [hx, hc]
def placeS (lt : Val → Bool) (acc : List Val) : Nat → Nat
  | 0 => 0
  | k + 1 => match acc[k]? with
    | some y => if lt y then placeS lt acc k else k + 1
    | none => k + 1
theorem placeS_le (lt : Val → Bool) (acc : List Val) : ∀ k, placeS lt acc k ≤ k
  | 0 => Nat.le_refl _
  | k + 1 => by
    unfold placeS
    have := placeS_le lt acc k
    split
    · split <;> omega
    · omega
def insS (lt : Val → Val → Bool) (acc : List Val) (x : Val) : List Val := acc.take (placeS (lt x) acc acc.length) ++ x :: acc.drop (placeS (lt x) acc acc.length)
def sortS (lt : Val → Val → Bool) : List Val → List Val → List Val
  | acc, [] => acc
  | acc, x :: r => sortS lt (insS lt acc x) r
theorem insS_perm (lt : Val → Val → Bool) (acc : List Val) (x : Val) : (insS lt acc x).Perm (x :: acc) := by
  unfold insS
  refine List.perm_middle.trans (List.Perm.cons _ ?_)
  rw [List.take_append_drop]
theorem insS_len (lt : Val → Val → Bool) (acc : List Val) (x : Val) : (insS lt acc x).length = acc.length + 1 := (insS_perm lt acc x).length_eq
def ltS (ps : List Prt) (a b : Val) : Bool := decide (cmpParts ps a b < 0)
theorem place_loop (ps : List Prt) (hs : partsSn ps) (xs : List Val) (acc : List Val) (hxl : xs.length < 4294967296) (hal : acc.length < 4294967296) (hx : ∀ x ∈ xs, okP 5 x = true) (ha : ∀ x ∈ acc, okP 5 x = true) (i : Nat) (hi : i < xs.length) (r : Nat) (P : Nat) (hP : P = placeS (ltS ps xs[i]) acc acc.length) : ∀ s o q, (s 0 = .t (.list (xs.map valT)) ∧ s 1 = .t (.list (ps.map prtT)) ∧ s 5 = .row r ∧ s 6 = .t (.int .i64 i) ∧ s 7 = .t (.int .i64 acc.length) ∧ o r = .row 74 (acc.map valT) true ∧ r < q) →
    ∃ e s' o' q', run E (.code (.loop (loopAt Tryz.f59 1)) ⟨s, o, q, 50⟩) = some (.st e ⟨s', o', q', 50⟩) ∧ (e = .exit 2 ∧ s' 0 = .t (.list (xs.map valT)) ∧ s' 1 = .t (.list (ps.map prtT)) ∧ s' 5 = .row r ∧ s' 6 = .t (.int .i64 i) ∧ s' 7 = .t (.int .i64 P) ∧ o' r = .row 74 (acc.map valT) true ∧ r < q' ∧ ¬ r = q' ∧ ¬ r = q' + 1 ∧ ¬ r = q' + 2 ∧ ¬ q' = r) := by
  intro s o q hI
  have d6 := d59_6
  simp [regionOf, findR, pick, Tryz.f59] at d6
  have dd := fun st => run_region_draw E st 6 _ d6
  clear d6
  refine loop_wf (c := loopAt Tryz.f59 1) (N := 50)
    (fun k s o q => s 0 = .t (.list (xs.map valT)) ∧ s 1 = .t (.list (ps.map prtT)) ∧ s 5 = .row r ∧ s 6 = .t (.int .i64 i) ∧ s 7 = .t (.int .i64 k) ∧ o r = .row 74 (acc.map valT) true ∧ r < q ∧ k ≤ acc.length ∧ P = placeS (ltS ps xs[i]) acc k)
    (fun e s' o' q' => e = .exit 2 ∧ s' 0 = .t (.list (xs.map valT)) ∧ s' 1 = .t (.list (ps.map prtT)) ∧ s' 5 = .row r ∧ s' 6 = .t (.int .i64 i) ∧ s' 7 = .t (.int .i64 P) ∧ o' r = .row 74 (acc.map valT) true ∧ r < q' ∧ ¬ r = q' ∧ ¬ r = q' + 1 ∧ ¬ r = q' + 2 ∧ ¬ q' = r)
    ?_ acc.length s o q ⟨hI.1, hI.2.1, hI.2.2.1, hI.2.2.2.1, hI.2.2.2.2.1, hI.2.2.2.2.2.1, hI.2.2.2.2.2.2, Nat.le_refl _, hP⟩
  rintro k s o q ⟨h0, h1, h5, h6, h7, hor, hrq, hk, hP⟩
  have hi' : (i : Int) < (xs.length : Int) := by omega
  have hxi : xs[i]? = some xs[i] := List.getElem?_eq_getElem hi
  have hq : ¬ r = q ∧ ¬ r = q + 1 ∧ ¬ r = q + 2 ∧ ¬ q = r := by omega
  cases k with
  | zero =>
    unfold placeS at hP
    simp [loopAt, loopsOf, Tryz.f59, dd, h0, h1, h5, h6, h7, hor, hP, hrq, hq]
  | succ k =>
    have hka : k < acc.length := by omega
    have hak : acc[k]? = some acc[k] := List.getElem?_eq_getElem hka
    have hC := l07Less ps hs xs[i] acc[k] (hx _ (List.getElem_mem hi)) (ha _ (List.getElem_mem hka))
    unfold placeS at hP
    rw [hak] at hP
    dsimp only at hP
    rw [show ltS ps xs[i] acc[k] = decide (cmpParts ps xs[i] acc[k] < 0) from rfl] at hP
    have k0 : (0 : Int) < (k : Int) + 1 := by omega
    have hwk : IntKind.i64.wrap (k : Int) = k := wrap_nat (by omega)
    cases hz : decide (cmpParts ps xs[i] acc[k] < 0) with
    | false =>
      rw [hz] at hC hP
      simp at hP
      simp [loopAt, loopsOf, Tryz.f59, dd, h0, h1, h5, h6, h7, hor, hP, hrq, hq, hi, hi', hxi, hka, hak, hC, k0, hwk]
    | true =>
      rw [hz] at hC hP
      simp at hP
      simp [loopAt, loopsOf, Tryz.f59, dd, h0, h1, h5, h6, h7, hor, hrq, hq, hi, hi', hxi, hka, hak, hC, k0, hwk]
      exact ⟨k, by omega, by simp, by omega, hP⟩
theorem sort_loop (ps : List Prt) (hs : partsSn ps) (xs : List Val) (hxl : xs.length ≤ 1000) (hx : ∀ x ∈ xs, okP 5 x = true) (r0 : Nat) (R : List Val) (hR : R = sortS (ltS ps) [] xs) : ∀ s o q, (s 0 = .t (.list (xs.map valT)) ∧ s 1 = .t (.list (ps.map prtT)) ∧ s 5 = .row r0 ∧ s 6 = .t (.int .i64 0) ∧ o r0 = .row 74 [] true ∧ r0 < q) →
    ∃ e s' o' q', run E (.code (.loop (loopAt Tryz.f59 0)) ⟨s, o, q, 50⟩) = some (.st e ⟨s', o', q', 50⟩) ∧ ∃ r, (e = .exit 0 ∧ s' 5 = .row r ∧ o' r = .row 74 (R.map valT) true) := by
  intro s o q hI
  have n8 := n59_8
  have s8 := s59_8
  simp [regionOf, findR, pick, Tryz.f59] at n8 s8
  have dd := fun st => run_region_drawS E st 8 _ n8 s8
  clear n8 s8
  refine loop_for (c := loopAt Tryz.f59 0) (N := 50)
    (fun i s o q => ∃ (r : Nat) (acc : List Val), s 0 = .t (.list (xs.map valT)) ∧ s 1 = .t (.list (ps.map prtT)) ∧ s 5 = .row r ∧ s 6 = .t (.int .i64 i) ∧ o r = .row 74 (acc.map valT) true ∧ r < q ∧ acc.length = i ∧ (∀ x ∈ acc, okP 5 x = true) ∧ R = sortS (ltS ps) acc (xs.drop i))
    (fun e s' o' q' => ∃ r, (e = .exit 0 ∧ s' 5 = .row r ∧ o' r = .row 74 (R.map valT) true)) xs.length ?_ ?_
    xs.length 0 s o q (by omega) ⟨r0, [], hI.1, hI.2.1, hI.2.2.1, by simpa using hI.2.2.2.1, by simpa using hI.2.2.2.2.1, hI.2.2.2.2.2, rfl, by simp, by simpa using hR⟩
  · rintro i s o q hi ⟨r, acc, h0, h1, h5, h6, hor, hrq, hal, hao, hR⟩
    have hi' : (i : Int) < (xs.length : Int) := by omega
    have hwi := wrap_succ (n := i) (by omega)
    have hxi : xs[i]? = some xs[i] := List.getElem?_eq_getElem hi
    have hxo := hx _ (List.getElem_mem hi)
    obtain ⟨P, hP⟩ : ∃ P, P = placeS (ltS ps xs[i]) acc acc.length := ⟨_, rfl⟩
    have hPl : P ≤ acc.length := by rw [hP]; exact placeS_le _ _ _
    obtain ⟨X, A, B, C, hl⟩ := sk (place_loop ps hs xs acc (by omega) (by omega) hx hao i hi r P hP)
    simp only [loopAt, loopsOf, Tryz.f59] at hl
    simp at hl
    rw [List.drop_eq_getElem_cons hi, sortS] at hR
    have hins : insS (ltS ps) acc xs[i] = acc.take P ++ xs[i] :: acc.drop P := by unfold insS; rw [← hP]
    have hil := insS_len (ltS ps) acc xs[i]
    have hio : ∀ x ∈ insS (ltS ps) acc xs[i], okP 5 x = true := by
      intro x hm
      rcases List.mem_cons.1 ((insS_perm (ltS ps) acc xs[i]).mem_iff.1 hm) with rfl | hm
      · exact hxo
      · exact hao x hm
    have hPl' : (P : Int) ≤ (acc.length : Int) := by omega
    obtain ⟨b1, b2, b3, b4, b5, b6⟩ : P ≤ 140737488355328 ∧ P * 32 ≤ 140737488355328 ∧ P ≤ 140737488355327 ∧ (P + 1) * 32 ≤ 140737488355328 ∧ P + 1 + (acc.length - P) ≤ 140737488355328 ∧ (P + 1 + (acc.length - P)) * 32 ≤ 140737488355328 := by
      clear hR hl hxi
      (repeat' apply And.intro) <;> omega
    have htk : (acc.map valT).take acc.length = acc.map valT := by rw [show acc.length = (acc.map valT).length by simp, List.take_length]
    simp [loopAt, loopsOf, Tryz.f59, dd, h0, h1, h5, h6, hor, hrq, hi, hi', hxi, hwi, hl, hPl, hPl', b1, b2, b3, b4, b5, b6, htk]
    exact ⟨insS (ltS ps) acc xs[i], by rw [hins]; simp, by omega, hio, hR⟩
  · rintro s o q ⟨r, acc, h0, h1, h5, h6, hor, hrq, hal, hao, hR⟩
    rw [List.drop_of_length_le (by omega), sortS] at hR
    subst hR
    simp [loopAt, loopsOf, Tryz.f59, dd, h0, h1, h5, h6, hor]
theorem l07Sort (ps : List Prt) (hs : partsSn ps) (xs : List Val) (hxl : xs.length ≤ 1000) (hx : ∀ x ∈ xs, okP 5 x = true) : run E (.call 59 [.t (.list (xs.map valT)), .t (.list (ps.map prtT))]) = some (.res [.row 74 ((sortS (ltS ps) [] xs).map valT)] []) := by
  rw [run_call E 59 _ rfl Tryz.func59 rfl rfl rfl (by simp)]
  obtain ⟨X, A, B, C, M, hl⟩ := sk1 (sort_loop ps hs xs hxl hx 0 _ rfl)
  simp only [loopAt, loopsOf, Tryz.f59] at hl
  simp at hl
  simp [hl]
set_option maxHeartbeats 4000000
/-- An order on what is in S: it can be turned round, goes in a row, and tells all apart. -/
structure Ord3 {α : Type} (S : α → Prop) (f : α → α → Int) : Prop where
  anti : ∀ x y, S x → S y → f x y = - f y x
  row : ∀ x y z, S x → S y → S z → f x y ≤ 0 → f y z ≤ 0 → f x z ≤ 0
  zero : ∀ x y, S x → S y → f x y = 0 → x = y
theorem Ord3.lt {α : Type} {S : α → Prop} {f : α → α → Int} (h : Ord3 S f) {x y z : α} (hx : S x) (hy : S y) (hz : S z) (h1 : f x y ≤ 0) (h2 : f y z < 0) : f x z < 0 := by
  have h3 := h.row x y z hx hy hz h1 (by omega)
  by_cases he : f x z = 0
  · have := h.zero x z hx hz he
    subst this
    have := h.anti x y hx hy
    omega
  · omega
theorem ordL_anti {α : Type} {S : α → Prop} {f : α → α → Int} (h : Ord3 S f) : ∀ (xs ys : List α), (∀ x ∈ xs, S x) → (∀ y ∈ ys, S y) → ordL f xs ys = - ordL f ys xs
  | [], [], _, _ => by simp [ordL]
  | [], _ :: _, _, _ => by simp [ordL]
  | _ :: _, [], _, _ => by simp [ordL]
  | x :: xs, y :: ys, hx, hy => by
    have h1 := h.anti x y (hx x (by simp)) (hy y (by simp))
    have ih := ordL_anti h xs ys (fun a ha => hx a (by simp [ha])) (fun a ha => hy a (by simp [ha]))
    unfold ordL
    by_cases he : f x y = 0
    · have : f y x = 0 := by omega
      rw [if_pos he, if_pos this]; exact ih
    · have : ¬ f y x = 0 := by omega
      rw [if_neg he, if_neg this]; exact h1
theorem ordL_row {α : Type} {S : α → Prop} {f : α → α → Int} (h : Ord3 S f) : ∀ (xs ys zs : List α), (∀ x ∈ xs, S x) → (∀ y ∈ ys, S y) → (∀ z ∈ zs, S z) → ordL f xs ys ≤ 0 → ordL f ys zs ≤ 0 → ordL f xs zs ≤ 0
  | [], ys, [], _, _, _, _, _ => by simp [ordL]
  | [], ys, _ :: _, _, _, _, _, _ => by simp [ordL]
  | _ :: _, [], _, _, _, _, h1, _ => by simp [ordL] at h1
  | _ :: _, _ :: _, [], _, _, _, _, h2 => by simp [ordL] at h2
  | x :: xs, y :: ys, z :: zs, hx, hy, hz, h1, h2 => by
    have sx := hx x (by simp)
    have sy := hy y (by simp)
    have sz := hz z (by simp)
    have ih := ordL_row h xs ys zs (fun a ha => hx a (by simp [ha])) (fun a ha => hy a (by simp [ha])) (fun a ha => hz a (by simp [ha]))
    unfold ordL at h1 h2 ⊢
    by_cases e1 : f x y = 0
    · have := h.zero x y sx sy e1
      subst this
      rw [if_pos e1] at h1
      by_cases e2 : f x z = 0
      · rw [if_pos e2] at h2 ⊢; exact ih h1 h2
      · rw [if_neg e2] at h2 ⊢; exact h2
    · rw [if_neg e1] at h1
      by_cases e2 : f y z = 0
      · have := h.zero y z sy sz e2
        subst this
        rw [if_neg e1]; exact h1
      · rw [if_neg e2] at h2
        have := h.lt sx sy sz h1 (by omega)
        rw [if_neg (by omega)]; omega
theorem cmpI_ord : Ord3 (fun _ => True) cmpI := by
  refine ⟨fun x y _ _ => ?_, fun x y z _ _ _ => ?_, fun x y _ _ h => by rwa [cmpI_eq] at h⟩
  · unfold cmpI
    split <;> split <;> (try split) <;> omega
  · unfold cmpI
    intro h1 h2
    split at h1 <;> split at h2 <;> split <;> (try split) <;> (try split at h1) <;> (try split at h2) <;> omega
theorem cmpB_ordL : ∀ (a b : Bytes), Lib.compareBytes a b = ordL (fun x y : UInt8 => cmpI x.toNat y.toNat) a b
  | [], [] => by simp [Lib.compareBytes, ordL]
  | [], _ :: _ => by simp [Lib.compareBytes, ordL]
  | _ :: _, [] => by simp [Lib.compareBytes, ordL]
  | x :: a, y :: b => by
    have ih := cmpB_ordL a b
    unfold Lib.compareBytes ordL
    rw [ih]
    generalize ordL (fun x y : UInt8 => cmpI x.toNat y.toNat) a b = r
    unfold cmpI
    simp only [UInt8.lt_iff_toNat_lt]
    by_cases h1 : x.toNat < y.toNat
    · have : (x.toNat : Int) < y.toNat := by omega
      simp [h1, this]
    · by_cases h2 : y.toNat < x.toNat
      · have e1 : ¬ (x.toNat : Int) < y.toNat := by omega
        have e2 : (y.toNat : Int) < x.toNat := by omega
        simp [h1, h2, e1, e2]
      · have e1 : ¬ (x.toNat : Int) < y.toNat := by omega
        have e2 : ¬ (y.toNat : Int) < x.toNat := by omega
        simp [h1, h2, e1, e2]
theorem byte_ord : Ord3 (fun _ => True) (fun x y : UInt8 => cmpI x.toNat y.toNat) := by
  refine ⟨fun x y _ _ => cmpI_ord.anti _ _ trivial trivial, fun x y z _ _ _ => cmpI_ord.row _ _ _ trivial trivial trivial, fun x y _ _ h => ?_⟩
  rw [cmpI_eq] at h
  exact UInt8.toNat_inj.1 (by omega)
theorem cmpB_ord : Ord3 (fun _ => True) Lib.compareBytes := by
  refine ⟨fun x y _ _ => ?_, fun x y z _ _ _ => ?_, fun x y _ _ h => by rwa [compareBytes_eq] at h⟩
  · rw [cmpB_ordL, cmpB_ordL]; exact ordL_anti byte_ord x y (fun _ _ => trivial) (fun _ _ => trivial)
  · rw [cmpB_ordL, cmpB_ordL, cmpB_ordL]; exact ordL_row byte_ord x y z (fun _ _ => trivial) (fun _ _ => trivial) (fun _ _ => trivial)
/-- One order ahead of another. -/
theorem orI_ord {α β γ : Type} {S : α → Prop} {T : β → Prop} {U : γ → Prop} {f : β → β → Int} {g : γ → γ → Int} (p : α → β) (q : α → γ) (hp : ∀ x, S x → T (p x)) (hq : ∀ x, S x → U (q x)) (hf : Ord3 T f) (hg : Ord3 U g) (he : ∀ x y, S x → S y → p x = p y → q x = q y → x = y) : Ord3 S (fun x y => orI (f (p x) (p y)) (g (q x) (q y))) := by
  refine ⟨fun x y hx hy => ?_, fun x y z hx hy hz h1 h2 => ?_, fun x y hx hy h => ?_⟩
  · have a := hf.anti _ _ (hp x hx) (hp y hy)
    have b := hg.anti _ _ (hq x hx) (hq y hy)
    unfold orI
    split <;> split <;> omega
  · unfold orI at h1 h2 ⊢
    by_cases e1 : f (p x) (p y) = 0
    · have ep := hf.zero _ _ (hp x hx) (hp y hy) e1
      rw [if_pos e1] at h1
      rw [ep]
      by_cases e2 : f (p y) (p z) = 0
      · rw [if_pos e2] at h2 ⊢
        exact hg.row _ _ _ (hq x hx) (hq y hy) (hq z hz) h1 h2
      · rw [if_neg e2] at h2 ⊢; exact h2
    · rw [if_neg e1] at h1
      by_cases e2 : f (p y) (p z) = 0
      · have ep := hf.zero _ _ (hp y hy) (hp z hz) e2
        rw [← ep, if_neg e1]; exact h1
      · rw [if_neg e2] at h2
        have := hf.lt (hp x hx) (hp y hy) (hp z hz) h1 (by omega)
        rw [if_neg (by omega)]; omega
  · obtain ⟨z1, z2⟩ := orI_zero h
    exact he x y hx hy (hf.zero _ _ (hp x hx) (hp y hy) z1) (hg.zero _ _ (hq x hx) (hq y hy) z2)
theorem orDep {α β : Type} {S : α → Prop} {f : β → β → Int} {r : α → α → Int} (p : α → β) (hf : Ord3 (fun _ => True) f) (ha : ∀ x y, S x → S y → p x = p y → r x y = - r y x) (hr : ∀ x y z, S x → S y → S z → p x = p y → p y = p z → r x y ≤ 0 → r y z ≤ 0 → r x z ≤ 0) (hz : ∀ x y, S x → S y → p x = p y → r x y = 0 → x = y) : Ord3 S (fun x y => if f (p x) (p y) = 0 then r x y else f (p x) (p y)) := by
  refine ⟨fun x y hx hy => ?_, fun x y z hx hy hz h1 h2 => ?_, fun x y hx hy h => ?_⟩
  · have a := hf.anti (p x) (p y) trivial trivial
    by_cases e : f (p x) (p y) = 0
    · have e' : f (p y) (p x) = 0 := by omega
      simp only [if_pos e, if_pos e']
      exact ha x y hx hy (hf.zero _ _ trivial trivial e)
    · have e' : ¬ f (p y) (p x) = 0 := by omega
      simp only [if_neg e, if_neg e']
      exact a
  · by_cases e1 : f (p x) (p y) = 0
    · have ep := hf.zero _ _ trivial trivial e1
      simp only [if_pos e1] at h1
      rw [ep]
      by_cases e2 : f (p y) (p z) = 0
      · have eq := hf.zero _ _ trivial trivial e2
        simp only [if_pos e2] at h2 ⊢
        exact hr x y z hx hy hz ep eq h1 h2
      · simp only [if_neg e2] at h2 ⊢; exact h2
    · simp only [if_neg e1] at h1
      by_cases e2 : f (p y) (p z) = 0
      · have ep := hf.zero _ _ trivial trivial e2
        rw [← ep]; simp only [if_neg e1]; exact h1
      · simp only [if_neg e2] at h2
        have := hf.lt (x := p x) (y := p y) (z := p z) trivial trivial trivial h1 (by omega)
        have e3 : ¬ f (p x) (p z) = 0 := by omega
        simp only [if_neg e3]; omega
  · by_cases e : f (p x) (p y) = 0
    · simp only [if_pos e] at h
      exact hz x y hx hy (hf.zero _ _ trivial trivial e) h
    · simp only [if_neg e] at h
      exact absurd h e
theorem kn_ord : Ord3 (fun _ => True) (fun x y : Int × Int => orI (cmpI x.1 y.1) (cmpI x.2 y.2)) :=
  orI_ord (S := fun _ => True) (T := fun _ => True) (U := fun _ => True) Prod.fst Prod.snd (fun _ _ => trivial) (fun _ _ => trivial) cmpI_ord cmpI_ord (fun x y _ _ h1 h2 => by cases x; cases y; simp_all)
theorem ordL_tri {α : Type} {S : α → Prop} {f : α → α → Int} (h : Ord3 S f) : Ord3 (fun xs : List α => ∀ x ∈ xs, S x) (ordL f) :=
  ⟨fun x y hx hy => ordL_anti h x y hx hy, fun x y z hx hy hz => ordL_row h x y z hx hy hz, fun x y hx hy => ordL_zero (fun a ha b hb hz => h.zero a b (hx a ha) (hy b hb) hz)⟩
/-- What is told apart behind kind and number. -/
def restD (d : Nat) (a b : Val) : Int :=
  if a.k = 4 then (match d with
    | 0 => 0
    | d + 1 => ordL (ordD d) (itemsL a.t) (itemsL b.t))
  else if a.k = 5 then (match d with
    | 0 => 0
    | d + 1 => ordL (fun f g => orI (Lib.compareBytes f.name g.name) (ordD d f.v g.v)) (fieldsL a.t) (fieldsL b.t))
  else Lib.compareBytes a.t b.t
theorem ordD_rest (d : Nat) : ordD d = fun a b => if (fun x y : Int × Int => orI (cmpI x.1 y.1) (cmpI x.2 y.2)) (a.k, a.n) (b.k, b.n) = 0 then restD d a b else (fun x y : Int × Int => orI (cmpI x.1 y.1) (cmpI x.2 y.2)) (a.k, a.n) (b.k, b.n) := by
  funext a b
  unfold ordD restD
  rfl
theorem items_ok {d : Nat} {v : Val} (h : okP (d + 1) v = true) (hk : v.k = 4) : ∀ x ∈ itemsL v.t, okP d x = true := by
  obtain ⟨e, xs, hd, _, hi, hx⟩ := okP_list h hk
  obtain rfl : d = e := by omega
  simpa [itemsL, hi] using hx
theorem fields_ok {d : Nat} {v : Val} (h : okP (d + 1) v = true) (hk : v.k = 5) : ∀ x ∈ fieldsL v.t, okP d x.v = true := by
  obtain ⟨e, xs, hd, _, hi, _, hx⟩ := okP_doc h hk
  obtain rfl : d = e := by omega
  simp only [fieldsL, hi, Option.getD_some]
  exact fun x h => (hx x h).2
theorem fld_ord {d : Nat} (ih : Ord3 (fun v => okP d v = true) (ordD d)) : Ord3 (fun f : Fld => okP d f.v = true) (fun f g => orI (Lib.compareBytes f.name g.name) (ordD d f.v g.v)) :=
  orI_ord (T := fun _ => True) (U := fun v => okP d v = true) Fld.name Fld.v (fun _ _ => trivial) (fun _ h => h) cmpB_ord ih (fun x y _ _ h1 h2 => fld_eq h1 h2)
theorem ord_step (d : Nat) (ih : ∀ e, d = e + 1 → Ord3 (fun v => okP e v = true) (ordD e)) : Ord3 (fun v => okP d v = true) (ordD d) := by
  have hz : ∀ x y, okP d x = true → okP d y = true → ordD d x y = 0 → x = y := fun x y hx hy h => ordD_zero d x y hx hy h
  have hr := ordD_rest d
  have h0 : ∀ x y : Val, (x.k, x.n) = (y.k, y.n) → restD d x y = ordD d x y := by
    intro x y h
    simp only [Prod.mk.injEq] at h
    rw [hr]
    simp [h.1, h.2, orI, cmpI]
  rw [hr]
  refine orDep (fun v => (v.k, v.n)) kn_ord (fun x y hx hy h => ?_) (fun x y z hx hy hz' h1 h2 => ?_) (fun x y hx hy h e => hz x y hx hy (by rw [← h0 x y h]; exact e))
  · simp only [Prod.mk.injEq] at h
    unfold restD
    rw [← h.1]
    split
    · rename_i h4
      cases d with
      | zero => simp
      | succ d => exact (ordL_tri (ih d rfl)).anti _ _ (items_ok hx h4) (items_ok hy (by omega))
    · split
      · rename_i h5
        cases d with
        | zero => simp
        | succ d => exact (ordL_tri (fld_ord (ih d rfl))).anti _ _ (fields_ok hx h5) (fields_ok hy (by omega))
      · exact cmpB_ord.anti _ _ trivial trivial
  · simp only [Prod.mk.injEq] at h1 h2
    unfold restD
    rw [← h1.1]
    split
    · rename_i h4
      cases d with
      | zero => simp
      | succ d => exact (ordL_tri (ih d rfl)).row _ _ _ (items_ok hx h4) (items_ok hy (by omega)) (items_ok hz' (by omega))
    · split
      · rename_i h5
        cases d with
        | zero => simp
        | succ d => exact (ordL_tri (fld_ord (ih d rfl))).row _ _ _ (fields_ok hx h5) (fields_ok hy (by omega)) (fields_ok hz' (by omega))
      · exact cmpB_ord.row _ _ _ trivial trivial trivial
theorem ordD_ord : ∀ d : Nat, Ord3 (fun v => okP d v = true) (ordD d)
  | 0 => ord_step 0 (fun e h => by omega)
  | d + 1 => ord_step (d + 1) (fun e h => by
    have : d = e := by omega
    subst this
    exact ordD_ord d)
/-- An order that may hold two for alike. -/
structure Pre {α : Type} (S : α → Prop) (f : α → α → Int) : Prop where
  anti : ∀ x y, S x → S y → f x y = - f y x
  row : ∀ x y z, S x → S y → S z → f x y ≤ 0 → f y z ≤ 0 → f x z ≤ 0
theorem Pre.lex {α : Type} {S : α → Prop} {f g : α → α → Int} (hf : Pre S f) (hg : Pre S g) : Pre S (fun x y => if f x y = 0 then g x y else f x y) := by
  refine ⟨fun x y hx hy => ?_, fun x y z hx hy hz h1 h2 => ?_⟩
  · have a := hf.anti x y hx hy
    have b := hg.anti x y hx hy
    split <;> split <;> omega
  · have a1 := hf.anti x y hx hy
    have a2 := hf.anti y z hy hz
    have a3 := hf.anti x z hx hz
    have r1 := hf.row x y z hx hy hz
    have r2 := hf.row z y x hz hy hx
    have r3 := hf.row z x y hz hx hy
    have r4 := hf.row y z x hy hz hx
    have r5 := hg.row x y z hx hy hz
    by_cases p : f x y = 0 <;> by_cases q : f y z = 0
    · simp only [p, q, if_true] at h1 h2
      have : f x z = 0 := by omega
      simp only [this, if_true]
      exact r5 h1 h2
    · simp only [p, q, if_true, if_false] at h1 h2
      have : f x z ≤ 0 := by omega
      have : f x z ≠ 0 := by omega
      simp only [this, if_false]
      omega
    · simp only [p, q, if_true, if_false] at h1 h2
      have : f x z ≤ 0 := by omega
      have : f x z ≠ 0 := by omega
      simp only [this, if_false]
      omega
    · simp only [p, q, if_false] at h1 h2
      have : f x z ≤ 0 := by omega
      have : f x z ≠ 0 := by omega
      simp only [this, if_false]
      omega
theorem partC_pre (p : Prt) : Pre (fun v => okP 5 v = true) (partC p) := by
  have h := ordD_ord 5
  refine ⟨fun x y hx hy => ?_, fun x y z hx hy hz h1 h2 => ?_⟩
  · have := h.anti _ _ (firstV_ok p.path hx) (firstV_ok p.path hy)
    unfold partC
    split <;> omega
  · have fx := firstV_ok p.path hx
    have fy := firstV_ok p.path hy
    have fz := firstV_ok p.path hz
    have b1 := h.anti _ _ fx fy
    have b2 := h.anti _ _ fy fz
    have b3 := h.anti _ _ fx fz
    have r1 := h.row _ _ _ fx fy fz
    have r2 := h.row _ _ _ fz fy fx
    unfold partC at h1 h2 ⊢
    split at h1
    · rename_i hd
      simp only [hd, if_true] at h2 ⊢
      omega
    · rename_i hd
      simp only [hd, if_false] at h2 ⊢
      exact r1 h1 h2
theorem cmpParts_pre : ∀ ps : List Prt, Pre (fun v => okP 5 v = true) (cmpParts ps)
  | [] => by
    refine ⟨fun x y _ _ => ?_, fun x y z _ _ _ h1 h2 => ?_⟩
    · simp only [cmpParts]; exact cmpI_ord.anti _ _ trivial trivial
    · simp only [cmpParts] at h1 h2 ⊢; exact cmpI_ord.row _ _ _ trivial trivial trivial h1 h2
  | p :: r => (partC_pre p).lex (cmpParts_pre r)
theorem cmpParts_zero : ∀ (ps : List Prt) (x y : Val), cmpParts ps x y = 0 → specId x = specId y
  | [], x, y, h => by simp only [cmpParts] at h; rwa [cmpI_eq] at h
  | p :: r, x, y, h => by
    rw [cmpParts] at h
    split at h
    · exact cmpParts_zero r x y h
    · contradiction
def leS (ps : List Prt) (a b : Val) : Prop := cmpParts ps a b ≤ 0
theorem place_left (lt : Val → Bool) (acc : List Val) : ∀ k, k ≤ acc.length → (∀ j, placeS lt acc k ≤ j → j < k → ∀ y, acc[j]? = some y → lt y = true) ∧ (∀ j, placeS lt acc k = j + 1 → ∀ y, acc[j]? = some y → lt y = false)
  | 0, _ => ⟨fun j _ h => by omega, fun j h => by unfold placeS at h; omega⟩
  | k + 1, hk => by
    have hka : acc[k]? = some acc[k] := List.getElem?_eq_getElem (by omega)
    obtain ⟨i1, i2⟩ := place_left lt acc k (by omega)
    unfold placeS
    rw [hka]
    dsimp only
    cases hl : lt acc[k] with
    | true =>
      simp only [if_true]
      refine ⟨fun j h1 h2 y hy => ?_, i2⟩
      by_cases he : j = k
      · subst he; rw [hka] at hy; obtain rfl := Option.some.inj hy; exact hl
      · exact i1 j h1 (by omega) y hy
    | false =>
      simp only [Bool.false_eq_true, if_false]
      refine ⟨fun j h1 h2 => by omega, fun j h y hy => ?_⟩
      obtain rfl : k = j := by omega
      rw [hka] at hy; obtain rfl := Option.some.inj hy; exact hl
theorem insS_sorted (ps : List Prt) (acc : List Val) (x : Val) (hx : okP 5 x = true) (ha : ∀ y ∈ acc, okP 5 y = true) (hp : acc.Pairwise (leS ps)) : (insS (ltS ps) acc x).Pairwise (leS ps) := by
  have O := cmpParts_pre ps
  obtain ⟨i1, i2⟩ := place_left (ltS ps x) acc acc.length (Nat.le_refl _)
  have hP := placeS_le (ltS ps x) acc acc.length
  unfold insS
  generalize placeS (ltS ps x) acc acc.length = P at *
  have hsplit := hp
  rw [← List.take_append_drop P acc, List.pairwise_append] at hsplit
  obtain ⟨s1, s2, s3⟩ := hsplit
  have hdrop : ∀ y ∈ acc.drop P, cmpParts ps x y < 0 := by
    intro y hy
    obtain ⟨j, hj⟩ := List.mem_iff_getElem?.1 hy
    rw [List.getElem?_drop] at hj
    have hlt : P + j < acc.length := by
      rcases Nat.lt_or_ge (P + j) acc.length with h | h
      · exact h
      · rw [List.getElem?_eq_none h] at hj; cases hj
    have := i1 (P + j) (by omega) hlt y hj
    simpa [ltS] using this
  have htake : ∀ y ∈ acc.take P, leS ps y x := by
    intro y hy
    cases hPP : P with
    | zero => rw [hPP] at hy; simp at hy
    | succ k =>
      have hk : k < acc.length := by omega
      have hka : acc[k]? = some acc[k] := List.getElem?_eq_getElem hk
      have h2 := i2 k hPP _ hka
      have hok := ha _ (List.getElem_mem hk)
      have hya : okP 5 y = true := ha _ (List.mem_of_mem_take hy)
      have hle : leS ps acc[k] x := by
        have := O.anti _ _ hx hok
        simp [ltS] at h2
        unfold leS; omega
      obtain ⟨j, hj⟩ := List.mem_iff_getElem?.1 hy
      rw [hPP, List.getElem?_take] at hj
      split at hj
      · rename_i hjk
        by_cases he : j = k
        · subst he; rw [hka] at hj; obtain rfl := Option.some.inj hj; exact hle
        · have hj' : j < acc.length := by omega
          rw [List.getElem?_eq_getElem hj'] at hj
          obtain rfl := Option.some.inj hj
          exact O.row _ _ _ hya hok hx (List.pairwise_iff_getElem.1 hp j k hj' hk (by omega)) hle
      · cases hj
  rw [List.pairwise_append]
  refine ⟨s1, List.pairwise_cons.2 ⟨fun y hy => by have := hdrop y hy; unfold leS; omega, s2⟩, fun y hy z hz => ?_⟩
  rcases List.mem_cons.1 hz with rfl | hz
  · exact htake y hy
  · exact s3 y hy z hz
theorem sortS_sorted (ps : List Prt) : ∀ (xs acc : List Val), (∀ x ∈ xs, okP 5 x = true) → (∀ x ∈ acc, okP 5 x = true) → acc.Pairwise (leS ps) → (sortS (ltS ps) acc xs).Pairwise (leS ps) ∧ (sortS (ltS ps) acc xs).Perm (acc ++ xs)
  | [], acc, _, _, h => ⟨h, by simp [sortS]⟩
  | x :: r, acc, hx, ha, h => by
    have hp := insS_perm (ltS ps) acc x
    obtain ⟨i1, i2⟩ := sortS_sorted ps r (insS (ltS ps) acc x) (fun y hy => hx y (by simp [hy])) (fun y hy => by
      rcases List.mem_cons.1 (hp.mem_iff.1 hy) with rfl | hy
      · exact hx _ (by simp)
      · exact ha y hy) (insS_sorted ps acc x (hx x (by simp)) ha h)
    refine ⟨i1, i2.trans ?_⟩
    exact (hp.append_right r).trans (by simpa using List.perm_middle.symm)
theorem merge_sorted (ps : List Prt) (xs : List Val) (hx : ∀ x ∈ xs, okP 5 x = true) : (xs.mergeSort fun x y => !ltS ps y x).Pairwise (leS ps) := by
  have O := cmpParts_pre ps
  have hm : (xs.attach.mergeSort fun (x y : {v // v ∈ xs}) => !ltS ps y.1 x.1).map Subtype.val = xs.mergeSort fun x y => !ltS ps y x := by
    rw [List.map_mergeSort (s := fun x y => !ltS ps y x) (fun a _ b _ => rfl), List.attach_map_subtype_val]
  rw [← hm, List.pairwise_map]
  refine (List.pairwise_mergeSort ?_ ?_ _).imp ?_
  · intro a b c h1 h2
    simp [ltS] at h1 h2 ⊢
    have oa := hx a.1 a.2
    have ob := hx b.1 b.2
    have oc := hx c.1 c.2
    have a1 := O.anti _ _ oa ob
    have a2 := O.anti _ _ ob oc
    have a3 := O.anti _ _ oa oc
    have := O.row _ _ _ oa ob oc (by omega) (by omega)
    omega
  · intro a b
    simp [ltS]
    have a1 := O.anti _ _ (hx a.1 a.2) (hx b.1 b.2)
    omega
  · intro a b h
    simp [ltS] at h
    have a1 := O.anti _ _ (hx a.1 a.2) (hx b.1 b.2)
    unfold leS; omega
theorem sorts_same (ps : List Prt) (xs : List Val) (hx : ∀ x ∈ xs, okP 5 x = true) (hz : ∀ x ∈ xs, ∀ y ∈ xs, specId x = specId y → x = y) : sortS (ltS ps) [] xs = xs.mergeSort fun x y => !ltS ps y x := by
  have O := cmpParts_pre ps
  obtain ⟨h1, h2⟩ := sortS_sorted ps xs [] hx (by simp) List.Pairwise.nil
  rw [List.nil_append] at h2
  refine List.Perm.eq_of_pairwise (fun a b ha hb hab hba => ?_) h1 (merge_sorted ps xs hx) (h2.trans (List.mergeSort_perm _ _).symm)
  have ma : a ∈ xs := h2.mem_iff.1 ha
  have mb : b ∈ xs := (List.mergeSort_perm _ _).mem_iff.1 hb
  have := O.anti _ _ (hx a ma) (hx b mb)
  unfold leS at hab hba
  exact hz a ma b mb (cmpParts_zero ps a b (by omega))
theorem docsGo_rise : ∀ (l : List Val) (p : Int), docsGo p l = true → (∀ x ∈ l, isDocP x = true ∧ 0 ≤ specId x ∧ p < specId x) ∧ (∀ x ∈ l, ∀ y ∈ l, specId x = specId y → x = y)
  | [], p, _ => by simp
  | v :: r, p, h => by
    simp [docsGo] at h
    obtain ⟨⟨h1, h2⟩, h3, h4⟩ := h
    obtain ⟨i1, i2⟩ := docsGo_rise r _ h4
    refine ⟨fun x hx => ?_, fun x hx y hy he => ?_⟩
    · rcases List.mem_cons.1 hx with rfl | hx
      · exact ⟨h1, by omega, by omega⟩
      · obtain ⟨a, b, c⟩ := i1 x hx
        exact ⟨a, b, by omega⟩
    · rcases List.mem_cons.1 hx with rfl | hx' <;> rcases List.mem_cons.1 hy with rfl | hy'
      · rfl
      · have := (i1 y hy').2.2; omega
      · have := (i1 x hx').2.2; omega
      · exact i2 x hx' y hy' he
end Go.Rd
namespace Go.Proofs
open Go.Shelf
def Tryz.sort132_ren : Go.Shelf.Ren := ⟨fun | 6 => 132 | 15 => 150 | 14 => 208 | 28 => 231 | 29 => 232 | 20 => 288 | 21 => 289 | 22 => 290 | 23 => 291 | 24 => 292 | 25 => 293 | 26 => 294 | 27 => 295 | 46 => 334 | 47 => 306 | 48 => 307 | 49 => 335 | 50 => 336 | 57 => 360 | n => n, fun | 22 => 26 | 24 => 74 | 25 => 185 | 3 => 3 | 39 => 197 | 0 => 0 | 53 => 278 | 55 => 280 | 4 => 4 | 46 => 272 | 45 => 271 | 50 => 140 | 5 => 5 | 9 => 9 | 66 => 330 | 70 => 334 | 76 => 361 | 77 => 80 | n => n, fun | n => n⟩
theorem Tryz.sort132 : Go.Proofs.SlLaysF0.n6 Tryz.prog Tryz.sort132_ren := {
  mixed := by kernel_rfl
  f6 := ⟨Tryz.f132.name, by kernel_rfl, Tryz.func132.trans (congrArg some (by kernel_rfl))⟩
  f14 := ⟨Tryz.f208.name, by kernel_rfl, Tryz.func208.trans (congrArg some (by kernel_rfl))⟩
  f15 := Tryz.func150.trans (congrArg some (by kernel_rfl))
  f20 := ⟨Tryz.f288.name, by kernel_rfl, Tryz.func288.trans (congrArg some (by kernel_rfl))⟩
  f21 := ⟨Tryz.f289.name, by kernel_rfl, Tryz.func289.trans (congrArg some (by kernel_rfl))⟩
  f22 := ⟨Tryz.f290.name, by kernel_rfl, Tryz.func290.trans (congrArg some (by kernel_rfl))⟩
  f23 := ⟨Tryz.f291.name, by kernel_rfl, Tryz.func291.trans (congrArg some (by kernel_rfl))⟩
  f24 := ⟨Tryz.f292.name, by kernel_rfl, Tryz.func292.trans (congrArg some (by kernel_rfl))⟩
  f25 := ⟨Tryz.f293.name, by kernel_rfl, Tryz.func293.trans (congrArg some (by kernel_rfl))⟩
  f26 := ⟨Tryz.f294.name, by kernel_rfl, Tryz.func294.trans (congrArg some (by kernel_rfl))⟩
  f27 := ⟨Tryz.f295.name, by kernel_rfl, Tryz.func295.trans (congrArg some (by kernel_rfl))⟩
  f28 := Tryz.func231.trans (congrArg some (by kernel_rfl))
  f29 := Tryz.func232.trans (congrArg some (by kernel_rfl))
  f46 := ⟨Tryz.f334.name, by kernel_rfl, Tryz.func334.trans (congrArg some (by kernel_rfl))⟩
  f47 := Tryz.func306.trans (congrArg some (by kernel_rfl))
  f48 := Tryz.func307.trans (congrArg some (by kernel_rfl))
  f49 := ⟨Tryz.f335.name, by kernel_rfl, Tryz.func335.trans (congrArg some (by kernel_rfl))⟩
  f50 := ⟨Tryz.f336.name, by kernel_rfl, Tryz.func336.trans (congrArg some (by kernel_rfl))⟩
  f57 := ⟨Tryz.f360.name, by kernel_rfl, Tryz.func360.trans (congrArg some (by kernel_rfl))⟩
  t0 := Tryz.underlying0
  a0 := Tryz.isAgg0
  z0 := Tryz.sizeOf0
  v0 := Tryz.zeroValue0
  t3 := Tryz.underlying3
  a3 := Tryz.isAgg3
  z3 := Tryz.sizeOf3
  v3 := Tryz.zeroValue3
  t4 := Tryz.underlying4
  a4 := Tryz.isAgg4
  z4 := Tryz.sizeOf4
  v4 := Tryz.zeroValue4
  t5 := Tryz.underlying5
  a5 := Tryz.isAgg5
  z5 := Tryz.sizeOf5
  v5 := Tryz.zeroValue5
  t9 := Tryz.underlying9
  a9 := Tryz.isAgg9
  z9 := Tryz.sizeOf9
  v9 := Tryz.zeroValue9
  t22 := Tryz.underlying26
  a22 := Tryz.isAgg26
  z22 := Tryz.sizeOf26
  v22 := Tryz.zeroValue26
  t25 := Tryz.underlying185
  a25 := Tryz.isAgg185
  z25 := Tryz.sizeOf185
  v25 := Tryz.zeroValue185
  t39 := Tryz.underlying197
  a39 := Tryz.isAgg197
  z39 := Tryz.sizeOf197
  v39 := Tryz.zeroValue197
  t45 := Tryz.underlying271
  a45 := Tryz.isAgg271
  z45 := Tryz.sizeOf271
  v45 := Tryz.zeroValue271
  t46 := Tryz.underlying272
  a46 := Tryz.isAgg272
  z46 := Tryz.sizeOf272
  v46 := Tryz.zeroValue272
  t50 := Tryz.underlying140
  a50 := Tryz.isAgg140
  z50 := Tryz.sizeOf140
  v50 := Tryz.zeroValue140
  t53 := Tryz.underlying278
  a53 := Tryz.isAgg278
  z53 := Tryz.sizeOf278
  v53 := Tryz.zeroValue278
  t55 := Tryz.underlying280
  a55 := Tryz.isAgg280
  z55 := Tryz.sizeOf280
  v55 := Tryz.zeroValue280
  t66 := Tryz.underlying330
  a66 := Tryz.isAgg330
  z66 := Tryz.sizeOf330
  v66 := Tryz.zeroValue330
  t70 := Tryz.underlying334
  a70 := Tryz.isAgg334
  z70 := Tryz.sizeOf334
  v70 := Tryz.zeroValue334
  t76 := Tryz.underlying361
  a76 := Tryz.isAgg361
  z76 := Tryz.sizeOf361
  v76 := Tryz.zeroValue361
  t77 := Tryz.underlying80
  a77 := Tryz.isAgg80
  z77 := Tryz.sizeOf80
  v77 := Tryz.zeroValue80 }
def Tryz.sort78_ren : Go.Shelf.Ren := ⟨fun | 6 => 78 | 15 => 150 | 14 => 149 | 28 => 231 | 29 => 232 | 20 => 223 | 21 => 224 | 22 => 225 | 23 => 226 | 24 => 227 | 25 => 228 | 26 => 229 | 27 => 230 | 46 => 305 | 47 => 306 | 48 => 307 | 49 => 308 | 50 => 309 | 57 => 340 | n => n, fun | 22 => 133 | 24 => 132 | 25 => 143 | 3 => 3 | 39 => 197 | 0 => 0 | 53 => 278 | 55 => 280 | 4 => 4 | 46 => 272 | 45 => 271 | 50 => 140 | 5 => 5 | 9 => 9 | 66 => 330 | 70 => 334 | 76 => 361 | 77 => 80 | n => n, fun | n => n⟩
theorem Tryz.sort78 : Go.Proofs.SlLaysF0.n6 Tryz.prog Tryz.sort78_ren := {
  mixed := by kernel_rfl
  f6 := ⟨Tryz.f78.name, by kernel_rfl, Tryz.func78.trans (congrArg some (by kernel_rfl))⟩
  f14 := ⟨Tryz.f149.name, by kernel_rfl, Tryz.func149.trans (congrArg some (by kernel_rfl))⟩
  f15 := Tryz.func150.trans (congrArg some (by kernel_rfl))
  f20 := ⟨Tryz.f223.name, by kernel_rfl, Tryz.func223.trans (congrArg some (by kernel_rfl))⟩
  f21 := ⟨Tryz.f224.name, by kernel_rfl, Tryz.func224.trans (congrArg some (by kernel_rfl))⟩
  f22 := ⟨Tryz.f225.name, by kernel_rfl, Tryz.func225.trans (congrArg some (by kernel_rfl))⟩
  f23 := ⟨Tryz.f226.name, by kernel_rfl, Tryz.func226.trans (congrArg some (by kernel_rfl))⟩
  f24 := ⟨Tryz.f227.name, by kernel_rfl, Tryz.func227.trans (congrArg some (by kernel_rfl))⟩
  f25 := ⟨Tryz.f228.name, by kernel_rfl, Tryz.func228.trans (congrArg some (by kernel_rfl))⟩
  f26 := ⟨Tryz.f229.name, by kernel_rfl, Tryz.func229.trans (congrArg some (by kernel_rfl))⟩
  f27 := ⟨Tryz.f230.name, by kernel_rfl, Tryz.func230.trans (congrArg some (by kernel_rfl))⟩
  f28 := Tryz.func231.trans (congrArg some (by kernel_rfl))
  f29 := Tryz.func232.trans (congrArg some (by kernel_rfl))
  f46 := ⟨Tryz.f305.name, by kernel_rfl, Tryz.func305.trans (congrArg some (by kernel_rfl))⟩
  f47 := Tryz.func306.trans (congrArg some (by kernel_rfl))
  f48 := Tryz.func307.trans (congrArg some (by kernel_rfl))
  f49 := ⟨Tryz.f308.name, by kernel_rfl, Tryz.func308.trans (congrArg some (by kernel_rfl))⟩
  f50 := ⟨Tryz.f309.name, by kernel_rfl, Tryz.func309.trans (congrArg some (by kernel_rfl))⟩
  f57 := ⟨Tryz.f340.name, by kernel_rfl, Tryz.func340.trans (congrArg some (by kernel_rfl))⟩
  t0 := Tryz.underlying0
  a0 := Tryz.isAgg0
  z0 := Tryz.sizeOf0
  v0 := Tryz.zeroValue0
  t3 := Tryz.underlying3
  a3 := Tryz.isAgg3
  z3 := Tryz.sizeOf3
  v3 := Tryz.zeroValue3
  t4 := Tryz.underlying4
  a4 := Tryz.isAgg4
  z4 := Tryz.sizeOf4
  v4 := Tryz.zeroValue4
  t5 := Tryz.underlying5
  a5 := Tryz.isAgg5
  z5 := Tryz.sizeOf5
  v5 := Tryz.zeroValue5
  t9 := Tryz.underlying9
  a9 := Tryz.isAgg9
  z9 := Tryz.sizeOf9
  v9 := Tryz.zeroValue9
  t22 := Tryz.underlying133
  a22 := Tryz.isAgg133
  z22 := Tryz.sizeOf133
  v22 := Tryz.zeroValue133
  t25 := Tryz.underlying143
  a25 := Tryz.isAgg143
  z25 := Tryz.sizeOf143
  v25 := Tryz.zeroValue143
  t39 := Tryz.underlying197
  a39 := Tryz.isAgg197
  z39 := Tryz.sizeOf197
  v39 := Tryz.zeroValue197
  t45 := Tryz.underlying271
  a45 := Tryz.isAgg271
  z45 := Tryz.sizeOf271
  v45 := Tryz.zeroValue271
  t46 := Tryz.underlying272
  a46 := Tryz.isAgg272
  z46 := Tryz.sizeOf272
  v46 := Tryz.zeroValue272
  t50 := Tryz.underlying140
  a50 := Tryz.isAgg140
  z50 := Tryz.sizeOf140
  v50 := Tryz.zeroValue140
  t53 := Tryz.underlying278
  a53 := Tryz.isAgg278
  z53 := Tryz.sizeOf278
  v53 := Tryz.zeroValue278
  t55 := Tryz.underlying280
  a55 := Tryz.isAgg280
  z55 := Tryz.sizeOf280
  v55 := Tryz.zeroValue280
  t66 := Tryz.underlying330
  a66 := Tryz.isAgg330
  z66 := Tryz.sizeOf330
  v66 := Tryz.zeroValue330
  t70 := Tryz.underlying334
  a70 := Tryz.isAgg334
  z70 := Tryz.sizeOf334
  v70 := Tryz.zeroValue334
  t76 := Tryz.underlying361
  a76 := Tryz.isAgg361
  z76 := Tryz.sizeOf361
  v76 := Tryz.zeroValue361
  t77 := Tryz.underlying80
  a77 := Tryz.isAgg80
  z77 := Tryz.sizeOf80
  v77 := Tryz.zeroValue80 }
end Go.Proofs
namespace Go.Rd
open Go.Ev Go.Proofs Go.RowKit
set_option linter.unusedSimpArgs false
set_option linter.unusedVariables false
set_option maxRecDepth 100000
/-- What is asked of a row and of a comparing closure. -/
structure SortGood (xs : List T) (g : Nat) (caps : List (List T)) (cf : T → T → Int) : Prop where
  enters : Enters Tryz.prog g
  flat : T.flats xs = true
  agg : ∀ x ∈ xs, ∃ cs, x = .agg cs
  ord : Orders xs cf
  len : xs.length < 4611686018427387904
  cmp : ∀ x ∈ xs, ∀ y ∈ xs, run E (.call g (.t x :: .t y :: caps.map X.dref)) = some (.res [.t (.int .i64 (cf x y))] [])
open Classical in
noncomputable def sortX (e : Nat) : List X → Option (List X × List (Option X))
  | [.row e' xs, .fn g caps] => if h : e' = e ∧ ∃ cf, SortGood xs g caps cf then some ([], [some (.row e (sortT h.2.choose xs))]) else none
  | _ => none
theorem sortT_same {xs : List T} {g : Nat} {caps : List (List T)} {cf cf' : T → T → Int} (h : SortGood xs g caps cf) (h' : SortGood xs g caps cf') : sortT cf xs = sortT cf' xs := by
  have he : ∀ x ∈ xs, ∀ y ∈ xs, cf x y = cf' x y := by
    intro x hx y hy
    have := (h.cmp x hx y hy).symm.trans (h'.cmp x hx y hy)
    simpa using this
  have := List.map_mergeSort (r := fun x y => !decide (cf y x < 0)) (s := fun x y => !decide (cf' y x < 0)) (f := id) (l := xs) (fun a ha b hb => by simp only [id, he b hb a ha])
  simpa [sortT] using this
theorem sortX_eq {e : Nat} {xs : List T} {g : Nat} {caps : List (List T)} {cf : T → T → Int} (h : SortGood xs g caps cf) : sortX e [.row e xs, .fn g caps] = some ([], [some (.row e (sortT cf xs))]) := by
  have hh : e = e ∧ ∃ cf, SortGood xs g caps cf := ⟨rfl, cf, h⟩
  have := sortT_same hh.2.choose_spec h
  unfold sortX
  dsimp only
  rw [dif_pos hh, this]
noncomputable def extOf1 : Nat → Option (List X → Option (List X × List (Option X))) := fun f => if f = 132 then some (sortX 74) else if f = 78 then some (sortX 132) else extOf f
noncomputable def E1 : Env := E.withExt extOf1
theorem up {t : Task} {o : Out} (h : run E t = some o) : run E1 t = some o := by
  refine run_up E extOf1 (fun f hf => ?_) (fun f g hf => ?_) t o h
  · rw [E_ext] at hf
    unfold extOf1
    rw [if_neg (by rintro rfl; cases hf), if_neg (by rintro rfl; cases hf)]
    exact hf
  · rw [E_ext] at hf
    unfold extOf1
    by_cases h1 : f = 132
    · subst h1
      refine ⟨_, if_pos rfl, fun a r hr => ?_⟩
      obtain rfl := Option.some.inj hf
      cases hr
    · rw [if_neg h1]
      by_cases h2 : f = 78
      · subst h2
        refine ⟨_, if_pos rfl, fun a r hr => ?_⟩
        obtain rfl := Option.some.inj hf
        cases hr
      · rw [if_neg h2]
        exact ⟨g, hf, fun a r hr => hr⟩
theorem sortX_ok {f e : Nat} {ρ : Go.Shelf.Ren} (L : SlLaysF0.n6 Tryz.prog ρ) (hf : ρ.f 6 = f) (ht : ρ.t 24 = e) (he : Enters Tryz.prog f) (hm : E1.md f = [true]) (hfl : E1.flat f = false)
    (hagg : ∀ w, (isAgg e).run Tryz.prog w = .ok true w) (hsz : ∀ w, (Go.sizeOf e).run Tryz.prog w = .ok (E1.ty e).size w) {args : List X} {rs : List X} {bs : List (Option X)} (hg : sortX e args = some (rs, bs)) : CallOK E1 Tryz.prog f args rs bs := by
  unfold sortX at hg
  split at hg
  · split at hg
    · rename_i e' xs g caps h
      obtain ⟨rfl, rfl⟩ := Prod.mk.inj (Option.some.inj hg)
      obtain ⟨rfl, hex⟩ := h
      have hG := hex.choose_spec
      subst hf
      subst ht
      exact sort_ok E_sok L he hm hfl hagg hsz rfl hG.enters caps xs hG.flat hG.agg _ hG.ord hG.len hG.cmp
    · cases hg
  · cases hg
theorem ext_ok1 : ∀ f g args rs bs, extOf1 f = some g → g args = some (rs, bs) → CallOK E1 Tryz.prog f args rs bs := by
  intro f g args rs bs hx hg
  unfold extOf1 at hx
  by_cases h1 : f = 132
  · rw [if_pos h1] at hx
    subst h1
    obtain rfl := Option.some.inj hx
    exact sortX_ok Tryz.sort132 rfl rfl (Go.Proofs.enters_of Tryz.func132 (by kernel_rfl) rfl) rfl rfl Tryz.isAgg74 Tryz.sizeOf74 hg
  rw [if_neg h1] at hx
  by_cases h2 : f = 78
  · rw [if_pos h2] at hx
    subst h2
    obtain rfl := Option.some.inj hx
    exact sortX_ok Tryz.sort78 rfl rfl (Go.Proofs.enters_of Tryz.func78 (by kernel_rfl) rfl) rfl rfl Tryz.isAgg132 Tryz.sizeOf132 hg
  · rw [if_neg h2] at hx
    unfold extOf at hx
    split at hx
    · obtain rfl := Option.some.inj hx
      dsimp only at hg
      split at hg
      · rename_i a b
        obtain ⟨rfl, rfl⟩ := Prod.mk.inj (Option.some.inj hg)
        refine callOK_flat rfl rfl rfl (fun F w vals bl h _ _ => ?_)
        obtain ⟨u, v, hv, hu, hv'⟩ := xvs_two h
        obtain rfl := arr_two hv
        cases hu; cases hv'
        refine ⟨_, .int _ _, .inr ⟨Go.Proofs.enters_of Tryz.func233 (by kernel_rfl) rfl _ _, (Tryz.bytealg_CompareString ⟨⟨a⟩⟩ ⟨⟨b⟩⟩ w).mono ?_⟩⟩
        rintro e w' ⟨rfl, rfl⟩
        exact ⟨rfl, Below.refl _ _⟩
      · cases hg
    · obtain rfl := Option.some.inj hx
      dsimp only at hg
      split at hg
      · rename_i a n
        split at hg
        · rename_i hn
          obtain ⟨rfl, rfl⟩ := Prod.mk.inj (Option.some.inj hg)
          refine callOK_flat rfl rfl rfl (fun F w vals bl h _ _ => ?_)
          obtain ⟨u, v, hv, hu, hv'⟩ := xvs_two h
          obtain rfl := arr_two hv
          cases hu; cases hv'
          obtain ⟨h0, h1, h2⟩ := hn
          have hc := Tryz.strings_Repeat ⟨⟨a⟩⟩ n.toNat w (by omega) (by simpa [ByteArray.size] using h2)
          rw [Int.toNat_of_nonneg h0] at hc
          refine ⟨_, .str _, .inr ⟨Go.Proofs.enters_of Tryz.func255 (by kernel_rfl) rfl _ _, hc⟩⟩
        · cases hg
      · cases hg
    · obtain rfl := Option.some.inj hx
      dsimp only at hg
      split at hg
      · rename_i a c
        obtain ⟨rfl, rfl⟩ := Prod.mk.inj (Option.some.inj hg)
        refine callOK_flat rfl rfl rfl (fun F w vals bl h _ _ => ?_)
        obtain ⟨u, v, hv, hu, hv'⟩ := xvs_two h
        obtain rfl := arr_two hv
        cases hu; cases hv'
        refine ⟨_, .int _ _, .inl ?_⟩
        rw [run_callFunc_extern Tryz.func324 (by kernel_rfl) (by kernel_rfl) (by kernel_rfl) (e := Extern.BytealgCount.count) (by kernel_rfl), Lib.run_countString]
        rfl
      · cases hg
    · obtain rfl := Option.some.inj hx
      dsimp only at hg
      split at hg
      · rename_i a c
        obtain ⟨rfl, rfl⟩ := Prod.mk.inj (Option.some.inj hg)
        refine callOK_flat rfl rfl rfl (fun F w vals bl h _ _ => ?_)
        obtain ⟨u, v, hv, hu, hv'⟩ := xvs_two h
        obtain rfl := arr_two hv
        cases hu; cases hv'
        refine ⟨_, .int _ _, .inl ?_⟩
        rw [run_callFunc_extern Tryz.func363 (by kernel_rfl) (by kernel_rfl) (by kernel_rfl) (e := Extern.BytealgIndexByte.indexByte) (by kernel_rfl), Lib.run_indexByteString]
        rfl
      · cases hg
    · obtain rfl := Option.some.inj hx
      dsimp only at hg
      split at hg
      · rename_i xs
        split at hg
        · rename_i hc
          obtain ⟨rfl, rfl⟩ := Prod.mk.inj (Option.some.inj hg)
          have hz : Tryz.t74.size = 3 := by kernel_rfl
          have hw : ∀ x ∈ xs, x.cells.length = Tryz.t74.size := fun x hx => by rw [hz]; simpa using List.all_eq_true.1 hc.1 x hx
          have hb : Tryz.t74.bytes = 32 := by kernel_rfl
          exact clone_ok lay131 (Go.Proofs.enters_of Tryz.func131 (by kernel_rfl) rfl) rfl rfl Tryz.t74 (Tryz.t74.zero.getD .nilFunc) (by kernel_rfl) (by kernel_rfl) (by kernel_rfl) (by rw [hz]; decide) (by kernel_rfl) xs hw (by have := hc.2; unfold maxLen; omega) (by rw [hb]; have := hc.2; omega)
        · cases hg
      · cases hg
    · obtain rfl := Option.some.inj hx
      dsimp only at hg
      cases hg
    · obtain rfl := Option.some.inj hx
      dsimp only at hg
      cases hg
    · cases hx
theorem E1_pok : POK E1 Tryz.prog := by
  have h := E_sok.pok
  cases h
  constructor <;> assumption
theorem E1_sok : SOK E1 Tryz.prog := ⟨E1_pok, E_sok.name, ext_ok1, E_sok.draw, E_sok.drawS⟩
end Go.Rd
namespace Go.Rd
open Go.Ev Go.Proofs Go.Pu
set_option linter.unusedSimpArgs false
set_option linter.unusedVariables false
set_option maxRecDepth 100000
set_option maxHeartbeats 16000000
theorem l07Parts_loop (xs : List Prt) (h : partsSm xs) (r : Bool) (hr : r = xs.all (fun p => pathOK p.path)) : ∀ s o q, (s 0 = .t (.list (xs.map prtT)) ∧ s 3 = .t (.int .i64 0)) →
    ∃ e s' o' q', run E (.code (.loop (loopAt Tryz.f58 0)) ⟨s, o, q, 20⟩) = some (.st e ⟨s', o', q', 20⟩) ∧ (e = (if r then .exit 0 else .ret) ∧ s' 0 = .t (.list (xs.map prtT)) ∧ (r = false → s' 2 = .t (.bool false))) := by
  intro s o q hI
  refine loop_for (c := loopAt Tryz.f58 0) (N := 20)
    (fun i s o q => s 0 = .t (.list (xs.map prtT)) ∧ s 3 = .t (.int .i64 i) ∧ r = (xs.drop i).all (fun p => pathOK p.path))
    (fun e s' o' q' => e = (if r then .exit 0 else .ret) ∧ s' 0 = .t (.list (xs.map prtT)) ∧ (r = false → s' 2 = .t (.bool false))) xs.length ?_ ?_
    xs.length 0 s o q (by omega) ⟨hI.1, by simpa using hI.2, by simpa [-List.all_eq_true] using hr⟩
  · rintro i s o q hi ⟨h0, h3, hr⟩
    have hl := h.1
    have hi' : (i : Int) < (xs.length : Int) := by omega
    have hwi := wrap_succ (n := i) (by omega)
    have hxi : xs[i]? = some xs[i] := List.getElem?_eq_getElem hi
    have hp := specPathOK xs[i].path (h.2 xs[i] (List.getElem_mem hi))
    rw [List.drop_eq_getElem_cons hi, List.all_cons] at hr
    cases hA : pathOK xs[i].path with
    | false =>
      rw [hA] at hr hp
      simp only [Bool.false_and] at hr
      simp [loopAt, loopsOf, Tryz.f58, h0, h3, hi, hi', hxi, hp, hr]
    | true =>
      rw [hA] at hr hp
      simp only [Bool.true_and] at hr
      simp [loopAt, loopsOf, Tryz.f58, h0, h3, hi, hi', hxi, hp, hwi, -List.all_eq_true]
      exact hr
  · rintro s o q ⟨h0, h3, hr⟩
    rw [List.drop_of_length_le (by omega)] at hr
    simp at hr
    simp [loopAt, loopsOf, Tryz.f58, h0, h3, hr]
theorem l07Parts (xs : List Prt) (h : partsSm xs) : run E (.call 58 [.t (.list (xs.map prtT))]) = some (.res [xB (partsOK xs)] []) := by
  rw [run_call E 58 _ rfl Tryz.func58 rfl rfl rfl (by simp)]
  obtain ⟨X, A, B, C, hx⟩ := sk (l07Parts_loop xs h _ rfl)
  have hl := h.1
  simp only [loopAt, loopsOf, Tryz.f58] at hx
  have h2 : ((xs.length : Int) ≤ 2) = (xs.length ≤ 2) := by simp; omega
  unfold partsOK
  cases hd : xs.all (fun p => pathOK p.path) with
  | false => rw [hd] at hx; simp at hx; simp [hx]
  | true => rw [hd] at hx; simp at hx; simp [hx, h2]
/-- What SortDocs answers. -/
def sortOut (xs : List Val) (ps : List Prt) : List Val × Int :=
  if 4096 < xs.length ∨ 4096 < ps.length then ([], 2) else if docsOK xs && partsOK ps then (xs.mergeSort fun x y => !ltS ps y x, 0) else ([], 1)
def sortRow (xs : List Val) (ps : List Prt) : X :=
  if 4096 < xs.length ∨ 4096 < ps.length then .nil else if docsOK xs && partsOK ps then .row 74 ((xs.mergeSort fun x y => !ltS ps y x).map valT) else .nil
theorem docsOK_all {xs : List Val} (h : docsOK xs = true) : xs.length ≤ 20 ∧ (∀ x ∈ xs, isDocP x = true ∧ 0 ≤ specId x) ∧ (∀ x ∈ xs, okP 5 x = true) ∧ (∀ x ∈ xs, ∀ y ∈ xs, specId x = specId y → x = y) := by
  unfold docsOK at h
  rw [Bool.and_eq_true, decide_eq_true_eq] at h
  obtain ⟨h1, h2⟩ := docsGo_rise xs _ h.1
  refine ⟨h.2, fun x hx => ⟨(h1 x hx).1, (h1 x hx).2.1⟩, fun x hx => ?_, h2⟩
  have := (h1 x hx).1
  simp [isDocP, valueOK] at this
  exact this.1
theorem partsOK_sn {ps : List Prt} (h : partsOK ps = true) : partsSn ps := by
  unfold partsOK at h
  simp only [Bool.and_eq_true, decide_eq_true_eq, List.all_eq_true] at h
  refine ⟨by omega, fun p hp => ?_⟩
  have := h.2 p hp
  unfold pathOK at this
  simp only [Bool.and_eq_true, decide_eq_true_eq] at this
  have := this.1.1
  omega
theorem specSortDocs (xs : List Val) (ps : List Prt) (hl : xs.length < 4294967296) (hs : ∀ x ∈ xs, x.t.length < 4294967296) (hp : partsSm ps) : run E (.call 12 [.t (.list (xs.map valT)), .t (.list (ps.map prtT))]) = some (.res [.row 74 ((sortOut xs ps).1.map valT), xI (sortOut xs ps).2] []) := by
  rw [run_call E 12 _ rfl Tryz.func12 rfl rfl rfl (by simp)]
  have hd := l06Docs xs hl hs
  have hq := l07Parts ps hp
  have n1 : ((4096 : Int) < (xs.length : Int)) = (4096 < xs.length) := by simp; omega
  have n2 : ((4096 : Int) < (ps.length : Int)) = (4096 < ps.length) := by simp; omega
  unfold sortOut
  by_cases h1 : 4096 < xs.length
  · simp [n1, h1]
  · by_cases h2 : 4096 < ps.length
    · simp [n1, n2, h1, h2]
    · cases h3 : docsOK xs with
      | false => rw [h3] at hd; simp [n1, n2, h1, h2, hd]
      | true =>
        rw [h3] at hd
        cases h4 : partsOK ps with
        | false => rw [h4] at hq; simp [n1, n2, h1, h2, hd, hq]
        | true =>
          rw [h4] at hq
          obtain ⟨a1, a2, a3, a4⟩ := docsOK_all h3
          have hS := l07Sort ps (partsOK_sn h4) xs (by omega) a3
          rw [sorts_same ps xs a3 a4] at hS
          simp [n1, n2, h1, h2, hd, hq, hS]
@[simp] theorem E1_ty (t : Nat) : E1.ty t = E.ty t := rfl
@[simp] theorem E1_eqT (t : Nat) : E1.eqT t = E.eqT t := rfl
@[simp] theorem E1_arr (t : Nat) : E1.arr t = E.arr t := rfl
@[simp] theorem E1_md (f : Nat) : E1.md f = E.md f := rfl
@[simp] theorem E1_flat (f : Nat) : E1.flat f = E.flat f := rfl
def valOf : T → Val
  | .agg [.int _ k, .int _ n, .str t] => ⟨k, n, t⟩
  | _ => nulV
theorem valOf_val (v : Val) : valOf (valT v) = v := rfl
theorem flats_vals : ∀ xs : List Val, T.flats (xs.map valT) = true
  | [] => rfl
  | x :: r => by
    have := flats_vals r
    simp [T.flats, T.flat, this]
theorem sortGood (xs : List Val) (ps : List Prt) (h : docsOK xs = true) (hp : partsOK ps = true) : SortGood (xs.map valT) 133 [[.list (ps.map prtT)]] (fun x y => cmpParts ps (valOf x) (valOf y)) := by
  obtain ⟨h1, h2, h3, h4⟩ := docsOK_all h
  have O := cmpParts_pre ps
  have hs := partsOK_sn hp
  refine ⟨Go.Proofs.enters_of Tryz.func133 (by kernel_rfl) rfl, flats_vals xs, fun x hx => ?_, ⟨fun x hx => ?_, fun x hx y hy z hz a b => ?_, fun x hx y hy z hz a b => ?_, fun x hx y hy a b => ?_⟩, by simp; omega, fun x hx y hy => ?_⟩
  · obtain ⟨v, hv, rfl⟩ := List.mem_map.1 hx
    exact ⟨_, rfl⟩
  · obtain ⟨v, hv, rfl⟩ := List.mem_map.1 hx
    simp only [valOf_val]
    have := O.anti v v (h3 v hv) (h3 v hv)
    omega
  · obtain ⟨v, hv, rfl⟩ := List.mem_map.1 hx
    obtain ⟨u, hu, rfl⟩ := List.mem_map.1 hy
    obtain ⟨w, hw, rfl⟩ := List.mem_map.1 hz
    simp only [valOf_val] at a b ⊢
    have e1 := O.anti v u (h3 v hv) (h3 u hu)
    have e2 := O.anti u w (h3 u hu) (h3 w hw)
    have e3 := O.anti v w (h3 v hv) (h3 w hw)
    have r1 := O.row v u w (h3 v hv) (h3 u hu) (h3 w hw)
    have r2 := O.row u w v (h3 u hu) (h3 w hw) (h3 v hv)
    omega
  · obtain ⟨v, hv, rfl⟩ := List.mem_map.1 hx
    obtain ⟨u, hu, rfl⟩ := List.mem_map.1 hy
    obtain ⟨w, hw, rfl⟩ := List.mem_map.1 hz
    simp only [valOf_val] at a b ⊢
    have e1 := O.anti v u (h3 v hv) (h3 u hu)
    have e2 := O.anti u w (h3 u hu) (h3 w hw)
    have e3 := O.anti v w (h3 v hv) (h3 w hw)
    have r1 := O.row w u v (h3 w hw) (h3 u hu) (h3 v hv)
    omega
  · obtain ⟨v, hv, rfl⟩ := List.mem_map.1 hx
    obtain ⟨u, hu, rfl⟩ := List.mem_map.1 hy
    simp only [valOf_val] at a b
    have e1 := O.anti v u (h3 v hv) (h3 u hu)
    rw [h4 v hv u hu (cmpParts_zero ps v u (by omega))]
  · obtain ⟨v, hv, rfl⟩ := List.mem_map.1 hx
    obtain ⟨u, hu, rfl⟩ := List.mem_map.1 hy
    simp only [valOf_val]
    exact sortDocs1 ps hs v u (h2 v hv).1 (h2 u hu).1 (h2 v hv).2 (h2 u hu).2
theorem sort132 (xs : List Val) (ps : List Prt) (h : docsOK xs = true) (hp : partsOK ps = true) : run E1 (.call 132 [.row 74 (xs.map valT), .fn 133 [[.list (ps.map prtT)]]]) = some (.res [] [some (.row 74 ((xs.mergeSort fun x y => !ltS ps y x).map valT))]) := by
  have hx : E1.ext 132 = some (sortX 74) := by
    show extOf1 132 = _
    unfold extOf1
    rw [if_pos rfl]
  rw [run_ext E1 132 _ hx, sortX_eq (sortGood xs ps h hp)]
  have hm := List.map_mergeSort (r := fun x y => !ltS ps y x) (s := fun x y => !decide ((fun x y => cmpParts ps (valOf x) (valOf y)) y x < 0)) (f := valT) (l := xs) (fun a _ b _ => rfl)
  rw [hm]
  rfl
theorem clone131 (xs : List Val) (h : xs.length < 4294967296) : run E (.call 131 [.t (.list (xs.map valT))]) = some (.res [.row 74 (xs.map valT)] []) := by
  rw [run_ext E 131 _ rfl]
  have : ((xs.map valT).all fun x => x.cells.length == 3) = true := by simp
  simp [this, h]
theorem sortDocs (xs : List Val) (ps : List Prt) (h : docsOK xs = true) (hp : partsOK ps = true) : run E1 (.call 63 [.t (.list (xs.map valT)), .t (.list (ps.map prtT))]) = some (.res [.row 74 ((xs.mergeSort fun x y => !ltS ps y x).map valT)] []) := by
  have hc := up (clone131 xs (by have := (docsOK_all h).1; omega))
  have hs := sort132 xs ps h hp
  rw [run_call E1 63 _ rfl Tryz.func63 rfl rfl rfl (by simp)]
  have hf := flats_vals (xs.mergeSort fun x y => !ltS ps y x)
  simp [hc, hs, hf]
theorem implSortDocs (xs : List Val) (ps : List Prt) (hl : xs.length < 4294967296) (hs : ∀ x ∈ xs, x.t.length < 4294967296) (hp : partsSm ps) : run E1 (.call 15 [.t (.list (xs.map valT)), .t (.list (ps.map prtT))]) = some (.res [sortRow xs ps, xI (sortOut xs ps).2] []) := by
  rw [run_call E1 15 _ rfl Tryz.func15 rfl rfl rfl (by simp)]
  have hd := up (areDocs xs hl hs)
  have hq := up (sortOK ps hp)
  have n1 : ((4096 : Int) < (xs.length : Int)) = (4096 < xs.length) := by simp; omega
  have n2 : ((4096 : Int) < (ps.length : Int)) = (4096 < ps.length) := by simp; omega
  unfold sortOut sortRow
  by_cases h1 : 4096 < xs.length
  · simp [n1, h1]
  · by_cases h2 : 4096 < ps.length
    · simp [n1, n2, h1, h2]
    · cases h3 : docsOK xs with
      | false => rw [h3] at hd; simp [n1, n2, h1, h2, hd]
      | true =>
        rw [h3] at hd
        cases h4 : partsOK ps with
        | false => rw [h4] at hq; simp [n1, n2, h1, h2, hd, hq]
        | true =>
          rw [h4] at hq
          have hS := sortDocs xs ps h3 h4
          have hf := flats_vals (xs.mergeSort fun x y => !ltS ps y x)
          simp [n1, n2, h1, h2, hd, hq, hS, hf]
set_option maxHeartbeats 4000000
theorem dec22 {n : Nat} {ts : List T} (h : typed E (n + 3) 22 ts) : ∃ c : List Val, ts = [.list (c.map valT)] ∧ W c.length ∧ ∀ x ∈ c, W x.t.length := by
  obtain ⟨xs, rfl, h1, h2⟩ := typed_slice (by simp) (by simp) h
  obtain ⟨l, rfl, h4⟩ := list_choose (enc := valT) (P := fun p => W p.t.length) (fun x hx => by
    obtain ⟨cs, e, _, h⟩ := h2 x hx
    simp at e h
    obtain ⟨t, h3, h4⟩ := dec83 h
    exact ⟨t, by rw [e, h3], h4⟩)
  exact ⟨l, rfl, by simpa using h1, h4⟩
theorem typed_E1 : ∀ n : Nat, typed E1 n = typed E n
  | 0 => by funext t ts; simp only [typed]
  | n + 1 => by
    funext t ts
    unfold typed
    simp only [typed_E1 n, E1_ty]
    rfl
set_option maxHeartbeats 16000000
theorem flat_drop {α : Type} (f : α → Bytes) (l : List α) (i : Nat) (hi : i < l.length) : (l.drop i).flatMap f = f l[i] ++ (l.drop (i + 1)).flatMap f := by
  rw [List.drop_eq_getElem_cons hi, List.flatMap_cons]
theorem l04Raw_small (d : Nat) (v : Val) (h : okP d v = true) (hv : v.t.length < 1048576) (hk : v.k = 0 ∨ v.k = 1 ∨ v.k = 2 ∨ v.k = 3) : run E (.call 216 [xV v]) = some (.res [xS (keyD d v)] []) := by
  rw [run_call E 216 _ rfl Tryz.func216 rfl rfl rfl (by simp)]
  unfold keyD headK
  have hw : IntKind.i64.wrap (v.k + 1) = v.k + 1 := wrap_of (by omega) (by omega)
  have hn := l01Number (v.k + 1) 1 (by omega)
  have hm := l01Number v.n 1 (by omega)
  simp at hn hm
  have hl1 := numP_len (v.k + 1) 1
  have hl2 := numP_len v.n 1
  rcases hk with hk | hk | hk | hk
  · have e0 : (v.k = 0) = True := by rw [hk]; simp
    have e1 : (v.k = 1) = False := by rw [hk]; simp
    have e2 : (v.k = 2) = False := by rw [hk]; simp
    have e3 : (v.k = 3) = False := by rw [hk]; simp
    have e4 : (v.k = 4) = False := by rw [hk]; simp
    have e5 : (v.k = 5) = False := by rw [hk]; simp
    clear hk
    simp [e0, e1, e2, e3, e4, e5, hw, hn]
  · have e0 : (v.k = 0) = False := by rw [hk]; simp
    have e1 : (v.k = 1) = True := by rw [hk]; simp
    have e2 : (v.k = 2) = False := by rw [hk]; simp
    have e3 : (v.k = 3) = False := by rw [hk]; simp
    have e4 : (v.k = 4) = False := by rw [hk]; simp
    have e5 : (v.k = 5) = False := by rw [hk]; simp
    clear hk
    simp [e0, e1, e2, e3, e4, e5, hw, hn, hm, hl1, hl2]
  · have hb : -1000000000000 ≤ v.n ∧ v.n ≤ 1000000000000 := by unfold okP at h; simp [hk] at h; exact h.1
    have hw2 : IntKind.i64.wrap (v.n + 4611686018427387904) = v.n + 4611686018427387904 := wrap_of (by omega) (by omega)
    have hm8 := l01Number (v.n + 4611686018427387904) 8 (by omega)
    have hl8 := numP_len (v.n + 4611686018427387904) 8
    simp at hm8
    have e0 : (v.k = 0) = False := by rw [hk]; simp
    have e1 : (v.k = 1) = False := by rw [hk]; simp
    have e2 : (v.k = 2) = True := by rw [hk]; simp
    have e3 : (v.k = 3) = False := by rw [hk]; simp
    have e4 : (v.k = 4) = False := by rw [hk]; simp
    have e5 : (v.k = 5) = False := by rw [hk]; simp
    clear hk
    simp [e0, e1, e2, e3, e4, e5, hw, hw2, hn, hm8, hl1, hl8]
  · have he := l04Escape v.t (by omega)
    have hel := escP_len v.t
    have hle : 1 + (escP v.t).length ≤ 140737488355328 := by omega
    have e0 : (v.k = 0) = False := by rw [hk]; simp
    have e1 : (v.k = 1) = False := by rw [hk]; simp
    have e2 : (v.k = 2) = False := by rw [hk]; simp
    have e3 : (v.k = 3) = True := by rw [hk]; simp
    have e4 : (v.k = 4) = False := by rw [hk]; simp
    have e5 : (v.k = 5) = False := by rw [hk]; simp
    clear hk
    simp [e0, e1, e2, e3, e4, e5, hw, hn, he, hl1, hle]
theorem l04Raw : ∀ (d : Nat) (v : Val), okP d v = true → v.t.length < 1048576 → run E (.call 216 [xV v]) = some (.res [xS (keyD d v)] []) := by
  intro d
  induction d with
  | zero =>
    intro v h hv
    refine l04Raw_small 0 v h hv ?_
    unfold okP at h
    by_cases h0 : v.k = 0; · omega
    by_cases h1 : v.k = 1; · omega
    by_cases h2 : v.k = 2; · omega
    by_cases h3 : v.k = 3; · omega
    simp [h0, h1, h2, h3] at h
  | succ d ih =>
    intro v h hv
    by_cases hs : v.k = 0 ∨ v.k = 1 ∨ v.k = 2 ∨ v.k = 3
    · exact l04Raw_small (d + 1) v h hv hs
    have e0 : (v.k = 0) = False := by simp; omega
    have e1 : (v.k = 1) = False := by simp; omega
    have e2 : (v.k = 2) = False := by simp; omega
    have e3 : (v.k = 3) = False := by simp; omega
    have hlen := keyD_len (d + 1) v h
    have hn := l01Number (v.k + 1) 1 (by omega)
    simp at hn
    have hl1 := numP_len (v.k + 1) 1
    rw [run_call E 216 _ rfl Tryz.func216 rfl rfl rfl (by simp)]
    by_cases hk : v.k = 4
    · obtain ⟨e, xs, hd, _, hit, hx⟩ := okP_list h hk
      obtain rfl : d = e := by omega
      have hw : IntKind.i64.wrap (v.k + 1) = v.k + 1 := wrap_of (by omega) (by omega)
      have hi := l01Items v.t (by omega)
      rw [hit] at hi
      simp only [itemsX] at hi
      obtain ⟨hs1, hs2⟩ := items_small hit
      have e4 : (v.k = 4) = True := eq_true hk
      have eL : itemsL v.t = xs := by simp [itemsL, hit]
      clear hk
      have ekey : keyD (d + 1) v = headK v ++ xs.flatMap (keyD d) ++ [0] := by simp [keyD, e0, e1, e2, e3, e4, eL]
      rw [ekey] at hlen ⊢
      have hhead : headK v = numP (v.k + 1) 1 := rfl
      generalize hW : headK v = W at *
      have lp := fun (R : Bytes) (hR : R = W ++ xs.flatMap (keyD d)) => sk (fun s o q hI => loop_for (c := loopAt Tryz.f216 0) (N := 94)
        (fun i s o q => ∃ acc, s 3 = .t (.str acc) ∧ s 4 = .row 1 ∧ s 6 = .t (.int .i64 i) ∧ o 1 = .row 74 (xs.map valT) true ∧ R = acc ++ (xs.drop i).flatMap (keyD d))
        (fun e s' o' q' => e = .exit 1 ∧ s' 3 = .t (.str R)) xs.length
        (by
          rintro i s o q hi ⟨acc, h3, h4, h6, ho, hp⟩
          have hi' : (i : Int) < (xs.length : Int) := by omega
          have hwi := wrap_succ (n := i) (by omega)
          have hxi : xs[i]? = some xs[i] := List.getElem?_eq_getElem hi
          have hr := ih xs[i] (hx _ (List.getElem_mem hi)) (by have := hs2 _ (List.getElem_mem hi); omega)
          rw [flat_drop _ _ _ hi, ← List.append_assoc] at hp
          have hcat : acc.length + (keyD d xs[i]).length ≤ 140737488355328 := by
            have h1 := congrArg List.length hp
            have h2 := congrArg List.length hR
            simp at h1 h2 hlen
            omega
          simp [loopAt, loopsOf, Tryz.f216, h3, h4, h6, ho, hi, hi', hwi, hr, hcat, hxi]
          rw [hp, List.append_assoc])
        (by
          rintro s o q ⟨acc, h3, h4, h6, ho, hp⟩
          simp at hp
          simp [loopAt, loopsOf, Tryz.f216, h3, h4, h6, ho, hp])
        xs.length 0 s o q (by omega) hI)
      simp only [loopAt, loopsOf, Tryz.f216] at lp
      obtain ⟨X, A, B, C, hl⟩ := lp _ rfl
      have hl' := fun s o q a3 a4 a6 a0 => hl s o q ⟨W, a3, a4, a6, a0, by simp⟩
      clear hl lp
      simp at hl' hlen
      have hcat : W.length + ((xs.flatMap (keyD d)).length + 1) ≤ 140737488355328 := by simp; omega
      simp [e0, e1, e2, e3, e4, hw, hn, ← hhead, hi, hl', hcat]
      try (intro hcon; exfalso; omega)
    · have h5 : v.k = 5 := by
        unfold okP at h
        simp [e0, e1, e2, e3, hk] at h
        exact h.1
      obtain ⟨e, xs, hd, _, hit, _, hx⟩ := okP_doc h h5
      obtain rfl : d = e := by omega
      have hw : IntKind.i64.wrap (v.k + 1) = v.k + 1 := wrap_of (by omega) (by omega)
      have hi := l01Fields v.t (by omega)
      rw [hit] at hi
      simp only [fieldsX] at hi
      obtain ⟨hs1, hs2⟩ := fields_small hit
      have e4 : (v.k = 4) = False := eq_false hk
      have eL : fieldsL v.t = xs := by simp [fieldsL, hit]
      clear hk h5
      have ekey : keyD (d + 1) v = headK v ++ xs.flatMap (fun f => [1] ++ escP f.name ++ keyD d f.v) ++ [0] := by simp [keyD, e0, e1, e2, e3, e4, eL]
      rw [ekey] at hlen ⊢
      have hhead : headK v = numP (v.k + 1) 1 := rfl
      generalize hW : headK v = W at *
      have d22 := d216_22
      simp [regionOf, findR, pick, Tryz.f216] at d22
      have dd := fun st => run_region_draw E st 22 _ d22
      clear d22
      obtain ⟨F, hF⟩ : ∃ F : Fld → Bytes, F = (fun f => [1] ++ escP f.name ++ keyD d f.v) := ⟨_, rfl⟩
      have hFx : ∀ f, [1] ++ (escP f.name ++ keyD d f.v) = F f := by intro f; rw [hF]; simp
      have hFl : ∀ f, (F f).length = 1 + (escP f.name).length + (keyD d f.v).length := by intro f; rw [hF]; simp; omega
      rw [← hF] at hlen ⊢
      clear hF
      have lp := fun (R : Bytes) (hR : R = W ++ xs.flatMap F) => sk (fun s o q hI => loop_for (c := loopAt Tryz.f216 1) (N := 94)
        (fun i s o q => ∃ acc, s 3 = .t (.str acc) ∧ s 7 = .row 1 ∧ s 9 = .t (.int .i64 i) ∧ o 1 = .row 211 (xs.map fldT) true ∧ R = acc ++ (xs.drop i).flatMap F)
        (fun e s' o' q' => e = .exit 3 ∧ s' 3 = .t (.str R)) xs.length
        (by
          rintro i s o q hi ⟨acc, h3, h7, h9, ho, hp⟩
          have hi' : (i : Int) < (xs.length : Int) := by omega
          have hwi := wrap_succ (n := i) (by omega)
          have hxi : xs[i]? = some xs[i] := List.getElem?_eq_getElem hi
          have hsm := hs2 _ (List.getElem_mem hi)
          have hr := ih xs[i].v (hx _ (List.getElem_mem hi)).2 (by omega)
          have hen := l04Escape xs[i].name (by omega)
          rw [flat_drop _ _ _ hi, ← List.append_assoc] at hp
          have hcat : acc.length + (1 + (escP xs[i].name).length + (keyD d xs[i].v).length) ≤ 140737488355328 := by
            have h1 := congrArg List.length hp
            have h2 := congrArg List.length hR
            simp [hFl] at h1 h2 hlen
            omega
          have hcat1 : 1 + (escP xs[i].name).length ≤ 140737488355328 := by omega
          have hcat2 : 1 + (escP xs[i].name).length + (keyD d xs[i].v).length ≤ 140737488355328 := by omega
          have hF1 := hFx xs[i]
          simp at hF1
          simp [loopAt, loopsOf, Tryz.f216, dd, h3, h7, h9, ho, hi, hi', hwi, hr, hen, hcat, hcat1, hcat2, hxi]
          rw [if_pos (by omega), if_pos (by omega), hp, ← hF1]
          simp)
        (by
          rintro s o q ⟨acc, h3, h7, h9, ho, hp⟩
          simp at hp
          simp [loopAt, loopsOf, Tryz.f216, h3, h7, h9, ho, hp])
        xs.length 0 s o q (by omega) hI)
      simp only [loopAt, loopsOf, Tryz.f216] at lp
      obtain ⟨X, A, B, C, hl⟩ := lp _ rfl
      have hl' := fun s o q a3 a4 a6 a0 => hl s o q ⟨W, a3, a4, a6, a0, by simp⟩
      clear hl lp
      simp at hl' hlen
      have hcat : W.length + ((xs.flatMap F).length + 1) ≤ 140737488355328 := by simp; omega
      simp [e0, e1, e2, e3, e4, hw, hn, ← hhead, hi, hl', hcat]
      try (intro hcon; exfalso; omega)
theorem l04Key (d : Nat) (v : Val) (f : Bool) (h : okP d v = true) (hv : v.t.length < 1048576) : run E (.call 140 [xV v, xB f]) = some (.res [xS (if f then turnP (keyD d v) else keyD d v)] []) := by
  rw [run_call E 140 _ rfl Tryz.func140 rfl rfl rfl (by simp)]
  have h1 := l04Raw d v h hv
  have hl := keyD_len d v h
  have h2 := l04Turn (keyD d v) (by omega)
  cases f <;> simp [h1, h2]
theorem escGo_snoc (a : Bytes) (b : UInt8) : escGo (a ++ [b]) = escGo a ++ (if b = 0 then [b, 255] else [b]) := by
  induction a with
  | nil => simp [escGo]
  | cons c a ih => simp [escGo, ih]
theorem putText (acc t : Bytes) (ht : t.length < 4294967296) (ha : acc.length ≤ 70368744177664) : run E (.call 339 [.row 5 (acc.map byteT), xS t]) = some (.res [.row 5 ((acc ++ escP t).map byteT)] [none]) := by
  rw [run_call E 339 _ rfl Tryz.func339 rfl rfl rfl (by simp)]
  have lp := sk1 (fun s o q hI => loop_for (c := loopAt Tryz.f339 0) (N := 28)
    (fun i s o q => ∃ r, s 0 = .row r ∧ s 1 = .t (.str t) ∧ s 7 = .t (.int .i64 t.length) ∧ s 8 = .t (.int .i64 i) ∧ o r = .row 5 ((acc ++ escGo (t.take i)).map byteT) true ∧ r < q ∧ (r = 0 ∨ o 0 = .dead))
    (fun e s' o' q' => ∃ r, e = .exit 0 ∧ s' 0 = .row r ∧ o' r = .row 5 ((acc ++ escGo t).map byteT) true ∧ ¬ r = q' ∧ ¬ r = q' + 1 ∧ ¬ q' = r ∧ ¬ q' = 0 ∧ ¬ 0 = q' ∧ (if 0 = r then Ob.dead else o' 0) = .dead) t.length
    (by
      rintro i s o q hi ⟨r, h0, h1, h7, h8, ho, hrq, hdd⟩
      have hq0 : ¬ q = 0 := by omega
      have hq1 : ¬ 0 = q := by omega
      have hi' : (i : Int) < (t.length : Int) := by omega
      have hw := wrap_succ (n := i) (by omega)
      have hrn : r ≠ q := by omega
      have hrn2 : r ≠ q + 1 := by omega
      have hqn : q ≠ r := by omega
      have hl : (escGo (t.take i)).length ≤ 2 * i := by have := escGo_len (t.take i); simp at this; omega
      have htk : escGo (t.take (i + 1)) = escGo (t.take i) ++ (if t[i] = 0 then [t[i], 255] else [t[i]]) := by
        have e : t.take (i + 1) = t.take i ++ [t[i]] := by rw [List.take_add_one, List.getElem?_eq_getElem hi]; rfl
        rw [e]; exact escGo_snoc _ _
      have hlen : (acc ++ escGo (t.take i)).length + 2 ≤ 140737488355328 := by simp; omega
      rw [htk, ← List.append_assoc]
      generalize acc ++ escGo (t.take i) = l at *
      have hpl : l.length + 1 ≤ 140737488355328 := by omega
      have hpl2 : l.length + 1 + 1 ≤ 140737488355328 := by omega
      by_cases hz : t[i] = 0
      · simp [hz]
        rcases hdd with rfl | hdd
        · simp [loopAt, loopsOf, Tryz.f339, h0, h1, h7, h8, hi, hi', hw, ho, hrn, hrn2, hqn, hz, hpl, hpl2, hq0, hq1]
          try omega
        · by_cases hr0 : r = 0
          · subst hr0; rw [hdd] at ho; cases ho
          · have hr1 : ¬ 0 = r := fun h => hr0 h.symm
            simp [loopAt, loopsOf, Tryz.f339, h0, h1, h7, h8, hi, hi', hw, ho, hrn, hrn2, hqn, hz, hpl, hpl2, hq0, hq1, hdd, hr0, hr1]
            try omega
      · have hzn : ¬ ((t[i].toNat : Int) = 0) := by
          intro h; exact hz (UInt8.toNat_inj.1 (by simp; omega))
        simp [hz]
        rcases hdd with rfl | hdd
        · simp [loopAt, loopsOf, Tryz.f339, h0, h1, h7, h8, hi, hi', hw, ho, hrn, hrn2, hqn, hz, hzn, hpl, hpl2, hq0, hq1]
          try omega
        · by_cases hr0 : r = 0
          · subst hr0; rw [hdd] at ho; cases ho
          · have hr1 : ¬ 0 = r := fun h => hr0 h.symm
            simp [loopAt, loopsOf, Tryz.f339, h0, h1, h7, h8, hi, hi', hw, ho, hrn, hrn2, hqn, hz, hzn, hpl, hpl2, hq0, hq1, hdd, hr0, hr1]
            try omega)
    (by
      rintro s o q ⟨r, h0, h1, h7, h8, ho, hrq, hdd⟩
      have hq0 : ¬ q = 0 := by omega
      have hq1 : ¬ 0 = q := by omega
      simp only [List.take_length] at ho
      have hrn : r ≠ q := by omega
      have hrn2 : r ≠ q + 1 := by omega
      have hqn : q ≠ r := by omega
      generalize acc ++ escGo t = l at *
      simp [loopAt, loopsOf, Tryz.f339, h0, h1, h7, h8, ho, hrn, hrn2, hqn, hq0, hq1]
      rcases hdd with rfl | hdd
      · simp
      · simp [hdd])
    t.length 0 s o q (by omega) hI)
  simp only [loopAt, loopsOf, Tryz.f339] at lp
  obtain ⟨X, A, B, C, M, hx⟩ := lp
  have hx' := fun s o q r a0 a1 a7 a8 a9 a6 a5 => hx s o q ⟨r, a0, a1, a7, a8, by simpa [escGo] using a9, a6, a5⟩
  clear hx
  have hlen : (acc ++ escGo t).length + 2 ≤ 140737488355328 := by have := escGo_len t; simp; omega
  have hfin : (acc ++ escP t).map byteT = (acc ++ escGo t).map byteT ++ [.int .u8 0, .int .u8 0] := by simp [escP]
  rw [hfin]
  generalize acc ++ escGo t = l at *
  have hr2 : List.range 2 = [0, 1] := rfl
  simp [-ite_eq_left_iff] at hx'
  simp [hx', hlen, hr2]
end Go.Rd
