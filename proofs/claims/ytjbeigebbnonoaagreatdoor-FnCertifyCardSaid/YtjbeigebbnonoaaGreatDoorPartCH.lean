/- spec's order of values is impl's: the whole. -/
import Derived.Test.YtjbeigebbnonoaaGreatDoorPartCG
import Derived.Test.YtjbeigebbnonoaaGreatDoorPartCF
namespace Go.Md
open Go.Ev Go.Proofs Go.Pu
set_option linter.unusedSimpArgs false
set_option linter.unusedVariables false
set_option maxRecDepth 100000
set_option maxHeartbeats 16000000
theorem cmpI_ne {a b : Int} (h : a ≠ b) : cmpI a b = if b < a then 1 else -1 := by
  unfold cmpI
  by_cases h1 : a < b
  · have : ¬ b < a := by omega
    simp [h1, this]
  · have : b < a := by omega
    simp [h1, this]
/-- Ahead of the bodies: kinds, numbers, one and the same text. -/
theorem specOrder_head (d : Nat) (a b : Val) (ha : okP d a = true) (hb : okP d b = true) (hal : a.t.length < 4294967296) (hbl : b.t.length < 4294967296) (h : ¬ (a.k = b.k ∧ a.n = b.n ∧ a.t ≠ b.t ∧ (a.k = 4 ∨ a.k = 5))) : run E (.call 305 [xV a, xV b]) = some (.res [xI (ordD d a b)] []) := by
  rw [run_call E 305 _ rfl Tryz.func305 rfl rfl rfl (by simp)]
  have b1 := l01Bit true
  have b0 := l01Bit false
  simp at b1 b0
  have w2 : IntKind.i64.wrap 2 = 2 := rfl
  have wm : IntKind.i64.wrap (-1) = -1 := rfl
  by_cases hk : a.k = b.k
  · by_cases hn : a.n = b.n
    · by_cases ht : a.t = b.t
      · have e : a = b := val_eq hk hn ht
        subst e
        rw [ordD_refl d a ha]
        simp
      · have hk4 : ¬ a.k = 4 := fun h4 => h ⟨hk, hn, ht, .inl h4⟩
        have hk5 : ¬ a.k = 5 := fun h5 => h ⟨hk, hn, ht, .inr h5⟩
        have h3 : a.k = 3 := by
          by_cases h3 : a.k = 3
          · exact h3
          · exact absurd ((okP_small ha h3 hk4 hk5).trans (okP_small hb (by omega) (by omega) (by omega)).symm) ht
        have ho : ordD d a b = Lib.compareBytes a.t b.t := by
          unfold ordD
          simp [hk, hn, cmpI_refl, orI]
          have e4 : ¬ b.k = 4 := by omega
          have e5 : ¬ b.k = 5 := by omega
          simp [e4, e5]
        rw [ho, cmpB_sign _ _ ht]
        have e3 : (a.k = 3) = True := eq_true h3
        have ek : (a.k = b.k) = True := eq_true hk
        have en : (a.n = b.n) = True := eq_true hn
        have et : (a.t = b.t) = False := eq_false ht
        have hne : (a.t == b.t) = false := by simpa using ht
        clear h3 hk hn ho
        cases hbl : Op.bytesLess a.t b.t <;> simp [e3, ek, en, et, hne, hbl, b1, b0, w2, wm]
    · have ho : ordD d a b = cmpI a.n b.n := by
        have : ¬ cmpI a.n b.n = 0 := by rw [cmpI_eq]; exact hn
        unfold ordD
        simp [hk, cmpI_refl, orI, this]
      rw [ho, cmpI_ne hn]
      have ek : (a.k = b.k) = True := eq_true hk
      have en : (a.n = b.n) = False := eq_false hn
      clear hk ho h
      by_cases hlt : b.n < a.n <;> simp [ek, en, hlt, b1, b0, w2, wm]
  · have ho : ordD d a b = cmpI a.k b.k := by
      have : ¬ cmpI a.k b.k = 0 := by rw [cmpI_eq]; exact hk
      unfold ordD
      simp [orI, this]
    rw [ho, cmpI_ne hk]
    have ek : (a.k = b.k) = False := eq_false hk
    clear ho h
    by_cases hlt : b.k < a.k <;> simp [ek, hlt, b1, b0, w2, wm]
theorem specOrder : ∀ (d : Nat) (a b : Val), okP d a = true → okP d b = true → a.t.length < 4294967296 → b.t.length < 4294967296 → run E (.call 305 [xV a, xV b]) = some (.res [xI (ordD d a b)] []) := by
  intro d
  induction d with
  | zero =>
    intro a b ha hb hal hbl
    refine specOrder_head 0 a b ha hb hal hbl ?_
    rintro ⟨_, _, _, h4 | h5⟩
    · obtain ⟨e, _, hd, _⟩ := okP_list ha h4; omega
    · obtain ⟨e, _, hd, _⟩ := okP_doc ha h5; omega
  | succ d ih =>
    intro a b ha hb hal hbl
    by_cases hh : a.k = b.k ∧ a.n = b.n ∧ a.t ≠ b.t ∧ (a.k = 4 ∨ a.k = 5)
    · obtain ⟨hk, hn, ht, h45⟩ := hh
      have b1 := l01Bit true
      have b0 := l01Bit false
      simp at b1 b0
      have w2 : IntKind.i64.wrap 2 = 2 := rfl
      have wm : IntKind.i64.wrap (-1) = -1 := rfl
      have ek : (a.k = b.k) = True := eq_true hk
      have en : (a.n = b.n) = True := eq_true hn
      have et : (a.t = b.t) = False := eq_false ht
      have hne : (a.t == b.t) = false := by simpa using ht
      have hnz : ¬ ordD (d + 1) a b = 0 := fun h0 => ht (by rw [ordD_zero (d + 1) a b ha hb h0])
      rw [run_call E 305 _ rfl Tryz.func305 rfl rfl rfl (by simp)]
      by_cases h4 : a.k = 4
      · obtain ⟨e, xs, hd, _, hi, hx⟩ := okP_list ha h4
        obtain ⟨e', ys, hd', _, hi', hy⟩ := okP_list hb (by omega)
        obtain rfl : d = e := by omega
        obtain rfl : d = e' := by omega
        obtain ⟨s1, s2⟩ := items_small hi
        obtain ⟨t1, t2⟩ := items_small hi'
        have i1 := l01Items a.t hal
        have i2 := l01Items b.t hbl
        rw [hi] at i1
        rw [hi'] at i2
        simp only [itemsX] at i1 i2
        have ho : ordD (d + 1) a b = ordL (ordD d) xs ys := by
          unfold ordD
          have e4 : b.k = 4 := by omega
          simp [hk, hn, cmpI_refl, orI, e4, itemsL, hi, hi']
        rw [ho] at hnz ⊢
        have e3 : (a.k = 3) = False := by simp; omega
        have e4 : (a.k = 4) = True := eq_true h4
        clear h4 h45 hk hn ho
        obtain ⟨w, hw⟩ : ∃ w, w = cutB (ordD d) xs ys := ⟨_, rfl⟩
        obtain ⟨X, A, B, C, hl⟩ := sk (specItems_loop d xs ys (by omega) (by omega) (fun x hx' y hy' => ih x y (hx x hx') (hy y hy') (by have := s2 x hx'; omega) (by have := t2 y hy'; omega)) _ w rfl hw)
        simp only [loopAt, loopsOf, Tryz.f305] at hl
        cases w with
        | true =>
          have hr := cutB_ord hw.symm
          have hlt1 : ((ys.length : Int) < (xs.length : Int)) = (ys.length < xs.length) := by simp
          simp at hl
          by_cases h1 : ys.length < xs.length
          · have h2 : ¬ xs.length < ys.length := by omega
            rw [hr, if_neg h2, if_pos h1]
            simp [ek, en, et, hne, e3, e4, i1, i2, hl, h1, hlt1, b1, b0, w2, wm]
          · have h2 : xs.length < ys.length := by
              by_cases h2 : xs.length < ys.length
              · exact h2
              · rw [hr, if_neg h2, if_neg h1] at hnz; exact absurd rfl hnz
            rw [hr, if_pos h2]
            simp [ek, en, et, hne, e3, e4, i1, i2, hl, h1, hlt1, b1, b0, w2, wm]
        | false =>
          simp at hl
          simp [ek, en, et, hne, e3, e4, i1, i2, hl, b1, b0, w2, wm]
      · have h5 : a.k = 5 := by omega
        obtain ⟨e, xs, hd, _, hi, _, hx⟩ := okP_doc ha h5
        obtain ⟨e', ys, hd', _, hi', _, hy⟩ := okP_doc hb (by omega)
        obtain rfl : d = e := by omega
        obtain rfl : d = e' := by omega
        obtain ⟨s1, s2⟩ := fields_small hi
        obtain ⟨t1, t2⟩ := fields_small hi'
        have i1 := l01Fields a.t hal
        have i2 := l01Fields b.t hbl
        rw [hi] at i1
        rw [hi'] at i2
        simp only [fieldsX] at i1 i2
        have ho : ordD (d + 1) a b = ordL (fldO d) xs ys := by
          unfold ordD
          have e4 : ¬ b.k = 4 := by omega
          have e5 : b.k = 5 := by omega
          simp [hk, hn, cmpI_refl, orI, e4, e5, fieldsL, hi, hi']
          rfl
        rw [ho] at hnz ⊢
        have e3 : (a.k = 3) = False := by simp; omega
        have e4 : (a.k = 4) = False := eq_false h4
        clear h4 h5 h45 hk hn ho
        obtain ⟨w, hw⟩ : ∃ w, w = cutB (fldO d) xs ys := ⟨_, rfl⟩
        obtain ⟨X, A, B, C, hl⟩ := sk (specFields_loop d xs ys (by omega) (by omega) (fun x hx' y hy' => ih x.v y.v (hx x hx').2 (hy y hy').2 (by have := s2 x hx'; omega) (by have := t2 y hy'; omega)) _ w rfl hw)
        simp only [loopAt, loopsOf, Tryz.f305] at hl
        cases w with
        | true =>
          have hr := cutB_ord hw.symm
          have hlt1 : ((ys.length : Int) < (xs.length : Int)) = (ys.length < xs.length) := by simp
          simp at hl
          by_cases h1 : ys.length < xs.length
          · have h2 : ¬ xs.length < ys.length := by omega
            rw [hr, if_neg h2, if_pos h1]
            simp [ek, en, et, hne, e3, e4, i1, i2, hl, h1, hlt1, b1, b0, w2, wm]
          · have h2 : xs.length < ys.length := by
              by_cases h2 : xs.length < ys.length
              · exact h2
              · rw [hr, if_neg h2, if_neg h1] at hnz; exact absurd rfl hnz
            rw [hr, if_pos h2]
            simp [ek, en, et, hne, e3, e4, i1, i2, hl, h1, hlt1, b1, b0, w2, wm]
        | false =>
          simp at hl
          simp [ek, en, et, hne, e3, e4, i1, i2, hl, b1, b0, w2, wm]
    · exact specOrder_head (d + 1) a b ha hb hal hbl hh
/-- A text's bytes with its zeros marked. -/
def escGo : Bytes → Bytes
  | [] => []
  | b :: r => (if b = 0 then [b, 255] else [b]) ++ escGo r
def escP (t : Bytes) : Bytes := escGo t ++ [0, 0]
def turnB (b : UInt8) : UInt8 := 255 - b
def turnP (t : Bytes) : Bytes := t.map turnB
theorem escGo_len : ∀ (t : Bytes), (escGo t).length ≤ 2 * t.length
  | [] => by simp [escGo]
  | b :: r => by
    have := escGo_len r
    unfold escGo
    split <;> simp <;> omega
theorem turn_wrap (b : UInt8) : IntKind.u8.wrap (255 - (b.toNat : Int)) = ((turnB b).toNat : Int) := by
  have hb : b.toNat < 256 := b.toNat_lt
  have h : (255 - b).toNat = 255 - b.toNat := by
    rw [UInt8.toNat_sub]
    simp
    omega
  unfold turnB
  rw [h]
  simp [IntKind.wrap, IntKind.bits, IntKind.signed]
  omega
theorem toBytes_app (l : Bytes) (m : List T) : toBytes (l.map byteT ++ m) = (toBytes m).map (l ++ ·) := by
  induction l with
  | nil => simp [toBytes]
  | cons b r ih =>
    simp only [List.map_cons, List.cons_append, toBytes, ih]
    cases toBytes m <;> simp
theorem toBytes_map (l : Bytes) : toBytes (l.map byteT) = some l := by
  have := toBytes_app l []
  simpa [toBytes] using this
theorem l04Turn (t : Bytes) (ht : t.length < 4294967296) : run E (.call 314 [xS t]) = some (.res [xS (turnP t)] []) := by
  rw [run_call E 314 _ rfl Tryz.func314 rfl rfl rfl (by simp)]
  have lp := sk1 (fun s o q hI => loop_for (c := loopAt Tryz.f314 0) (N := 21)
    (fun i s o q => ∃ r, s 0 = .t (.str t) ∧ s 3 = .row r ∧ s 4 = .t (.int .i64 i) ∧ o r = .row 5 ((turnP (t.take i)).map byteT) true ∧ r < q)
    (fun e s' o' q' => ∃ r, e = .exit 0 ∧ s' 3 = .row r ∧ o' r = .row 5 ((turnP t).map byteT) true) t.length
    (by
      rintro i s o q hi ⟨r, h0, h3, h4, ho, hrq⟩
      have hi' : (i : Int) < (t.length : Int) := by omega
      have hw := wrap_succ (n := i) (by omega)
      have hrn : r ≠ q := by omega
      have hrn2 : r ≠ q + 1 := by omega
      have hqn : q ≠ r := by omega
      have hl : (turnP (t.take i)).length = i := by simp [turnP]; omega
      have htw := turn_wrap t[i]
      have htk : (turnP (t.take (i + 1))).map byteT = (turnP (t.take i)).map byteT ++ [byteT (turnB t[i])] := by
        have e : t.take (i + 1) = t.take i ++ [t[i]] := by rw [List.take_add_one, List.getElem?_eq_getElem hi]; rfl
        rw [e]; simp only [turnP, List.map_append, List.map_cons, List.map_nil]
      have hpl : i + 1 ≤ 140737488355328 := by omega
      rw [htk]
      generalize turnP (t.take i) = l at *
      simp [loopAt, loopsOf, Tryz.f314, h0, h3, h4, hi, hi', hw, ho, hrn, hrn2, hqn, htw, hl, hpl]
      try omega)
    (by
      rintro s o q ⟨r, h0, h3, h4, ho, hrq⟩
      simp at ho
      simp [loopAt, loopsOf, Tryz.f314, h0, h3, h4, ho])
    t.length 0 s o q (by omega) hI)
  simp only [loopAt, loopsOf, Tryz.f314] at lp
  obtain ⟨X, A, B, C, M, hx⟩ := lp
  have hx' := fun s o q r a0 a3 a4 a5 a6 => hx s o q ⟨r, a0, a3, a4, a5, a6⟩
  clear hx
  simp [turnP] at hx'
  have hb := toBytes_map (turnP t)
  simp [turnP] at hb
  simp [hx', turnP, hb]
theorem l04Escape (t : Bytes) (ht : t.length < 4294967296) : run E (.call 330 [xS t]) = some (.res [xS (escP t)] []) := by
  rw [run_call E 330 _ rfl Tryz.func330 rfl rfl rfl (by simp)]
  have lp := sk1 (fun s o q hI => loop_for (c := loopAt Tryz.f330 0) (N := 29)
    (fun i s o q => ∃ r, s 0 = .t (.str t) ∧ s 3 = .row r ∧ s 4 = .t (.int .i64 i) ∧ o r = .row 5 ((escGo (t.take i)).map byteT) true ∧ r < q)
    (fun e s' o' q' => ∃ r, e = .exit 0 ∧ s' 3 = .row r ∧ o' r = .row 5 ((escGo t).map byteT) true ∧ ¬ r = q' ∧ ¬ r = q' + 1 ∧ ¬ q' = r) t.length
    (by
      rintro i s o q hi ⟨r, h0, h3, h4, ho, hrq⟩
      have hi' : (i : Int) < (t.length : Int) := by omega
      have hw := wrap_succ (n := i) (by omega)
      have hrn : r ≠ q := by omega
      have hrn2 : r ≠ q + 1 := by omega
      have hqn : q ≠ r := by omega
      have hl : (escGo (t.take i)).length ≤ 2 * i := by have := escGo_len (t.take i); simp at this; omega
      have hsnoc : ∀ (a : Bytes) (b : UInt8), escGo (a ++ [b]) = escGo a ++ (if b = 0 then [b, 255] else [b]) := by
        intro a b
        induction a with
        | nil => simp [escGo]
        | cons c a ih => simp [escGo, ih]
      have htk : escGo (t.take (i + 1)) = escGo (t.take i) ++ (if t[i] = 0 then [t[i], 255] else [t[i]]) := by
        have e : t.take (i + 1) = t.take i ++ [t[i]] := by rw [List.take_add_one, List.getElem?_eq_getElem hi]; rfl
        rw [e]; exact hsnoc _ _
      have hpl : (escGo (t.take i)).length + 1 ≤ 140737488355328 := by omega
      have hpl2 : (escGo (t.take i)).length + 1 + 1 ≤ 140737488355328 := by omega
      rw [htk]
      generalize escGo (t.take i) = l at *
      by_cases hz : t[i] = 0
      · simp [hz]
        simp [loopAt, loopsOf, Tryz.f330, h0, h3, h4, hi, hi', hw, ho, hrn, hrn2, hqn, hz, hpl, hpl2]
        try omega
      · have hzn : ¬ ((t[i].toNat : Int) = 0) := by
          intro h; exact hz (UInt8.toNat_inj.1 (by simp; omega))
        simp [hz]
        simp [loopAt, loopsOf, Tryz.f330, h0, h3, h4, hi, hi', hw, ho, hrn, hrn2, hqn, hz, hzn, hpl, hpl2]
        try omega)
    (by
      rintro s o q ⟨r, h0, h3, h4, ho, hrq⟩
      simp at ho
      have hrn : r ≠ q := by omega
      have hrn2 : r ≠ q + 1 := by omega
      have hqn : q ≠ r := by omega
      simp [loopAt, loopsOf, Tryz.f330, h0, h3, h4, ho, hrn, hrn2, hqn])
    t.length 0 s o q (by omega) hI)
  simp only [loopAt, loopsOf, Tryz.f330] at lp
  obtain ⟨X, A, B, C, M, hx⟩ := lp
  have hx' := fun s o q r a0 a3 a4 a5 a6 => hx s o q ⟨r, a0, a3, a4, a5, a6⟩
  clear hx
  simp [escGo] at hx'
  have hl : (escGo t).length + 2 ≤ 140737488355328 := by have := escGo_len t; omega
  have hb := toBytes_app (escGo t) [.int .u8 0, .int .u8 0]
  simp [toBytes] at hb
  have hr2 : List.range 2 = [0, 1] := rfl
  simp [hx', escP, hb, hl, hr2]
/-- A number's byte at a place. -/
def byteAt (n : Int) (j : Nat) : UInt8 := UInt8.ofNat (IntKind.u8.wrap (n.fdiv (2 ^ (8 * j)))).toNat
theorem byteAt_wrap (n : Int) (j : Nat) : IntKind.u8.wrap (n.fdiv (2 ^ (8 * j))) = ((byteAt n j).toNat : Int) := by
  unfold byteAt
  have h : 0 ≤ IntKind.u8.wrap (n.fdiv (2 ^ (8 * j))) ∧ IntKind.u8.wrap (n.fdiv (2 ^ (8 * j))) < 256 := by
    simp [IntKind.wrap, IntKind.bits, IntKind.signed]
    omega
  generalize IntKind.u8.wrap (n.fdiv (2 ^ (8 * j))) = m at *
  rw [UInt8.toNat_ofNat']
  omega
/-- A number's bytes from the place k - 1 downwards. -/
def numP (n : Int) : Nat → Bytes
  | 0 => []
  | k + 1 => byteAt n k :: numP n k
theorem numP_len (n : Int) : ∀ k, (numP n k).length = k
  | 0 => rfl
  | k + 1 => by simp [numP, numP_len n k]
theorem l01Number (n : Int) (k : Nat) (hk : k ≤ 8) : run E (.call 248 [xI n, xI k]) = some (.res [xS (numP n k)] []) := by
  rw [run_call E 248 _ rfl Tryz.func248 rfl rfl rfl (by simp)]
  have lp := sk1 (fun s o q hI => loop_for (c := loopAt Tryz.f248 0) (N := 25)
    (fun i s o q => ∃ r l, s 0 = .t (.int .i64 n) ∧ s 5 = .row r ∧ s 6 = .t (.int .i64 ((k : Int) - 1 - i)) ∧ o r = .row 5 (l.map byteT) true ∧ r < q ∧ l.length = i ∧ numP n k = l ++ numP n (k - i))
    (fun e s' o' q' => ∃ r, e = .exit 0 ∧ s' 5 = .row r ∧ o' r = .row 5 ((numP n k).map byteT) true) k
    (by
      rintro i s o q hi ⟨r, l, h0, h5, h6, ho, hrq, hl, hp⟩
      have hge : (0 : Int) ≤ (k : Int) - 1 - i := by omega
      obtain ⟨j, hj⟩ : ∃ j : Nat, k = j + 1 + i := ⟨k - 1 - i, by omega⟩
      have hjj : (k : Int) - 1 - i = j := by omega
      have hki : k - i = j + 1 := by omega
      have hki2 : k - (i + 1) = j := by omega
      rw [hki, numP] at hp
      rw [hjj] at h6
      have hw : IntKind.i64.wrap ((j : Int) - 1) = (k : Int) - 1 - ((i + 1 : Nat) : Int) := by rw [wrap_of (by omega) (by omega)]; omega
      have hw8 : IntKind.i64.wrap (8 * (j : Int)) = ((8 * j : Nat) : Int) := by rw [wrap_of (by omega) (by omega)]; omega
      have hwu := wrap_u64 (n := 8 * j) (by omega)
      have hmin : min (8 * j) IntKind.i64.bits = 8 * j := by simp [IntKind.bits]; omega
      have hj0 : (0 : Int) ≤ (j : Int) := by omega
      have hrn : r ≠ q := by omega
      have hrn2 : r ≠ q + 1 := by omega
      have hqn : q ≠ r := by omega
      have hpl : l.length + 1 ≤ 140737488355328 := by omega
      have hb := byteAt_wrap n j
      have hneg : ¬ (8 * (j : Int) < 0) := by omega
      have hnat : (8 * (j : Int)).toNat = 8 * j := by omega
      simp at hw hw8 hwu
      simp [loopAt, loopsOf, Tryz.f248, h0, h5, h6, ho, hrn, hrn2, hqn, hw, hw8, hwu, hmin, hb, hpl, hneg, hnat]
      exact ⟨l ++ [byteAt n j], by simp, by simp [hl], by rw [hp, hki2]; simp⟩)
    (by
      rintro s o q ⟨r, l, h0, h5, h6, ho, hrq, hl, hp⟩
      have h6' : s 6 = .t (.int .i64 (-1)) := by rw [h6]; congr 2; omega
      simp [numP] at hp
      simp [loopAt, loopsOf, Tryz.f248, h0, h5, h6', ho, hp])
    k 0 s o q (by omega) hI)
  simp only [loopAt, loopsOf, Tryz.f248] at lp
  obtain ⟨X, A, B, C, M, hx⟩ := lp
  have hx' := fun s o q r a0 a5 a6 a7 a8 => hx s o q ⟨r, [], a0, a5, a6, a7, a8, rfl, by simp⟩
  clear hx
  simp at hx'
  have hb := toBytes_map (numP n k)
  have hw : IntKind.i64.wrap ((k : Int) - 1) = (k : Int) - 1 := wrap_of (by omega) (by omega)
  simp [hx', hb, hw]
def headK (v : Val) : Bytes := numP (v.k + 1) 1
/-- A value's key. -/
def keyD : Nat → Val → Bytes
  | d, v =>
    if v.k = 0 then headK v
    else if v.k = 1 then headK v ++ numP v.n 1
    else if v.k = 2 then headK v ++ numP (v.n + 4611686018427387904) 8
    else if v.k = 3 then headK v ++ escP v.t
    else match d with
      | 0 => []
      | d + 1 =>
        if v.k = 4 then headK v ++ (itemsL v.t).flatMap (keyD d) ++ [0]
        else headK v ++ (fieldsL v.t).flatMap (fun f => [1] ++ escP f.name ++ keyD d f.v) ++ [0]
theorem escP_len (t : Bytes) : (escP t).length ≤ 2 * t.length + 2 := by
  have := escGo_len t
  simp [escP]; omega
def sumL {α : Type} (f : α → Nat) : List α → Nat
  | [] => 0
  | x :: r => f x + sumL f r
theorem flat_len {α : Type} {f : α → Bytes} {g : α → Nat} : ∀ {l : List α}, (∀ x ∈ l, (f x).length ≤ 11 * g x) → (l.flatMap f).length ≤ 11 * sumL g l
  | [], _ => by simp
  | x :: r, h => by
    have h1 := h x (by simp)
    have h2 := flat_len (f := f) (g := g) (l := r) (fun y hy => h y (by simp [hy]))
    simp [sumL]; simp at h2; omega
theorem items_sum : ∀ {xs : List Val} {t : Bytes}, itemsP t = some xs → sumL (fun x => x.t.length + 1) xs ≤ t.length
  | xs, t, h => by
    rcases items_cases h with ⟨rfl, rfl⟩ | ⟨v, r, ys, h1, h2, rfl⟩
    · simp [sumL]
    · have := nextP_len h1
      have := items_sum h2
      simp [sumL]; omega
  termination_by xs => xs.length
  decreasing_by simp_all
theorem fields_sum : ∀ {xs : List Fld} {t : Bytes}, fieldsP t = some xs → sumL (fun f => f.name.length + f.v.t.length + 2) xs ≤ t.length
  | xs, t, h => by
    rcases fields_cases h with ⟨rfl, rfl⟩ | ⟨b, q, v, r, ys, rfl, h0, h1, h2, rfl⟩
    · simp [sumL]
    · have := nextP_len h1
      have := fields_sum h2
      simp at *
      simp [sumL]; omega
  termination_by xs => xs.length
  decreasing_by simp_all
theorem keyD_len : ∀ (d : Nat) (v : Val), okP d v = true → (keyD d v).length ≤ 11 * (v.t.length + 1) := by
  intro d
  induction d with
  | zero =>
    intro v h
    unfold keyD headK
    have := escP_len v.t
    split
    · simp [numP_len]; omega
    · split
      · simp [numP_len]; omega
      · split
        · simp [numP_len]; omega
        · split
          · simp [numP_len]; omega
          · simp
  | succ d ih =>
    intro v h
    have he := escP_len v.t
    by_cases h0 : v.k = 0
    · simp [keyD, headK, h0, numP_len]; omega
    by_cases h1 : v.k = 1
    · simp [keyD, headK, h1, numP_len]; omega
    by_cases h2 : v.k = 2
    · simp [keyD, headK, h2, numP_len]; omega
    by_cases h3 : v.k = 3
    · simp [keyD, headK, h3, numP_len]; omega
    by_cases h4 : v.k = 4
    · obtain ⟨e, xs, hd, _, hi, hx⟩ := okP_list h h4
      obtain rfl : d = e := by omega
      have hf := flat_len (f := keyD d) (g := fun x => x.t.length + 1) (l := xs) (fun x hm => ih x (hx x hm))
      have hs := items_sum hi
      have e : itemsL v.t = xs := by simp [itemsL, hi]
      simp [keyD, headK, h4, e, numP_len]
      simp at hf
      omega
    · have h5 : v.k = 5 := by
        unfold okP at h
        simp [h0, h1, h2, h3, h4] at h
        exact h.1
      obtain ⟨e, fs, hd, _, hi, _, hx⟩ := okP_doc h h5
      obtain rfl : d = e := by omega
      have hf := flat_len (f := fun f : Fld => [1] ++ escP f.name ++ keyD d f.v) (g := fun f => f.name.length + f.v.t.length + 2) (l := fs) (fun f hm => by
        have h1 := ih f.v (hx f hm).2
        have h2 := escP_len f.name
        simp; omega)
      have hs := fields_sum hi
      have e : fieldsL v.t = fs := by simp [fieldsL, hi]
      simp [keyD, headK, h5, e, numP_len]
      simp at hf
      omega
theorem flat_le {α β : Type} {f : α → List β} {g : α → Nat} : ∀ {l : List α}, (∀ x ∈ l, (f x).length ≤ g x) → (l.flatMap f).length ≤ sumL g l
  | [], _ => by simp
  | x :: r, h => by
    have h1 := h x (by simp)
    have h2 := flat_le (f := f) (g := g) (l := r) (fun y hy => h y (by simp [hy]))
    simp [sumL]; simp at h2; omega
theorem itemsL_sum (t : Bytes) : sumL (fun x => x.t.length + 1) (itemsL t) ≤ t.length := by
  unfold itemsL
  cases h : itemsP t with
  | none => simp [sumL]
  | some xs => exact items_sum h
theorem itemsL_len (t : Bytes) : (itemsL t).length ≤ t.length ∧ ∀ x ∈ itemsL t, x.t.length < t.length := by
  unfold itemsL
  cases h : itemsP t with
  | none => simp
  | some xs => exact items_small h
theorem fieldP_len {v x : Val} {w : Bytes} (h : fieldP v w = some x) : x.t.length < v.t.length := by
  unfold fieldP fieldsL at h
  cases hf : fieldsP v.t with
  | none => simp [hf] at h
  | some fs =>
    rw [hf] at h
    simp only [Option.getD_some, Option.map_eq_some_iff] at h
    obtain ⟨f, h1, rfl⟩ := h
    exact ((fields_small hf).2 f (List.mem_of_find?_eq_some h1)).1
/-- A name, then the rest of a path. -/
def oneP (w : Bytes) (ws : List Bytes) (x : Val) : List Val := match fieldP x w with
  | none => []
  | some y => getP ws y
theorem getP_cons (w : Bytes) (ws : List Bytes) (v : Val) : getP (w :: ws) v = if v.k = 5 then oneP w ws v else if v.k = 4 then (itemsL v.t).flatMap (fun x => if x.k = 5 then oneP w ws x else []) else [] := rfl
theorem getP_len : ∀ (ws : List Bytes) (v : Val), (getP ws v).length ≤ v.t.length + 1
  | [], v => by
    unfold getP
    have := (itemsL_len v.t).1
    split <;> simp <;> omega
  | w :: ws, v => by
    have one : ∀ x : Val, (oneP w ws x).length ≤ x.t.length + 1 := by
      intro x
      unfold oneP
      cases h : fieldP x w with
      | none => simp
      | some y =>
        have := fieldP_len h
        have := getP_len ws y
        simp only; omega
    rw [getP_cons]
    split
    · exact one v
    · split
      · have := flat_le (f := fun x : Val => if x.k = 5 then oneP w ws x else []) (g := fun x => x.t.length + 1) (l := itemsL v.t) (fun x _ => by
          by_cases h : x.k = 5
          · rw [if_pos h]; exact one x
          · rw [if_neg h]; simp)
        have := itemsL_sum v.t
        omega
      · simp
theorem itemsX_L (t : Bytes) : ∃ b, itemsX (itemsP t) = [.row 38 ((itemsL t).map valT), xB b] := by
  unfold itemsL
  cases itemsP t with
  | none => exact ⟨false, rfl⟩
  | some xs => exact ⟨true, rfl⟩
theorem l02Get_nil (v : Val) (hv : v.t.length < 1048576) : run E (.call 304 [xV v, .t (.list [])]) = some (.res [.row 38 ((getP [] v).map valT)] []) := by
  rw [run_call E 304 _ rfl Tryz.func304 rfl rfl rfl (by simp)]
  have hi := l01Items v.t (by omega)
  obtain ⟨b, hb⟩ := itemsX_L v.t
  rw [hb] at hi
  have hl := (itemsL_len v.t).1
  have h1 : 1 + (itemsL v.t).length ≤ 140737488355328 := by omega
  have h2 : (1 + (itemsL v.t).length) * 32 ≤ 140737488355328 := by omega
  by_cases h4 : v.k = 4
  · have e4 : (v.k = 4) = True := eq_true h4
    have eg : getP [] v = v :: itemsL v.t := by simp [getP, h4]
    rw [eg]
    clear h4 eg
    simp [e4, hi, h1, h2]
  · have e4 : (v.k = 4) = False := eq_false h4
    have eg : getP [] v = [v] := by simp [getP, h4]
    rw [eg]
    clear h4 eg
    simp [e4]
theorem l02Get_doc (w : Bytes) (ws : List Bytes) (hws : ws.length < 4294967296) (ih : ∀ v : Val, v.t.length < 1048576 → run E (.call 304 [xV v, .t (.list (ws.map strT))]) = some (.res [.row 38 ((getP ws v).map valT)] []))
    (v : Val) (hv : v.t.length < 1048576) (hk : v.k = 5) : run E (.call 304 [xV v, .t (.list ((w :: ws).map strT))]) = some (.res [.row 38 ((oneP w ws v).map valT)] []) := by
  rw [run_call E 304 _ rfl Tryz.func304 rfl rfl rfl (by simp)]
  have d9 := d304_9
  simp [regionOf, findR, pick, Tryz.f304] at d9
  have dd := fun st => run_region_draw E st 9 _ d9
  clear d9
  have d12 := d304_12
  simp [regionOf, findR, pick, Tryz.f304] at d12
  have de := fun st => run_region_draw E st 12 _ d12
  clear d12
  have e5 : (v.k = 5) = True := eq_true hk
  have hf := specField v w (by omega)
  have hpos : ¬ ((ws.length : Int) + 1 = 0) := by omega
  have hle : (1 : Int) ≤ (ws.length : Int) + 1 := by omega
  clear hk
  unfold oneP
  cases hx : fieldP v w with
  | none =>
    rw [hx] at hf
    simp only [optX] at hf
    simp [dd, de, e5, hf, hpos, hle]
  | some y =>
    have hl := fieldP_len hx
    have hy := ih y (by omega)
    rw [hx] at hf
    simp only [optX] at hf
    have htk : List.take ws.length (List.map strT ws) = List.map strT ws := List.take_of_length_le (by simp)
    simp [dd, de, e5, hf, hpos, hle, hy, htk]
theorem l02Get_cons (w : Bytes) (ws : List Bytes) (hws : ws.length < 4294967296) (ih : ∀ v : Val, v.t.length < 1048576 → run E (.call 304 [xV v, .t (.list (ws.map strT))]) = some (.res [.row 38 ((getP ws v).map valT)] []))
    (v : Val) (hv : v.t.length < 1048576) : run E (.call 304 [xV v, .t (.list ((w :: ws).map strT))]) = some (.res [.row 38 ((getP (w :: ws) v).map valT)] []) := by
  rw [getP_cons]
  by_cases hk : v.k = 5
  · rw [if_pos hk]; exact l02Get_doc w ws hws ih v hv hk
  rw [if_neg hk]
  rw [run_call E 304 _ rfl Tryz.func304 rfl rfl rfl (by simp)]
  have e5 : (v.k = 5) = False := eq_false hk
  have hpos : ¬ ((ws.length : Int) + 1 = 0) := by omega
  by_cases h4 : v.k = 4
  · rw [if_pos h4]
    have e4 : (v.k = 4) = True := eq_true h4
    clear h4 hk
    have hi := l01Items v.t (by omega)
    obtain ⟨b, hb⟩ := itemsX_L v.t
    rw [hb] at hi
    obtain ⟨hl, hs⟩ := itemsL_len v.t
    generalize hxs : itemsL v.t = xs at *
    have hsum := itemsL_sum v.t
    rw [hxs] at hsum
    obtain ⟨F, hF⟩ : ∃ F : Val → List Val, F = (fun x => if x.k = 5 then oneP w ws x else []) := ⟨_, rfl⟩
    have hF5 : ∀ x : Val, x.k = 5 → F x = oneP w ws x := by intro x h; rw [hF]; simp [h]
    have hFn : ∀ x : Val, ¬ x.k = 5 → F x = [] := by intro x h; rw [hF]; simp [h]
    have hFl : (xs.flatMap F).length ≤ 1048576 := by
      have := flat_le (f := F) (g := fun x => x.t.length + 1) (l := xs) (fun x _ => by
        by_cases h : x.k = 5
        · have h1 := getP_len (w :: ws) x
          rw [getP_cons, if_pos h] at h1
          rw [hF5 x h]; exact h1
        · rw [hFn x h]; simp)
      omega
    rw [← hF]
    clear hF
    have lp := fun (R : List Val) (hR : R = xs.flatMap F) => sk1 (fun s o q hI => loop_for (c := loopAt Tryz.f304 0) (N := 82)
      (fun i s o q => ∃ r acc, s 1 = .t (.list ((w :: ws).map strT)) ∧ s 10 = .row r ∧ s 11 = .row 2 ∧ s 13 = .t (.int .i64 i) ∧ o r = .row 38 (acc.map valT) true ∧ o 2 = .row 38 (xs.map valT) true ∧ r < q ∧ r ≠ 2 ∧ 2 < q ∧ R = acc ++ (xs.drop i).flatMap F)
      (fun e s' o' q' => ∃ r, e = .exit 1 ∧ s' 10 = .row r ∧ o' r = .row 38 (R.map valT) true) xs.length
      (by
        rintro i s o q hi ⟨r, acc, h1, h10, h11, h13, ho, ho2, hrq, hr2, h2q, hp⟩
        have hi' : (i : Int) < (xs.length : Int) := by omega
        have hwi := wrap_succ (n := i) (by omega)
        have hxi : xs[i]? = some xs[i] := List.getElem?_eq_getElem hi
        have hrn : r ≠ q := by omega
        have hrn2 : r ≠ q + 1 := by omega
        have hqn : q ≠ r := by omega
        have h2n : 2 ≠ q := by omega
        have h2n1 : 2 ≠ q + 1 := by omega
        have h2r : 2 ≠ r := fun h => hr2 h.symm
        have hxl := hs _ (List.getElem_mem hi)
        rw [List.drop_eq_getElem_cons hi, List.flatMap_cons, ← List.append_assoc] at hp
        by_cases h5 : xs[i].k = 5
        · have hd := l02Get_doc w ws hws ih xs[i] (by omega) h5
          have e5 : (xs[i].k = 5) = True := eq_true h5
          have hf := hF5 _ h5
          rw [← hf] at hd
          rw [List.map_cons] at hd
          have hcat : (acc.map valT).length + ((F xs[i]).map valT).length ≤ 140737488355328 := by
            have h1 := congrArg List.length hp
            simp [hR] at h1 hFl ⊢
            omega
          have hcat2 : ((acc.map valT).length + ((F xs[i]).map valT).length) * 32 ≤ 140737488355328 := by
            have h1 := congrArg List.length hp
            simp [hR] at h1 hFl ⊢
            omega
          simp only [List.length_map] at hcat hcat2
          clear h5
          simp [loopAt, loopsOf, Tryz.f304, h1, h10, h11, h13, ho, ho2, hi, hi', hwi, hxi, hrn, hrn2, hqn, h2n, h2n1, h2r, hr2, e5, hd, hcat, hcat2]
          exact ⟨acc ++ F xs[i], by simp, by omega, by omega, hp⟩
        · have e5 : (xs[i].k = 5) = False := eq_false h5
          rw [hFn _ h5, List.append_nil] at hp
          clear h5
          simp [loopAt, loopsOf, Tryz.f304, h1, h10, h11, h13, ho, ho2, hi, hi', hwi, hxi, hrn, hrn2, hqn, h2n, h2n1, h2r, hr2, e5]
          exact ⟨acc, rfl, hrq, h2q, hp⟩)
      (by
        rintro s o q ⟨r, acc, h1, h10, h11, h13, ho, ho2, hrq, hr2, h2q, hp⟩
        simp at hp
        simp [loopAt, loopsOf, Tryz.f304, h1, h10, h11, h13, ho, ho2, hp])
      xs.length 0 s o q (by omega) hI)
    simp only [loopAt, loopsOf, Tryz.f304] at lp
    obtain ⟨X, A, B, C, M, hx⟩ := lp _ rfl
    have hx' := fun s o q r a1 a10 a11 a13 ao ao2 arq ar2 a2q => hx s o q ⟨r, [], a1, a10, a11, a13, ao, ao2, arq, ar2, a2q, by simp⟩
    clear hx lp
    simp at hx'
    simp [e5, e4, hpos, hi, hx']
  · rw [if_neg h4]
    have e4 : (v.k = 4) = False := eq_false h4
    simp [e5, e4, hpos]
theorem l02Get : ∀ (ws : List Bytes) (v : Val), ws.length < 4294967296 → v.t.length < 1048576 → run E (.call 304 [xV v, .t (.list (ws.map strT))]) = some (.res [.row 38 ((getP ws v).map valT)] [])
  | [], v, _, hv => l02Get_nil v hv
  | w :: ws, v, hws, hv => l02Get_cons w ws (by simp at hws; omega) (fun v hv => l02Get ws v (by simp at hws; omega) hv) v hv
theorem l02Values (v : Val) (p : Bytes) (hv : v.t.length < 1048576) (hp : p.length < 4294967295) : run E (.call 281 [xV v, xS p]) = some (.res [.row 38 ((getP (cutP 46 p) v).map valT)] []) := by
  rw [run_call E 281 _ rfl Tryz.func281 rfl rfl rfl (by simp)]
  have d1 := d281_1
  simp [regionOf, findR, pick, Tryz.f281] at d1
  have dd := fun st => run_region_draw E st 1 _ d1
  clear d1
  have e46 : ((46 : UInt8).toNat : Int) = 46 := rfl
  have hc := l00Cut p 46 (by omega) (by omega)
  rw [xU, e46] at hc
  have hcl := cutP_length 46 p
  have hct : p.count 46 ≤ p.length := List.count_le_length
  have hg := l02Get (cutP 46 p) v (by omega) hv
  simp [dd, hc, hg]
theorem fieldI_ok {d : Nat} {v : Val} (h : okP d v = true) (hk : v.k = 5) (w : Bytes) : fieldI v w = fieldP v w := by
  obtain ⟨e, fs, _, _, hf, hr, _⟩ := okP_doc h hk
  exact fieldI_eq w hf hr
theorem fieldP_ok {d : Nat} {v y : Val} {w : Bytes} (h : okP d v = true) (hk : v.k = 5) (hx : fieldP v w = some y) : ∃ e, okP e y = true := by
  obtain ⟨e, fs, _, _, hf, hr, hall⟩ := okP_doc h hk
  unfold fieldP fieldsL at hx
  rw [hf] at hx
  simp only [Option.getD_some, Option.map_eq_some_iff] at hx
  obtain ⟨f, h1, rfl⟩ := hx
  exact ⟨e, (hall f (List.mem_of_find?_eq_some h1)).2⟩
theorem comesTo_nil (d : Nat) (v : Val) (hok : okP d v = true) (hv : v.t.length < 1048576) : run E (.call 217 [xV v, .t (.list [])]) = some (.res [.row 38 ((getP [] v).map valT)] []) := by
  rw [run_call E 217 _ rfl Tryz.func217 rfl rfl rfl (by simp)]
  by_cases h4 : v.k = 4
  · obtain ⟨e, xs, _, _, hit, _⟩ := okP_list hok h4
    have hi := implItems v (by omega)
    rw [itemsI_some hit] at hi
    have hl := (items_small hit).1
    have h1 : 1 + xs.length ≤ 140737488355328 := by omega
    have h2 : (1 + xs.length) * 32 ≤ 140737488355328 := by omega
    have e4 : (v.k = 4) = True := eq_true h4
    have eg : getP [] v = v :: xs := by simp [getP, h4, itemsL, hit]
    rw [eg]
    clear h4 eg
    simp at hi
    simp [e4, hi, h1, h2]
  · have e4 : (v.k = 4) = False := eq_false h4
    have eg : getP [] v = [v] := by simp [getP, h4]
    rw [eg]
    clear h4 eg
    simp [e4]
theorem comesTo_doc (w : Bytes) (ws : List Bytes) (hws : ws.length < 4294967296) (ih : ∀ (d : Nat) (v : Val), okP d v = true → v.t.length < 1048576 → run E (.call 217 [xV v, .t (.list (ws.map strT))]) = some (.res [.row 38 ((getP ws v).map valT)] []))
    (d : Nat) (v : Val) (hok : okP d v = true) (hv : v.t.length < 1048576) (hk : v.k = 5) : run E (.call 217 [xV v, .t (.list ((w :: ws).map strT))]) = some (.res [.row 38 ((oneP w ws v).map valT)] []) := by
  rw [run_call E 217 _ rfl Tryz.func217 rfl rfl rfl (by simp)]
  have d9 := d217_10
  simp [regionOf, findR, pick, Tryz.f217] at d9
  have dd := fun st => run_region_draw E st 10 _ d9
  clear d9
  have d12 := d217_12
  simp [regionOf, findR, pick, Tryz.f217] at d12
  have de := fun st => run_region_draw E st 12 _ d12
  clear d12
  have hf := implField v w (by omega)
  rw [fieldI_ok hok hk] at hf
  have hpos : ¬ ((ws.length : Int) + 1 = 0) := by omega
  have hle : (1 : Int) ≤ (ws.length : Int) + 1 := by omega
  unfold oneP
  cases hx : fieldP v w with
  | none =>
    rw [hx] at hf
    simp only [optX] at hf
    have e5 : (v.k = 5) = True := eq_true hk
    clear hk
    simp [dd, de, e5, hf, hpos, hle]
  | some y =>
    have hl := fieldP_len hx
    obtain ⟨e, he⟩ := fieldP_ok hok hk hx
    have hy := ih e y he (by omega)
    rw [hx] at hf
    simp only [optX] at hf
    have htk : List.take ws.length (List.map strT ws) = List.map strT ws := List.take_of_length_le (by simp)
    have e5 : (v.k = 5) = True := eq_true hk
    clear hk
    simp [dd, de, e5, hf, hpos, hle, hy, htk]
theorem comesTo_cons (w : Bytes) (ws : List Bytes) (hws : ws.length < 4294967296) (ih : ∀ (d : Nat) (v : Val), okP d v = true → v.t.length < 1048576 → run E (.call 217 [xV v, .t (.list (ws.map strT))]) = some (.res [.row 38 ((getP ws v).map valT)] []))
    (d : Nat) (v : Val) (hok : okP d v = true) (hv : v.t.length < 1048576) : run E (.call 217 [xV v, .t (.list ((w :: ws).map strT))]) = some (.res [.row 38 ((getP (w :: ws) v).map valT)] []) := by
  rw [getP_cons]
  by_cases hk : v.k = 5
  · rw [if_pos hk]; exact comesTo_doc w ws hws ih d v hok hv hk
  rw [if_neg hk]
  rw [run_call E 217 _ rfl Tryz.func217 rfl rfl rfl (by simp)]
  have e5 : (v.k = 5) = False := eq_false hk
  have hpos : ¬ ((ws.length : Int) + 1 = 0) := by omega
  by_cases h4 : v.k = 4
  · rw [if_pos h4]
    obtain ⟨e, xs, _, _, hit, hxok⟩ := okP_list hok h4
    have hi := implItems v (by omega)
    rw [itemsI_some hit] at hi
    simp at hi
    obtain ⟨hl, hs⟩ := items_small hit
    have hsum := items_sum hit
    have hxs : itemsL v.t = xs := by simp [itemsL, hit]
    rw [hxs]
    have e4 : (v.k = 4) = True := eq_true h4
    clear h4 hk hxs
    obtain ⟨F, hF⟩ : ∃ F : Val → List Val, F = (fun x => if x.k = 5 then oneP w ws x else []) := ⟨_, rfl⟩
    have hF5 : ∀ x : Val, x.k = 5 → F x = oneP w ws x := by intro x h; rw [hF]; simp [h]
    have hFn : ∀ x : Val, ¬ x.k = 5 → F x = [] := by intro x h; rw [hF]; simp [h]
    have hFl : (xs.flatMap F).length ≤ 1048576 := by
      have := flat_le (f := F) (g := fun x => x.t.length + 1) (l := xs) (fun x _ => by
        by_cases h : x.k = 5
        · have h1 := getP_len (w :: ws) x
          rw [getP_cons, if_pos h] at h1
          rw [hF5 x h]; exact h1
        · rw [hFn x h]; simp)
      omega
    rw [← hF]
    clear hF
    have lp := fun (R : List Val) (hR : R = xs.flatMap F) => sk1 (fun s o q hI => loop_for (c := loopAt Tryz.f217 0) (N := 74)
      (fun i s o q => ∃ r acc, s 1 = .t (.list ((w :: ws).map strT)) ∧ s 5 = .row r ∧ s 58 = .row 2 ∧ s 59 = .t (.int .i64 xs.length) ∧ s 60 = .t (.int .i64 i) ∧ o r = .row 38 (acc.map valT) true ∧ o 2 = .row 38 (xs.map valT) true ∧ r < q ∧ r ≠ 2 ∧ 2 < q ∧ R = acc ++ (xs.drop i).flatMap F)
      (fun e s' o' q' => ∃ r, e = .exit 1 ∧ s' 5 = .row r ∧ o' r = .row 38 (R.map valT) true) xs.length
      (by
        rintro i s o q hi ⟨r, acc, h1, h5s, h58, h59, h60, ho, ho2, hrq, hr2, h2q, hp⟩
        have hi' : (i : Int) < (xs.length : Int) := by omega
        have hwi := wrap_succ (n := i) (by omega)
        have hxi : xs[i]? = some xs[i] := List.getElem?_eq_getElem hi
        have hrn : r ≠ q := by omega
        have hrn2 : r ≠ q + 1 := by omega
        have hqn : q ≠ r := by omega
        have hqn1 : q + 1 ≠ r := by omega
        have h2n : 2 ≠ q := by omega
        have h2n1 : 2 ≠ q + 1 := by omega
        have h2r : 2 ≠ r := fun h => hr2 h.symm
        have hxl := hs _ (List.getElem_mem hi)
        rw [List.drop_eq_getElem_cons hi, List.flatMap_cons, ← List.append_assoc] at hp
        by_cases h5 : xs[i].k = 5
        · have hd := comesTo_doc w ws hws ih e xs[i] (hxok _ (List.getElem_mem hi)) (by omega) h5
          have e5 : (xs[i].k = 5) = True := eq_true h5
          have hf := hF5 _ h5
          rw [← hf] at hd
          rw [List.map_cons] at hd
          have hcat : (acc.map valT).length + ((F xs[i]).map valT).length ≤ 140737488355328 := by
            have h1 := congrArg List.length hp
            simp [hR] at h1 hFl ⊢
            omega
          have hcat2 : ((acc.map valT).length + ((F xs[i]).map valT).length) * 32 ≤ 140737488355328 := by
            have h1 := congrArg List.length hp
            simp [hR] at h1 hFl ⊢
            omega
          simp only [List.length_map] at hcat hcat2
          clear h5
          simp [loopAt, loopsOf, Tryz.f217, h1, h5s, h58, h59, h60, ho, ho2, hi, hi', hwi, hxi, hrn, hrn2, hqn, hqn1, h2n, h2n1, h2r, hr2, e5, hd, hcat, hcat2]
          exact ⟨acc ++ F xs[i], by simp, by omega, by omega, hp⟩
        · have e5 : (xs[i].k = 5) = False := eq_false h5
          rw [hFn _ h5, List.append_nil] at hp
          clear h5
          simp [loopAt, loopsOf, Tryz.f217, h1, h5s, h58, h59, h60, ho, ho2, hi, hi', hwi, hxi, hrn, hrn2, hqn, hqn1, h2n, h2n1, h2r, hr2, e5]
          exact ⟨acc, rfl, by omega, by omega, hp⟩)
      (by
        rintro s o q ⟨r, acc, h1, h5s, h58, h59, h60, ho, ho2, hrq, hr2, h2q, hp⟩
        simp at hp
        simp [loopAt, loopsOf, Tryz.f217, h1, h5s, h58, h59, h60, ho, ho2, hp])
      xs.length 0 s o q (by omega) hI)
    simp only [loopAt, loopsOf, Tryz.f217] at lp
    obtain ⟨X, A, B, C, M, hx⟩ := lp _ rfl
    have hx' := fun s o q r a1 a5 a58 a59 a60 ao ao2 arq ar2 a2q => hx s o q ⟨r, [], a1, a5, a58, a59, a60, ao, ao2, arq, ar2, a2q, by simp⟩
    clear hx lp
    simp at hx'
    simp [e5, e4, hpos, hi, hx']
  · rw [if_neg h4]
    have e4 : (v.k = 4) = False := eq_false h4
    simp [e5, e4, hpos]
theorem comesTo : ∀ (ws : List Bytes) (d : Nat) (v : Val), ws.length < 4294967296 → okP d v = true → v.t.length < 1048576 → run E (.call 217 [xV v, .t (.list (ws.map strT))]) = some (.res [.row 38 ((getP ws v).map valT)] [])
  | [], d, v, _, hok, hv => comesTo_nil d v hok hv
  | w :: ws, d, v, hws, hok, hv => comesTo_cons w ws (by simp at hws; omega) (fun d v hok hv => comesTo ws d v (by simp at hws; omega) hok hv) d v hok hv
theorem getPath (d : Nat) (v : Val) (p : Bytes) (hok : okP d v = true) (hv : v.t.length < 1048576) (hp : p.length < 4294967295) : run E (.call 171 [xV v, xS p]) = some (.res [.row 38 ((getP (cutP 46 p) v).map valT)] []) := by
  rw [run_call E 171 _ rfl Tryz.func171 rfl rfl rfl (by simp)]
  have d1 := d171_1
  simp [regionOf, findR, pick, Tryz.f171] at d1
  have dd := fun st => run_region_draw E st 1 _ d1
  clear d1
  have hc := split p 46 (by omega)
  have hcl := cutP_length 46 p
  have hct : p.count 46 ≤ p.length := List.count_le_length
  have hg := comesTo (cutP 46 p) d v (by omega) hok hv
  simp [dd, hc, hg]
def sameV (a b : Val) : Bool := (a.k == b.k) && ((a.n == b.n) && (a.t == b.t))
/-- One value against a term whose value is v. -/
def oneT (op : Int) (v x : Val) : Bool :=
  if op = 1 then sameV x v
  else if op = 2 then sameV x v
  else if op = 3 then (x.k == v.k) && decide (ordD 5 x v < 0)
  else if op = 4 then (x.k == v.k) && decide (ordD 5 x v ≤ 0)
  else if op = 5 then (x.k == v.k) && decide (0 < ordD 5 x v)
  else if op = 6 then (x.k == v.k) && decide (0 ≤ ordD 5 x v)
  else if op = 7 then (itemsL v.t).any (fun y => sameV y x)
  else if op = 9 then x.k == v.n
  else (x.k == 4) && (((itemsL x.t).length : Int) == v.n)
theorem specOne_small (t : Trm) (x : Val) (h1 : 1 ≤ t.op) (h2 : t.op ≤ 6) (hv : okP 5 t.v = true) (hx : okP 5 x = true) (hvl : t.v.t.length < 1048576) (hxl : x.t.length < 1048576) : run E (.call 282 [.t (trmT t), xV x]) = some (.res [xB (oneT t.op t.v x)] []) := by
  rw [run_call E 282 _ rfl Tryz.func282 rfl rfl rfl (by simp)]
  have ho := specOrder 5 x t.v hx hv (by omega) (by omega)
  have hop : t.op = 1 ∨ t.op = 2 ∨ t.op = 3 ∨ t.op = 4 ∨ t.op = 5 ∨ t.op = 6 := by omega
  unfold oneT
  generalize ordD 5 x t.v = c at *
  cases hk : (x.k == t.v.k) <;> rcases hop with h | h | h | h | h | h <;> simp [h, ho, hk, sameV]
abbrev valBox (x : Val) : Ob := .box 38 [.t (.int .i64 x.k), .t (.int .i64 x.n), .t (.str x.t)]
theorem specOne_in (t : Trm) (x : Val) (h : t.op = 7) (hv : okP 5 t.v = true) (hx : okP 5 x = true) (hvl : t.v.t.length < 1048576) (hxl : x.t.length < 1048576) : run E (.call 282 [.t (trmT t), xV x]) = some (.res [xB (oneT t.op t.v x)] []) := by
  rw [run_call E 282 _ rfl Tryz.func282 rfl rfl rfl (by simp)]
  have ho := specOrder 5 x t.v hx hv (by omega) (by omega)
  have hi := l01Items t.v.t (by omega)
  obtain ⟨b, hb⟩ := itemsX_L t.v.t
  rw [hb] at hi
  have hl := (itemsL_len t.v.t).1
  have d20 := d282_20
  simp [regionOf, findR, pick, Tryz.f282] at d20
  have dd := fun st => run_region_draw E st 20 _ d20
  clear d20
  have ho1 : oneT t.op t.v x = (itemsL t.v.t).any (fun y => sameV y x) := by simp [oneT, h]
  rw [ho1]
  generalize itemsL t.v.t = ys at *
  have lp := fun (b : Bool) (hb : b = ys.any (fun y => sameV y x)) => sk (fun s o q hI => loop_for (c := loopAt Tryz.f282 0) (N := 107)
    (fun i s o q => s 3 = .ptr 1 0 ∧ s 7 = .row 2 ∧ s 9 = .t (.int .i64 i) ∧ o 1 = valBox x ∧ o 2 = .row 38 (ys.map valT) true ∧ b = (ys.drop i).any (fun y => sameV y x))
    (fun e s' o' q' => e = (if b then .ret else .exit 1) ∧ (b = true → s' 4 = .t (.bool true))) ys.length
    (by
      rintro i s o q hi ⟨h3, h7, h9, o1, o2, hp⟩
      have hi' : (i : Int) < (ys.length : Int) := by omega
      have hwi := wrap_succ (n := i) (by omega)
      have hyi : ys[i]? = some ys[i] := List.getElem?_eq_getElem hi
      rw [List.drop_eq_getElem_cons hi, List.any_cons] at hp
      cases hs : sameV ys[i] x with
      | true =>
        have hs' := hs
        unfold sameV at hs'
        simp [hs] at hp
        simp at hs'
        simp [loopAt, loopsOf, Tryz.f282, dd, h3, h7, h9, o1, o2, hi, hi', hyi, hwi, hs', hp]
      | false =>
        have hs' := hs
        unfold sameV at hs'
        simp only [hs, Bool.false_or] at hp
        simp [loopAt, loopsOf, Tryz.f282, dd, h3, h7, h9, o1, o2, hi, hi', hyi, hwi, hs', -List.any_eq_true, -List.any_eq_false]
        exact hp)
    (by
      rintro s o q ⟨h3, h7, h9, o1, o2, hp⟩
      simp at hp
      simp [loopAt, loopsOf, Tryz.f282, h3, h7, h9, o1, o2, hp])
    ys.length 0 s o q (by omega) hI)
  simp only [loopAt, loopsOf, Tryz.f282] at lp
  obtain ⟨z, hz⟩ : ∃ z, z = ys.any (fun y => sameV y x) := ⟨_, rfl⟩
  obtain ⟨X, A, B, C, hl⟩ := lp z hz
  have hl' := fun s o q a3 a7 a9 b1 b2 => hl s o q ⟨a3, a7, a9, b1, b2, by simpa using hz⟩
  clear hl lp
  rw [← hz]
  clear hz
  cases z <;> simp at hl' <;> simp [h, ho, hi, hl']
theorem specOne (t : Trm) (x : Val) (hop : (1 ≤ t.op ∧ t.op ≤ 7) ∨ t.op = 9 ∨ t.op = 10) (hv : okP 5 t.v = true) (hx : okP 5 x = true) (hvl : t.v.t.length < 1048576) (hxl : x.t.length < 1048576) : run E (.call 282 [.t (trmT t), xV x]) = some (.res [xB (oneT t.op t.v x)] []) := by
  by_cases h6 : 1 ≤ t.op ∧ t.op ≤ 6
  · exact specOne_small t x h6.1 h6.2 hv hx hvl hxl
  by_cases h7 : t.op = 7
  · exact specOne_in t x h7 hv hx hvl hxl
  rw [run_call E 282 _ rfl Tryz.func282 rfl rfl rfl (by simp)]
  have ho := specOrder 5 x t.v hx hv (by omega) (by omega)
  have h9 : t.op = 9 ∨ t.op = 10 := by omega
  clear h6 h7
  rcases h9 with h | h
  · simp [oneT, h, ho]
  · have hi := l01Items x.t (by omega)
    obtain ⟨b, hb⟩ := itemsX_L x.t
    rw [hb] at hi
    have ek : ((x.k = 4) = True) ∨ ((x.k = 4) = False) := by by_cases h : x.k = 4 <;> simp [h]
    have en : (((itemsL x.t).length : Int) = t.v.n) = True ∨ (((itemsL x.t).length : Int) = t.v.n) = False := by by_cases h : ((itemsL x.t).length : Int) = t.v.n <;> simp [h]
    have e1 : oneT t.op t.v x = (decide (x.k = 4) && decide (((itemsL x.t).length : Int) = t.v.n)) := by
      unfold oneT
      simp only [h]
      simp [beqd]
    rw [e1]
    rcases ek with ek | ek <;> rcases en with en | en <;> simp [h, ho, hi, ek, en, beqd]
theorem implOne_small (t : Trm) (x : Val) (h1 : 1 ≤ t.op) (h2 : t.op ≤ 6) (hv : okP 5 t.v = true) (hx : okP 5 x = true) (hvl : t.v.t.length < 1048576) (hxl : x.t.length < 1048576) : run E (.call 173 [.t (trmT t), xV x]) = some (.res [xB (oneT t.op t.v x)] []) := by
  rw [run_call E 173 _ rfl Tryz.func173 rfl rfl rfl (by simp)]
  have ho := implOrder 5 x t.v hx hv (by omega) (by omega)
  have hop : t.op = 1 ∨ t.op = 2 ∨ t.op = 3 ∨ t.op = 4 ∨ t.op = 5 ∨ t.op = 6 := by omega
  have hs : sameV x t.v = decide (ordD 5 x t.v = 0) := by
    rw [Bool.eq_iff_iff]
    simp only [sameV, Bool.and_eq_true, beq_iff_eq, decide_eq_true_eq]
    constructor
    · rintro ⟨a, b, c⟩
      rw [val_eq a b c]
      exact ordD_refl 5 _ hv
    · intro h0
      rw [ordD_zero 5 x t.v hx hv h0]
      exact ⟨rfl, rfl, rfl⟩
  unfold oneT
  rw [hs]
  generalize ordD 5 x t.v = c at *
  clear hs
  cases hk : (x.k == t.v.k) <;> rcases hop with h | h | h | h | h | h <;> simp [h, ho, hk, beqd]
theorem indexVal (ys : List Val) (x : Val) (hl : ys.length < 4294967296) : run E (.call 262 [.t (.list (ys.map valT)), xV x]) = some (.res [xI (idxP (fun y => sameV x y) ys)] []) := by
  rw [run_call E 262 _ rfl Tryz.func262 rfl rfl rfl (by simp)]
  have d4 := d262_4
  simp [regionOf, findR, pick, Tryz.f262] at d4
  have dd := fun st => run_region_draw E st 4 _ d4
  clear d4
  have lp := fun (r : Int) (hr : r = idxP (fun y => sameV x y) ys) => sk (fun s o q hI => loop_for (c := loopAt Tryz.f262 0) (N := 19)
    (fun i s o q => s 0 = .t (.list (ys.map valT)) ∧ s 3 = .ptr 0 0 ∧ s 7 = .t (.int .i64 ys.length) ∧ s 8 = .t (.int .i64 i) ∧ o 0 = valBox x ∧ r = if idxP (fun y => sameV x y) (ys.drop i) < 0 then -1 else idxP (fun y => sameV x y) (ys.drop i) + i)
    (fun e s' o' q' => e = (if r < 0 then .exit 0 else .ret) ∧ (0 ≤ r → s' 4 = .t (.int .i64 r))) ys.length
    (by
      rintro i s o q hi ⟨h0, h3, h7, h8, ho, hr⟩
      have hd : ys.drop i = ys[i] :: ys.drop (i + 1) := by rw [List.drop_eq_getElem_cons hi]
      have hi' : (i : Int) < (ys.length : Int) := by omega
      have hw := wrap_succ (n := i) (by omega)
      have hyi : ys[i]? = some ys[i] := List.getElem?_eq_getElem hi
      rw [hd, idxP] at hr
      cases hpx : sameV x ys[i] with
      | true =>
        have hs := hpx
        unfold sameV at hs
        simp at hs
        simp [hpx] at hr
        have hr' : ¬ r < 0 := by omega
        simp [loopAt, loopsOf, Tryz.f262, dd, h0, h3, h7, h8, ho, hi, hi', hyi, hw, hs, hr', hr]
      | false =>
        have hs := hpx
        unfold sameV at hs
        simp [hpx] at hr
        have hr2 : r = if idxP (fun y => sameV x y) (ys.drop (i + 1)) < 0 then -1 else idxP (fun y => sameV x y) (ys.drop (i + 1)) + ((i : Int) + 1) := by
          rw [hr]
          by_cases hq : idxP (fun y => sameV x y) (ys.drop (i + 1)) < 0
          · simp [hq]
          · have : ¬ idxP (fun y => sameV x y) (ys.drop (i + 1)) + 1 < 0 := by omega
            simp [hq, this]; omega
        clear hr
        simp [loopAt, loopsOf, Tryz.f262, dd, h0, h3, h7, h8, ho, hi, hi', hyi, hw, hs]
        exact hr2)
    (by
      rintro s o q ⟨h0, h3, h7, h8, ho, hr⟩
      simp [idxP] at hr
      simp [loopAt, loopsOf, Tryz.f262, h0, h3, h7, h8, hr])
    ys.length 0 s o q (by omega) hI)
  simp only [loopAt, loopsOf, Tryz.f262] at lp
  obtain ⟨X, A, B, C, hx⟩ := lp _ rfl
  generalize (fun y => sameV x y) = p at *
  have hz : idxP p ys = if idxP p ys < 0 then -1 else idxP p ys := by
    cases ys with
    | nil => simp [idxP]
    | cons y r =>
      unfold idxP
      split
      · simp
      · split
        · simp
        · have : ¬ idxP p r + 1 < 0 := by omega
          simp [this]
  simp [← hz] at hx
  by_cases h : idxP p ys < 0
  · have h1 : idxP p ys = -1 := by rw [hz]; simp [h]
    simp [h] at hx
    simp [hx, h1]
  · have h2 : 0 ≤ idxP p ys := by omega
    simp [h, h2] at hx
    simp [hx]
theorem containsVal (ys : List Val) (x : Val) (hl : ys.length < 4294967296) : run E (.call 221 [.t (.list (ys.map valT)), xV x]) = some (.res [xB (ys.any (fun y => sameV x y))] []) := by
  rw [run_call E 221 _ rfl Tryz.func221 rfl rfl rfl (by simp)]
  have h := indexVal ys x hl
  have hn := idxP_neg (fun y => sameV x y) ys
  generalize (fun y => sameV x y) = p at *
  cases hb : ys.any p with
  | true =>
    have h0 : 0 ≤ idxP p ys := by
      have : ¬ idxP p ys < 0 := by rw [hn]; simp [hb, -List.any_eq_true]
      omega
    simp [h, h0]
  | false =>
    have h0 : ¬ 0 ≤ idxP p ys := by
      have : idxP p ys < 0 := by rw [hn]; simp [hb, -List.any_eq_false]
      omega
    simp [h, h0]
theorem sameV_comm (a b : Val) : sameV a b = sameV b a := by
  rw [Bool.eq_iff_iff]
  simp only [sameV, Bool.and_eq_true, beq_iff_eq]
  constructor <;> rintro ⟨h1, h2, h3⟩ <;> exact ⟨h1.symm, h2.symm, h3.symm⟩
theorem implOne (t : Trm) (x : Val) (hop : (1 ≤ t.op ∧ t.op ≤ 7) ∨ t.op = 9 ∨ t.op = 10) (h74 : t.op = 7 → t.v.k = 4) (hv : okP 5 t.v = true) (hx : okP 5 x = true) (hvl : t.v.t.length < 1048576) (hxl : x.t.length < 1048576) : run E (.call 173 [.t (trmT t), xV x]) = some (.res [xB (oneT t.op t.v x)] []) := by
  by_cases h6 : 1 ≤ t.op ∧ t.op ≤ 6
  · exact implOne_small t x h6.1 h6.2 hv hx hvl hxl
  rw [run_call E 173 _ rfl Tryz.func173 rfl rfl rfl (by simp)]
  have ho := implOrder 5 x t.v hx hv (by omega) (by omega)
  have h9 : t.op = 7 ∨ t.op = 9 ∨ t.op = 10 := by omega
  clear h6
  rcases h9 with h | h | h
  · obtain ⟨e, ys, _, _, hit, _⟩ := okP_list hv (h74 h)
    have hi := implItems t.v (by omega)
    rw [itemsI_some hit] at hi
    simp at hi
    have hc := containsVal ys x (by have := (items_small hit).1; omega)
    have e1 : oneT t.op t.v x = ys.any (fun y => sameV x y) := by
      simp only [oneT, h]
      simp [itemsL, hit]
      congr 1
      funext y
      exact sameV_comm y x
    rw [e1]
    generalize (ys.any fun y => sameV x y) = b at *
    simp [h, ho, hi, hc]
  · simp [oneT, h, ho]
  · by_cases hk : x.k = 4
    · obtain ⟨e, ys, _, _, hit, _⟩ := okP_list hx hk
      have hi := implItems x (by omega)
      rw [itemsI_some hit] at hi
      simp at hi
      have eL : itemsL x.t = ys := by simp [itemsL, hit]
      have ek : (x.k = 4) = True := eq_true hk
      have en : ((ys.length : Int) = t.v.n) = True ∨ ((ys.length : Int) = t.v.n) = False := by by_cases h : (ys.length : Int) = t.v.n <;> simp [h]
      have e1 : oneT t.op t.v x = decide ((ys.length : Int) = t.v.n) := by
        simp only [oneT, h]
        simp [beqd, ek, eL]
      rw [e1]
      clear hk
      rcases en with en | en <;> simp [h, ho, hi, ek, en, beqd]
    · have hi := implItems x (by omega)
      have ek : (x.k = 4) = False := eq_false hk
      have e1 : oneT t.op t.v x = false := by
        simp only [oneT, h]
        simp [beqd, ek]
      rw [e1]
      clear hk
      simp [h, ho, hi, ek, beqd]
theorem okP_up : ∀ (d e : Nat) (v : Val), d ≤ e → okP d v = true → okP e v = true
  | 0, e, v, _, h => by
    unfold okP at h ⊢
    split at h
    · rename_i hk; simp only [hk, if_true]; exact h
    · rename_i h0
      split at h
      · rename_i h1; simp only [h1]; simpa using h
      · rename_i h1
        split at h
        · rename_i h2; simp only [h2]; simpa using h
        · rename_i h2
          split at h
          · rename_i h3; simp only [h3]; simpa using h
          · cases h
  | d + 1, 0, v, hle, _ => by omega
  | d + 1, e + 1, v, hle, h => by
    by_cases h4 : v.k = 4
    · obtain ⟨d', xs, hd, hn, hi, hx⟩ := okP_list h h4
      obtain rfl : d = d' := by omega
      have hl : v.t.length ≤ 300 := by unfold okP at h; simp [h4] at h; exact h.1.2
      unfold okP
      simp [h4, hn, hi, hl]
      exact fun x hm => okP_up d e x (by omega) (hx x hm)
    · by_cases h5 : v.k = 5
      · obtain ⟨d', fs, hd, hn, hi, hr, hx⟩ := okP_doc h h5
        obtain rfl : d = d' := by omega
        have hl : v.t.length ≤ 300 := by unfold okP at h; simp [h5] at h; exact h.1.2
        unfold okP
        simp [h5, hn, hi, hr, hl]
        exact fun f hm => ⟨(hx f hm).1, okP_up d e f.v (by omega) (hx f hm).2⟩
      · unfold okP at h ⊢
        simp only [h4, h5, if_false] at h ⊢
        exact h
theorem okP_size {d : Nat} {v : Val} (h : okP d v = true) : v.t.length ≤ 300 := by
  by_cases h3 : v.k = 3
  · unfold okP at h; simp [h3] at h; exact h.2
  by_cases h4 : v.k = 4
  · obtain ⟨e, _, rfl, _⟩ := okP_list h h4
    unfold okP at h; simp [h4] at h; exact h.1.2
  by_cases h5 : v.k = 5
  · obtain ⟨e, _, rfl, _⟩ := okP_doc h h5
    unfold okP at h; simp [h5] at h; exact h.1.2
  rw [okP_small h h3 h4 h5]; simp
theorem getP_ok : ∀ (ws : List Bytes) (d : Nat) (v : Val), d ≤ 5 → okP d v = true → ∀ y ∈ getP ws v, okP 5 y = true
  | [], d, v, hd, h, y, hy => by
    unfold getP at hy
    rcases List.mem_cons.1 hy with rfl | hy
    · exact okP_up d 5 _ hd h
    · by_cases h4 : v.k = 4
      · obtain ⟨e, xs, he, _, hi, hx⟩ := okP_list h h4
        rw [if_pos h4] at hy
        simp [itemsL, hi] at hy
        exact okP_up e 5 y (by omega) (hx y hy)
      · rw [if_neg h4] at hy; simp at hy
  | w :: ws, d, v, hd, h, y, hy => by
    have one : ∀ (e : Nat) (x : Val), e ≤ 5 → okP e x = true → x.k = 5 → y ∈ oneP w ws x → okP 5 y = true := by
      intro e x he hx hk hy
      unfold oneP at hy
      cases hf : fieldP x w with
      | none => rw [hf] at hy; simp at hy
      | some z =>
        rw [hf] at hy
        simp only at hy
        obtain ⟨e', fs, he', _, hi, _, hall⟩ := okP_doc hx hk
        unfold fieldP fieldsL at hf
        rw [hi] at hf
        simp only [Option.getD_some, Option.map_eq_some_iff] at hf
        obtain ⟨f, h1, rfl⟩ := hf
        exact getP_ok ws e' f.v (by omega) (hall f (List.mem_of_find?_eq_some h1)).2 y hy
    rw [getP_cons] at hy
    by_cases h5 : v.k = 5
    · rw [if_pos h5] at hy
      exact one d v hd h h5 hy
    · rw [if_neg h5] at hy
      by_cases h4 : v.k = 4
      · obtain ⟨e, xs, he, _, hi, hx⟩ := okP_list h h4
        rw [if_pos h4] at hy
        have e : itemsL v.t = xs := by simp [itemsL, hi]
        rw [e, List.mem_flatMap] at hy
        obtain ⟨x, hm, hy⟩ := hy
        by_cases hk : x.k = 5
        · rw [if_pos hk] at hy
          exact one _ x (by omega) (hx x hm) hk hy
        · rw [if_neg hk] at hy; simp at hy
      · rw [if_neg h4] at hy; simp at hy
abbrev nulV : Val := ⟨0, 0, []⟩
/-- What stands against a term. -/
def standP (t : Trm) (doc : Val) : List Val := if (getP (cutP 46 t.path) doc).length = 0 ∧ t.op ≠ 9 then [nulV] else getP (cutP 46 t.path) doc
def matchT (t : Trm) (doc : Val) : Bool :=
  if t.op = 8 then (decide (0 < (getP (cutP 46 t.path) doc).length) == decide (t.v.n = 1))
  else (((standP t doc).any (oneT t.op t.v)) != decide (t.op = 2))
theorem specTerm_loop (t : Trm) (vs : List Val) (hop : (1 ≤ t.op ∧ t.op ≤ 7) ∨ t.op = 9 ∨ t.op = 10) (hv : okP 5 t.v = true) (hvs : ∀ y ∈ vs, okP 5 y = true) (hl : vs.length < 4294967296)
    (b : Bool) (hb : b = vs.any (oneT t.op t.v)) : ∀ s o q, (s 2 = .ptr 0 0 ∧ (∃ r, s 5 = .row r ∧ o r = .row 38 (vs.map valT) true) ∧ s 6 = .t (.bool false) ∧ s 7 = .t (.int .i64 0) ∧ o 0 = .box 154 [.t (.int .i64 t.op), .t (.str t.path), .t (.int .i64 t.v.k), .t (.int .i64 t.v.n), .t (.str t.v.t)]) →
    ∃ e s' o' q', run E (.code (.loop (loopAt Tryz.f252 0)) ⟨s, o, q, 53⟩) = some (.st e ⟨s', o', q', 53⟩) ∧ e = .exit 0 ∧ s' 2 = .ptr 0 0 ∧ s' 6 = .t (.bool b) ∧ o' 0 = .box 154 [.t (.int .i64 t.op), .t (.str t.path), .t (.int .i64 t.v.k), .t (.int .i64 t.v.n), .t (.str t.v.t)] := by
  rintro s o q ⟨g2, ⟨r, g5, gr⟩, g6, g7, g0⟩
  have d10 := d252_10
  simp [regionOf, findR, pick, Tryz.f252] at d10
  have dd := fun st => run_region_draw E st 10 _ d10
  clear d10
  refine loop_for (c := loopAt Tryz.f252 0) (N := 53)
    (fun i s o q => ∃ z : Bool, s 2 = .ptr 0 0 ∧ s 5 = .row r ∧ o r = .row 38 (vs.map valT) true ∧ s 6 = .t (.bool z) ∧ s 7 = .t (.int .i64 i) ∧ o 0 = .box 154 [.t (.int .i64 t.op), .t (.str t.path), .t (.int .i64 t.v.k), .t (.int .i64 t.v.n), .t (.str t.v.t)] ∧ b = (z || (vs.drop i).any (oneT t.op t.v)))
    (fun e s' o' q' => e = .exit 0 ∧ s' 2 = .ptr 0 0 ∧ s' 6 = .t (.bool b) ∧ o' 0 = .box 154 [.t (.int .i64 t.op), .t (.str t.path), .t (.int .i64 t.v.k), .t (.int .i64 t.v.n), .t (.str t.v.t)]) vs.length ?_ ?_
    vs.length 0 s o q (by omega) ⟨false, g2, g5, gr, g6, g7, g0, by simpa using hb⟩
  · rintro i s o q hi ⟨z, h2, h5, hr, h6, h7, h0, hp⟩
    have hi' : (i : Int) < (vs.length : Int) := by omega
    have hwi := wrap_succ (n := i) (by omega)
    have hyi : vs[i]? = some vs[i] := List.getElem?_eq_getElem hi
    have hok := hvs _ (List.getElem_mem hi)
    have h1 := specOne t vs[i] hop hv hok (by have := okP_size hv; omega) (by have := okP_size hok; omega)
    rw [List.drop_eq_getElem_cons hi, List.any_cons] at hp
    generalize oneT t.op t.v vs[i] = c at *
    cases z with
    | true =>
      simp at hp
      simp [loopAt, loopsOf, Tryz.f252, dd, h2, h5, hr, h6, h7, h0, hi, hi', hyi, hwi, hp]
    | false =>
      rw [Bool.false_or] at hp
      simp [loopAt, loopsOf, Tryz.f252, dd, h2, h5, hr, h6, h7, h0, hi, hi', hyi, hwi, h1, -List.any_eq_true, -List.any_eq_false]
      cases c with
      | true => exact .inr ⟨rfl, by simpa using hp⟩
      | false => exact .inl ⟨rfl, by rw [Bool.false_or] at hp; exact hp⟩
  · rintro s o q ⟨z, h2, h5, hr, h6, h7, h0, hp⟩
    simp at hp
    simp [loopAt, loopsOf, Tryz.f252, dd, h2, h5, hr, h6, h7, h0, hp]
theorem specTerm (t : Trm) (doc : Val) (d : Nat) (hd : d ≤ 5) (hop : 1 ≤ t.op ∧ t.op ≤ 10) (hp : t.path.length < 4294967295) (hv : okP 5 t.v = true) (hdoc : okP d doc = true) : run E (.call 252 [.t (trmT t), xV doc]) = some (.res [xB (matchT t doc)] []) := by
  rw [run_call E 252 _ rfl Tryz.func252 rfl rfl rfl (by simp)]
  have hds := okP_size hdoc
  have h1 := l02Values doc t.path (by omega) hp
  have hgl := getP_len (cutP 46 t.path) doc
  have hgo := getP_ok (cutP 46 t.path) d doc hd hdoc
  unfold matchT standP
  generalize getP (cutP 46 t.path) doc = vs at *
  by_cases h8 : t.op = 8
  · rw [if_pos h8]
    have e8 : (t.op = 8) = True := eq_true h8
    clear h8
    have en : (t.v.n = 1) = True ∨ (t.v.n = 1) = False := by by_cases h : t.v.n = 1 <;> simp [h]
    have hc : ((0 : Int) < (vs.length : Int)) = (0 < vs.length) := by simp
    have el : (0 < vs.length) = True ∨ (0 < vs.length) = False := by by_cases h : 0 < vs.length <;> simp [h]
    rcases en with en | en <;> rcases el with el | el <;> simp [e8, h1, en, el, hc, beqd]
  · rw [if_neg h8]
    have e8 : (t.op = 8) = False := eq_false h8
    have hopp : (1 ≤ t.op ∧ t.op ≤ 7) ∨ t.op = 9 ∨ t.op = 10 := by omega
    clear h8
    have e2 : (t.op = 2) = True ∨ (t.op = 2) = False := by by_cases h : t.op = 2 <;> simp [h]
    by_cases hz : vs.length = 0 ∧ t.op ≠ 9
    · rw [if_pos hz]
      obtain ⟨b, hb⟩ : ∃ b, b = [nulV].any (oneT t.op t.v) := ⟨_, rfl⟩
      obtain ⟨X, A, B, C, hl⟩ := sk (specTerm_loop t [nulV] hopp hv (by intro y hy; simp at hy; subst hy; simp [okP]) (by simp) b hb)
      simp only [loopAt, loopsOf, Tryz.f252] at hl
      rw [← hb]
      have hv0 : vs = [] := by cases vs with | nil => rfl | cons => simp at hz
      subst hv0
      have e9 : (t.op = 9) = False := eq_false hz.2
      clear hz hb
      simp at h1 hl
      have hl' := fun s o q a r b c => hl s o q a r b c
      cases b <;> rcases e2 with e2 | e2 <;> simp [e8, e9, e2, h1, hl]
    · rw [if_neg hz]
      obtain ⟨b, hb⟩ : ∃ b, b = vs.any (oneT t.op t.v) := ⟨_, rfl⟩
      obtain ⟨X, A, B, C, hl⟩ := sk (specTerm_loop t vs hopp hv hgo (by omega) b hb)
      simp only [loopAt, loopsOf, Tryz.f252] at hl
      rw [← hb]
      have e0 : (vs.length = 0) = True ∨ (vs.length = 0) = False := by by_cases h : vs.length = 0 <;> simp [h]
      have e9 : (vs.length = 0) = False ∨ (t.op = 9) = True := by
        by_cases h : vs.length = 0
        · have : t.op = 9 := by
            by_cases h9 : t.op = 9
            · exact h9
            · exact absurd ⟨h, h9⟩ hz
          exact .inr (eq_true this)
        · exact .inl (eq_false h)
      clear hz hb
      simp at hl
      rcases e9 with e9 | e9
      · have e9' : (vs.length = 0) = False := e9
        have e9n : ((vs.length : Int) = 0) = False := by simpa using e9
        have e9b : ((vs.length : Int) == 0) = false := by simpa using e9
        cases b <;> rcases e2 with e2 | e2 <;> simp [e8, e9b, e9n, e2, h1, hl]
      · have e0b : ((vs.length : Int) == 0) = true ∨ ((vs.length : Int) == 0) = false := by cases ((vs.length : Int) == 0) <;> simp
        rcases e0b with e0b | e0b <;> cases b <;> rcases e2 with e2 | e2 <;> simp only [e8, e9, e2, e0b] <;> simp [e8, e9, e2, e0b, h1, hl]
theorem opOK_range {op : Int} {v : Val} (h : opOK op v = true) : 1 ≤ op ∧ op ≤ 10 := by
  unfold opOK at h
  split at h
  · omega
  · split at h
    · omega
    · split at h
      · omega
      · split at h
        · omega
        · simp at h; omega
set_option maxHeartbeats 4000000
theorem peekL_t (st : St) : ∀ (c : List T), (∀ y ∈ c, y.one = true) → st.peekL (c.map SV.t) = some c
  | [], _ => rfl
  | y :: r, h => by
    have h1 := h y (by simp)
    simp only [List.map_cons, St.peekL, St.peek1, h1, if_true, peekL_t st r (fun z hz => h z (by simp [hz]))]
theorem indexFunc_206_m (xs : List Val) (g : Nat) (c : List T) (hc : ∀ y ∈ c, y.one = true) (p : Val → Bool) (hl : xs.length < 9223372036854775807) (hm : E.md g = []) (hf : E.flat g = true) (hp : ∀ x ∈ xs, run E (.call g [.t (.agg c), .t (valT x)]) = some (.res [xB (p x)] [])) :
    run E (.call 218 [.t (.list (xs.map valT)), .meth g [.agg c]]) = some (.res [xI (idxP p xs)] []) := by
  rw [run_call E 218 _ rfl Tryz.func218 rfl rfl rfl (by simp)]
  rw [E_md] at hm
  have hpk := fun st => peekL_t st c hc
  have lp := fun (r : Int) (hr : r = idxP p xs) => sk (fun s o q hI => loop_for (c := loopAt Tryz.f218 0) (N := 19)
    (fun i s o q => s 0 = .t (.list (xs.map valT)) ∧ s 1 = .meth g [.agg c] ∧ s 7 = .t (.int .i64 xs.length) ∧ s 8 = .t (.int .i64 i) ∧ r = if idxP p (xs.drop i) < 0 then -1 else idxP p (xs.drop i) + i)
    (fun e s' o' q' => e = (if r < 0 then .exit 0 else .ret) ∧ (0 ≤ r → s' 4 = .t (.int .i64 r))) xs.length
    (by
      rintro i s o q hi ⟨h0, h1, h7, h8, hr⟩
      have hd : xs.drop i = xs[i] :: xs.drop (i + 1) := by rw [List.drop_eq_getElem_cons hi]
      have hi' : (i : Int) < (xs.length : Int) := by omega
      have hw := wrap_succ (n := i) (by omega)
      have hx := hp xs[i] (List.getElem_mem hi)
      rw [hd, idxP] at hr
      cases hpx : p xs[i] with
      | true =>
        simp [hpx] at hr hx
        have hr' : ¬ r < 0 := by omega
        simp [-mdOf, loopAt, loopsOf, Tryz.f218, h0, h1, h7, h8, hi, hi', hx, hw, hm, hf, hpk, hr', hr]
      | false =>
        simp [hpx] at hr hx
        have hr2 : r = if idxP p (xs.drop (i + 1)) < 0 then -1 else idxP p (xs.drop (i + 1)) + ((i : Int) + 1) := by
          rw [hr]
          by_cases hq : idxP p (xs.drop (i + 1)) < 0
          · simp [hq]
          · have : ¬ idxP p (xs.drop (i + 1)) + 1 < 0 := by omega
            simp [hq, this]; omega
        clear hr
        simp [-mdOf, loopAt, loopsOf, Tryz.f218, h0, h1, h7, h8, hi, hi', hx, hw, hm, hf, hpk]
        exact hr2)
    (by
      rintro s o q ⟨h0, h1, h7, h8, hr⟩
      simp [idxP] at hr
      simp [loopAt, loopsOf, Tryz.f218, h0, h1, h7, h8, hr])
    xs.length 0 s o q (by omega) hI)
  simp only [loopAt, loopsOf, Tryz.f218] at lp
  obtain ⟨X, A, B, C, hx⟩ := lp _ rfl
  have hz : idxP p xs = if idxP p xs < 0 then -1 else idxP p xs := by
    cases xs with
    | nil => simp [idxP]
    | cons x r =>
      unfold idxP
      split
      · simp
      · split
        · simp
        · have : ¬ idxP p r + 1 < 0 := by omega
          simp [this]
  simp [← hz] at hx
  by_cases h : idxP p xs < 0
  · have h1 : idxP p xs = -1 := by rw [hz]; simp [h]
    simp [h] at hx
    simp [hx, h1]
  · have h2 : 0 ≤ idxP p xs := by omega
    simp [h, h2] at hx
    simp [hx]
theorem containsFunc_143_m (xs : List Val) (g : Nat) (c : List T) (hc : ∀ y ∈ c, y.one = true) (p : Val → Bool) (hl : xs.length < 9223372036854775807) (hm : E.md g = []) (hf : E.flat g = true) (hp : ∀ x ∈ xs, run E (.call g [.t (.agg c), .t (valT x)]) = some (.res [xB (p x)] [])) :
    run E (.call 172 [.t (.list (xs.map valT)), .meth g [.agg c]]) = some (.res [xB (xs.any p)] []) := by
  rw [run_call E 172 _ rfl Tryz.func172 rfl rfl rfl (by simp)]
  have h := indexFunc_206_m xs g c hc p hl hm hf hp
  simp [h, idxP_ge]
theorem indexFunc_292_1 (xs : List Trm) (g : Nat) (c0 : List T) (p : Trm → Bool) (hl : xs.length < 9223372036854775807) (hm : E.md g = []) (hf : E.flat g = true) (hp : ∀ x ∈ xs, run E (.call g [.t (trmT x), .dref c0]) = some (.res [xB (p x)] [])) :
    run E (.call 168 [.t (.list (xs.map trmT)), .fn g [c0]]) = some (.res [xI (idxP p xs)] []) := by
  rw [run_call E 168 _ rfl Tryz.func168 rfl rfl rfl (by simp)]
  rw [E_md] at hm
  have lp := fun (r : Int) (hr : r = idxP p xs) => sk (fun s o q hI => loop_for (c := loopAt Tryz.f168 0) (N := 19)
    (fun i s o q => s 0 = .t (.list (xs.map trmT)) ∧ s 1 = .fn g [.dptr c0] ∧ s 7 = .t (.int .i64 xs.length) ∧ s 8 = .t (.int .i64 i) ∧ r = if idxP p (xs.drop i) < 0 then -1 else idxP p (xs.drop i) + i)
    (fun e s' o' q' => e = (if r < 0 then .exit 0 else .ret) ∧ (0 ≤ r → s' 4 = .t (.int .i64 r))) xs.length
    (by
      rintro i s o q hi ⟨h0, h1, h7, h8, hr⟩
      have hd : xs.drop i = xs[i] :: xs.drop (i + 1) := by rw [List.drop_eq_getElem_cons hi]
      have hi' : (i : Int) < (xs.length : Int) := by omega
      have hw := wrap_succ (n := i) (by omega)
      have hx := hp xs[i] (List.getElem_mem hi)
      rw [hd, idxP] at hr
      cases hpx : p xs[i] with
      | true =>
        simp [hpx] at hr hx
        have hr' : ¬ r < 0 := by omega
        simp [-mdOf, loopAt, loopsOf, Tryz.f168, h0, h1, h7, h8, hi, hi', hx, hw, hm, hf, hr', hr]
      | false =>
        simp [hpx] at hr hx
        have hr2 : r = if idxP p (xs.drop (i + 1)) < 0 then -1 else idxP p (xs.drop (i + 1)) + ((i : Int) + 1) := by
          rw [hr]
          by_cases hq : idxP p (xs.drop (i + 1)) < 0
          · simp [hq]
          · have : ¬ idxP p (xs.drop (i + 1)) + 1 < 0 := by omega
            simp [hq, this]; omega
        clear hr
        simp [-mdOf, loopAt, loopsOf, Tryz.f168, h0, h1, h7, h8, hi, hi', hx, hw, hm, hf]
        exact hr2)
    (by
      rintro s o q ⟨h0, h1, h7, h8, hr⟩
      simp [idxP] at hr
      simp [loopAt, loopsOf, Tryz.f168, h0, h1, h7, h8, hr])
    xs.length 0 s o q (by omega) hI)
  simp only [loopAt, loopsOf, Tryz.f168] at lp
  obtain ⟨X, A, B, C, hx⟩ := lp _ rfl
  have hz : idxP p xs = if idxP p xs < 0 then -1 else idxP p xs := by
    cases xs with
    | nil => simp [idxP]
    | cons x r =>
      unfold idxP
      split
      · simp
      · split
        · simp
        · have : ¬ idxP p r + 1 < 0 := by omega
          simp [this]
  simp [← hz] at hx
  by_cases h : idxP p xs < 0
  · have h1 : idxP p xs = -1 := by rw [hz]; simp [h]
    simp [h] at hx
    simp [hx, h1]
  · have h2 : 0 ≤ idxP p xs := by omega
    simp [h, h2] at hx
    simp [hx]
theorem containsFunc_182_1 (xs : List Trm) (g : Nat) (c0 : List T) (p : Trm → Bool) (hl : xs.length < 9223372036854775807) (hm : E.md g = []) (hf : E.flat g = true) (hp : ∀ x ∈ xs, run E (.call g [.t (trmT x), .dref c0]) = some (.res [xB (p x)] [])) :
    run E (.call 107 [.t (.list (xs.map trmT)), .fn g [c0]]) = some (.res [xB (xs.any p)] []) := by
  rw [run_call E 107 _ rfl Tryz.func107 rfl rfl rfl (by simp)]
  have h := indexFunc_292_1 xs g c0 p hl hm hf hp
  simp [h, idxP_ge]
theorem indexFunc_291_1 (xs : List (List Trm)) (g : Nat) (c0 : List T) (p : (List Trm) → Bool) (hl : xs.length < 9223372036854775807) (hm : E.md g = []) (hf : E.flat g = true) (hp : ∀ x ∈ xs, run E (.call g [.t (clsT x), .dref c0]) = some (.res [xB (p x)] [])) :
    run E (.call 167 [.t (.list (xs.map clsT)), .fn g [c0]]) = some (.res [xI (idxP p xs)] []) := by
  rw [run_call E 167 _ rfl Tryz.func167 rfl rfl rfl (by simp)]
  rw [E_md] at hm
  have lp := fun (r : Int) (hr : r = idxP p xs) => sk (fun s o q hI => loop_for (c := loopAt Tryz.f167 0) (N := 19)
    (fun i s o q => s 0 = .t (.list (xs.map clsT)) ∧ s 1 = .fn g [.dptr c0] ∧ s 7 = .t (.int .i64 xs.length) ∧ s 8 = .t (.int .i64 i) ∧ r = if idxP p (xs.drop i) < 0 then -1 else idxP p (xs.drop i) + i)
    (fun e s' o' q' => e = (if r < 0 then .exit 0 else .ret) ∧ (0 ≤ r → s' 4 = .t (.int .i64 r))) xs.length
    (by
      rintro i s o q hi ⟨h0, h1, h7, h8, hr⟩
      have hd : xs.drop i = xs[i] :: xs.drop (i + 1) := by rw [List.drop_eq_getElem_cons hi]
      have hi' : (i : Int) < (xs.length : Int) := by omega
      have hw := wrap_succ (n := i) (by omega)
      have hx := hp xs[i] (List.getElem_mem hi)
      rw [hd, idxP] at hr
      cases hpx : p xs[i] with
      | true =>
        simp [hpx] at hr hx
        have hr' : ¬ r < 0 := by omega
        simp [-mdOf, loopAt, loopsOf, Tryz.f167, h0, h1, h7, h8, hi, hi', hx, hw, hm, hf, hr', hr]
      | false =>
        simp [hpx] at hr hx
        have hr2 : r = if idxP p (xs.drop (i + 1)) < 0 then -1 else idxP p (xs.drop (i + 1)) + ((i : Int) + 1) := by
          rw [hr]
          by_cases hq : idxP p (xs.drop (i + 1)) < 0
          · simp [hq]
          · have : ¬ idxP p (xs.drop (i + 1)) + 1 < 0 := by omega
            simp [hq, this]; omega
        clear hr
        simp [-mdOf, loopAt, loopsOf, Tryz.f167, h0, h1, h7, h8, hi, hi', hx, hw, hm, hf]
        exact hr2)
    (by
      rintro s o q ⟨h0, h1, h7, h8, hr⟩
      simp [idxP] at hr
      simp [loopAt, loopsOf, Tryz.f167, h0, h1, h7, h8, hr])
    xs.length 0 s o q (by omega) hI)
  simp only [loopAt, loopsOf, Tryz.f167] at lp
  obtain ⟨X, A, B, C, hx⟩ := lp _ rfl
  have hz : idxP p xs = if idxP p xs < 0 then -1 else idxP p xs := by
    cases xs with
    | nil => simp [idxP]
    | cons x r =>
      unfold idxP
      split
      · simp
      · split
        · simp
        · have : ¬ idxP p r + 1 < 0 := by omega
          simp [this]
  simp [← hz] at hx
  by_cases h : idxP p xs < 0
  · have h1 : idxP p xs = -1 := by rw [hz]; simp [h]
    simp [h] at hx
    simp [hx, h1]
  · have h2 : 0 ≤ idxP p xs := by omega
    simp [h, h2] at hx
    simp [hx]
theorem containsFunc_180_1 (xs : List (List Trm)) (g : Nat) (c0 : List T) (p : (List Trm) → Bool) (hl : xs.length < 9223372036854775807) (hm : E.md g = []) (hf : E.flat g = true) (hp : ∀ x ∈ xs, run E (.call g [.t (clsT x), .dref c0]) = some (.res [xB (p x)] [])) :
    run E (.call 105 [.t (.list (xs.map clsT)), .fn g [c0]]) = some (.res [xB (xs.any p)] []) := by
  rw [run_call E 105 _ rfl Tryz.func105 rfl rfl rfl (by simp)]
  have h := indexFunc_291_1 xs g c0 p hl hm hf hp
  simp [h, idxP_ge]
theorem indexFunc_298_0 (xs : List Rd) (g : Nat)  (p : Rd → Bool) (hl : xs.length < 9223372036854775807) (hm : E.md g = []) (hf : E.flat g = true) (hp : ∀ x ∈ xs, run E (.call g [.t (rdT x)]) = some (.res [xB (p x)] [])) :
    run E (.call 161 [.t (.list (xs.map rdT)), .fn g []]) = some (.res [xI (idxP p xs)] []) := by
  rw [run_call E 161 _ rfl Tryz.func161 rfl rfl rfl (by simp)]
  rw [E_md] at hm
  have lp := fun (r : Int) (hr : r = idxP p xs) => sk (fun s o q hI => loop_for (c := loopAt Tryz.f161 0) (N := 19)
    (fun i s o q => s 0 = .t (.list (xs.map rdT)) ∧ s 1 = .fn g [] ∧ s 7 = .t (.int .i64 xs.length) ∧ s 8 = .t (.int .i64 i) ∧ r = if idxP p (xs.drop i) < 0 then -1 else idxP p (xs.drop i) + i)
    (fun e s' o' q' => e = (if r < 0 then .exit 0 else .ret) ∧ (0 ≤ r → s' 4 = .t (.int .i64 r))) xs.length
    (by
      rintro i s o q hi ⟨h0, h1, h7, h8, hr⟩
      have hd : xs.drop i = xs[i] :: xs.drop (i + 1) := by rw [List.drop_eq_getElem_cons hi]
      have hi' : (i : Int) < (xs.length : Int) := by omega
      have hw := wrap_succ (n := i) (by omega)
      have hx := hp xs[i] (List.getElem_mem hi)
      rw [hd, idxP] at hr
      cases hpx : p xs[i] with
      | true =>
        simp [hpx] at hr hx
        have hr' : ¬ r < 0 := by omega
        simp [-mdOf, loopAt, loopsOf, Tryz.f161, h0, h1, h7, h8, hi, hi', hx, hw, hm, hf, hr', hr]
      | false =>
        simp [hpx] at hr hx
        have hr2 : r = if idxP p (xs.drop (i + 1)) < 0 then -1 else idxP p (xs.drop (i + 1)) + ((i : Int) + 1) := by
          rw [hr]
          by_cases hq : idxP p (xs.drop (i + 1)) < 0
          · simp [hq]
          · have : ¬ idxP p (xs.drop (i + 1)) + 1 < 0 := by omega
            simp [hq, this]; omega
        clear hr
        simp [-mdOf, loopAt, loopsOf, Tryz.f161, h0, h1, h7, h8, hi, hi', hx, hw, hm, hf]
        exact hr2)
    (by
      rintro s o q ⟨h0, h1, h7, h8, hr⟩
      simp [idxP] at hr
      simp [loopAt, loopsOf, Tryz.f161, h0, h1, h7, h8, hr])
    xs.length 0 s o q (by omega) hI)
  simp only [loopAt, loopsOf, Tryz.f161] at lp
  obtain ⟨X, A, B, C, hx⟩ := lp _ rfl
  have hz : idxP p xs = if idxP p xs < 0 then -1 else idxP p xs := by
    cases xs with
    | nil => simp [idxP]
    | cons x r =>
      unfold idxP
      split
      · simp
      · split
        · simp
        · have : ¬ idxP p r + 1 < 0 := by omega
          simp [this]
  simp [← hz] at hx
  by_cases h : idxP p xs < 0
  · have h1 : idxP p xs = -1 := by rw [hz]; simp [h]
    simp [h] at hx
    simp [hx, h1]
  · have h2 : 0 ≤ idxP p xs := by omega
    simp [h, h2] at hx
    simp [hx]
theorem containsFunc_196_0 (xs : List Rd) (g : Nat)  (p : Rd → Bool) (hl : xs.length < 9223372036854775807) (hm : E.md g = []) (hf : E.flat g = true) (hp : ∀ x ∈ xs, run E (.call g [.t (rdT x)]) = some (.res [xB (p x)] [])) :
    run E (.call 97 [.t (.list (xs.map rdT)), .fn g []]) = some (.res [xB (xs.any p)] []) := by
  rw [run_call E 97 _ rfl Tryz.func97 rfl rfl rfl (by simp)]
  have h := indexFunc_298_0 xs g  p hl hm hf hp
  simp [h, idxP_ge]
theorem indexFunc_204_0 (xs : List Chg) (g : Nat)  (p : Chg → Bool) (hl : xs.length < 9223372036854775807) (hm : E.md g = []) (hf : E.flat g = true) (hp : ∀ x ∈ xs, run E (.call g [.t (chgT x)]) = some (.res [xB (p x)] [])) :
    run E (.call 95 [.t (.list (xs.map chgT)), .fn g []]) = some (.res [xI (idxP p xs)] []) := by
  rw [run_call E 95 _ rfl Tryz.func95 rfl rfl rfl (by simp)]
  rw [E_md] at hm
  have lp := fun (r : Int) (hr : r = idxP p xs) => sk (fun s o q hI => loop_for (c := loopAt Tryz.f95 0) (N := 19)
    (fun i s o q => s 0 = .t (.list (xs.map chgT)) ∧ s 1 = .fn g [] ∧ s 7 = .t (.int .i64 xs.length) ∧ s 8 = .t (.int .i64 i) ∧ r = if idxP p (xs.drop i) < 0 then -1 else idxP p (xs.drop i) + i)
    (fun e s' o' q' => e = (if r < 0 then .exit 0 else .ret) ∧ (0 ≤ r → s' 4 = .t (.int .i64 r))) xs.length
    (by
      rintro i s o q hi ⟨h0, h1, h7, h8, hr⟩
      have hd : xs.drop i = xs[i] :: xs.drop (i + 1) := by rw [List.drop_eq_getElem_cons hi]
      have hi' : (i : Int) < (xs.length : Int) := by omega
      have hw := wrap_succ (n := i) (by omega)
      have hx := hp xs[i] (List.getElem_mem hi)
      rw [hd, idxP] at hr
      cases hpx : p xs[i] with
      | true =>
        simp [hpx] at hr hx
        have hr' : ¬ r < 0 := by omega
        simp [-mdOf, loopAt, loopsOf, Tryz.f95, h0, h1, h7, h8, hi, hi', hx, hw, hm, hf, hr', hr]
      | false =>
        simp [hpx] at hr hx
        have hr2 : r = if idxP p (xs.drop (i + 1)) < 0 then -1 else idxP p (xs.drop (i + 1)) + ((i : Int) + 1) := by
          rw [hr]
          by_cases hq : idxP p (xs.drop (i + 1)) < 0
          · simp [hq]
          · have : ¬ idxP p (xs.drop (i + 1)) + 1 < 0 := by omega
            simp [hq, this]; omega
        clear hr
        simp [-mdOf, loopAt, loopsOf, Tryz.f95, h0, h1, h7, h8, hi, hi', hx, hw, hm, hf]
        exact hr2)
    (by
      rintro s o q ⟨h0, h1, h7, h8, hr⟩
      simp [idxP] at hr
      simp [loopAt, loopsOf, Tryz.f95, h0, h1, h7, h8, hr])
    xs.length 0 s o q (by omega) hI)
  simp only [loopAt, loopsOf, Tryz.f95] at lp
  obtain ⟨X, A, B, C, hx⟩ := lp _ rfl
  have hz : idxP p xs = if idxP p xs < 0 then -1 else idxP p xs := by
    cases xs with
    | nil => simp [idxP]
    | cons x r =>
      unfold idxP
      split
      · simp
      · split
        · simp
        · have : ¬ idxP p r + 1 < 0 := by omega
          simp [this]
  simp [← hz] at hx
  by_cases h : idxP p xs < 0
  · have h1 : idxP p xs = -1 := by rw [hz]; simp [h]
    simp [h] at hx
    simp [hx, h1]
  · have h2 : 0 ≤ idxP p xs := by omega
    simp [h, h2] at hx
    simp [hx]
theorem containsFunc_99_0 (xs : List Chg) (g : Nat)  (p : Chg → Bool) (hl : xs.length < 9223372036854775807) (hm : E.md g = []) (hf : E.flat g = true) (hp : ∀ x ∈ xs, run E (.call g [.t (chgT x)]) = some (.res [xB (p x)] [])) :
    run E (.call 38 [.t (.list (xs.map chgT)), .fn g []]) = some (.res [xB (xs.any p)] []) := by
  rw [run_call E 38 _ rfl Tryz.func38 rfl rfl rfl (by simp)]
  have h := indexFunc_204_0 xs g  p hl hm hf hp
  simp [h, idxP_ge]
theorem indexFunc_204_1 (xs : List Chg) (g : Nat) (c0 : List T) (p : Chg → Bool) (hl : xs.length < 9223372036854775807) (hm : E.md g = []) (hf : E.flat g = true) (hp : ∀ x ∈ xs, run E (.call g [.t (chgT x), .dref c0]) = some (.res [xB (p x)] [])) :
    run E (.call 95 [.t (.list (xs.map chgT)), .fn g [c0]]) = some (.res [xI (idxP p xs)] []) := by
  rw [run_call E 95 _ rfl Tryz.func95 rfl rfl rfl (by simp)]
  rw [E_md] at hm
  have lp := fun (r : Int) (hr : r = idxP p xs) => sk (fun s o q hI => loop_for (c := loopAt Tryz.f95 0) (N := 19)
    (fun i s o q => s 0 = .t (.list (xs.map chgT)) ∧ s 1 = .fn g [.dptr c0] ∧ s 7 = .t (.int .i64 xs.length) ∧ s 8 = .t (.int .i64 i) ∧ r = if idxP p (xs.drop i) < 0 then -1 else idxP p (xs.drop i) + i)
    (fun e s' o' q' => e = (if r < 0 then .exit 0 else .ret) ∧ (0 ≤ r → s' 4 = .t (.int .i64 r))) xs.length
    (by
      rintro i s o q hi ⟨h0, h1, h7, h8, hr⟩
      have hd : xs.drop i = xs[i] :: xs.drop (i + 1) := by rw [List.drop_eq_getElem_cons hi]
      have hi' : (i : Int) < (xs.length : Int) := by omega
      have hw := wrap_succ (n := i) (by omega)
      have hx := hp xs[i] (List.getElem_mem hi)
      rw [hd, idxP] at hr
      cases hpx : p xs[i] with
      | true =>
        simp [hpx] at hr hx
        have hr' : ¬ r < 0 := by omega
        simp [-mdOf, loopAt, loopsOf, Tryz.f95, h0, h1, h7, h8, hi, hi', hx, hw, hm, hf, hr', hr]
      | false =>
        simp [hpx] at hr hx
        have hr2 : r = if idxP p (xs.drop (i + 1)) < 0 then -1 else idxP p (xs.drop (i + 1)) + ((i : Int) + 1) := by
          rw [hr]
          by_cases hq : idxP p (xs.drop (i + 1)) < 0
          · simp [hq]
          · have : ¬ idxP p (xs.drop (i + 1)) + 1 < 0 := by omega
            simp [hq, this]; omega
        clear hr
        simp [-mdOf, loopAt, loopsOf, Tryz.f95, h0, h1, h7, h8, hi, hi', hx, hw, hm, hf]
        exact hr2)
    (by
      rintro s o q ⟨h0, h1, h7, h8, hr⟩
      simp [idxP] at hr
      simp [loopAt, loopsOf, Tryz.f95, h0, h1, h7, h8, hr])
    xs.length 0 s o q (by omega) hI)
  simp only [loopAt, loopsOf, Tryz.f95] at lp
  obtain ⟨X, A, B, C, hx⟩ := lp _ rfl
  have hz : idxP p xs = if idxP p xs < 0 then -1 else idxP p xs := by
    cases xs with
    | nil => simp [idxP]
    | cons x r =>
      unfold idxP
      split
      · simp
      · split
        · simp
        · have : ¬ idxP p r + 1 < 0 := by omega
          simp [this]
  simp [← hz] at hx
  by_cases h : idxP p xs < 0
  · have h1 : idxP p xs = -1 := by rw [hz]; simp [h]
    simp [h] at hx
    simp [hx, h1]
  · have h2 : 0 ≤ idxP p xs := by omega
    simp [h, h2] at hx
    simp [hx]
theorem containsFunc_99_1 (xs : List Chg) (g : Nat) (c0 : List T) (p : Chg → Bool) (hl : xs.length < 9223372036854775807) (hm : E.md g = []) (hf : E.flat g = true) (hp : ∀ x ∈ xs, run E (.call g [.t (chgT x), .dref c0]) = some (.res [xB (p x)] [])) :
    run E (.call 38 [.t (.list (xs.map chgT)), .fn g [c0]]) = some (.res [xB (xs.any p)] []) := by
  rw [run_call E 38 _ rfl Tryz.func38 rfl rfl rfl (by simp)]
  have h := indexFunc_204_1 xs g c0 p hl hm hf hp
  simp [h, idxP_ge]
set_option maxHeartbeats 16000000
theorem implTerm (t : Trm) (doc : Val) (d : Nat) (hd : d ≤ 5) (hop : 1 ≤ t.op ∧ t.op ≤ 10) (h74 : t.op = 7 → t.v.k = 4) (hp : t.path.length < 4294967295) (hv : okP 5 t.v = true) (hdoc : okP d doc = true) : run E (.call 113 [.t (trmT t), xV doc]) = some (.res [xB (matchT t doc)] []) := by
  rw [run_call E 113 _ rfl Tryz.func113 rfl rfl rfl (by simp)]
  have hds := okP_size hdoc
  have h1 := getPath d doc t.path hdoc (by omega) hp
  have hgl := getP_len (cutP 46 t.path) doc
  have hgo := getP_ok (cutP 46 t.path) d doc hd hdoc
  have d6 := d113_6
  simp [regionOf, findR, pick, Tryz.f113] at d6
  have dd := fun st => run_region_draw E st 6 _ d6
  clear d6
  have hvs := okP_size hv
  unfold matchT standP
  generalize getP (cutP 46 t.path) doc = vs at *
  by_cases h8 : t.op = 8
  · rw [if_pos h8]
    have e8 : (t.op = 8) = True := eq_true h8
    clear h8
    have en : (t.v.n = 1) = True ∨ (t.v.n = 1) = False := by by_cases h : t.v.n = 1 <;> simp [h]
    have hc : ((0 : Int) < (vs.length : Int)) = (0 < vs.length) := by simp
    have el : (0 < vs.length) = True ∨ (0 < vs.length) = False := by by_cases h : 0 < vs.length <;> simp [h]
    rcases en with en | en <;> rcases el with el | el <;> simp [e8, h1, en, el, hc, beqd]
  · rw [if_neg h8]
    have e8 : (t.op = 8) = False := eq_false h8
    have hopp : (1 ≤ t.op ∧ t.op ≤ 7) ∨ t.op = 9 ∨ t.op = 10 := by omega
    clear h8
    have e2 : (t.op = 2) = True ∨ (t.op = 2) = False := by by_cases h : t.op = 2 <;> simp [h]
    by_cases hz : vs.length = 0 ∧ t.op ≠ 9
    · rw [if_pos hz]
      have hcf := containsFunc_143_m [nulV] 173 [.int .i64 t.op, .str t.path, .int .i64 t.v.k, .int .i64 t.v.n, .str t.v.t] (by simp) (oneT t.op t.v) (by simp) rfl (by simp) (by intro y hy; simp at hy; subst hy; exact implOne t nulV hopp h74 hv (by simp [okP]) (by omega) (by simp))
      have hv0 : vs = [] := by cases vs with | nil => rfl | cons => simp at hz
      subst hv0
      have e9 : (t.op = 9) = False := eq_false hz.2
      clear hz
      generalize [nulV].any (oneT t.op t.v) = b at *
      simp at h1 hcf
      cases b <;> rcases e2 with e2 | e2 <;> simp [e8, e9, e2, h1, hcf, dd]
    · rw [if_neg hz]
      have hcf := containsFunc_143_m vs 173 [.int .i64 t.op, .str t.path, .int .i64 t.v.k, .int .i64 t.v.n, .str t.v.t] (by simp) (oneT t.op t.v) (by omega) rfl (by simp) (by intro y hy; exact implOne t y hopp h74 hv (hgo y hy) (by omega) (by have := okP_size (hgo y hy); omega))
      have e9 : (vs.length = 0) = False ∨ (t.op = 9) = True := by
        by_cases h : vs.length = 0
        · have : t.op = 9 := by
            by_cases h9 : t.op = 9
            · exact h9
            · exact absurd ⟨h, h9⟩ hz
          exact .inr (eq_true this)
        · exact .inl (eq_false h)
      clear hz
      generalize vs.any (oneT t.op t.v) = b at *
      try simp at hcf
      rcases e9 with e9 | e9
      · have e9n : ((vs.length : Int) = 0) = False := by simpa using e9
        have e9b : ((vs.length : Int) == 0) = false := by simpa using e9
        cases b <;> rcases e2 with e2 | e2 <;> simp [e8, e9b, e9n, e2, h1, hcf, dd]
      · have e0b : ((vs.length : Int) == 0) = true ∨ ((vs.length : Int) == 0) = false := by cases ((vs.length : Int) == 0) <;> simp
        rcases e0b with e0b | e0b <;> cases b <;> rcases e2 with e2 | e2 <;> simp only [e8, e9, e2, e0b] <;> simp [e8, e9, e2, e0b, h1, hcf, dd]
theorem flat_drop {α : Type} (f : α → Bytes) (l : List α) (i : Nat) (hi : i < l.length) : (l.drop i).flatMap f = f l[i] ++ (l.drop (i + 1)).flatMap f := by
  rw [List.drop_eq_getElem_cons hi, List.flatMap_cons]
theorem l04Raw_small (d : Nat) (v : Val) (h : okP d v = true) (hv : v.t.length < 1048576) (hk : v.k = 0 ∨ v.k = 1 ∨ v.k = 2 ∨ v.k = 3) : run E (.call 315 [xV v]) = some (.res [xS (keyD d v)] []) := by
  rw [run_call E 315 _ rfl Tryz.func315 rfl rfl rfl (by simp)]
  unfold keyD headK
  have hw : IntKind.i64.wrap (v.k + 1) = v.k + 1 := wrap_of (by omega) (by omega)
  have hn := l01Number (v.k + 1) 1 (by omega)
  have hm := l01Number v.n 1 (by omega)
  simp at hn hm
  have hl1 := numP_len (v.k + 1) 1
  have hl2 := numP_len v.n 1
  rcases hk with hk | hk | hk | hk
  · have e0 : (v.k = 0) = True := by rw [hk]; simp
    have e1 : (v.k = 1) = False := by rw [hk]; simp
    have e2 : (v.k = 2) = False := by rw [hk]; simp
    have e3 : (v.k = 3) = False := by rw [hk]; simp
    have e4 : (v.k = 4) = False := by rw [hk]; simp
    have e5 : (v.k = 5) = False := by rw [hk]; simp
    clear hk
    simp [e0, e1, e2, e3, e4, e5, hw, hn]
  · have e0 : (v.k = 0) = False := by rw [hk]; simp
    have e1 : (v.k = 1) = True := by rw [hk]; simp
    have e2 : (v.k = 2) = False := by rw [hk]; simp
    have e3 : (v.k = 3) = False := by rw [hk]; simp
    have e4 : (v.k = 4) = False := by rw [hk]; simp
    have e5 : (v.k = 5) = False := by rw [hk]; simp
    clear hk
    simp [e0, e1, e2, e3, e4, e5, hw, hn, hm, hl1, hl2]
  · have hb : -1000000000000 ≤ v.n ∧ v.n ≤ 1000000000000 := by unfold okP at h; simp [hk] at h; exact h.1
    have hw2 : IntKind.i64.wrap (v.n + 4611686018427387904) = v.n + 4611686018427387904 := wrap_of (by omega) (by omega)
    have hm8 := l01Number (v.n + 4611686018427387904) 8 (by omega)
    have hl8 := numP_len (v.n + 4611686018427387904) 8
    simp at hm8
    have e0 : (v.k = 0) = False := by rw [hk]; simp
    have e1 : (v.k = 1) = False := by rw [hk]; simp
    have e2 : (v.k = 2) = True := by rw [hk]; simp
    have e3 : (v.k = 3) = False := by rw [hk]; simp
    have e4 : (v.k = 4) = False := by rw [hk]; simp
    have e5 : (v.k = 5) = False := by rw [hk]; simp
    clear hk
    simp [e0, e1, e2, e3, e4, e5, hw, hw2, hn, hm8, hl1, hl8]
  · have he := l04Escape v.t (by omega)
    have hel := escP_len v.t
    have hle : 1 + (escP v.t).length ≤ 140737488355328 := by omega
    have e0 : (v.k = 0) = False := by rw [hk]; simp
    have e1 : (v.k = 1) = False := by rw [hk]; simp
    have e2 : (v.k = 2) = False := by rw [hk]; simp
    have e3 : (v.k = 3) = True := by rw [hk]; simp
    have e4 : (v.k = 4) = False := by rw [hk]; simp
    have e5 : (v.k = 5) = False := by rw [hk]; simp
    clear hk
    simp [e0, e1, e2, e3, e4, e5, hw, hn, he, hl1, hle]
theorem l04Raw : ∀ (d : Nat) (v : Val), okP d v = true → v.t.length < 1048576 → run E (.call 315 [xV v]) = some (.res [xS (keyD d v)] []) := by
  intro d
  induction d with
  | zero =>
    intro v h hv
    refine l04Raw_small 0 v h hv ?_
    unfold okP at h
    by_cases h0 : v.k = 0; · omega
    by_cases h1 : v.k = 1; · omega
    by_cases h2 : v.k = 2; · omega
    by_cases h3 : v.k = 3; · omega
    simp [h0, h1, h2, h3] at h
  | succ d ih =>
    intro v h hv
    by_cases hs : v.k = 0 ∨ v.k = 1 ∨ v.k = 2 ∨ v.k = 3
    · exact l04Raw_small (d + 1) v h hv hs
    have e0 : (v.k = 0) = False := by simp; omega
    have e1 : (v.k = 1) = False := by simp; omega
    have e2 : (v.k = 2) = False := by simp; omega
    have e3 : (v.k = 3) = False := by simp; omega
    have hlen := keyD_len (d + 1) v h
    have hn := l01Number (v.k + 1) 1 (by omega)
    simp at hn
    have hl1 := numP_len (v.k + 1) 1
    rw [run_call E 315 _ rfl Tryz.func315 rfl rfl rfl (by simp)]
    by_cases hk : v.k = 4
    · obtain ⟨e, xs, hd, _, hit, hx⟩ := okP_list h hk
      obtain rfl : d = e := by omega
      have hw : IntKind.i64.wrap (v.k + 1) = v.k + 1 := wrap_of (by omega) (by omega)
      have hi := l01Items v.t (by omega)
      rw [hit] at hi
      simp only [itemsX] at hi
      obtain ⟨hs1, hs2⟩ := items_small hit
      have e4 : (v.k = 4) = True := eq_true hk
      have eL : itemsL v.t = xs := by simp [itemsL, hit]
      clear hk
      have ekey : keyD (d + 1) v = headK v ++ xs.flatMap (keyD d) ++ [0] := by simp [keyD, e0, e1, e2, e3, e4, eL]
      rw [ekey] at hlen ⊢
      have hhead : headK v = numP (v.k + 1) 1 := rfl
      generalize hW : headK v = W at *
      have lp := fun (R : Bytes) (hR : R = W ++ xs.flatMap (keyD d)) => sk (fun s o q hI => loop_for (c := loopAt Tryz.f315 0) (N := 94)
        (fun i s o q => ∃ acc, s 3 = .t (.str acc) ∧ s 4 = .row 1 ∧ s 6 = .t (.int .i64 i) ∧ o 1 = .row 38 (xs.map valT) true ∧ R = acc ++ (xs.drop i).flatMap (keyD d))
        (fun e s' o' q' => e = .exit 1 ∧ s' 3 = .t (.str R)) xs.length
        (by
          rintro i s o q hi ⟨acc, h3, h4, h6, ho, hp⟩
          have hi' : (i : Int) < (xs.length : Int) := by omega
          have hwi := wrap_succ (n := i) (by omega)
          have hxi : xs[i]? = some xs[i] := List.getElem?_eq_getElem hi
          have hr := ih xs[i] (hx _ (List.getElem_mem hi)) (by have := hs2 _ (List.getElem_mem hi); omega)
          rw [flat_drop _ _ _ hi, ← List.append_assoc] at hp
          have hcat : acc.length + (keyD d xs[i]).length ≤ 140737488355328 := by
            have h1 := congrArg List.length hp
            have h2 := congrArg List.length hR
            simp at h1 h2 hlen
            omega
          simp [loopAt, loopsOf, Tryz.f315, h3, h4, h6, ho, hi, hi', hwi, hr, hcat, hxi]
          rw [hp, List.append_assoc])
        (by
          rintro s o q ⟨acc, h3, h4, h6, ho, hp⟩
          simp at hp
          simp [loopAt, loopsOf, Tryz.f315, h3, h4, h6, ho, hp])
        xs.length 0 s o q (by omega) hI)
      simp only [loopAt, loopsOf, Tryz.f315] at lp
      obtain ⟨X, A, B, C, hl⟩ := lp _ rfl
      have hl' := fun s o q a3 a4 a6 a0 => hl s o q ⟨W, a3, a4, a6, a0, by simp⟩
      clear hl lp
      simp at hl' hlen
      have hcat : W.length + ((xs.flatMap (keyD d)).length + 1) ≤ 140737488355328 := by simp; omega
      simp [e0, e1, e2, e3, e4, hw, hn, ← hhead, hi, hl', hcat]
      try (intro hcon; exfalso; omega)
    · have h5 : v.k = 5 := by
        unfold okP at h
        simp [e0, e1, e2, e3, hk] at h
        exact h.1
      obtain ⟨e, xs, hd, _, hit, _, hx⟩ := okP_doc h h5
      obtain rfl : d = e := by omega
      have hw : IntKind.i64.wrap (v.k + 1) = v.k + 1 := wrap_of (by omega) (by omega)
      have hi := l01Fields v.t (by omega)
      rw [hit] at hi
      simp only [fieldsX] at hi
      obtain ⟨hs1, hs2⟩ := fields_small hit
      have e4 : (v.k = 4) = False := eq_false hk
      have eL : fieldsL v.t = xs := by simp [fieldsL, hit]
      clear hk h5
      have ekey : keyD (d + 1) v = headK v ++ xs.flatMap (fun f => [1] ++ escP f.name ++ keyD d f.v) ++ [0] := by simp [keyD, e0, e1, e2, e3, e4, eL]
      rw [ekey] at hlen ⊢
      have hhead : headK v = numP (v.k + 1) 1 := rfl
      generalize hW : headK v = W at *
      have d22 := d315_22
      simp [regionOf, findR, pick, Tryz.f315] at d22
      have dd := fun st => run_region_draw E st 22 _ d22
      clear d22
      obtain ⟨F, hF⟩ : ∃ F : Fld → Bytes, F = (fun f => [1] ++ escP f.name ++ keyD d f.v) := ⟨_, rfl⟩
      have hFx : ∀ f, [1] ++ (escP f.name ++ keyD d f.v) = F f := by intro f; rw [hF]; simp
      have hFl : ∀ f, (F f).length = 1 + (escP f.name).length + (keyD d f.v).length := by intro f; rw [hF]; simp; omega
      rw [← hF] at hlen ⊢
      clear hF
      have lp := fun (R : Bytes) (hR : R = W ++ xs.flatMap F) => sk (fun s o q hI => loop_for (c := loopAt Tryz.f315 1) (N := 94)
        (fun i s o q => ∃ acc, s 3 = .t (.str acc) ∧ s 7 = .row 1 ∧ s 9 = .t (.int .i64 i) ∧ o 1 = .row 237 (xs.map fldT) true ∧ R = acc ++ (xs.drop i).flatMap F)
        (fun e s' o' q' => e = .exit 3 ∧ s' 3 = .t (.str R)) xs.length
        (by
          rintro i s o q hi ⟨acc, h3, h7, h9, ho, hp⟩
          have hi' : (i : Int) < (xs.length : Int) := by omega
          have hwi := wrap_succ (n := i) (by omega)
          have hxi : xs[i]? = some xs[i] := List.getElem?_eq_getElem hi
          have hsm := hs2 _ (List.getElem_mem hi)
          have hr := ih xs[i].v (hx _ (List.getElem_mem hi)).2 (by omega)
          have hen := l04Escape xs[i].name (by omega)
          rw [flat_drop _ _ _ hi, ← List.append_assoc] at hp
          have hcat : acc.length + (1 + (escP xs[i].name).length + (keyD d xs[i].v).length) ≤ 140737488355328 := by
            have h1 := congrArg List.length hp
            have h2 := congrArg List.length hR
            simp [hFl] at h1 h2 hlen
            omega
          have hcat1 : 1 + (escP xs[i].name).length ≤ 140737488355328 := by omega
          have hcat2 : 1 + (escP xs[i].name).length + (keyD d xs[i].v).length ≤ 140737488355328 := by omega
          have hF1 := hFx xs[i]
          simp at hF1
          simp [loopAt, loopsOf, Tryz.f315, dd, h3, h7, h9, ho, hi, hi', hwi, hr, hen, hcat, hcat1, hcat2, hxi]
          rw [if_pos (by omega), if_pos (by omega), hp, ← hF1]
          simp)
        (by
          rintro s o q ⟨acc, h3, h7, h9, ho, hp⟩
          simp at hp
          simp [loopAt, loopsOf, Tryz.f315, h3, h7, h9, ho, hp])
        xs.length 0 s o q (by omega) hI)
      simp only [loopAt, loopsOf, Tryz.f315] at lp
      obtain ⟨X, A, B, C, hl⟩ := lp _ rfl
      have hl' := fun s o q a3 a4 a6 a0 => hl s o q ⟨W, a3, a4, a6, a0, by simp⟩
      clear hl lp
      simp at hl' hlen
      have hcat : W.length + ((xs.flatMap F).length + 1) ≤ 140737488355328 := by simp; omega
      simp [e0, e1, e2, e3, e4, hw, hn, ← hhead, hi, hl', hcat]
      try (intro hcon; exfalso; omega)
theorem l04Key (d : Nat) (v : Val) (f : Bool) (h : okP d v = true) (hv : v.t.length < 1048576) : run E (.call 294 [xV v, xB f]) = some (.res [xS (if f then turnP (keyD d v) else keyD d v)] []) := by
  rw [run_call E 294 _ rfl Tryz.func294 rfl rfl rfl (by simp)]
  have h1 := l04Raw d v h hv
  have hl := keyD_len d v h
  have h2 := l04Turn (keyD d v) (by omega)
  cases f <;> simp [h1, h2]
theorem escGo_snoc (a : Bytes) (b : UInt8) : escGo (a ++ [b]) = escGo a ++ (if b = 0 then [b, 255] else [b]) := by
  induction a with
  | nil => simp [escGo]
  | cons c a ih => simp [escGo, ih]
theorem putText (acc t : Bytes) (ht : t.length < 4294967296) (ha : acc.length ≤ 70368744177664) : run E (.call 317 [.row 5 (acc.map byteT), xS t]) = some (.res [.row 5 ((acc ++ escP t).map byteT)] [none]) := by
  rw [run_call E 317 _ rfl Tryz.func317 rfl rfl rfl (by simp)]
  have lp := sk1 (fun s o q hI => loop_for (c := loopAt Tryz.f317 0) (N := 28)
    (fun i s o q => ∃ r, s 0 = .row r ∧ s 1 = .t (.str t) ∧ s 7 = .t (.int .i64 t.length) ∧ s 8 = .t (.int .i64 i) ∧ o r = .row 5 ((acc ++ escGo (t.take i)).map byteT) true ∧ r < q ∧ (r = 0 ∨ o 0 = .dead))
    (fun e s' o' q' => ∃ r, e = .exit 0 ∧ s' 0 = .row r ∧ o' r = .row 5 ((acc ++ escGo t).map byteT) true ∧ ¬ r = q' ∧ ¬ r = q' + 1 ∧ ¬ q' = r ∧ ¬ q' = 0 ∧ ¬ 0 = q' ∧ (if 0 = r then Ob.dead else o' 0) = .dead) t.length
    (by
      rintro i s o q hi ⟨r, h0, h1, h7, h8, ho, hrq, hdd⟩
      have hq0 : ¬ q = 0 := by omega
      have hq1 : ¬ 0 = q := by omega
      have hi' : (i : Int) < (t.length : Int) := by omega
      have hw := wrap_succ (n := i) (by omega)
      have hrn : r ≠ q := by omega
      have hrn2 : r ≠ q + 1 := by omega
      have hqn : q ≠ r := by omega
      have hl : (escGo (t.take i)).length ≤ 2 * i := by have := escGo_len (t.take i); simp at this; omega
      have htk : escGo (t.take (i + 1)) = escGo (t.take i) ++ (if t[i] = 0 then [t[i], 255] else [t[i]]) := by
        have e : t.take (i + 1) = t.take i ++ [t[i]] := by rw [List.take_add_one, List.getElem?_eq_getElem hi]; rfl
        rw [e]; exact escGo_snoc _ _
      have hlen : (acc ++ escGo (t.take i)).length + 2 ≤ 140737488355328 := by simp; omega
      rw [htk, ← List.append_assoc]
      generalize acc ++ escGo (t.take i) = l at *
      have hpl : l.length + 1 ≤ 140737488355328 := by omega
      have hpl2 : l.length + 1 + 1 ≤ 140737488355328 := by omega
      by_cases hz : t[i] = 0
      · simp [hz]
        rcases hdd with rfl | hdd
        · simp [loopAt, loopsOf, Tryz.f317, h0, h1, h7, h8, hi, hi', hw, ho, hrn, hrn2, hqn, hz, hpl, hpl2, hq0, hq1]
          try omega
        · by_cases hr0 : r = 0
          · subst hr0; rw [hdd] at ho; cases ho
          · have hr1 : ¬ 0 = r := fun h => hr0 h.symm
            simp [loopAt, loopsOf, Tryz.f317, h0, h1, h7, h8, hi, hi', hw, ho, hrn, hrn2, hqn, hz, hpl, hpl2, hq0, hq1, hdd, hr0, hr1]
            try omega
      · have hzn : ¬ ((t[i].toNat : Int) = 0) := by
          intro h; exact hz (UInt8.toNat_inj.1 (by simp; omega))
        simp [hz]
        rcases hdd with rfl | hdd
        · simp [loopAt, loopsOf, Tryz.f317, h0, h1, h7, h8, hi, hi', hw, ho, hrn, hrn2, hqn, hz, hzn, hpl, hpl2, hq0, hq1]
          try omega
        · by_cases hr0 : r = 0
          · subst hr0; rw [hdd] at ho; cases ho
          · have hr1 : ¬ 0 = r := fun h => hr0 h.symm
            simp [loopAt, loopsOf, Tryz.f317, h0, h1, h7, h8, hi, hi', hw, ho, hrn, hrn2, hqn, hz, hzn, hpl, hpl2, hq0, hq1, hdd, hr0, hr1]
            try omega)
    (by
      rintro s o q ⟨r, h0, h1, h7, h8, ho, hrq, hdd⟩
      have hq0 : ¬ q = 0 := by omega
      have hq1 : ¬ 0 = q := by omega
      simp only [List.take_length] at ho
      have hrn : r ≠ q := by omega
      have hrn2 : r ≠ q + 1 := by omega
      have hqn : q ≠ r := by omega
      generalize acc ++ escGo t = l at *
      simp [loopAt, loopsOf, Tryz.f317, h0, h1, h7, h8, ho, hrn, hrn2, hqn, hq0, hq1]
      rcases hdd with rfl | hdd
      · simp
      · simp [hdd])
    t.length 0 s o q (by omega) hI)
  simp only [loopAt, loopsOf, Tryz.f317] at lp
  obtain ⟨X, A, B, C, M, hx⟩ := lp
  have hx' := fun s o q r a0 a1 a7 a8 a9 a6 a5 => hx s o q ⟨r, a0, a1, a7, a8, by simpa [escGo] using a9, a6, a5⟩
  clear hx
  have hlen : (acc ++ escGo t).length + 2 ≤ 140737488355328 := by have := escGo_len t; simp; omega
  have hfin : (acc ++ escP t).map byteT = (acc ++ escGo t).map byteT ++ [.int .u8 0, .int .u8 0] := by simp [escP]
  rw [hfin]
  generalize acc ++ escGo t = l at *
  have hr2 : List.range 2 = [0, 1] := rfl
  simp [-ite_eq_left_iff] at hx'
  simp [hx', hlen, hr2]
theorem numP_get (n : Int) : ∀ (k i : Nat), i < k → (numP n k)[i]? = some (byteAt n (k - 1 - i))
  | 0, i, h => by omega
  | k + 1, 0, h => by simp [numP]
  | k + 1, i + 1, h => by
    have := numP_get n k i (by omega)
    simp [numP, this]
    congr 1; omega
theorem eight (n : Int) : run E (.call 316 [xI n]) = some (.res [.row 5 ((numP n 8).map byteT)] []) := by
  rw [run_call E 316 _ rfl Tryz.func316 rfl rfl rfl (by simp)]
  obtain ⟨L, hL⟩ : ∃ L, L = (numP n 8).map byteT := ⟨_, rfl⟩
  have hLl : L.length = 8 := by rw [hL]; simp [numP_len]
  have lp := sk (fun s o q hI => loop_for (c := loopAt Tryz.f316 0) (N := 20)
    (fun i s o q => s 0 = .t (.int .i64 n) ∧ s 3 = .row 0 ∧ s 6 = .t (.int .i64 i) ∧ o 0 = .row 5 (L.take i ++ List.replicate (8 - i) (.int .u8 0)) true)
    (fun e s' o' q' => e = .exit 0 ∧ s' 3 = .row 0 ∧ o' 0 = .row 5 L true) 8
    (by
      rintro i s o q hi ⟨h0, h3, h6, ho⟩
      have hi' : (i : Int) < 8 := by omega
      have hw := wrap_succ (n := i) (by omega)
      obtain ⟨j, hj⟩ : ∃ j : Nat, j = 7 - i := ⟨_, rfl⟩
      have hw8 : IntKind.i64.wrap (8 * (i : Int)) = 8 * (i : Int) := wrap_of (by omega) (by omega)
      have hw56 : IntKind.i64.wrap (56 - 8 * (i : Int)) = 8 * (j : Int) := by rw [wrap_of (by omega) (by omega)]; omega
      have hneg : ¬ (8 * (j : Int) < 0) := by omega
      have hnat : (8 * (j : Int)).toNat = 8 * j := by omega
      have hmin : min (8 * j) IntKind.i64.bits = 8 * j := by simp [IntKind.bits]; omega
      have hb := byteAt_wrap n j
      have hx : L[i]? = some (byteT (byteAt n j)) := by
        rw [hL, List.getElem?_map, numP_get n 8 i hi, hj]; rfl
      have hget := mid_get L (T.int .u8 0) i 8 hi (by omega)
      have hset := mid_set L (T.int .u8 0) (byteT (byteAt n j)) i 8 hi hx
      have hge : (0 : Int) ≤ (i : Int) := by omega
      simp [loopAt, loopsOf, Tryz.f316, h0, h3, h6, hi', hw, ho, hw8, hw56, hneg, hnat, hmin, hb, hget, hset])
    (by
      rintro s o q ⟨h0, h3, h6, ho⟩
      have hfull : L.take 8 = L := List.take_of_length_le (by omega)
      simp [hfull] at ho
      simp [loopAt, loopsOf, Tryz.f316, h0, h3, h6, ho])
    8 0 s o q (by omega) hI)
  simp only [loopAt, loopsOf, Tryz.f316] at lp
  obtain ⟨X, A, B, C, hx⟩ := lp
  simp at hx
  rw [← hL]
  simp [hx]
theorem flats_bytes : ∀ (l : Bytes), T.flats (l.map byteT) = true
  | [] => rfl
  | b :: r => by simp [T.flats, T.flat, flats_bytes r]
theorem fallen (l : Bytes) (f : Bool) (hl : l.length < 4294967296) : run E (.call 274 [.row 5 (l.map byteT), xB f]) = some (.res [xS (if f then turnP l else l)] [some (.row 5 ((if f then turnP l else l).map byteT))]) := by
  rw [run_call E 274 _ rfl Tryz.func274 rfl rfl rfl (by simp)]
  cases f with
  | false =>
    have hb := toBytes_map l
    simp [hb, flats_bytes]
  | true =>
    have lp := sk (fun s o q hI => loop_for (c := loopAt Tryz.f274 0) (N := 23)
      (fun i s o q => s 0 = .row 0 ∧ s 8 = .row 0 ∧ s 9 = .t (.int .i64 l.length) ∧ s 10 = .t (.int .i64 i) ∧ o 0 = .row 5 ((turnP (l.take i) ++ l.drop i).map byteT) true)
      (fun e s' o' q' => e = .exit 0 ∧ s' 0 = .row 0 ∧ o' 0 = .row 5 ((turnP l).map byteT) true) l.length
      (by
        rintro i s o q hi ⟨h0, h8, h9, h10, ho⟩
        have hi' : (i : Int) < (l.length : Int) := by omega
        have hw := wrap_succ (n := i) (by omega)
        have htw := turn_wrap l[i]
        have e : l.take (i + 1) = l.take i ++ [l[i]] := by rw [List.take_add_one, List.getElem?_eq_getElem hi]; rfl
        have hli : (turnP (l.take i)).length = i := by simp [turnP]; omega
        have hget : ((turnP (l.take i) ++ l.drop i).map byteT)[i]? = some (byteT l[i]) := by
          rw [List.getElem?_map, List.getElem?_append_right (by omega), hli]
          simp [List.getElem?_eq_getElem hi]
        have hset : ((turnP (l.take i) ++ l.drop i).map byteT).set i (byteT (turnB l[i])) = (turnP (l.take (i + 1)) ++ l.drop (i + 1)).map byteT := by
          have et : turnP (l.take (i + 1)) = turnP (l.take i) ++ [turnB l[i]] := by rw [e]; simp only [turnP, List.map_append, List.map_cons, List.map_nil]
          rw [et, List.drop_eq_getElem_cons hi, List.map_append, List.set_append_right _ _ (by simp; omega)]
          have hd : (l[i] :: l.drop (i + 1)).map byteT = byteT l[i] :: (l.drop (i + 1)).map byteT := rfl
          have hz : i - ((turnP (l.take i)).map byteT).length = 0 := by simp; omega
          rw [hd, hz, List.set_cons_zero, List.map_append, List.map_append, List.map_cons, List.map_nil, List.append_assoc]
          rfl
        generalize (turnP (l.take i) ++ l.drop i).map byteT = m at *
        generalize (turnP (l.take (i + 1)) ++ l.drop (i + 1)).map byteT = m' at *
        simp [loopAt, loopsOf, Tryz.f274, h0, h8, h9, h10, hi', hw, ho, htw, hget, hset])
      (by
        rintro s o q ⟨h0, h8, h9, h10, ho⟩
        simp only [List.take_length, List.drop_length, List.append_nil] at ho
        simp [loopAt, loopsOf, Tryz.f274, h0, h8, h9, h10, ho])
      l.length 0 s o q (by omega) hI)
    simp only [loopAt, loopsOf, Tryz.f274] at lp
    obtain ⟨X, A, B, C, hx⟩ := lp
    have hb := toBytes_map (turnP l)
    have hf := flats_bytes (turnP l)
    simp only [turnP] at hf
    simp [turnP] at hx hb hf
    simp [hx, hb, turnP, hf]
theorem u8_wrap (n : Int) : IntKind.u8.wrap n = ((byteAt n 0).toNat : Int) := by
  have := byteAt_wrap n 0
  simpa using this
theorem numP_1 (n : Int) : numP n 1 = [byteAt n 0] := rfl
theorem putKey_small_row (d : Nat) (v : Val) (acc : Bytes) (h : okP d v = true) (ha : acc.length + 4096 ≤ 70368744177664) (hv : v.t.length < 1048576) (hk : v.k = 0 ∨ v.k = 1 ∨ v.k = 2 ∨ v.k = 3) : run E (.call 298 [.row 5 (acc.map byteT), xV v]) = some (.res [.row 5 ((acc ++ keyD d v).map byteT)] [none]) := by
  rw [run_call E 298 _ rfl Tryz.func298 rfl rfl rfl (by simp)]
  have hsz := okP_range h
  unfold keyD headK
  have hw : IntKind.i64.wrap (v.k + 1) = v.k + 1 := wrap_of (by omega) (by omega)
  have hu := u8_wrap (v.k + 1)
  have hu2 := u8_wrap v.n
  have hr1 : List.range 1 = [0] := rfl
  have hl1 : acc.length + 1 ≤ 140737488355328 := by omega
  have hl2 : acc.length + 1 + 1 ≤ 140737488355328 := by omega
  have hl8 : acc.length + 1 + 8 ≤ 140737488355328 := by omega
  rcases hk with hk | hk | hk | hk
  · have e0 : (v.k = 0) = True := by rw [hk]; simp
    have e1 : (v.k = 1) = False := by rw [hk]; simp
    have e2 : (v.k = 2) = False := by rw [hk]; simp
    have e3 : (v.k = 3) = False := by rw [hk]; simp
    have e4 : (v.k = 4) = False := by rw [hk]; simp
    have e5 : (v.k = 5) = False := by rw [hk]; simp
    clear hk
    simp [e0, e1, e2, e3, e4, e5, hw, hu, hr1, hl1, numP_1]
  · have e0 : (v.k = 0) = False := by rw [hk]; simp
    have e1 : (v.k = 1) = True := by rw [hk]; simp
    have e2 : (v.k = 2) = False := by rw [hk]; simp
    have e3 : (v.k = 3) = False := by rw [hk]; simp
    have e4 : (v.k = 4) = False := by rw [hk]; simp
    have e5 : (v.k = 5) = False := by rw [hk]; simp
    clear hk
    simp [e0, e1, e2, e3, e4, e5, hw, hu, hu2, hr1, hl1, hl2, numP_1]
  · have hw2 : IntKind.i64.wrap (v.n + 4611686018427387904) = v.n + 4611686018427387904 := wrap_of (by omega) (by omega)
    have he := eight (v.n + 4611686018427387904)
    have hlen := numP_len (v.n + 4611686018427387904) 8
    have e0 : (v.k = 0) = False := by rw [hk]; simp
    have e1 : (v.k = 1) = False := by rw [hk]; simp
    have e2 : (v.k = 2) = True := by rw [hk]; simp
    have e3 : (v.k = 3) = False := by rw [hk]; simp
    have e4 : (v.k = 4) = False := by rw [hk]; simp
    have e5 : (v.k = 5) = False := by rw [hk]; simp
    clear hk
    generalize numP (v.n + 4611686018427387904) 8 = w at *
    simp [e0, e1, e2, e3, e4, e5, hw, hw2, hu, he, hlen, hr1, hl1, hl8, numP_1]
  · have he := putText (acc ++ [byteAt (v.k + 1) 0]) v.t (by omega) (by simp <;> omega)
    simp at he
    have e0 : (v.k = 0) = False := by rw [hk]; simp
    have e1 : (v.k = 1) = False := by rw [hk]; simp
    have e2 : (v.k = 2) = False := by rw [hk]; simp
    have e3 : (v.k = 3) = True := by rw [hk]; simp
    have e4 : (v.k = 4) = False := by rw [hk]; simp
    have e5 : (v.k = 5) = False := by rw [hk]; simp
    clear hk
    simp [e0, e1, e2, e3, e4, e5, hw, hu, he, hr1, hl1, numP_1]
theorem putKey_small_nil (d : Nat) (v : Val)  (h : okP d v = true) (ha : ([] : Bytes).length + 4096 ≤ 70368744177664) (hv : v.t.length < 1048576) (hk : v.k = 0 ∨ v.k = 1 ∨ v.k = 2 ∨ v.k = 3) : run E (.call 298 [.nil, xV v]) = some (.res [.row 5 ((([] : Bytes) ++ keyD d v).map byteT)] [some .nil]) := by
  rw [run_call E 298 _ rfl Tryz.func298 rfl rfl rfl (by simp)]
  have hsz := okP_range h
  unfold keyD headK
  have hw : IntKind.i64.wrap (v.k + 1) = v.k + 1 := wrap_of (by omega) (by omega)
  have hu := u8_wrap (v.k + 1)
  have hu2 := u8_wrap v.n
  have hr1 : List.range 1 = [0] := rfl
  have hl1 : ([] : Bytes).length + 1 ≤ 140737488355328 := by omega
  have hl2 : ([] : Bytes).length + 1 + 1 ≤ 140737488355328 := by omega
  have hl8 : ([] : Bytes).length + 1 + 8 ≤ 140737488355328 := by omega
  rcases hk with hk | hk | hk | hk
  · have e0 : (v.k = 0) = True := by rw [hk]; simp
    have e1 : (v.k = 1) = False := by rw [hk]; simp
    have e2 : (v.k = 2) = False := by rw [hk]; simp
    have e3 : (v.k = 3) = False := by rw [hk]; simp
    have e4 : (v.k = 4) = False := by rw [hk]; simp
    have e5 : (v.k = 5) = False := by rw [hk]; simp
    clear hk
    simp [e0, e1, e2, e3, e4, e5, hw, hu, hr1, hl1, numP_1]
  · have e0 : (v.k = 0) = False := by rw [hk]; simp
    have e1 : (v.k = 1) = True := by rw [hk]; simp
    have e2 : (v.k = 2) = False := by rw [hk]; simp
    have e3 : (v.k = 3) = False := by rw [hk]; simp
    have e4 : (v.k = 4) = False := by rw [hk]; simp
    have e5 : (v.k = 5) = False := by rw [hk]; simp
    clear hk
    simp [e0, e1, e2, e3, e4, e5, hw, hu, hu2, hr1, hl1, hl2, numP_1]
  · have hw2 : IntKind.i64.wrap (v.n + 4611686018427387904) = v.n + 4611686018427387904 := wrap_of (by omega) (by omega)
    have he := eight (v.n + 4611686018427387904)
    have hlen := numP_len (v.n + 4611686018427387904) 8
    have e0 : (v.k = 0) = False := by rw [hk]; simp
    have e1 : (v.k = 1) = False := by rw [hk]; simp
    have e2 : (v.k = 2) = True := by rw [hk]; simp
    have e3 : (v.k = 3) = False := by rw [hk]; simp
    have e4 : (v.k = 4) = False := by rw [hk]; simp
    have e5 : (v.k = 5) = False := by rw [hk]; simp
    clear hk
    generalize numP (v.n + 4611686018427387904) 8 = w at *
    simp [e0, e1, e2, e3, e4, e5, hw, hw2, hu, he, hlen, hr1, hl1, hl8, numP_1]
  · have he := putText (([] : Bytes) ++ [byteAt (v.k + 1) 0]) v.t (by omega) (by simp <;> omega)
    simp at he
    have e0 : (v.k = 0) = False := by rw [hk]; simp
    have e1 : (v.k = 1) = False := by rw [hk]; simp
    have e2 : (v.k = 2) = False := by rw [hk]; simp
    have e3 : (v.k = 3) = True := by rw [hk]; simp
    have e4 : (v.k = 4) = False := by rw [hk]; simp
    have e5 : (v.k = 5) = False := by rw [hk]; simp
    clear hk
    simp [e0, e1, e2, e3, e4, e5, hw, hu, he, hr1, hl1, numP_1]
theorem putKey_items_row (d : Nat) (ih : ∀ (v : Val) (acc : Bytes), okP d v = true → acc.length + (keyD d v).length + 4096 ≤ 70368744177664 → v.t.length < 1048576 → run E (.call 298 [.row 5 (acc.map byteT), xV v]) = some (.res [.row 5 ((acc ++ keyD d v).map byteT)] [none]))
    (v : Val) (acc : Bytes) (h : okP (d + 1) v = true) (ha : acc.length + (keyD (d + 1) v).length + 4096 ≤ 70368744177664) (hv : v.t.length < 1048576) (hk : v.k = 4) : run E (.call 298 [.row 5 (acc.map byteT), xV v]) = some (.res [.row 5 ((acc ++ keyD (d + 1) v).map byteT)] [none]) := by
  rw [run_call E 298 _ rfl Tryz.func298 rfl rfl rfl (by simp)]
  obtain ⟨e, xs, hd, _, hit, hx⟩ := okP_list h hk
  obtain rfl : d = e := by omega
  have hi := implItems v (by omega)
  rw [itemsI_some hit] at hi
  simp at hi
  obtain ⟨hs1, hs2⟩ := items_small hit
  have hw : IntKind.i64.wrap (v.k + 1) = v.k + 1 := wrap_of (by omega) (by omega)
  have hu := u8_wrap (v.k + 1)
  have hr1 : List.range 1 = [0] := rfl
  have e0 : (v.k = 0) = False := by rw [hk]; simp
  have e1 : (v.k = 1) = False := by rw [hk]; simp
  have e2 : (v.k = 2) = False := by rw [hk]; simp
  have e3 : (v.k = 3) = False := by rw [hk]; simp
  have e4 : (v.k = 4) = True := by rw [hk]; simp
  have eL : itemsL v.t = xs := by simp [itemsL, hit]
  have ekey : keyD (d + 1) v = byteAt (v.k + 1) 0 :: (xs.flatMap (keyD d) ++ [0]) := by simp [keyD, e0, e1, e2, e3, e4, eL, headK, numP_1]
  rw [ekey] at ha ⊢
  clear hk
  have lp := fun (ri : Nat) (hri0 : 0 < ri) (R : Bytes) (hR : R = acc ++ [byteAt (v.k + 1) 0] ++ xs.flatMap (keyD d)) => sk1 (fun s o q hI => loop_for (c := loopAt Tryz.f298 0) (N := 91)
    (fun i s o q => ∃ r acc', s 0 = .row r ∧ o r = .row 5 (acc'.map byteT) true ∧ r < q ∧ s 51 = .row ri ∧ o ri = .row 38 (xs.map valT) true ∧ ri < q ∧ ri ≠ r ∧ 0 < r ∧ s 52 = .t (.int .i64 xs.length) ∧ s 53 = .t (.int .i64 i) ∧ o 0 = .dead ∧ R = acc' ++ (xs.drop i).flatMap (keyD d))
    (fun e s' o' q' => ∃ r, e = .exit 1 ∧ s' 0 = .row r ∧ o' r = .row 5 (R.map byteT) true ∧ ¬ r = q' ∧ ¬ q' = r ∧ ¬ r = q' + 1 ∧ ¬ q' = 0 ∧ ¬ 0 = q' ∧ ¬ r = 0 ∧ ¬ 0 = r ∧ o' 0 = .dead) xs.length
    (by
      rintro i s o q hi ⟨r, acc', h0, hor, hrq, h51, hori, hriq, hne, hr0, h52, h53, hdd, hp⟩
      have hi' : (i : Int) < (xs.length : Int) := by omega
      have hwi := wrap_succ (n := i) (by omega)
      have hxi : xs[i]? = some xs[i] := List.getElem?_eq_getElem hi
      rw [flat_drop _ _ _ hi, ← List.append_assoc] at hp
      have hlen : acc'.length + (keyD d xs[i]).length + 4096 ≤ 70368744177664 := by
        have h1 := congrArg List.length hp
        have h2 := congrArg List.length hR
        simp at h1 h2 ha
        omega
      have hr := ih xs[i] acc' (hx _ (List.getElem_mem hi)) hlen (by have := hs2 _ (List.getElem_mem hi); omega)
      have g1 : ¬ r = q := by omega
      have g2 : ¬ q = r := by omega
      have g3 : ¬ ri = q := by omega
      have g4 : ¬ q = ri := by omega
      have g5 : ¬ r = q + 1 := by omega
      have g6 : ¬ ri = q + 1 := by omega
      have g7 : ¬ q = 0 := by omega
      have g8 : ¬ 0 = q := by omega
      have g9 : ¬ r = ri := fun h => hne h.symm
      have g10 : ¬ 0 = r := by omega
      have g11 : ¬ r = 0 := by omega
      have g12 : ¬ ri = 0 := by omega
      have g13 : ¬ q + 1 = ri := by omega
      simp [loopAt, loopsOf, Tryz.f298, h0, hor, h51, hori, h52, h53, hi, hi', hwi, hxi, hr, g1, g2, g3, g4, g5, g6, g7, g8, g9, g10, g11, g12, g13, hne, hdd]
      exact ⟨acc' ++ keyD d xs[i], by simp, by omega, hp⟩)
    (by
      rintro s o q ⟨r, acc', h0, hor, hrq, h51, hori, hriq, hne, hr0, h52, h53, hdd, hp⟩
      simp at hp
      subst hp
      have g1 : ¬ r = q := by omega
      have g2 : ¬ q = r := by omega
      have g5 : ¬ r = q + 1 := by omega
      have g7 : ¬ q = 0 := by omega
      have g8 : ¬ 0 = q := by omega
      have g10 : ¬ 0 = r := by omega
      have g11 : ¬ r = 0 := by omega
      simp [loopAt, loopsOf, Tryz.f298, h0, hor, h51, hori, h52, h53, g1, g2, g5, g7, g8, g10, g11, hdd])
    xs.length 0 s o q (by omega) hI)
  simp only [loopAt, loopsOf, Tryz.f298] at lp
  obtain ⟨R, hR⟩ : ∃ R, R = acc ++ [byteAt (v.k + 1) 0] ++ xs.flatMap (keyD d) := ⟨_, rfl⟩
  obtain ⟨X, A, B, C, M, hl⟩ := lp 4 (by omega) R hR
  have hl' := fun s o q r a0 a1 a2 a3 a4 a5 a6 a7 a8 a9 a10 => hl s o q ⟨r, acc ++ [byteAt (v.k + 1) 0], a0, a1, a2, a3, a4, a5, a6, a7, a8, a9, a10, by simpa using hR⟩
  clear hl lp
  have hlR : R.length + 1 ≤ 140737488355328 := by
    have h2 := congrArg List.length hR
    simp at h2 ha
    omega
  have hl1 : acc.length + 1 ≤ 140737488355328 := by simp at ha ⊢ <;> omega
  have hfin : acc ++ byteAt (v.k + 1) 0 :: (xs.flatMap (keyD d) ++ [0]) = R ++ [0] := by rw [hR]; simp
  rw [hfin]
  clear hfin hR ekey
  simp at hl'
  simp [e0, e1, e2, e3, e4, hw, hu, hi, hl', hlR, hr1, hl1]
theorem putKey_items_nil (d : Nat) (ih : ∀ (v : Val) (acc : Bytes), okP d v = true → acc.length + (keyD d v).length + 4096 ≤ 70368744177664 → v.t.length < 1048576 → run E (.call 298 [.row 5 (acc.map byteT), xV v]) = some (.res [.row 5 ((acc ++ keyD d v).map byteT)] [none]))
    (v : Val)  (h : okP (d + 1) v = true) (ha : ([] : Bytes).length + (keyD (d + 1) v).length + 4096 ≤ 70368744177664) (hv : v.t.length < 1048576) (hk : v.k = 4) : run E (.call 298 [.nil, xV v]) = some (.res [.row 5 ((([] : Bytes) ++ keyD (d + 1) v).map byteT)] [some .nil]) := by
  rw [run_call E 298 _ rfl Tryz.func298 rfl rfl rfl (by simp)]
  obtain ⟨e, xs, hd, _, hit, hx⟩ := okP_list h hk
  obtain rfl : d = e := by omega
  have hi := implItems v (by omega)
  rw [itemsI_some hit] at hi
  simp at hi
  obtain ⟨hs1, hs2⟩ := items_small hit
  have hw : IntKind.i64.wrap (v.k + 1) = v.k + 1 := wrap_of (by omega) (by omega)
  have hu := u8_wrap (v.k + 1)
  have hr1 : List.range 1 = [0] := rfl
  have e0 : (v.k = 0) = False := by rw [hk]; simp
  have e1 : (v.k = 1) = False := by rw [hk]; simp
  have e2 : (v.k = 2) = False := by rw [hk]; simp
  have e3 : (v.k = 3) = False := by rw [hk]; simp
  have e4 : (v.k = 4) = True := by rw [hk]; simp
  have eL : itemsL v.t = xs := by simp [itemsL, hit]
  have ekey : keyD (d + 1) v = byteAt (v.k + 1) 0 :: (xs.flatMap (keyD d) ++ [0]) := by simp [keyD, e0, e1, e2, e3, e4, eL, headK, numP_1]
  rw [ekey] at ha ⊢
  clear hk
  have lp := fun (ri : Nat) (hri0 : 0 < ri) (R : Bytes) (hR : R = ([] : Bytes) ++ [byteAt (v.k + 1) 0] ++ xs.flatMap (keyD d)) => sk1 (fun s o q hI => loop_for (c := loopAt Tryz.f298 0) (N := 91)
    (fun i s o q => ∃ r acc', s 0 = .row r ∧ o r = .row 5 (acc'.map byteT) true ∧ r < q ∧ s 51 = .row ri ∧ o ri = .row 38 (xs.map valT) true ∧ ri < q ∧ ri ≠ r ∧ 0 < r ∧ s 52 = .t (.int .i64 xs.length) ∧ s 53 = .t (.int .i64 i) ∧ True ∧ R = acc' ++ (xs.drop i).flatMap (keyD d))
    (fun e s' o' q' => ∃ r, e = .exit 1 ∧ s' 0 = .row r ∧ o' r = .row 5 (R.map byteT) true ∧ ¬ r = q' ∧ ¬ q' = r ∧ ¬ r = q' + 1 ∧ ¬ q' = 0 ∧ ¬ 0 = q' ∧ ¬ r = 0 ∧ ¬ 0 = r ∧ True) xs.length
    (by
      rintro i s o q hi ⟨r, acc', h0, hor, hrq, h51, hori, hriq, hne, hr0, h52, h53, hdd, hp⟩
      have hi' : (i : Int) < (xs.length : Int) := by omega
      have hwi := wrap_succ (n := i) (by omega)
      have hxi : xs[i]? = some xs[i] := List.getElem?_eq_getElem hi
      rw [flat_drop _ _ _ hi, ← List.append_assoc] at hp
      have hlen : acc'.length + (keyD d xs[i]).length + 4096 ≤ 70368744177664 := by
        have h1 := congrArg List.length hp
        have h2 := congrArg List.length hR
        simp at h1 h2 ha
        omega
      have hr := ih xs[i] acc' (hx _ (List.getElem_mem hi)) hlen (by have := hs2 _ (List.getElem_mem hi); omega)
      have g1 : ¬ r = q := by omega
      have g2 : ¬ q = r := by omega
      have g3 : ¬ ri = q := by omega
      have g4 : ¬ q = ri := by omega
      have g5 : ¬ r = q + 1 := by omega
      have g6 : ¬ ri = q + 1 := by omega
      have g7 : ¬ q = 0 := by omega
      have g8 : ¬ 0 = q := by omega
      have g9 : ¬ r = ri := fun h => hne h.symm
      have g10 : ¬ 0 = r := by omega
      have g11 : ¬ r = 0 := by omega
      have g12 : ¬ ri = 0 := by omega
      have g13 : ¬ q + 1 = ri := by omega
      simp [loopAt, loopsOf, Tryz.f298, h0, hor, h51, hori, h52, h53, hi, hi', hwi, hxi, hr, g1, g2, g3, g4, g5, g6, g7, g8, g9, g10, g11, g12, g13, hne, hdd]
      exact ⟨acc' ++ keyD d xs[i], by simp, by omega, hp⟩)
    (by
      rintro s o q ⟨r, acc', h0, hor, hrq, h51, hori, hriq, hne, hr0, h52, h53, hdd, hp⟩
      simp at hp
      subst hp
      have g1 : ¬ r = q := by omega
      have g2 : ¬ q = r := by omega
      have g5 : ¬ r = q + 1 := by omega
      have g7 : ¬ q = 0 := by omega
      have g8 : ¬ 0 = q := by omega
      have g10 : ¬ 0 = r := by omega
      have g11 : ¬ r = 0 := by omega
      simp [loopAt, loopsOf, Tryz.f298, h0, hor, h51, hori, h52, h53, g1, g2, g5, g7, g8, g10, g11, hdd])
    xs.length 0 s o q (by omega) hI)
  simp only [loopAt, loopsOf, Tryz.f298] at lp
  obtain ⟨R, hR⟩ : ∃ R, R = ([] : Bytes) ++ [byteAt (v.k + 1) 0] ++ xs.flatMap (keyD d) := ⟨_, rfl⟩
  obtain ⟨X, A, B, C, M, hl⟩ := lp 3 (by omega) R hR
  have hl' := fun s o q r a0 a1 a2 a3 a4 a5 a6 a7 a8 a9 a10 => hl s o q ⟨r, ([] : Bytes) ++ [byteAt (v.k + 1) 0], a0, a1, a2, a3, a4, a5, a6, a7, a8, a9, a10, by simpa using hR⟩
  clear hl lp
  have hlR : R.length + 1 ≤ 140737488355328 := by
    have h2 := congrArg List.length hR
    simp at h2 ha
    omega
  have hl1 : ([] : Bytes).length + 1 ≤ 140737488355328 := by simp at ha ⊢ <;> omega
  have hfin : ([] : Bytes) ++ byteAt (v.k + 1) 0 :: (xs.flatMap (keyD d) ++ [0]) = R ++ [0] := by rw [hR]; simp
  rw [hfin]
  clear hfin hR ekey
  simp at hl'
  simp [e0, e1, e2, e3, e4, hw, hu, hi, hl', hlR, hr1, hl1]
theorem putKey_fields_row (d : Nat) (ih : ∀ (v : Val) (acc : Bytes), okP d v = true → acc.length + (keyD d v).length + 4096 ≤ 70368744177664 → v.t.length < 1048576 → run E (.call 298 [.row 5 (acc.map byteT), xV v]) = some (.res [.row 5 ((acc ++ keyD d v).map byteT)] [none]))
    (v : Val) (acc : Bytes) (h : okP (d + 1) v = true) (ha : acc.length + (keyD (d + 1) v).length + 4096 ≤ 70368744177664) (hv : v.t.length < 1048576) (hk : v.k = 5) : run E (.call 298 [.row 5 (acc.map byteT), xV v]) = some (.res [.row 5 ((acc ++ keyD (d + 1) v).map byteT)] [none]) := by
  rw [run_call E 298 _ rfl Tryz.func298 rfl rfl rfl (by simp)]
  obtain ⟨e, xs, hd, _, hit, _, hx⟩ := okP_doc h hk
  obtain rfl : d = e := by omega
  have hi := implFields v (by omega)
  rw [fieldsI_some hit] at hi
  simp at hi
  obtain ⟨hs1, hs2⟩ := fields_small hit
  have hw : IntKind.i64.wrap (v.k + 1) = v.k + 1 := wrap_of (by omega) (by omega)
  have hu := u8_wrap (v.k + 1)
  have hr1 : List.range 1 = [0] := rfl
  have e0 : (v.k = 0) = False := by rw [hk]; simp
  have e1 : (v.k = 1) = False := by rw [hk]; simp
  have e2 : (v.k = 2) = False := by rw [hk]; simp
  have e3 : (v.k = 3) = False := by rw [hk]; simp
  have e4 : (v.k = 4) = False := by rw [hk]; simp
  have e5 : (v.k = 5) = True := by rw [hk]; simp
  have eL : fieldsL v.t = xs := by simp [fieldsL, hit]
  obtain ⟨F, hF⟩ : ∃ F : Fld → Bytes, F = (fun f => [1] ++ escP f.name ++ keyD d f.v) := ⟨_, rfl⟩
  have hFx : ∀ f, F f = 1 :: (escP f.name ++ keyD d f.v) := by intro f; rw [hF]; simp
  have hFl : ∀ f, (F f).length = 1 + (escP f.name).length + (keyD d f.v).length := by intro f; rw [hF]; simp; omega
  have ekey : keyD (d + 1) v = byteAt (v.k + 1) 0 :: (xs.flatMap F ++ [0]) := by rw [hF]; simp [keyD, e0, e1, e2, e3, e4, eL, headK, numP_1]
  clear hF
  have n22 := n298_22
  have s22 := s298_22
  simp [regionOf, findR, pick, Tryz.f298] at n22 s22
  have dd := fun st => run_region_drawS E st 22 _ n22 s22
  clear n22 s22
  rw [ekey] at ha ⊢
  clear hk
  have lp := fun (ri : Nat) (hri0 : 0 < ri) (R : Bytes) (hR : R = acc ++ [byteAt (v.k + 1) 0] ++ xs.flatMap F) => sk1 (fun s o q hI => loop_for (c := loopAt Tryz.f298 1) (N := 91)
    (fun i s o q => ∃ r acc', s 0 = .row r ∧ o r = .row 5 (acc'.map byteT) true ∧ r < q ∧ s 71 = .row ri ∧ o ri = .row 237 (xs.map fldT) true ∧ ri < q ∧ ri ≠ r ∧ 0 < r ∧ s 72 = .t (.int .i64 xs.length) ∧ s 73 = .t (.int .i64 i) ∧ o 0 = .dead ∧ R = acc' ++ (xs.drop i).flatMap F)
    (fun e s' o' q' => ∃ r, e = .exit 3 ∧ s' 0 = .row r ∧ o' r = .row 5 (R.map byteT) true ∧ ¬ r = q' ∧ ¬ q' = r ∧ ¬ r = q' + 1 ∧ ¬ q' = 0 ∧ ¬ 0 = q' ∧ ¬ r = 0 ∧ ¬ 0 = r ∧ o' 0 = .dead) xs.length
    (by
      rintro i s o q hi ⟨r, acc', h0, hor, hrq, h51, hori, hriq, hne, hr0, h52, h53, hdd, hp⟩
      have hi' : (i : Int) < (xs.length : Int) := by omega
      have hwi := wrap_succ (n := i) (by omega)
      have hxi : xs[i]? = some xs[i] := List.getElem?_eq_getElem hi
      rw [flat_drop _ _ _ hi, ← List.append_assoc] at hp
      have hlen : acc'.length + (F xs[i]).length + 4096 ≤ 70368744177664 := by
        have h1 := congrArg List.length hp
        have h2 := congrArg List.length hR
        simp at h1 h2 ha
        omega
      have hsm := hs2 _ (List.getElem_mem hi)
      have hFi := hFx xs[i]
      have hFk := hFl xs[i]
      have hpt := putText (acc' ++ [1]) xs[i].name (by omega) (by simp; omega)
      have hr := ih xs[i].v (acc' ++ [1] ++ escP xs[i].name) (hx _ (List.getElem_mem hi)).2 (by simp; omega) (by omega)
      have hb1 : acc'.length + 1 ≤ 140737488355328 := by omega
      have hb1' : byteT 1 = T.int IntKind.u8 1 := rfl
      simp [hb1'] at hpt hr
      rw [hFi] at hp
      have g1 : ¬ r = q := by omega
      have g2 : ¬ q = r := by omega
      have g3 : ¬ ri = q := by omega
      have g4 : ¬ q = ri := by omega
      have g5 : ¬ r = q + 1 := by omega
      have g6 : ¬ ri = q + 1 := by omega
      have g7 : ¬ q = 0 := by omega
      have g8 : ¬ 0 = q := by omega
      have g9 : ¬ r = ri := fun h => hne h.symm
      have g10 : ¬ 0 = r := by omega
      have g11 : ¬ r = 0 := by omega
      have g12 : ¬ ri = 0 := by omega
      have g13 : ¬ q + 1 = ri := by omega
      have g14 : ¬ q + 1 + 1 = ri := by omega
      have g15 : ¬ q + 1 + 1 + 1 = ri := by omega
      have g16 : ¬ ri = q + 1 + 1 := by omega
      have g17 : ¬ ri = q + 1 + 1 + 1 := by omega
      have g18 : ¬ q = q + 1 + 1 := by omega
      simp [loopAt, loopsOf, Tryz.f298, h0, hor, h51, hori, h52, h53, hi, hi', hwi, hxi, hr, hpt, hb1, hr1, dd, g1, g2, g3, g4, g5, g6, g7, g8, g9, g10, g11, g12, g13, g14, g15, g16, g17, g18, hne, hdd]
      exact ⟨acc' ++ 1 :: (escP xs[i].name ++ keyD d xs[i].v), by simp [hb1'], by omega, hp⟩)
    (by
      rintro s o q ⟨r, acc', h0, hor, hrq, h51, hori, hriq, hne, hr0, h52, h53, hdd, hp⟩
      simp at hp
      subst hp
      have g1 : ¬ r = q := by omega
      have g2 : ¬ q = r := by omega
      have g5 : ¬ r = q + 1 := by omega
      have g7 : ¬ q = 0 := by omega
      have g8 : ¬ 0 = q := by omega
      have g10 : ¬ 0 = r := by omega
      have g11 : ¬ r = 0 := by omega
      simp [loopAt, loopsOf, Tryz.f298, h0, hor, h51, hori, h52, h53, g1, g2, g5, g7, g8, g10, g11, hdd])
    xs.length 0 s o q (by omega) hI)
  simp only [loopAt, loopsOf, Tryz.f298] at lp
  obtain ⟨R, hR⟩ : ∃ R, R = acc ++ [byteAt (v.k + 1) 0] ++ xs.flatMap F := ⟨_, rfl⟩
  obtain ⟨X, A, B, C, M, hl⟩ := lp 4 (by omega) R hR
  have hl' := fun s o q r a0 a1 a2 a3 a4 a5 a6 a7 a8 a9 a10 => hl s o q ⟨r, acc ++ [byteAt (v.k + 1) 0], a0, a1, a2, a3, a4, a5, a6, a7, a8, a9, a10, by simpa using hR⟩
  clear hl lp
  have hlR : R.length + 1 ≤ 140737488355328 := by
    have h2 := congrArg List.length hR
    simp at h2 ha
    omega
  have hl1 : acc.length + 1 ≤ 140737488355328 := by simp at ha ⊢ <;> omega
  have hfin : acc ++ byteAt (v.k + 1) 0 :: (xs.flatMap F ++ [0]) = R ++ [0] := by rw [hR]; simp
  rw [hfin]
  clear hfin hR ekey
  simp at hl'
  simp [e0, e1, e2, e3, e4, e5, hw, hu, hi, hl', hlR, hr1, hl1]
theorem putKey_fields_nil (d : Nat) (ih : ∀ (v : Val) (acc : Bytes), okP d v = true → acc.length + (keyD d v).length + 4096 ≤ 70368744177664 → v.t.length < 1048576 → run E (.call 298 [.row 5 (acc.map byteT), xV v]) = some (.res [.row 5 ((acc ++ keyD d v).map byteT)] [none]))
    (v : Val)  (h : okP (d + 1) v = true) (ha : ([] : Bytes).length + (keyD (d + 1) v).length + 4096 ≤ 70368744177664) (hv : v.t.length < 1048576) (hk : v.k = 5) : run E (.call 298 [.nil, xV v]) = some (.res [.row 5 ((([] : Bytes) ++ keyD (d + 1) v).map byteT)] [some .nil]) := by
  rw [run_call E 298 _ rfl Tryz.func298 rfl rfl rfl (by simp)]
  obtain ⟨e, xs, hd, _, hit, _, hx⟩ := okP_doc h hk
  obtain rfl : d = e := by omega
  have hi := implFields v (by omega)
  rw [fieldsI_some hit] at hi
  simp at hi
  obtain ⟨hs1, hs2⟩ := fields_small hit
  have hw : IntKind.i64.wrap (v.k + 1) = v.k + 1 := wrap_of (by omega) (by omega)
  have hu := u8_wrap (v.k + 1)
  have hr1 : List.range 1 = [0] := rfl
  have e0 : (v.k = 0) = False := by rw [hk]; simp
  have e1 : (v.k = 1) = False := by rw [hk]; simp
  have e2 : (v.k = 2) = False := by rw [hk]; simp
  have e3 : (v.k = 3) = False := by rw [hk]; simp
  have e4 : (v.k = 4) = False := by rw [hk]; simp
  have e5 : (v.k = 5) = True := by rw [hk]; simp
  have eL : fieldsL v.t = xs := by simp [fieldsL, hit]
  obtain ⟨F, hF⟩ : ∃ F : Fld → Bytes, F = (fun f => [1] ++ escP f.name ++ keyD d f.v) := ⟨_, rfl⟩
  have hFx : ∀ f, F f = 1 :: (escP f.name ++ keyD d f.v) := by intro f; rw [hF]; simp
  have hFl : ∀ f, (F f).length = 1 + (escP f.name).length + (keyD d f.v).length := by intro f; rw [hF]; simp; omega
  have ekey : keyD (d + 1) v = byteAt (v.k + 1) 0 :: (xs.flatMap F ++ [0]) := by rw [hF]; simp [keyD, e0, e1, e2, e3, e4, eL, headK, numP_1]
  clear hF
  have n22 := n298_22
  have s22 := s298_22
  simp [regionOf, findR, pick, Tryz.f298] at n22 s22
  have dd := fun st => run_region_drawS E st 22 _ n22 s22
  clear n22 s22
  rw [ekey] at ha ⊢
  clear hk
  have lp := fun (ri : Nat) (hri0 : 0 < ri) (R : Bytes) (hR : R = ([] : Bytes) ++ [byteAt (v.k + 1) 0] ++ xs.flatMap F) => sk1 (fun s o q hI => loop_for (c := loopAt Tryz.f298 1) (N := 91)
    (fun i s o q => ∃ r acc', s 0 = .row r ∧ o r = .row 5 (acc'.map byteT) true ∧ r < q ∧ s 71 = .row ri ∧ o ri = .row 237 (xs.map fldT) true ∧ ri < q ∧ ri ≠ r ∧ 0 < r ∧ s 72 = .t (.int .i64 xs.length) ∧ s 73 = .t (.int .i64 i) ∧ True ∧ R = acc' ++ (xs.drop i).flatMap F)
    (fun e s' o' q' => ∃ r, e = .exit 3 ∧ s' 0 = .row r ∧ o' r = .row 5 (R.map byteT) true ∧ ¬ r = q' ∧ ¬ q' = r ∧ ¬ r = q' + 1 ∧ ¬ q' = 0 ∧ ¬ 0 = q' ∧ ¬ r = 0 ∧ ¬ 0 = r ∧ True) xs.length
    (by
      rintro i s o q hi ⟨r, acc', h0, hor, hrq, h51, hori, hriq, hne, hr0, h52, h53, hdd, hp⟩
      have hi' : (i : Int) < (xs.length : Int) := by omega
      have hwi := wrap_succ (n := i) (by omega)
      have hxi : xs[i]? = some xs[i] := List.getElem?_eq_getElem hi
      rw [flat_drop _ _ _ hi, ← List.append_assoc] at hp
      have hlen : acc'.length + (F xs[i]).length + 4096 ≤ 70368744177664 := by
        have h1 := congrArg List.length hp
        have h2 := congrArg List.length hR
        simp at h1 h2 ha
        omega
      have hsm := hs2 _ (List.getElem_mem hi)
      have hFi := hFx xs[i]
      have hFk := hFl xs[i]
      have hpt := putText (acc' ++ [1]) xs[i].name (by omega) (by simp; omega)
      have hr := ih xs[i].v (acc' ++ [1] ++ escP xs[i].name) (hx _ (List.getElem_mem hi)).2 (by simp; omega) (by omega)
      have hb1 : acc'.length + 1 ≤ 140737488355328 := by omega
      have hb1' : byteT 1 = T.int IntKind.u8 1 := rfl
      simp [hb1'] at hpt hr
      rw [hFi] at hp
      have g1 : ¬ r = q := by omega
      have g2 : ¬ q = r := by omega
      have g3 : ¬ ri = q := by omega
      have g4 : ¬ q = ri := by omega
      have g5 : ¬ r = q + 1 := by omega
      have g6 : ¬ ri = q + 1 := by omega
      have g7 : ¬ q = 0 := by omega
      have g8 : ¬ 0 = q := by omega
      have g9 : ¬ r = ri := fun h => hne h.symm
      have g10 : ¬ 0 = r := by omega
      have g11 : ¬ r = 0 := by omega
      have g12 : ¬ ri = 0 := by omega
      have g13 : ¬ q + 1 = ri := by omega
      have g14 : ¬ q + 1 + 1 = ri := by omega
      have g15 : ¬ q + 1 + 1 + 1 = ri := by omega
      have g16 : ¬ ri = q + 1 + 1 := by omega
      have g17 : ¬ ri = q + 1 + 1 + 1 := by omega
      have g18 : ¬ q = q + 1 + 1 := by omega
      simp [loopAt, loopsOf, Tryz.f298, h0, hor, h51, hori, h52, h53, hi, hi', hwi, hxi, hr, hpt, hb1, hr1, dd, g1, g2, g3, g4, g5, g6, g7, g8, g9, g10, g11, g12, g13, g14, g15, g16, g17, g18, hne, hdd]
      exact ⟨acc' ++ 1 :: (escP xs[i].name ++ keyD d xs[i].v), by simp [hb1'], by omega, hp⟩)
    (by
      rintro s o q ⟨r, acc', h0, hor, hrq, h51, hori, hriq, hne, hr0, h52, h53, hdd, hp⟩
      simp at hp
      subst hp
      have g1 : ¬ r = q := by omega
      have g2 : ¬ q = r := by omega
      have g5 : ¬ r = q + 1 := by omega
      have g7 : ¬ q = 0 := by omega
      have g8 : ¬ 0 = q := by omega
      have g10 : ¬ 0 = r := by omega
      have g11 : ¬ r = 0 := by omega
      simp [loopAt, loopsOf, Tryz.f298, h0, hor, h51, hori, h52, h53, g1, g2, g5, g7, g8, g10, g11, hdd])
    xs.length 0 s o q (by omega) hI)
  simp only [loopAt, loopsOf, Tryz.f298] at lp
  obtain ⟨R, hR⟩ : ∃ R, R = ([] : Bytes) ++ [byteAt (v.k + 1) 0] ++ xs.flatMap F := ⟨_, rfl⟩
  obtain ⟨X, A, B, C, M, hl⟩ := lp 3 (by omega) R hR
  have hl' := fun s o q r a0 a1 a2 a3 a4 a5 a6 a7 a8 a9 a10 => hl s o q ⟨r, ([] : Bytes) ++ [byteAt (v.k + 1) 0], a0, a1, a2, a3, a4, a5, a6, a7, a8, a9, a10, by simpa using hR⟩
  clear hl lp
  have hlR : R.length + 1 ≤ 140737488355328 := by
    have h2 := congrArg List.length hR
    simp at h2 ha
    omega
  have hl1 : ([] : Bytes).length + 1 ≤ 140737488355328 := by simp at ha ⊢ <;> omega
  have hfin : ([] : Bytes) ++ byteAt (v.k + 1) 0 :: (xs.flatMap F ++ [0]) = R ++ [0] := by rw [hR]; simp
  rw [hfin]
  clear hfin hR ekey
  simp at hl'
  simp [e0, e1, e2, e3, e4, e5, hw, hu, hi, hl', hlR, hr1, hl1]
theorem putKey : ∀ (d : Nat) (v : Val) (acc : Bytes), okP d v = true → acc.length + (keyD d v).length + 4096 ≤ 70368744177664 → v.t.length < 1048576 → run E (.call 298 [.row 5 (acc.map byteT), xV v]) = some (.res [.row 5 ((acc ++ keyD d v).map byteT)] [none]) := by
  intro d
  induction d with
  | zero =>
    intro v acc h ha hv
    refine putKey_small_row 0 v acc h (by omega) hv ?_
    unfold okP at h
    by_cases h0 : v.k = 0; · omega
    by_cases h1 : v.k = 1; · omega
    by_cases h2 : v.k = 2; · omega
    by_cases h3 : v.k = 3; · omega
    simp [h0, h1, h2, h3] at h
  | succ d ih =>
    intro v acc h ha hv
    have hr := okP_range h
    by_cases h4 : v.k = 4
    · exact putKey_items_row d (fun v acc h1 h2 h3 => ih v acc h1 h2 h3) v acc h ha hv h4
    · by_cases h5 : v.k = 5
      · exact putKey_fields_row d (fun v acc h1 h2 h3 => ih v acc h1 h2 h3) v acc h ha hv h5
      · exact putKey_small_row (d + 1) v acc h (by omega) hv (by omega)
theorem putKeyNil (d : Nat) (v : Val) (h : okP d v = true) (hv : v.t.length < 1048576) : run E (.call 298 [.nil, xV v]) = some (.res [.row 5 ((keyD d v).map byteT)] [some .nil]) := by
  have hr := okP_range h
  have hl := keyD_len d v h
  cases d with
  | zero =>
    refine putKey_small_nil 0 v h (by simp) hv ?_
    unfold okP at h
    by_cases h0 : v.k = 0; · omega
    by_cases h1 : v.k = 1; · omega
    by_cases h2 : v.k = 2; · omega
    by_cases h3 : v.k = 3; · omega
    simp [h0, h1, h2, h3] at h
  | succ d =>
    by_cases h4 : v.k = 4
    · exact putKey_items_nil d (fun v acc h1 h2 h3 => putKey d v acc h1 h2 h3) v h (by simp; omega) hv h4
    · by_cases h5 : v.k = 5
      · exact putKey_fields_nil d (fun v acc h1 h2 h3 => putKey d v acc h1 h2 h3) v h (by simp; omega) hv h5
      · exact putKey_small_nil (d + 1) v h (by simp) hv (by omega)
theorem keyOf (d : Nat) (v : Val) (f : Bool) (h : okP d v = true) (hv : v.t.length < 1048576) : run E (.call 272 [xV v, xB f]) = some (.res [xS (if f then turnP (keyD d v) else keyD d v)] []) := by
  rw [run_call E 272 _ rfl Tryz.func272 rfl rfl rfl (by simp)]
  have h1 := putKeyNil d v h hv
  have hl := keyD_len d v h
  have h2 := fallen (keyD d v) f (by omega)
  cases f <;> simp at h2 <;> simp [h1, h2]
set_option maxHeartbeats 4000000
theorem byteAt_nat (n : Int) (j : Nat) (h0 : 0 ≤ n) : ((byteAt n j).toNat : Int) = n / 2 ^ (8 * j) % 256 := by
  rw [← byteAt_wrap]
  rw [Int.fdiv_eq_ediv_of_nonneg _ (Int.pow_nonneg (by omega))]
  simp [IntKind.wrap, IntKind.bits, IntKind.signed]
set_option maxHeartbeats 16000000
structure Ivl where
  low : Bytes
  high : Bytes
  opn : Bool
  deriving DecidableEq, Inhabited
abbrev ivlT (i : Ivl) : T := .agg [.str i.low, .str i.high, .bool i.opn]
abbrev ivlX (i : Ivl) : X := .agg [.t (.str i.low), .t (.str i.high), .t (.bool i.opn)]
/-- The least text behind all that begin with t, seen from its first n bytes. -/
def behindN (t : Bytes) : Nat → Option Bytes
  | 0 => none
  | n + 1 => match t[n]? with
    | some b => if b < 255 then some (t.take n ++ [b + 1]) else behindN t n
    | none => none
def behindP (t : Bytes) : Option Bytes := behindN t t.length
def beginP (t : Bytes) : Ivl := match behindP t with
  | some h => ⟨t, h, false⟩
  | none => ⟨t, [], true⟩
def minS (x y : Bytes) : Bytes := if (Op.bytesLess x y || x == y) = true then x else y
def maxS (x y : Bytes) : Bytes := if (!Op.bytesLess x y) = true then x else y
def meetP (a b : Ivl) : Ivl :=
  ⟨maxS a.low b.low, if a.opn && b.opn then [] else if a.opn then b.high else if b.opn then a.high else minS a.high b.high, a.opn && b.opn⟩
def keyI (v : Val) (f : Bool) : Bytes := if f then turnP (keyD 5 v) else keyD 5 v
def kindB (n : Int) (f : Bool) : Bytes := if f then turnP [byteAt n 0] else [byteAt n 0]
abbrev opnI : Ivl := ⟨[], [], true⟩
def flipO (op : Int) (f : Bool) : Int := if f then (if op = 3 then 5 else if op = 4 then 6 else if op = 5 then 3 else if op = 6 then 4 else op) else op
def implIv (t : Trm) (f : Bool) : Ivl :=
  if flipO t.op f = 1 then beginP (keyI t.v f)
  else if flipO t.op f = 9 then beginP (kindB (t.v.n + 1) f)
  else if flipO t.op f = 5 then { beginP ((keyI t.v f).take 1) with low := (beginP (keyI t.v f)).high }
  else if flipO t.op f = 6 then { beginP ((keyI t.v f).take 1) with low := keyI t.v f }
  else if flipO t.op f = 3 then { beginP ((keyI t.v f).take 1) with high := keyI t.v f }
  else if flipO t.op f = 4 then { beginP ((keyI t.v f).take 1) with high := (beginP (keyI t.v f)).high }
  else opnI
def specIv (t : Trm) (f : Bool) : Ivl :=
  if t.op = 1 then beginP (keyI t.v f)
  else if t.op = 3 ∨ t.op = 5 ∨ t.op = 4 ∨ t.op = 6 then
    if ((decide (t.op = 5) || decide (t.op = 6)) != f) = true then
      if t.op = 4 ∨ t.op = 6 then { beginP (kindB (t.v.k + 1) f) with low := (beginP (keyI t.v f)).low }
      else if (beginP (keyI t.v f)).opn then ⟨[], [], false⟩ else { beginP (kindB (t.v.k + 1) f) with low := (beginP (keyI t.v f)).high }
    else if t.op = 4 ∨ t.op = 6 then meetP (beginP (kindB (t.v.k + 1) f)) ⟨[], (beginP (keyI t.v f)).high, (beginP (keyI t.v f)).opn⟩
    else meetP (beginP (kindB (t.v.k + 1) f)) ⟨[], (beginP (keyI t.v f)).low, false⟩
  else if t.op = 9 then beginP (kindB (t.v.n + 1) f)
  else opnI
set_option maxHeartbeats 4000000
set_option maxHeartbeats 16000000
def saysB (t : Trm) : Bool := decide (t.op = 2) || decide (t.op = 7) || decide (t.op = 8) || decide (t.op = 10)
def hitB (p : Prt) (t : Trm) : Bool := t.path == p.path && !saysB t
def clauseI (p : Prt) (c : List Trm) : Ivl := match c.find? (hitB p) with
  | some t => implIv t p.desc
  | none => opnI
def clStep (p : Prt) (out : Ivl) (t : Trm) : Ivl := if ((t.path == p.path) && out.opn && (out.low == [])) = true then specIv t p.desc else out
abbrev ivlS (i : Ivl) : List SV := [.t (.str i.low), .t (.str i.high), .t (.bool i.opn)]
def trmS (t : Trm) : List SV := [.t (.int .i64 t.op), .t (.str t.path), .t (.int .i64 t.v.k), .t (.int .i64 t.v.n), .t (.str t.v.t)]
def termsOK (c : List Trm) : Prop := ∀ t ∈ c, okP 5 t.v = true ∧ opOK t.op t.v = true ∧ t.path.length < 4294967296
def flStep (p : Prt) (out : Ivl) (c : List Trm) : Ivl := ⟨minS out.low (clauseI p c).low, maxS out.high (clauseI p c).high, out.opn || (clauseI p c).opn⟩
def closeI (i : Ivl) : Ivl := if i.opn then ⟨i.low, [], true⟩ else i
def filterI (p : Prt) : List (List Trm) → Ivl
  | [] => opnI
  | c :: r => closeI (r.foldl (flStep p) (clauseI p c))
def clausesOK (f : List (List Trm)) : Prop := ∀ c ∈ f, c.length < 4294967296 ∧ termsOK c
theorem terms_ok {f : List (List Trm)} (h : filterOK f = true) (hs : filterSm f) : clausesOK f := by
  intro c hc
  have hcs := hs.2 c hc
  unfold filterOK at h
  simp only [Bool.and_eq_true] at h
  have hco := List.all_eq_true.1 h.2 c hc
  unfold clauseOK at hco
  simp only [Bool.and_eq_true] at hco
  refine ⟨hcs.1, fun t ht => ?_⟩
  have hto := List.all_eq_true.1 hco.2 t ht
  unfold termOK at hto
  simp only [Bool.and_eq_true] at hto
  exact ⟨hto.1.2, hto.2, (hcs.2 t ht).1⟩
/-- What FilterInterval answers. -/
def fivOut (f : List (List Trm)) (p : Prt) : Ivl × Int := if filterOK f && pathOK p.path then (filterI p f, 0) else (⟨[], [], false⟩, 1)
def matchC (c : List Trm) (doc : Val) : Bool := c.all (fun t => matchT t doc)
def matchF (f : List (List Trm)) (doc : Val) : Bool := f.any (fun c => matchC c doc)
abbrev valC (v : Val) : List T := [.int .i64 v.k, .int .i64 v.n, .str v.t]
theorem opOK_seven {v : Val} (h : opOK 7 v = true) : v.k = 4 := by
  unfold opOK at h
  simpa using h
theorem termM (t : Trm) (doc : Val) (h : okP 5 t.v = true ∧ opOK t.op t.v = true ∧ t.path.length < 4294967295) (hd : okP 5 doc = true) : run E (.call 113 [.t (trmT t), xV doc]) = some (.res [xB (matchT t doc)] []) :=
  implTerm t doc 5 (by omega) (opOK_range h.2.1) (fun e => by have := h.2.1; rw [e] at this; exact opOK_seven this) h.2.2 h.1 hd
theorem termS (t : Trm) (doc : Val) (h : okP 5 t.v = true ∧ opOK t.op t.v = true ∧ t.path.length < 4294967295) (hd : okP 5 doc = true) : run E (.call 252 [.t (trmT t), xV doc]) = some (.res [xB (matchT t doc)] []) :=
  specTerm t doc 5 (by omega) (opOK_range h.2.1) h.2.2 h.1 hd
/-- All terms are right. -/
def clsFit (c : List Trm) : Prop := c.length < 4294967295 ∧ ∀ t ∈ c, okP 5 t.v = true ∧ opOK t.op t.v = true ∧ t.path.length < 4294967295
def filFit (f : List (List Trm)) : Prop := f.length < 4294967295 ∧ ∀ c ∈ f, clsFit c
theorem pathOK_len {p : Bytes} (h : pathOK p = true) : p.length ≤ 50 := by
  unfold pathOK at h
  simp at h
  exact h.1.1
theorem fil_fit {f : List (List Trm)} (h : filterOK f = true) (hs : filterSm f) : filFit f := by
  have hc := terms_ok h hs
  unfold filterOK at h
  simp only [Bool.and_eq_true, decide_eq_true_eq] at h
  refine ⟨by have := h.1; omega, fun c hcm => ?_⟩
  have hck := List.all_eq_true.1 h.2 c hcm
  unfold clauseOK at hck
  simp only [Bool.and_eq_true, decide_eq_true_eq] at hck
  refine ⟨by have := hck.1; omega, fun t ht => ?_⟩
  obtain ⟨h1, h2, _⟩ := (hc c hcm).2 t ht
  have ht := List.all_eq_true.1 hck.2 t ht
  unfold termOK at ht
  simp only [Bool.and_eq_true] at ht
  have := pathOK_len ht.1.1
  exact ⟨h1, h2, by omega⟩
theorem matchClosT (t : Trm) (doc : Val) (h : okP 5 t.v = true ∧ opOK t.op t.v = true ∧ t.path.length < 4294967295) (hd : okP 5 doc = true) : run E (.call 112 [.t (trmT t), .dref (valC doc)]) = some (.res [xB (!matchT t doc)] []) := by
  rw [run_call E 112 _ rfl Tryz.func112 rfl rfl rfl (by simp)]
  simp [termM t doc h hd]
theorem matchClosC (c : List Trm) (doc : Val) (h : clsFit c) (hd : okP 5 doc = true) : run E (.call 111 [.t (clsT c), .dref (valC doc)]) = some (.res [xB (matchC c doc)] []) := by
  rw [run_call E 111 _ rfl Tryz.func111 rfl rfl rfl (by simp)]
  have hc := containsFunc_182_1 c 112 (valC doc) (fun t => !matchT t doc) (by have := h.1; omega) rfl (by simp) (fun t ht => matchClosT t doc (h.2 t ht) hd)
  rw [any_not_all] at hc
  simp [hc, matchC, -List.all_eq_true]
theorem implMatchF (f : List (List Trm)) (doc : Val) (h : filFit f) (hd : okP 5 doc = true) : run E (.call 49 [.t (filT f), xV doc]) = some (.res [xB (matchF f doc)] []) := by
  rw [run_call E 49 _ rfl Tryz.func49 rfl rfl rfl (by simp)]
  have hc := containsFunc_180_1 f 111 (valC doc) (fun c => matchC c doc) (by have := h.1; omega) rfl (by simp) (fun c hcm => matchClosC c doc (h.2 c hcm) hd)
  simp [hc, matchF, -List.any_eq_true]
theorem specMatchC (c : List Trm) (doc : Val) (h : clsFit c) (hd : okP 5 doc = true) : run E (.call 211 [.t (clsT c), xV doc]) = some (.res [xB (matchC c doc)] []) := by
  rw [run_call E 211 _ rfl Tryz.func211 rfl rfl rfl (by simp)]
  have d4 := d211_4
  simp [regionOf, findR, pick, Tryz.f211] at d4
  have dd := fun st => run_region_draw E st 4 _ d4
  clear d4
  have lp := fun b (hb : b = matchC c doc) => sk (fun s o q hI => loop_for (c := loopAt Tryz.f211 0) (N := 21)
    (fun i s o q => s 2 = .ptr 0 0 ∧ s 3 = .ptr 1 0 ∧ s 5 = .t (.int .i64 i) ∧ o 0 = .box 151 [.t (.list (c.map trmT))] ∧ o 1 = .box 38 [.t (.int .i64 doc.k), .t (.int .i64 doc.n), .t (.str doc.t)] ∧ b = (c.drop i).all (fun t => matchT t doc))
    (fun e s' o' q' => e = (if b then .exit 0 else .ret) ∧ (b = false → s' 4 = .t (.bool false))) c.length
    (by
      rintro i s o q hi ⟨g2, g3, g5, o0, o1, hp⟩
      have hi' : (i : Int) < (c.length : Int) := by omega
      have hwi := wrap_succ (n := i) (by have := h.1; omega)
      have hxi : c[i]? = some c[i] := List.getElem?_eq_getElem hi
      have ht := termS c[i] doc (h.2 _ (List.getElem_mem hi)) hd
      rw [List.drop_eq_getElem_cons hi, List.all_cons] at hp
      cases hok : matchT c[i] doc <;> simp [hok] at hp ht <;> simp [loopAt, loopsOf, Tryz.f211, dd, g2, g3, g5, o0, o1, hi', hxi, hwi, ht, hp])
    (by
      rintro s o q ⟨g2, g3, g5, o0, o1, hp⟩
      simp at hp
      simp [loopAt, loopsOf, Tryz.f211, g2, g3, g5, o0, o1, hp])
    c.length 0 s o q (by omega) hI)
  simp only [loopAt, loopsOf, Tryz.f211] at lp
  cases hb : matchC c doc with
  | true =>
    obtain ⟨X, A, B, C, hx⟩ := lp true hb.symm
    simp [matchC, -List.all_eq_true] at hx hb
    simp [hx, hb, -List.all_eq_true]
  | false =>
    obtain ⟨X, A, B, C, hx⟩ := lp false hb.symm
    simp [matchC, -List.all_eq_true, -List.all_eq_false] at hx hb
    simp [hx, hb, -List.all_eq_true, -List.all_eq_false]
theorem specMatchF (f : List (List Trm)) (doc : Val) (h : filFit f) (hd : okP 5 doc = true) : run E (.call 164 [.t (filT f), xV doc]) = some (.res [xB (matchF f doc)] []) := by
  rw [run_call E 164 _ rfl Tryz.func164 rfl rfl rfl (by simp)]
  have d4 := d164_4
  simp [regionOf, findR, pick, Tryz.f164] at d4
  have dd := fun st => run_region_draw E st 4 _ d4
  clear d4
  have lp := fun b (hb : b = matchF f doc) => sk (fun s o q hI => loop_for (c := loopAt Tryz.f164 0) (N := 20)
    (fun i s o q => s 2 = .ptr 0 0 ∧ s 3 = .ptr 1 0 ∧ s 5 = .t (.int .i64 i) ∧ o 0 = .box 34 [.t (.list (f.map clsT))] ∧ o 1 = .box 38 [.t (.int .i64 doc.k), .t (.int .i64 doc.n), .t (.str doc.t)] ∧ b = (f.drop i).any (fun c => matchC c doc))
    (fun e s' o' q' => e = (if b then .ret else .exit 0) ∧ (b = true → s' 4 = .t (.bool true))) f.length
    (by
      rintro i s o q hi ⟨g2, g3, g5, o0, o1, hp⟩
      have hi' : (i : Int) < (f.length : Int) := by omega
      have hwi := wrap_succ (n := i) (by have := h.1; omega)
      have hxi : f[i]? = some f[i] := List.getElem?_eq_getElem hi
      have ht := specMatchC f[i] doc (h.2 _ (List.getElem_mem hi)) hd
      rw [List.drop_eq_getElem_cons hi, List.any_cons] at hp
      cases hok : matchC f[i] doc <;> simp [hok] at hp ht <;> simp [loopAt, loopsOf, Tryz.f164, dd, g2, g3, g5, o0, o1, hi', hxi, hwi, ht, hp])
    (by
      rintro s o q ⟨g2, g3, g5, o0, o1, hp⟩
      simp at hp
      simp [loopAt, loopsOf, Tryz.f164, g2, g3, g5, o0, o1, hp])
    f.length 0 s o q (by omega) hI)
  simp only [loopAt, loopsOf, Tryz.f164] at lp
  cases hb : matchF f doc with
  | true =>
    obtain ⟨X, A, B, C, hx⟩ := lp true hb.symm
    simp [matchF, -List.any_eq_true] at hx hb
    simp [hx, hb, -List.any_eq_true]
  | false =>
    obtain ⟨X, A, B, C, hx⟩ := lp false hb.symm
    simp [matchF, -List.any_eq_true, -List.any_eq_false] at hx hb
    simp [hx, hb, -List.any_eq_true, -List.any_eq_false]
def matchesOut (f : List (List Trm)) (doc : Val) : Bool × Int := if filterOK f && isDocP doc then (matchF f doc, 0) else (false, 1)
theorem doc_ok {v : Val} (h : isDocP v = true) : okP 5 v = true ∧ v.k = 5 := by
  unfold isDocP valueOK at h
  simp only [Bool.and_eq_true, beq_iff_eq, decide_eq_true_eq] at h
  exact ⟨h.1, h.2⟩
end Go.Md
