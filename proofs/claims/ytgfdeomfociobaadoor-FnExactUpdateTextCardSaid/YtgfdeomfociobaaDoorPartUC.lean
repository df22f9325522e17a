/- spec's order of values: documents, and the whole. -/
import Derived.Test.YtgfdeomfociobaaDoorPartUB
import Derived.Lib.Join
import Derived.Lib.ItoaLen
import Derived.Test.YtgfdeomfociobaaDoorPartD
import Derived.Lib.LaidTab
import Derived.Stop.LaidErr
import Derived.ChangeVars
set_option linter.unusedSimpArgs false
set_option linter.unusedVariables false
namespace Go.Ud
open Go.Ev Go.Proofs Go.Pu
set_option maxRecDepth 100000
set_option maxHeartbeats 16000000
def fldO (d : Nat) (f g : Fld) : Int := orI (Lib.compareBytes f.name g.name) (ordD d f.v g.v)
theorem specFields_loop (d : Nat) (xs ys : List Fld) (hl : xs.length < 4294967296) (hl2 : ys.length < 4294967296) (hp : ∀ x ∈ xs, ∀ y ∈ ys, run E (.call 19 [xV x.v, xV y.v]) = some (.res [xI (ordD d x.v y.v)] []))
    (r : Int) (w : Bool) (hr : r = ordL (fldO d) xs ys) (hw : w = cutB (fldO d) xs ys) : ∀ s o q, (s 11 = .row 2 ∧ s 13 = .row 3 ∧ s 15 = .t (.int .i64 0) ∧ o 2 = .row 71 (xs.map fldT) true ∧ o 3 = .row 71 (ys.map fldT) true) →
    ∃ e s' o' q', run E (.code (.loop (loopAt Tryd.f19 1)) ⟨s, o, q, 182⟩) = some (.st e ⟨s', o', q', 182⟩) ∧ e = (if w then .exit 3 else .ret) ∧ s' 11 = .row 2 ∧ s' 13 = .row 3 ∧ o' 2 = .row 71 (xs.map fldT) true ∧ o' 3 = .row 71 (ys.map fldT) true ∧ (w = false → s' 4 = .t (.int .i64 r)) := by
  intro s o q hI
  have d24 := d19_24
  simp [regionOf, findR, pick, Tryd.f19] at d24
  have dd := fun st => run_region_draw E st 24 _ d24
  clear d24
  have d25 := d19_25
  simp [regionOf, findR, pick, Tryd.f19] at d25
  have de := fun st => run_region_draw E st 25 _ d25
  clear d25
  have d26 := d19_26
  simp [regionOf, findR, pick, Tryd.f19] at d26
  have df := fun st => run_region_draw E st 26 _ d26
  clear d26
  have b1 := l01Bit true
  have b0 := l01Bit false
  simp at b1 b0
  have w2 : IntKind.i64.wrap 2 = 2 := rfl
  have wm : IntKind.i64.wrap (-1) = -1 := rfl
  refine loop_wf (c := loopAt Tryd.f19 1) (N := 182)
    (fun k s o q => ∃ i : Nat, k = xs.length - i ∧ s 11 = .row 2 ∧ s 13 = .row 3 ∧ s 15 = .t (.int .i64 i) ∧ o 2 = .row 71 (xs.map fldT) true ∧ o 3 = .row 71 (ys.map fldT) true ∧ i ≤ xs.length ∧ i ≤ ys.length ∧ r = ordL (fldO d) (xs.drop i) (ys.drop i) ∧ w = cutB (fldO d) (xs.drop i) (ys.drop i))
    (fun e s' o' q' => e = (if w then .exit 3 else .ret) ∧ s' 11 = .row 2 ∧ s' 13 = .row 3 ∧ o' 2 = .row 71 (xs.map fldT) true ∧ o' 3 = .row 71 (ys.map fldT) true ∧ (w = false → s' 4 = .t (.int .i64 r)))
    ?_ xs.length s o q ⟨0, by omega, hI.1, hI.2.1, hI.2.2.1, hI.2.2.2.1, hI.2.2.2.2, Nat.zero_le _, Nat.zero_le _, by simpa using hr, by simpa using hw⟩
  rintro k s o q ⟨i, hk, h5, h7, h9, ho, ho2, hix, hiy, hr, hwr⟩
  have hwi := wrap_succ (n := i) (by omega)
  by_cases hx : i < xs.length
  · have hx' : (i : Int) < (xs.length : Int) := by omega
    have hxi : xs[i]? = some xs[i] := List.getElem?_eq_getElem hx
    rw [List.drop_eq_getElem_cons hx] at hr hwr
    by_cases hy : i < ys.length
    · have hy' : (i : Int) < (ys.length : Int) := by omega
      have hyi : ys[i]? = some ys[i] := List.getElem?_eq_getElem hy
      have hc := hp xs[i] (List.getElem_mem hx) ys[i] (List.getElem_mem hy)
      rw [List.drop_eq_getElem_cons hy] at hr hwr
      rw [ordL] at hr
      rw [cutB] at hwr
      by_cases hn : xs[i].name = ys[i].name
      · have hn' : (xs[i].name = ys[i].name) = True := eq_true hn
        have hf : fldO d xs[i] ys[i] = ordD d xs[i].v ys[i].v := by simp [fldO, hn, cmpB_refl, orI]
        rw [hf] at hr hwr
        clear hn
        by_cases hz : ordD d xs[i].v ys[i].v = 0
        · rw [hz] at hc
          simp [hz] at hr hwr
          simp [loopAt, loopsOf, Tryd.f19, dd, de, df, h5, h7, h9, ho, ho2, hx, hy, hx', hy', hxi, hyi, hc, hwi, hn']
          exact ⟨xs.length - (i + 1), by omega, i + 1, rfl, by simp, by omega, by omega, hr, hwr⟩
        · simp [hz] at hr hwr
          simp [loopAt, loopsOf, Tryd.f19, dd, de, df, h5, h7, h9, ho, ho2, hx, hy, hx', hy', hxi, hyi, hc, hwi, hz, hr, hwr, hn']
      · have hs := cmpB_sign _ _ hn
        have hn' : (xs[i].name = ys[i].name) = False := eq_false hn
        have hne : (xs[i].name == ys[i].name) = false := by simpa using hn
        cases hb : Op.bytesLess xs[i].name ys[i].name with
        | false =>
          have hf : fldO d xs[i] ys[i] = 1 := by simp [fldO, hs, hb, orI]
          simp [hf] at hr hwr
          simp [loopAt, loopsOf, Tryd.f19, dd, de, df, h5, h7, h9, ho, ho2, hx, hy, hx', hy', hxi, hyi, hc, hwi, hn', hne, hb, b1, b0, w2, wm, hr, hwr]
        | true =>
          have hf : fldO d xs[i] ys[i] = -1 := by simp [fldO, hs, hb, orI]
          simp [hf] at hr hwr
          simp [loopAt, loopsOf, Tryd.f19, dd, de, df, h5, h7, h9, ho, ho2, hx, hy, hx', hy', hxi, hyi, hc, hwi, hn', hne, hb, b1, b0, w2, wm, hr, hwr]
    · have hy' : ¬ (i : Int) < (ys.length : Int) := by omega
      have he : ys.drop i = [] := List.drop_eq_nil_of_le (by omega)
      rw [he, cutB] at hwr
      simp [loopAt, loopsOf, Tryd.f19, dd, h5, h7, h9, ho, ho2, hx, hy, hx', hy', hxi, hwi, hwr]
  · have hx' : ¬ (i : Int) < (xs.length : Int) := by omega
    have he : xs.drop i = [] := List.drop_eq_nil_of_le (by omega)
    rw [he, cutB] at hwr
    simp [loopAt, loopsOf, Tryd.f19, dd, h5, h7, h9, ho, ho2, hx, hx', hwi, hwr]
end Go.Ud
/- spec's order of values is impl's: the whole. -/
set_option linter.unusedSimpArgs false
set_option linter.unusedVariables false
namespace Go.Ud
open Go.Ev Go.Proofs Go.Pu
set_option maxRecDepth 100000
set_option maxHeartbeats 16000000
theorem cmpI_ne {a b : Int} (h : a ≠ b) : cmpI a b = if b < a then 1 else -1 := by
  unfold cmpI
  by_cases h1 : a < b
  · have : ¬ b < a := by omega
    simp [h1, this]
  · have : b < a := by omega
    simp [h1, this]
/-- Ahead of the bodies: kinds, numbers, one and the same text. -/
theorem specOrder_head (d : Nat) (a b : Val) (ha : okP d a = true) (hb : okP d b = true) (hal : a.t.length < 4294967296) (hbl : b.t.length < 4294967296) (h : ¬ (a.k = b.k ∧ a.n = b.n ∧ a.t ≠ b.t ∧ (a.k = 4 ∨ a.k = 5))) : run E (.call 19 [xV a, xV b]) = some (.res [xI (ordD d a b)] []) := by
  rw [run_call E 19 _ rfl Tryd.func19 rfl rfl rfl (by simp)]
  have b1 := l01Bit true
  have b0 := l01Bit false
  simp at b1 b0
  have w2 : IntKind.i64.wrap 2 = 2 := rfl
  have wm : IntKind.i64.wrap (-1) = -1 := rfl
  by_cases hk : a.k = b.k
  · by_cases hn : a.n = b.n
    · by_cases ht : a.t = b.t
      · have e : a = b := val_eq hk hn ht
        subst e
        rw [ordD_refl d a ha]
        simp
      · have hk4 : ¬ a.k = 4 := fun h4 => h ⟨hk, hn, ht, .inl h4⟩
        have hk5 : ¬ a.k = 5 := fun h5 => h ⟨hk, hn, ht, .inr h5⟩
        have h3 : a.k = 3 := by
          by_cases h3 : a.k = 3
          · exact h3
          · exact absurd ((okP_small ha h3 hk4 hk5).trans (okP_small hb (by omega) (by omega) (by omega)).symm) ht
        have ho : ordD d a b = Lib.compareBytes a.t b.t := by
          unfold ordD
          simp [hk, hn, cmpI_refl, orI]
          have e4 : ¬ b.k = 4 := by omega
          have e5 : ¬ b.k = 5 := by omega
          simp [e4, e5]
        rw [ho, cmpB_sign _ _ ht]
        have e3 : (a.k = 3) = True := eq_true h3
        have ek : (a.k = b.k) = True := eq_true hk
        have en : (a.n = b.n) = True := eq_true hn
        have et : (a.t = b.t) = False := eq_false ht
        have hne : (a.t == b.t) = false := by simpa using ht
        clear h3 hk hn ho
        cases hbl : Op.bytesLess a.t b.t <;> simp [e3, ek, en, et, hne, hbl, b1, b0, w2, wm]
    · have ho : ordD d a b = cmpI a.n b.n := by
        have : ¬ cmpI a.n b.n = 0 := by rw [cmpI_eq]; exact hn
        unfold ordD
        simp [hk, cmpI_refl, orI, this]
      rw [ho, cmpI_ne hn]
      have ek : (a.k = b.k) = True := eq_true hk
      have en : (a.n = b.n) = False := eq_false hn
      clear hk ho h
      by_cases hlt : b.n < a.n <;> simp [ek, en, hlt, b1, b0, w2, wm]
  · have ho : ordD d a b = cmpI a.k b.k := by
      have : ¬ cmpI a.k b.k = 0 := by rw [cmpI_eq]; exact hk
      unfold ordD
      simp [orI, this]
    rw [ho, cmpI_ne hk]
    have ek : (a.k = b.k) = False := eq_false hk
    clear ho h
    by_cases hlt : b.k < a.k <;> simp [ek, hlt, b1, b0, w2, wm]
theorem specOrder : ∀ (d : Nat) (a b : Val), okP d a = true → okP d b = true → a.t.length < 4294967296 → b.t.length < 4294967296 → run E (.call 19 [xV a, xV b]) = some (.res [xI (ordD d a b)] []) := by
  intro d
  induction d with
  | zero =>
    intro a b ha hb hal hbl
    refine specOrder_head 0 a b ha hb hal hbl ?_
    rintro ⟨_, _, _, h4 | h5⟩
    · obtain ⟨e, _, hd, _⟩ := okP_list ha h4; omega
    · obtain ⟨e, _, hd, _⟩ := okP_doc ha h5; omega
  | succ d ih =>
    intro a b ha hb hal hbl
    by_cases hh : a.k = b.k ∧ a.n = b.n ∧ a.t ≠ b.t ∧ (a.k = 4 ∨ a.k = 5)
    · obtain ⟨hk, hn, ht, h45⟩ := hh
      have b1 := l01Bit true
      have b0 := l01Bit false
      simp at b1 b0
      have w2 : IntKind.i64.wrap 2 = 2 := rfl
      have wm : IntKind.i64.wrap (-1) = -1 := rfl
      have ek : (a.k = b.k) = True := eq_true hk
      have en : (a.n = b.n) = True := eq_true hn
      have et : (a.t = b.t) = False := eq_false ht
      have hne : (a.t == b.t) = false := by simpa using ht
      have hnz : ¬ ordD (d + 1) a b = 0 := fun h0 => ht (by rw [ordD_zero (d + 1) a b ha hb h0])
      rw [run_call E 19 _ rfl Tryd.func19 rfl rfl rfl (by simp)]
      by_cases h4 : a.k = 4
      · obtain ⟨e, xs, hd, _, hi, hx⟩ := okP_list ha h4
        obtain ⟨e', ys, hd', _, hi', hy⟩ := okP_list hb (by omega)
        obtain rfl : d = e := by omega
        obtain rfl : d = e' := by omega
        obtain ⟨s1, s2⟩ := items_small hi
        obtain ⟨t1, t2⟩ := items_small hi'
        have i1 := l01Items a.t hal
        have i2 := l01Items b.t hbl
        rw [hi] at i1
        rw [hi'] at i2
        simp only [itemsX] at i1 i2
        have ho : ordD (d + 1) a b = ordL (ordD d) xs ys := by
          unfold ordD
          have e4 : b.k = 4 := by omega
          simp [hk, hn, cmpI_refl, orI, e4, itemsL, hi, hi']
        rw [ho] at hnz ⊢
        have e3 : (a.k = 3) = False := by simp; omega
        have e4 : (a.k = 4) = True := eq_true h4
        clear h4 h45 hk hn ho
        obtain ⟨w, hw⟩ : ∃ w, w = cutB (ordD d) xs ys := ⟨_, rfl⟩
        obtain ⟨X, A, B, C, hl⟩ := sk (specItems_loop d xs ys (by omega) (by omega) (fun x hx' y hy' => ih x y (hx x hx') (hy y hy') (by have := s2 x hx'; omega) (by have := t2 y hy'; omega)) _ w rfl hw)
        simp only [loopAt, loopsOf, Tryd.f19] at hl
        cases w with
        | true =>
          have hr := cutB_ord hw.symm
          have hlt1 : ((ys.length : Int) < (xs.length : Int)) = (ys.length < xs.length) := by simp
          simp at hl
          by_cases h1 : ys.length < xs.length
          · have h2 : ¬ xs.length < ys.length := by omega
            rw [hr, if_neg h2, if_pos h1]
            simp [ek, en, et, hne, e3, e4, i1, i2, hl, h1, hlt1, b1, b0, w2, wm]
          · have h2 : xs.length < ys.length := by
              by_cases h2 : xs.length < ys.length
              · exact h2
              · rw [hr, if_neg h2, if_neg h1] at hnz; exact absurd rfl hnz
            rw [hr, if_pos h2]
            simp [ek, en, et, hne, e3, e4, i1, i2, hl, h1, hlt1, b1, b0, w2, wm]
        | false =>
          simp at hl
          simp [ek, en, et, hne, e3, e4, i1, i2, hl, b1, b0, w2, wm]
      · have h5 : a.k = 5 := by omega
        obtain ⟨e, xs, hd, _, hi, _, hx⟩ := okP_doc ha h5
        obtain ⟨e', ys, hd', _, hi', _, hy⟩ := okP_doc hb (by omega)
        obtain rfl : d = e := by omega
        obtain rfl : d = e' := by omega
        obtain ⟨s1, s2⟩ := fields_small hi
        obtain ⟨t1, t2⟩ := fields_small hi'
        have i1 := l01Fields a.t hal
        have i2 := l01Fields b.t hbl
        rw [hi] at i1
        rw [hi'] at i2
        simp only [fieldsX] at i1 i2
        have ho : ordD (d + 1) a b = ordL (fldO d) xs ys := by
          unfold ordD
          have e4 : ¬ b.k = 4 := by omega
          have e5 : b.k = 5 := by omega
          simp [hk, hn, cmpI_refl, orI, e4, e5, fieldsL, hi, hi']
          rfl
        rw [ho] at hnz ⊢
        have e3 : (a.k = 3) = False := by simp; omega
        have e4 : (a.k = 4) = False := eq_false h4
        clear h4 h5 h45 hk hn ho
        obtain ⟨w, hw⟩ : ∃ w, w = cutB (fldO d) xs ys := ⟨_, rfl⟩
        obtain ⟨X, A, B, C, hl⟩ := sk (specFields_loop d xs ys (by omega) (by omega) (fun x hx' y hy' => ih x.v y.v (hx x hx').2 (hy y hy').2 (by have := s2 x hx'; omega) (by have := t2 y hy'; omega)) _ w rfl hw)
        simp only [loopAt, loopsOf, Tryd.f19] at hl
        cases w with
        | true =>
          have hr := cutB_ord hw.symm
          have hlt1 : ((ys.length : Int) < (xs.length : Int)) = (ys.length < xs.length) := by simp
          simp at hl
          by_cases h1 : ys.length < xs.length
          · have h2 : ¬ xs.length < ys.length := by omega
            rw [hr, if_neg h2, if_pos h1]
            simp [ek, en, et, hne, e3, e4, i1, i2, hl, h1, hlt1, b1, b0, w2, wm]
          · have h2 : xs.length < ys.length := by
              by_cases h2 : xs.length < ys.length
              · exact h2
              · rw [hr, if_neg h2, if_neg h1] at hnz; exact absurd rfl hnz
            rw [hr, if_pos h2]
            simp [ek, en, et, hne, e3, e4, i1, i2, hl, h1, hlt1, b1, b0, w2, wm]
        | false =>
          simp at hl
          simp [ek, en, et, hne, e3, e4, i1, i2, hl, b1, b0, w2, wm]
    · exact specOrder_head (d + 1) a b ha hb hal hbl hh
end Go.Ud
/- Keys: texts with their ends marked, turned bytes; spec's functions. -/
set_option linter.unusedSimpArgs false
set_option linter.unusedVariables false
namespace Go.Ud
open Go.Ev Go.Proofs Go.Pu
set_option maxRecDepth 100000
set_option maxHeartbeats 16000000
/-- A text's bytes with its zeros marked. -/
def escGo : Bytes → Bytes
  | [] => []
  | b :: r => (if b = 0 then [b, 255] else [b]) ++ escGo r
def escP (t : Bytes) : Bytes := escGo t ++ [0, 0]
def turnB (b : UInt8) : UInt8 := 255 - b
def turnP (t : Bytes) : Bytes := t.map turnB
theorem escGo_len : ∀ (t : Bytes), (escGo t).length ≤ 2 * t.length
  | [] => by simp [escGo]
  | b :: r => by
    have := escGo_len r
    unfold escGo
    split <;> simp <;> omega
theorem turn_wrap (b : UInt8) : IntKind.u8.wrap (255 - (b.toNat : Int)) = ((turnB b).toNat : Int) := by
  have hb : b.toNat < 256 := b.toNat_lt
  have h : (255 - b).toNat = 255 - b.toNat := by
    rw [UInt8.toNat_sub]
    simp
    omega
  unfold turnB
  rw [h]
  simp [IntKind.wrap, IntKind.bits, IntKind.signed]
  omega
theorem toBytes_app (l : Bytes) (m : List T) : toBytes (l.map byteT ++ m) = (toBytes m).map (l ++ ·) := by
  induction l with
  | nil => simp [toBytes]
  | cons b r ih =>
    simp only [List.map_cons, List.cons_append, toBytes, ih]
    cases toBytes m <;> simp
theorem toBytes_map (l : Bytes) : toBytes (l.map byteT) = some l := by
  have := toBytes_app l []
  simpa [toBytes] using this
end Go.Ud
/- Keys: numbers' bytes (spec's l01Number), spec's l04Raw, l04Key. -/
set_option linter.unusedSimpArgs false
set_option linter.unusedVariables false
namespace Go.Ud
open Go.Ev Go.Proofs Go.Pu
set_option maxRecDepth 100000
set_option maxHeartbeats 16000000
/-- A number's byte at a place. -/
def byteAt (n : Int) (j : Nat) : UInt8 := UInt8.ofNat (IntKind.u8.wrap (n.fdiv (2 ^ (8 * j)))).toNat
theorem byteAt_wrap (n : Int) (j : Nat) : IntKind.u8.wrap (n.fdiv (2 ^ (8 * j))) = ((byteAt n j).toNat : Int) := by
  unfold byteAt
  have h : 0 ≤ IntKind.u8.wrap (n.fdiv (2 ^ (8 * j))) ∧ IntKind.u8.wrap (n.fdiv (2 ^ (8 * j))) < 256 := by
    simp [IntKind.wrap, IntKind.bits, IntKind.signed]
    omega
  generalize IntKind.u8.wrap (n.fdiv (2 ^ (8 * j))) = m at *
  rw [UInt8.toNat_ofNat']
  omega
/-- A number's bytes from the place k - 1 downwards. -/
def numP (n : Int) : Nat → Bytes
  | 0 => []
  | k + 1 => byteAt n k :: numP n k
theorem numP_len (n : Int) : ∀ k, (numP n k).length = k
  | 0 => rfl
  | k + 1 => by simp [numP, numP_len n k]
theorem l01Number (n : Int) (k : Nat) (hk : k ≤ 8) : run E (.call 82 [xI n, xI k]) = some (.res [xS (numP n k)] []) := by
  rw [run_call E 82 _ rfl Tryd.func82 rfl rfl rfl (by simp)]
  have lp := sk1 (fun s o q hI => loop_for (c := loopAt Tryd.f82 0) (N := 25)
    (fun i s o q => ∃ r l, s 0 = .t (.int .i64 n) ∧ s 5 = .row r ∧ s 6 = .t (.int .i64 ((k : Int) - 1 - i)) ∧ o r = .row 5 (l.map byteT) true ∧ r < q ∧ l.length = i ∧ numP n k = l ++ numP n (k - i))
    (fun e s' o' q' => ∃ r, e = .exit 0 ∧ s' 5 = .row r ∧ o' r = .row 5 ((numP n k).map byteT) true) k
    (by
      rintro i s o q hi ⟨r, l, h0, h5, h6, ho, hrq, hl, hp⟩
      have hge : (0 : Int) ≤ (k : Int) - 1 - i := by omega
      obtain ⟨j, hj⟩ : ∃ j : Nat, k = j + 1 + i := ⟨k - 1 - i, by omega⟩
      have hjj : (k : Int) - 1 - i = j := by omega
      have hki : k - i = j + 1 := by omega
      have hki2 : k - (i + 1) = j := by omega
      rw [hki, numP] at hp
      rw [hjj] at h6
      have hw : IntKind.i64.wrap ((j : Int) - 1) = (k : Int) - 1 - ((i + 1 : Nat) : Int) := by rw [wrap_of (by omega) (by omega)]; omega
      have hw8 : IntKind.i64.wrap (8 * (j : Int)) = ((8 * j : Nat) : Int) := by rw [wrap_of (by omega) (by omega)]; omega
      have hwu := wrap_u64 (n := 8 * j) (by omega)
      have hmin : min (8 * j) IntKind.i64.bits = 8 * j := by simp [IntKind.bits]; omega
      have hj0 : (0 : Int) ≤ (j : Int) := by omega
      have hrn : r ≠ q := by omega
      have hrn2 : r ≠ q + 1 := by omega
      have hqn : q ≠ r := by omega
      have hpl : l.length + 1 ≤ 140737488355328 := by omega
      have hb := byteAt_wrap n j
      have hneg : ¬ (8 * (j : Int) < 0) := by omega
      have hnat : (8 * (j : Int)).toNat = 8 * j := by omega
      simp at hw hw8 hwu
      simp [loopAt, loopsOf, Tryd.f82, h0, h5, h6, ho, hrn, hrn2, hqn, hw, hw8, hwu, hmin, hb, hpl, hneg, hnat]
      exact ⟨l ++ [byteAt n j], by simp, by simp [hl], by rw [hp, hki2]; simp⟩)
    (by
      rintro s o q ⟨r, l, h0, h5, h6, ho, hrq, hl, hp⟩
      have h6' : s 6 = .t (.int .i64 (-1)) := by rw [h6]; congr 2; omega
      simp [numP] at hp
      simp [loopAt, loopsOf, Tryd.f82, h0, h5, h6', ho, hp])
    k 0 s o q (by omega) hI)
  simp only [loopAt, loopsOf, Tryd.f82] at lp
  obtain ⟨X, A, B, C, M, hx⟩ := lp
  have hx' := fun s o q r a0 a5 a6 a7 a8 => hx s o q ⟨r, [], a0, a5, a6, a7, a8, rfl, by simp⟩
  clear hx
  simp at hx'
  have hb := toBytes_map (numP n k)
  have hw : IntKind.i64.wrap ((k : Int) - 1) = (k : Int) - 1 := wrap_of (by omega) (by omega)
  simp [hx', hb, hw]
end Go.Ud
/- Keys of values: what they are, how long, spec's l04Raw and l04Key. -/
set_option linter.unusedSimpArgs false
set_option linter.unusedVariables false
namespace Go.Ud
open Go.Ev Go.Proofs Go.Pu
set_option maxRecDepth 100000
set_option maxHeartbeats 16000000
def headK (v : Val) : Bytes := numP (v.k + 1) 1
/-- A value's key. -/
def keyD : Nat → Val → Bytes
  | d, v =>
    if v.k = 0 then headK v
    else if v.k = 1 then headK v ++ numP v.n 1
    else if v.k = 2 then headK v ++ numP (v.n + 4611686018427387904) 8
    else if v.k = 3 then headK v ++ escP v.t
    else match d with
      | 0 => []
      | d + 1 =>
        if v.k = 4 then headK v ++ (itemsL v.t).flatMap (keyD d) ++ [0]
        else headK v ++ (fieldsL v.t).flatMap (fun f => [1] ++ escP f.name ++ keyD d f.v) ++ [0]
theorem escP_len (t : Bytes) : (escP t).length ≤ 2 * t.length + 2 := by
  have := escGo_len t
  simp [escP]; omega
def sumL {α : Type} (f : α → Nat) : List α → Nat
  | [] => 0
  | x :: r => f x + sumL f r
theorem flat_len {α : Type} {f : α → Bytes} {g : α → Nat} : ∀ {l : List α}, (∀ x ∈ l, (f x).length ≤ 11 * g x) → (l.flatMap f).length ≤ 11 * sumL g l
  | [], _ => by simp
  | x :: r, h => by
    have h1 := h x (by simp)
    have h2 := flat_len (f := f) (g := g) (l := r) (fun y hy => h y (by simp [hy]))
    simp [sumL]; simp at h2; omega
theorem items_sum : ∀ {xs : List Val} {t : Bytes}, itemsP t = some xs → sumL (fun x => x.t.length + 1) xs ≤ t.length
  | xs, t, h => by
    rcases items_cases h with ⟨rfl, rfl⟩ | ⟨v, r, ys, h1, h2, rfl⟩
    · simp [sumL]
    · have := nextP_len h1
      have := items_sum h2
      simp [sumL]; omega
  termination_by xs => xs.length
  decreasing_by simp_all
theorem fields_sum : ∀ {xs : List Fld} {t : Bytes}, fieldsP t = some xs → sumL (fun f => f.name.length + f.v.t.length + 2) xs ≤ t.length
  | xs, t, h => by
    rcases fields_cases h with ⟨rfl, rfl⟩ | ⟨b, q, v, r, ys, rfl, h0, h1, h2, rfl⟩
    · simp [sumL]
    · have := nextP_len h1
      have := fields_sum h2
      simp at *
      simp [sumL]; omega
  termination_by xs => xs.length
  decreasing_by simp_all
theorem keyD_len : ∀ (d : Nat) (v : Val), okP d v = true → (keyD d v).length ≤ 11 * (v.t.length + 1) := by
  intro d
  induction d with
  | zero =>
    intro v h
    unfold keyD headK
    have := escP_len v.t
    split
    · simp [numP_len]; omega
    · split
      · simp [numP_len]; omega
      · split
        · simp [numP_len]; omega
        · split
          · simp [numP_len]; omega
          · simp
  | succ d ih =>
    intro v h
    have he := escP_len v.t
    by_cases h0 : v.k = 0
    · simp [keyD, headK, h0, numP_len]; omega
    by_cases h1 : v.k = 1
    · simp [keyD, headK, h1, numP_len]; omega
    by_cases h2 : v.k = 2
    · simp [keyD, headK, h2, numP_len]; omega
    by_cases h3 : v.k = 3
    · simp [keyD, headK, h3, numP_len]; omega
    by_cases h4 : v.k = 4
    · obtain ⟨e, xs, hd, _, hi, hx⟩ := okP_list h h4
      obtain rfl : d = e := by omega
      have hf := flat_len (f := keyD d) (g := fun x => x.t.length + 1) (l := xs) (fun x hm => ih x (hx x hm))
      have hs := items_sum hi
      have e : itemsL v.t = xs := by simp [itemsL, hi]
      simp [keyD, headK, h4, e, numP_len]
      simp at hf
      omega
    · have h5 : v.k = 5 := by
        unfold okP at h
        simp [h0, h1, h2, h3, h4] at h
        exact h.1
      obtain ⟨e, fs, hd, _, hi, _, hx⟩ := okP_doc h h5
      obtain rfl : d = e := by omega
      have hf := flat_len (f := fun f : Fld => [1] ++ escP f.name ++ keyD d f.v) (g := fun f => f.name.length + f.v.t.length + 2) (l := fs) (fun f hm => by
        have h1 := ih f.v (hx f hm).2
        have h2 := escP_len f.name
        simp; omega)
      have hs := fields_sum hi
      have e : fieldsL v.t = fs := by simp [fieldsL, hi]
      simp [keyD, headK, h5, e, numP_len]
      simp at hf
      omega
end Go.Ud
/- What a path comes to: spec's l02Get. -/
set_option linter.unusedSimpArgs false
set_option linter.unusedVariables false
namespace Go.Ud
open Go.Ev Go.Proofs Go.Pu
set_option maxRecDepth 100000
set_option maxHeartbeats 16000000
theorem flat_le {α β : Type} {f : α → List β} {g : α → Nat} : ∀ {l : List α}, (∀ x ∈ l, (f x).length ≤ g x) → (l.flatMap f).length ≤ sumL g l
  | [], _ => by simp
  | x :: r, h => by
    have h1 := h x (by simp)
    have h2 := flat_le (f := f) (g := g) (l := r) (fun y hy => h y (by simp [hy]))
    simp [sumL]; simp at h2; omega
theorem itemsL_sum (t : Bytes) : sumL (fun x => x.t.length + 1) (itemsL t) ≤ t.length := by
  unfold itemsL
  cases h : itemsP t with
  | none => simp [sumL]
  | some xs => exact items_sum h
theorem itemsL_len (t : Bytes) : (itemsL t).length ≤ t.length ∧ ∀ x ∈ itemsL t, x.t.length < t.length := by
  unfold itemsL
  cases h : itemsP t with
  | none => simp
  | some xs => exact items_small h
theorem fieldP_len {v x : Val} {w : Bytes} (h : fieldP v w = some x) : x.t.length < v.t.length := by
  unfold fieldP fieldsL at h
  cases hf : fieldsP v.t with
  | none => simp [hf] at h
  | some fs =>
    rw [hf] at h
    simp only [Option.getD_some, Option.map_eq_some_iff] at h
    obtain ⟨f, h1, rfl⟩ := h
    exact ((fields_small hf).2 f (List.mem_of_find?_eq_some h1)).1
/-- A name, then the rest of a path. -/
def oneP (w : Bytes) (ws : List Bytes) (x : Val) : List Val := match fieldP x w with
  | none => []
  | some y => getP ws y
theorem getP_cons (w : Bytes) (ws : List Bytes) (v : Val) : getP (w :: ws) v = if v.k = 5 then oneP w ws v else if v.k = 4 then (itemsL v.t).flatMap (fun x => if x.k = 5 then oneP w ws x else []) else [] := rfl
theorem getP_len : ∀ (ws : List Bytes) (v : Val), (getP ws v).length ≤ v.t.length + 1
  | [], v => by
    unfold getP
    have := (itemsL_len v.t).1
    split <;> simp <;> omega
  | w :: ws, v => by
    have one : ∀ x : Val, (oneP w ws x).length ≤ x.t.length + 1 := by
      intro x
      unfold oneP
      cases h : fieldP x w with
      | none => simp
      | some y =>
        have := fieldP_len h
        have := getP_len ws y
        simp only; omega
    rw [getP_cons]
    split
    · exact one v
    · split
      · have := flat_le (f := fun x : Val => if x.k = 5 then oneP w ws x else []) (g := fun x => x.t.length + 1) (l := itemsL v.t) (fun x _ => by
          by_cases h : x.k = 5
          · rw [if_pos h]; exact one x
          · rw [if_neg h]; simp)
        have := itemsL_sum v.t
        omega
      · simp
theorem itemsX_L (t : Bytes) : ∃ b, itemsX (itemsP t) = [.row 26 ((itemsL t).map valT), xB b] := by
  unfold itemsL
  cases itemsP t with
  | none => exact ⟨false, rfl⟩
  | some xs => exact ⟨true, rfl⟩
end Go.Ud
/- What a path comes to: spec's l02Get, l02Values. -/
set_option linter.unusedSimpArgs false
set_option linter.unusedVariables false
namespace Go.Ud
open Go.Ev Go.Proofs Go.Pu
set_option maxRecDepth 100000
set_option maxHeartbeats 16000000
end Go.Ud
/- What a path comes to: impl's comesTo. -/
set_option linter.unusedSimpArgs false
set_option linter.unusedVariables false
namespace Go.Ud
open Go.Ev Go.Proofs Go.Pu
set_option maxRecDepth 100000
set_option maxHeartbeats 16000000
theorem fieldI_ok {d : Nat} {v : Val} (h : okP d v = true) (hk : v.k = 5) (w : Bytes) : fieldI v w = fieldP v w := by
  obtain ⟨e, fs, _, _, hf, hr, _⟩ := okP_doc h hk
  exact fieldI_eq w hf hr
theorem fieldP_ok {d : Nat} {v y : Val} {w : Bytes} (h : okP d v = true) (hk : v.k = 5) (hx : fieldP v w = some y) : ∃ e, okP e y = true := by
  obtain ⟨e, fs, _, _, hf, hr, hall⟩ := okP_doc h hk
  unfold fieldP fieldsL at hx
  rw [hf] at hx
  simp only [Option.getD_some, Option.map_eq_some_iff] at hx
  obtain ⟨f, h1, rfl⟩ := hx
  exact ⟨e, (hall f (List.mem_of_find?_eq_some h1)).2⟩
end Go.Ud
/- One value against a term: spec's l03One. -/
set_option linter.unusedSimpArgs false
set_option linter.unusedVariables false
namespace Go.Ud
open Go.Ev Go.Proofs Go.Pu
set_option maxRecDepth 100000
set_option maxHeartbeats 16000000
def sameV (a b : Val) : Bool := (a.k == b.k) && ((a.n == b.n) && (a.t == b.t))
/-- One value against a term whose value is v. -/
def oneT (op : Int) (v x : Val) : Bool :=
  if op = 1 then sameV x v
  else if op = 2 then sameV x v
  else if op = 3 then (x.k == v.k) && decide (ordD 5 x v < 0)
  else if op = 4 then (x.k == v.k) && decide (ordD 5 x v ≤ 0)
  else if op = 5 then (x.k == v.k) && decide (0 < ordD 5 x v)
  else if op = 6 then (x.k == v.k) && decide (0 ≤ ordD 5 x v)
  else if op = 7 then (itemsL v.t).any (fun y => sameV y x)
  else if op = 9 then x.k == v.n
  else (x.k == 4) && (((itemsL x.t).length : Int) == v.n)
abbrev valBox (x : Val) : Ob := .box 26 [.t (.int .i64 x.k), .t (.int .i64 x.n), .t (.str x.t)]
end Go.Ud
/- One value against a term: spec's l03One whole, impl's holds. -/
set_option linter.unusedSimpArgs false
set_option linter.unusedVariables false
namespace Go.Ud
open Go.Ev Go.Proofs Go.Pu
set_option maxRecDepth 100000
set_option maxHeartbeats 16000000
end Go.Ud
/- One value against a term: impl's holds, whole. -/
set_option linter.unusedSimpArgs false
set_option linter.unusedVariables false
namespace Go.Ud
open Go.Ev Go.Proofs Go.Pu
set_option maxRecDepth 100000
set_option maxHeartbeats 16000000
end Go.Ud
/- One value against a term: impl's holds, whole; a term against a document: spec. -/
set_option linter.unusedSimpArgs false
set_option linter.unusedVariables false
namespace Go.Ud
open Go.Ev Go.Proofs Go.Pu
set_option maxRecDepth 100000
set_option maxHeartbeats 16000000
theorem sameV_comm (a b : Val) : sameV a b = sameV b a := by
  rw [Bool.eq_iff_iff]
  simp only [sameV, Bool.and_eq_true, beq_iff_eq]
  constructor <;> rintro ⟨h1, h2, h3⟩ <;> exact ⟨h1.symm, h2.symm, h3.symm⟩
theorem itemsI_ok {d : Nat} {v : Val} (h : okP d v = true) : v.k = 4 ∨ v.t = [] ∨ v.k ≠ 4 := by
  by_cases hk : v.k = 4
  · exact .inl hk
  · exact .inr (.inr hk)
end Go.Ud
/- A term against a document: spec's l03Term, TermMatches. -/
set_option linter.unusedSimpArgs false
set_option linter.unusedVariables false
namespace Go.Ud
open Go.Ev Go.Proofs Go.Pu
set_option maxRecDepth 100000
set_option maxHeartbeats 16000000
theorem okP_up : ∀ (d e : Nat) (v : Val), d ≤ e → okP d v = true → okP e v = true
  | 0, e, v, _, h => by
    unfold okP at h ⊢
    split at h
    · rename_i hk; simp only [hk, if_true]; exact h
    · rename_i h0
      split at h
      · rename_i h1; simp only [h1]; simpa using h
      · rename_i h1
        split at h
        · rename_i h2; simp only [h2]; simpa using h
        · rename_i h2
          split at h
          · rename_i h3; simp only [h3]; simpa using h
          · cases h
  | d + 1, 0, v, hle, _ => by omega
  | d + 1, e + 1, v, hle, h => by
    by_cases h4 : v.k = 4
    · obtain ⟨d', xs, hd, hn, hi, hx⟩ := okP_list h h4
      obtain rfl : d = d' := by omega
      have hl : v.t.length ≤ 300 := by unfold okP at h; simp [h4] at h; exact h.1.2
      unfold okP
      simp [h4, hn, hi, hl]
      exact fun x hm => okP_up d e x (by omega) (hx x hm)
    · by_cases h5 : v.k = 5
      · obtain ⟨d', fs, hd, hn, hi, hr, hx⟩ := okP_doc h h5
        obtain rfl : d = d' := by omega
        have hl : v.t.length ≤ 300 := by unfold okP at h; simp [h5] at h; exact h.1.2
        unfold okP
        simp [h5, hn, hi, hr, hl]
        exact fun f hm => ⟨(hx f hm).1, okP_up d e f.v (by omega) (hx f hm).2⟩
      · unfold okP at h ⊢
        simp only [h4, h5, if_false] at h ⊢
        exact h
theorem okP_size {d : Nat} {v : Val} (h : okP d v = true) : v.t.length ≤ 300 := by
  by_cases h3 : v.k = 3
  · unfold okP at h; simp [h3] at h; exact h.2
  by_cases h4 : v.k = 4
  · obtain ⟨e, _, rfl, _⟩ := okP_list h h4
    unfold okP at h; simp [h4] at h; exact h.1.2
  by_cases h5 : v.k = 5
  · obtain ⟨e, _, rfl, _⟩ := okP_doc h h5
    unfold okP at h; simp [h5] at h; exact h.1.2
  rw [okP_small h h3 h4 h5]; simp
end Go.Ud
/- A term against a document: spec's l03Term. -/
set_option linter.unusedSimpArgs false
set_option linter.unusedVariables false
namespace Go.Ud
open Go.Ev Go.Proofs Go.Pu
set_option maxRecDepth 100000
set_option maxHeartbeats 16000000
theorem getP_ok : ∀ (ws : List Bytes) (d : Nat) (v : Val), d ≤ 5 → okP d v = true → ∀ y ∈ getP ws v, okP 5 y = true
  | [], d, v, hd, h, y, hy => by
    unfold getP at hy
    rcases List.mem_cons.1 hy with rfl | hy
    · exact okP_up d 5 _ hd h
    · by_cases h4 : v.k = 4
      · obtain ⟨e, xs, he, _, hi, hx⟩ := okP_list h h4
        rw [if_pos h4] at hy
        simp [itemsL, hi] at hy
        exact okP_up e 5 y (by omega) (hx y hy)
      · rw [if_neg h4] at hy; simp at hy
  | w :: ws, d, v, hd, h, y, hy => by
    have one : ∀ (e : Nat) (x : Val), e ≤ 5 → okP e x = true → x.k = 5 → y ∈ oneP w ws x → okP 5 y = true := by
      intro e x he hx hk hy
      unfold oneP at hy
      cases hf : fieldP x w with
      | none => rw [hf] at hy; simp at hy
      | some z =>
        rw [hf] at hy
        simp only at hy
        obtain ⟨e', fs, he', _, hi, _, hall⟩ := okP_doc hx hk
        unfold fieldP fieldsL at hf
        rw [hi] at hf
        simp only [Option.getD_some, Option.map_eq_some_iff] at hf
        obtain ⟨f, h1, rfl⟩ := hf
        exact getP_ok ws e' f.v (by omega) (hall f (List.mem_of_find?_eq_some h1)).2 y hy
    rw [getP_cons] at hy
    by_cases h5 : v.k = 5
    · rw [if_pos h5] at hy
      exact one d v hd h h5 hy
    · rw [if_neg h5] at hy
      by_cases h4 : v.k = 4
      · obtain ⟨e, xs, he, _, hi, hx⟩ := okP_list h h4
        rw [if_pos h4] at hy
        have e : itemsL v.t = xs := by simp [itemsL, hi]
        rw [e, List.mem_flatMap] at hy
        obtain ⟨x, hm, hy⟩ := hy
        by_cases hk : x.k = 5
        · rw [if_pos hk] at hy
          exact one _ x (by omega) (hx x hm) hk hy
        · rw [if_neg hk] at hy; simp at hy
      · rw [if_neg h4] at hy; simp at hy
abbrev nulV : Val := ⟨0, 0, []⟩
/-- What stands against a term. -/
def standP (t : Trm) (doc : Val) : List Val := if (getP (cutP 46 t.path) doc).length = 0 ∧ t.op ≠ 9 then [nulV] else getP (cutP 46 t.path) doc
def matchT (t : Trm) (doc : Val) : Bool :=
  if t.op = 8 then (decide (0 < (getP (cutP 46 t.path) doc).length) == decide (t.v.n = 1))
  else (((standP t doc).any (oneT t.op t.v)) != decide (t.op = 2))
end Go.Ud
/- A term against a document: spec's l03Term, whole. -/
set_option linter.unusedSimpArgs false
set_option linter.unusedVariables false
namespace Go.Ud
open Go.Ev Go.Proofs Go.Pu
set_option maxRecDepth 100000
set_option maxHeartbeats 16000000
end Go.Ud
/- spec's TermMatches. -/
set_option linter.unusedSimpArgs false
set_option linter.unusedVariables false
namespace Go.Ud
open Go.Ev Go.Proofs Go.Pu
set_option maxRecDepth 100000
set_option maxHeartbeats 16000000
theorem opOK_range {op : Int} {v : Val} (h : opOK op v = true) : 1 ≤ op ∧ op ≤ 10 := by
  unfold opOK at h
  split at h
  · omega
  · split at h
    · omega
    · split at h
      · omega
      · split at h
        · omega
        · simp at h; omega
end Go.Ud
/- slices.IndexFunc, slices.ContainsFunc over values, with a method value. -/
set_option linter.unusedSimpArgs false
set_option linter.unusedVariables false
namespace Go.Ud
open Go.Ev Go.Proofs Go.Pu
set_option maxRecDepth 100000
set_option maxHeartbeats 4000000
theorem peekL_t (st : St) : ∀ (c : List T), (∀ y ∈ c, y.one = true) → st.peekL (c.map SV.t) = some c
  | [], _ => rfl
  | y :: r, h => by
    have h1 := h y (by simp)
    simp only [List.map_cons, St.peekL, St.peek1, h1, if_true, peekL_t st r (fun z hz => h z (by simp [hz]))]
theorem indexFunc_206_m (xs : List Val) (g : Nat) (c : List T) (hc : ∀ y ∈ c, y.one = true) (p : Val → Bool) (hl : xs.length < 9223372036854775807) (hm : E.md g = []) (hf : E.flat g = true) (hp : ∀ x ∈ xs, run E (.call g [.t (.agg c), .t (valT x)]) = some (.res [xB (p x)] [])) :
    run E (.call 60 [.t (.list (xs.map valT)), .meth g [.agg c]]) = some (.res [xI (idxP p xs)] []) := by
  rw [run_call E 60 _ rfl Tryd.func60 rfl rfl rfl (by simp)]
  rw [E_md] at hm
  have hpk := fun st => peekL_t st c hc
  have lp := fun (r : Int) (hr : r = idxP p xs) => sk (fun s o q hI => loop_for (c := loopAt Tryd.f60 0) (N := 19)
    (fun i s o q => s 0 = .t (.list (xs.map valT)) ∧ s 1 = .meth g [.agg c] ∧ s 7 = .t (.int .i64 xs.length) ∧ s 8 = .t (.int .i64 i) ∧ r = if idxP p (xs.drop i) < 0 then -1 else idxP p (xs.drop i) + i)
    (fun e s' o' q' => e = (if r < 0 then .exit 0 else .ret) ∧ (0 ≤ r → s' 4 = .t (.int .i64 r))) xs.length
    (by
      rintro i s o q hi ⟨h0, h1, h7, h8, hr⟩
      have hd : xs.drop i = xs[i] :: xs.drop (i + 1) := by rw [List.drop_eq_getElem_cons hi]
      have hi' : (i : Int) < (xs.length : Int) := by omega
      have hw := wrap_succ (n := i) (by omega)
      have hx := hp xs[i] (List.getElem_mem hi)
      rw [hd, idxP] at hr
      cases hpx : p xs[i] with
      | true =>
        simp [hpx] at hr hx
        have hr' : ¬ r < 0 := by omega
        simp [-mdOf, loopAt, loopsOf, Tryd.f60, h0, h1, h7, h8, hi, hi', hx, hw, hm, hf, hpk, hr', hr]
      | false =>
        simp [hpx] at hr hx
        have hr2 : r = if idxP p (xs.drop (i + 1)) < 0 then -1 else idxP p (xs.drop (i + 1)) + ((i : Int) + 1) := by
          rw [hr]
          by_cases hq : idxP p (xs.drop (i + 1)) < 0
          · simp [hq]
          · have : ¬ idxP p (xs.drop (i + 1)) + 1 < 0 := by omega
            simp [hq, this]; omega
        clear hr
        simp [-mdOf, loopAt, loopsOf, Tryd.f60, h0, h1, h7, h8, hi, hi', hx, hw, hm, hf, hpk]
        exact hr2)
    (by
      rintro s o q ⟨h0, h1, h7, h8, hr⟩
      simp [idxP] at hr
      simp [loopAt, loopsOf, Tryd.f60, h0, h1, h7, h8, hr])
    xs.length 0 s o q (by omega) hI)
  simp only [loopAt, loopsOf, Tryd.f60] at lp
  obtain ⟨X, A, B, C, hx⟩ := lp _ rfl
  have hz : idxP p xs = if idxP p xs < 0 then -1 else idxP p xs := by
    cases xs with
    | nil => simp [idxP]
    | cons x r =>
      unfold idxP
      split
      · simp
      · split
        · simp
        · have : ¬ idxP p r + 1 < 0 := by omega
          simp [this]
  simp [← hz] at hx
  by_cases h : idxP p xs < 0
  · have h1 : idxP p xs = -1 := by rw [hz]; simp [h]
    simp [h] at hx
    simp [hx, h1]
  · have h2 : 0 ≤ idxP p xs := by omega
    simp [h, h2] at hx
    simp [hx]
theorem containsFunc_143_m (xs : List Val) (g : Nat) (c : List T) (hc : ∀ y ∈ c, y.one = true) (p : Val → Bool) (hl : xs.length < 9223372036854775807) (hm : E.md g = []) (hf : E.flat g = true) (hp : ∀ x ∈ xs, run E (.call g [.t (.agg c), .t (valT x)]) = some (.res [xB (p x)] [])) :
    run E (.call 33 [.t (.list (xs.map valT)), .meth g [.agg c]]) = some (.res [xB (xs.any p)] []) := by
  rw [run_call E 33 _ rfl Tryd.func33 rfl rfl rfl (by simp)]
  have h := indexFunc_206_m xs g c hc p hl hm hf hp
  simp [h, idxP_ge]
end Go.Ud
/- A term against a document: impl's matches; TermMatches of both; the law. -/
set_option linter.unusedSimpArgs false
set_option linter.unusedVariables false
namespace Go.Ud
open Go.Ev Go.Proofs Go.Pu
set_option maxRecDepth 100000
set_option maxHeartbeats 16000000
end Go.Ud
/- The law FnExactTermMatches over plain data. -/
set_option linter.unusedSimpArgs false
set_option linter.unusedVariables false
namespace Go.Ud
open Go.Ev Go.Proofs Go.Pu
set_option maxRecDepth 100000
set_option maxHeartbeats 16000000
end Go.Ud
/- Updates: the law's own functions, UpdateOK of both sides. -/
set_option linter.unusedSimpArgs false
set_option linter.unusedVariables false
namespace Go.Ud
open Go.Ev Go.Proofs Go.Pu
set_option maxRecDepth 100000
set_option maxHeartbeats 8000000
theorem szUpdate (t : Trm) (h : t.wd) (l : Int) (h0 : 0 ≤ l) (hm : l ≤ 1048576) : run E (.call 10 [.t (trmT t), xI l]) = some (.res [xI (szTrm t l)] []) := by
  rw [run_call E 10 _ rfl Tryd.func10 rfl rfl rfl (by simp)]
  have hw := wrap_sz h.1 h0 hm
  unfold szTrm thenSz
  by_cases hb : l - (t.path.length : Int) < 0
  · simp [hw, hb, szB]
  · have hv := szValue t.v h.2 (l - t.path.length) (by omega) (by omega)
    have e : szB t.path.length l = l - t.path.length := by simp [szB, hb]
    by_cases hn : szVal t.v (l - t.path.length) < 0 <;> simp [hw, hb, e, hv, hn]
theorem toUpdate (t : Trm) : run E (.call 12 [.t (trmT t)]) = some (.res [trmX t] []) := by
  rw [run_call E 12 _ rfl Tryd.func12 rfl rfl rfl (by simp)]
  simp [toValue t.v]
def updOK (t : Trm) : Bool := pathOK t.path && !(t.path == [105, 100]) && valueOK t.v && (if t.op = 2 then ((t.v.k == 0) && ((t.v.n == 0) && (t.v.t == []))) else if t.op = 3 then t.v.k == 2 else (t.op == 1) || ((t.op == 4) || (t.op == 5)))
theorem implUpdateOK (t : Trm) (h : t.sm) : run E (.call 26 [.t (trmT t)]) = some (.res [xB (updOK t)] []) := by
  rw [run_call E 26 _ rfl Tryd.func26 rfl rfl rfl (by simp)]
  have h1 := implPathOK t.path h.1
  have h2 := implValueOK t.v h.2
  unfold updOK
  cases hp : pathOK t.path <;> rw [hp] at h1
  · simp [h1]
  · cases hi' : (t.path == [105, 100]) with
    | true => simp [h1, hi']
    | false =>
      cases hv : valueOK t.v <;> rw [hv] at h2
      · simp [h1, hi', h2]
      · by_cases o2 : t.op = 2
        · simp [h1, hi', h2, o2]
        · by_cases o3 : t.op = 3
          · simp [h1, hi', h2, o3]
          · cases o1 : (t.op == 1) <;> cases o4 : (t.op == 4) <;> cases o5 : (t.op == 5) <;> simp [h1, hi', h2, o1, o2, o3, o4, o5]
theorem specUpdateOK (t : Trm) (h : t.sm) : run E (.call 24 [.t (trmT t)]) = some (.res [xB (updOK t)] []) := by
  rw [run_call E 24 _ rfl Tryd.func24 rfl rfl rfl (by simp)]
  have h1 := specPathOK t.path h.1
  have h2 := specValueOK t.v h.2
  have h3 := l01In t.op 1 5
  have hb : (65536 : Int) < (t.path.length : Int) → pathOK t.path = false := by
    intro hl
    unfold pathOK
    have : ¬ t.path.length ≤ 50 := by omega
    simp [this]
  have hr : (decide (1 ≤ t.op) && decide (t.op ≤ 5)) = false → (t.op == 1) = false ∧ (t.op == 2) = false ∧ (t.op == 3) = false ∧ (t.op == 4) = false ∧ (t.op == 5) = false := by
    intro h; simp at h ⊢; omega
  have hr2 : (decide (1 ≤ t.op) && decide (t.op ≤ 5)) = true → ¬ t.op = 2 → ¬ t.op = 3 → ((t.op == 1) || ((t.op == 4) || (t.op == 5))) = true := by
    intro h a b; simp at h ⊢; omega
  unfold updOK
  cases hin : (decide (1 ≤ t.op) && decide (t.op ≤ 5)) with
  | false =>
    rw [hin] at h3
    obtain ⟨r1, r2, r3, r4, r5⟩ := hr hin
    have r2' : ¬ t.op = 2 := by simpa using r2
    have r3' : ¬ t.op = 3 := by simpa using r3
    simp [h3, r1, r2', r3', r4, r5]
  | true =>
    rw [hin] at h3
    by_cases hl : (65536 : Int) < (t.path.length : Int)
    · rw [hb hl]; simp [h3, hl]
    · cases hp : pathOK t.path <;> rw [hp] at h1
      · simp [h1, h3, hl]
      · cases hi' : (t.path == [105, 100]) with
        | true => simp [h1, h3, hl, hi']
        | false =>
          cases hv : valueOK t.v <;> rw [hv] at h2
          · simp [h1, h3, hl, hi', h2]
          · by_cases o2 : t.op = 2
            · have o2b : (t.op == 2) = true := by simp [o2]
              rw [if_pos o2]
              clear o2
              simp [h1, h3, hl, hi', h2, o2b]
            · by_cases o3 : t.op = 3
              · have o2b : (t.op == 2) = false := by simp [o2]
                have o3b : (t.op == 3) = true := by simp [o3]
                rw [if_neg o2, if_pos o3]
                clear o2 o3
                simp [h1, h3, hl, hi', h2, o2b, o3b]
              · have hr3 := hr2 hin o2 o3
                simp only [if_neg o2, if_neg o3, hr3]
                simp [h1, h3, hl, hi', h2, o2, o3]
end Go.Ud
/- Values' texts: what they are, how long. -/
set_option linter.unusedSimpArgs false
set_option linter.unusedVariables false
namespace Go.Ud
open Go.Ev Go.Proofs Go.Pu
set_option maxRecDepth 100000
set_option maxHeartbeats 4000000
theorem join_snoc (sep x : Bytes) : ∀ (l : List Bytes), Lib.join (l ++ [x]) sep = Lib.join l sep ++ (if l = [] then [] else sep) ++ x
  | [] => by simp [Lib.join, List.intercalate]
  | [y] => by simp [Lib.join, List.intercalate]
  | y :: z :: r => by
    have ih := join_snoc sep x (z :: r)
    simp [Lib.join, List.intercalate, List.intersperse] at ih ⊢
    rw [ih]
theorem join_take (sep : Bytes) (l : List Bytes) (i : Nat) (hi : i < l.length) : Lib.join (l.take (i + 1)) sep = Lib.join (l.take i) sep ++ (if i = 0 then [] else sep) ++ l[i] := by
  rw [List.take_add_one, List.getElem?_eq_getElem hi, Option.toList_some, join_snoc]
  congr 3
  by_cases h : i = 0
  · simp [h]
  · have : l.take i ≠ [] := by
      intro e
      have := congrArg List.length e
      rw [List.length_take, List.length_nil] at this
      omega
    simp [h, this]
theorem join_len (sep : Bytes) : ∀ (l : List Bytes), (Lib.join l sep).length ≤ sumL (fun x => x.length + sep.length) l
  | [] => by simp [Lib.join, List.intercalate]
  | [y] => by simp [Lib.join, List.intercalate, sumL]
  | y :: z :: r => by
    have ih := join_len sep (z :: r)
    simp [Lib.join, List.intercalate, List.intersperse, sumL] at ih ⊢
    omega
theorem join_take_len (sep : Bytes) (l : List Bytes) : ∀ (i : Nat), (Lib.join (l.take i) sep).length ≤ (Lib.join l sep).length := by
  have step : ∀ i, (Lib.join (l.take i) sep).length ≤ (Lib.join (l.take (i + 1)) sep).length := by
    intro i
    by_cases hi : i < l.length
    · rw [join_take sep l i hi]; simp
    · rw [List.take_of_length_le (by omega), List.take_of_length_le (by omega)]
      exact Nat.le_refl _
  have many : ∀ k i, (Lib.join (l.take i) sep).length ≤ (Lib.join (l.take (i + k)) sep).length := by
    intro k
    induction k with
    | zero => intro i; exact Nat.le_refl _
    | succ k ih => intro i; exact Nat.le_trans (ih i) (step (i + k))
  intro i
  have := many l.length i
  rwa [List.take_of_length_le (l := l) (i := i + l.length) (by omega)] at this
theorem sum_map {α β : Type} (f : β → Nat) (g : α → β) : ∀ l : List α, sumL f (l.map g) = sumL (fun x => f (g x)) l
  | [] => rfl
  | x :: r => by simp [sumL, sum_map f g r]
theorem sum_le {α : Type} {f g : α → Nat} : ∀ {l : List α}, (∀ x ∈ l, f x ≤ 48 * g x) → sumL f l ≤ 48 * sumL g l
  | [], _ => by simp [sumL]
  | x :: r, h => by
    have h1 := h x (by simp)
    have h2 := sum_le (f := f) (g := g) (l := r) (fun y hy => h y (by simp [hy]))
    simp [sumL]; omega
/-- A value's text. -/
def txtD : Nat → Val → Bytes
  | d, v =>
    if v.k = 0 then [110, 117, 108, 108]
    else if v.k = 1 then (if v.n = 1 then [116, 114, 117, 101] else [102, 97, 108, 115, 101])
    else if v.k = 2 then Lib.itoa v.n
    else if v.k = 3 then [39] ++ v.t ++ [39]
    else match d with
      | 0 => []
      | d + 1 =>
        if v.k = 4 then [91] ++ Lib.join ((itemsL v.t).map (txtD d)) [44] ++ [93]
        else [123] ++ Lib.join ((fieldsL v.t).map (fun f => f.name ++ [58] ++ txtD d f.v)) [44] ++ [125]
theorem okP_int {d : Nat} {v : Val} (h : okP d v = true) (h2 : v.k = 2) : -9223372036854775808 ≤ v.n ∧ v.n ≤ 9223372036854775807 := by
  unfold okP at h
  simp [h2] at h
  omega
theorem int_rangeT {d : Nat} {v : Val} (h : okP d v = true) (h2 : v.k = 2) : -1000000000000 ≤ v.n ∧ v.n ≤ 1000000000000 := by
  unfold okP at h
  simp [h2] at h
  omega
theorem txtD_len : ∀ (d : Nat) (v : Val), okP d v = true → (txtD d v).length ≤ 48 * v.t.length + 24 := by
  intro d
  induction d with
  | zero =>
    intro v h
    by_cases h0 : v.k = 0
    · simp [txtD, h0]
    by_cases h1 : v.k = 1
    · simp only [txtD, h1]; simp; split <;> simp <;> omega
    by_cases h2 : v.k = 2
    · obtain ⟨b1, b2⟩ := okP_int h h2
      have := Lib.itoa_length_le v.n b1 b2
      simp [txtD, h2]; omega
    by_cases h3 : v.k = 3
    · simp [txtD, h3]; omega
    simp [txtD, h0, h1, h2, h3]
  | succ d ih =>
    intro v h
    by_cases h0 : v.k = 0
    · simp [txtD, h0]
    by_cases h1 : v.k = 1
    · simp only [txtD, h1]; simp; split <;> simp <;> omega
    by_cases h2 : v.k = 2
    · obtain ⟨b1, b2⟩ := okP_int h h2
      have := Lib.itoa_length_le v.n b1 b2
      simp [txtD, h2]; omega
    by_cases h3 : v.k = 3
    · simp [txtD, h3]; omega
    by_cases h4 : v.k = 4
    · obtain ⟨e, xs, hd, _, hi, hx⟩ := okP_list h h4
      obtain rfl : d = e := by omega
      have hs := items_sum hi
      have e : itemsL v.t = xs := by simp [itemsL, hi]
      have hj := join_len [44] (xs.map (txtD d))
      rw [sum_map] at hj
      have hle := sum_le (f := fun x => (txtD d x).length + [(44 : UInt8)].length) (g := fun x => x.t.length + 1) (l := xs) (fun x hm => by
        have := ih x (hx x hm)
        simp; omega)
      have et : txtD (d + 1) v = [91] ++ Lib.join (xs.map (txtD d)) [44] ++ [93] := by simp [txtD, h4, e]
      rw [et]
      simp only [List.length_append, List.length_cons, List.length_nil]
      omega
    · have h5 : v.k = 5 := by
        unfold okP at h
        simp [h0, h1, h2, h3, h4] at h
        exact h.1
      obtain ⟨e, fs, hd, _, hi, _, hx⟩ := okP_doc h h5
      obtain rfl : d = e := by omega
      have hs := fields_sum hi
      have e : fieldsL v.t = fs := by simp [fieldsL, hi]
      have hj := join_len [44] (fs.map (fun f => f.name ++ [58] ++ txtD d f.v))
      rw [sum_map] at hj
      have hle := sum_le (f := fun f : Fld => (f.name ++ [58] ++ txtD d f.v).length + [(44 : UInt8)].length) (g := fun f => f.name.length + f.v.t.length + 2) (l := fs) (fun f hm => by
        have := ih f.v (hx f hm).2
        simp; omega)
      have et : txtD (d + 1) v = [123] ++ Lib.join (fs.map (fun f => f.name ++ [58] ++ txtD d f.v)) [44] ++ [125] := by simp [txtD, h5, e]
      rw [et]
      simp only [List.length_append, List.length_cons, List.length_nil]
      omega
end Go.Ud
/- Values' texts: both sides; lists of texts joined. -/
set_option linter.unusedSimpArgs false
set_option linter.unusedVariables false
namespace Go.Ud
open Go.Ev Go.Proofs Go.Pu
set_option maxRecDepth 100000
set_option maxHeartbeats 16000000
theorem l00Join (xs : List Bytes) (sep : Bytes) (hl : xs.length < 4294967296) (hlen : (Lib.join xs sep).length ≤ 140737488355328) : run E (.call 52 [.t (.list (xs.map strT)), xS sep]) = some (.res [xS (Lib.join xs sep)] []) := by
  rw [run_call E 52 _ rfl Tryd.func52 rfl rfl rfl (by simp)]
  have lp := sk (fun s o q hI => loop_for (c := loopAt Tryd.f52 0) (N := 25)
    (fun i s o q => s 0 = .t (.list (xs.map strT)) ∧ s 1 = .t (.str sep) ∧ s 5 = .t (.str (Lib.join (xs.take i) sep)) ∧ s 6 = .t (.int .i64 i))
    (fun e s' o' q' => e = .exit 0 ∧ s' 5 = .t (.str (Lib.join xs sep))) xs.length
    (by
      rintro i s o q hi ⟨g0, g1, g5, g6⟩
      have hi' : (i : Int) < (xs.length : Int) := by omega
      have hwi := wrap_succ (n := i) (by omega)
      have hxi : xs[i]? = some xs[i] := List.getElem?_eq_getElem hi
      have ht := join_take sep xs i hi
      have hn := join_take_len sep xs (i + 1)
      have hn0 : (Lib.join (xs.take (i + 1)) sep).length ≤ 140737488355328 := by omega
      rw [ht] at hn0
      generalize hJ : Lib.join (xs.take i) sep = J at *
      by_cases h0 : i = 0
      · subst h0
        have hJ0 : J = [] := by rw [← hJ]; simp [Lib.join, List.intercalate]
        subst hJ0
        simp at hn0 ht
        simp [loopAt, loopsOf, Tryd.f52, g0, g1, g5, g6, hi', hwi, hxi, hn0, ht]
        try (intro e; subst e; simp at hi)
      · have hpos : (0 : Int) < (i : Int) := by omega
        have h1 : ¬ i = 0 := h0
        simp [h0] at hn0 ht
        have hn1 : J.length + sep.length ≤ 140737488355328 := by omega
        have hn2 : J.length + (sep.length + xs[i].length) ≤ 140737488355328 := by omega
        have hn3 : J.length + sep.length + xs[i].length ≤ 140737488355328 := by omega
        have hpn : 0 < i := by omega
        simp [loopAt, loopsOf, Tryd.f52, g0, g1, g5, g6, hi', hwi, hxi, hpos, hpn, hn1, hn2, hn3, ht])
    (by
      rintro s o q ⟨g0, g1, g5, g6⟩
      rw [List.take_of_length_le (Nat.le_refl _)] at g5
      simp [loopAt, loopsOf, Tryd.f52, g0, g1, g5, g6])
    xs.length 0 s o q (by omega) hI)
  simp only [loopAt, loopsOf, Tryd.f52] at lp
  obtain ⟨X, A, B, C, hx⟩ := lp
  have e0 : Lib.join (xs.take 0) sep = [] := by simp [Lib.join, List.intercalate]
  simp at hx
  simp [Lib.join, List.intercalate] at hx
  simp (maxDischargeDepth := 6) [hx, Lib.join, List.intercalate]
theorem dig_small (i : Nat) (h : i < 10) : IntKind.u8.wrap (48 + (i : Int)) = ((UInt8.ofNat (48 + i)).toNat : Int) := by
  have : (UInt8.ofNat (48 + i)).toNat = 48 + i := by simp; omega
  rw [this]
  simp [IntKind.wrap, IntKind.bits, IntKind.signed]
  omega
theorem dig_fin (i : Nat) (h : i < 10) : UInt8.ofNat ((48 + (i : Int)) % 256).toNat = 48 + UInt8.ofNat i := by
  apply UInt8.toNat_inj.1
  have e : ((48 + (i : Int)) % 256).toNat = 48 + i := by omega
  rw [e]
  simp
theorem digitsN : ∀ (k n : Nat), n < 10 ^ k → n < 4611686018427387904 → run E (.call 51 [xI n]) = some (.res [xS (Lib.decDigits n)] []) := by
  intro k
  induction k with
  | zero =>
    intro n h hb
    have h0 : n = 0 := by
      have : n < 1 := by rw [Nat.pow_zero] at h; exact h
      omega
    subst h0
    rw [run_call E 51 _ rfl Tryd.func51 rfl rfl rfl (by simp)]
    have hd : Lib.decDigits 0 = [48] := by rw [Lib.decDigits_one (by omega)]; rfl
    have hw : IntKind.i64.wrap 48 = 48 := by decide
    have hu : IntKind.u8.wrap 48 = 48 := by decide
    simp [hd, hw, hu]
  | succ k ih =>
    intro n h hb
    rw [run_call E 51 _ rfl Tryd.func51 rfl rfl rfl (by simp)]
    have n0 : ¬ (n : Int) < 0 := by omega
    have nm : ((n : Int) == -9223372036854775808) = false := by simp
    have nm2 : ¬ (n : Int) = -9223372036854775808 := by omega
    by_cases h10 : n < 10
    · have hd := Lib.decDigits_one h10
      have hlt : (n : Int) < 10 := by omega
      have hw : IntKind.i64.wrap (48 + (n : Int)) = 48 + n := wrap_of (by omega) (by omega)
      have hu := dig_small n h10
      simp [nm, nm2, n0, h10, hlt, hw, hu, hd]
      try exact dig_fin n h10
    · have hd : Lib.decDigits n = Lib.decDigits (n / 10) ++ [UInt8.ofNat (48 + n % 10)] := by rw [Lib.decDigits, dif_neg h10]
      have hr := ih (n / 10) (by
        rw [Nat.pow_succ] at h
        omega) (by omega)
      have hq : (n : Int).tdiv 10 = ((n / 10 : Nat) : Int) := by
        rw [Int.tdiv_eq_ediv_of_nonneg (by omega)]; omega
      have hm : (n : Int).tmod 10 = ((n % 10 : Nat) : Int) := by
        rw [Int.tmod_eq_emod_of_nonneg (by omega)]; omega
      have hwq : IntKind.i64.wrap ((n / 10 : Nat) : Int) = ((n / 10 : Nat) : Int) := wrap_of (by omega) (by omega)
      have hlt : ¬ (n : Int) < 10 := by omega
      have hw : IntKind.i64.wrap (48 + ((n % 10 : Nat) : Int)) = 48 + ((n % 10 : Nat) : Int) := wrap_of (by omega) (by omega)
      have hu := dig_small (n % 10) (by omega)
      have hlen : (Lib.decDigits (n / 10)).length + 1 ≤ 140737488355328 := by
        have := Lib.nDigits_le20 (n / 10) (by omega)
        rw [Lib.decDigits_length]; omega
      have n7 := n51_7
      have s7 := s51_7
      simp [regionOf, findR, pick, Tryd.f51] at n7 s7
      have dd := fun st => run_region_drawS E st 7 _ n7 s7
      clear n7 s7
      rw [hd]
      have hf := dig_fin (n % 10) (by omega)
      generalize (n / 10 : Nat) = a at *
      generalize (n % 10 : Nat) = b at *
      simp [nm, nm2, n0, h10, hlt, dd, hq, hwq, hm, hr, hw, hu, hlen]
      try exact hf
theorem l00Digits (n : Int) (h0 : -1000000000000 ≤ n) (h1 : n ≤ 1000000000000) : run E (.call 51 [xI n]) = some (.res [xS (Lib.itoa n)] []) := by
  by_cases hn : n < 0
  · obtain ⟨m, hm⟩ : ∃ m : Nat, n = -(m : Int) := ⟨n.natAbs, by omega⟩
    subst hm
    have hd := digitsN 19 m (by omega) (by omega)
    rw [run_call E 51 _ rfl Tryd.func51 rfl rfl rfl (by simp)]
    have e : Lib.itoa (-(m : Int)) = 45 :: Lib.decDigits m := by
      unfold Lib.itoa
      rw [if_pos hn]
      simp
    have nm : ¬ -(m : Int) = -9223372036854775808 := by omega
    have nm1 : ¬ (m : Int) = 9223372036854775808 := by omega
    have nm2 : (-(m : Int) == -9223372036854775808) = false := by simp; omega
    have hw : IntKind.i64.wrap (0 - -(m : Int)) = m := by rw [show (0 : Int) - -(m : Int) = m by omega]; exact wrap_of (by omega) (by omega)
    have hw2 : IntKind.i64.wrap (m : Int) = m := wrap_of (by omega) (by omega)
    have hp : (0 : Int) < (m : Int) := by omega
    have hp2 : 0 < m := by omega
    have hlen : 1 + (Lib.decDigits m).length ≤ 140737488355328 := by
      have := Lib.nDigits_le20 m (by omega)
      rw [Lib.decDigits_length]; omega
    have hlen2 : (Lib.decDigits m).length + 1 ≤ 140737488355328 := by omega
    rw [e]
    simp [nm, nm1, nm2, hn, hw, hw2, hp, hp2, hd, hlen, hlen2]
  · obtain ⟨m, hm⟩ : ∃ m : Nat, n = (m : Int) := ⟨n.toNat, by omega⟩
    subst hm
    have hd := digitsN 19 m (by omega) (by omega)
    have e : Lib.itoa (m : Int) = Lib.decDigits m := by
      unfold Lib.itoa
      rw [if_neg hn]
      simp
    rw [hd, e]
end Go.Ud
/- Values' texts: impl's valueText, spec's l01ValueText (where strconv.Itoa and strings.Join are met by their contracts). -/
set_option linter.unusedSimpArgs false
set_option linter.unusedVariables false
namespace Go.Ud
open Go.Ev Go.Proofs Go.Pu
set_option maxRecDepth 100000
set_option maxHeartbeats 16000000
theorem strsOf_all : ∀ l : List Bytes, strsOf (l.map strT) = some l
  | [] => rfl
  | s :: r => by simp [strsOf, strsOf_all r]
theorem goJoin (l : List Bytes) (sep : Bytes) (h1 : l.length ≤ 140737488355328) (h2 : (Lib.join l sep).length ≤ 140737488355328) : run E (.call 50 [.t (.list (l.map strT)), xS sep]) = some (.res [xS (Lib.join l sep)] []) := by
  rw [run_ext E 50 _ (g := _) rfl]
  simp [strsOf_all, h1, h2]
theorem goItoa (n : Int) (h0 : -9223372036854775808 ≤ n) (h1 : n ≤ 9223372036854775807) : run E (.call 49 [xI n]) = some (.res [xS (Lib.itoa n)] []) := by
  rw [run_ext E 49 _ (g := _) rfl]
  simp [h0, h1]
theorem goBool (b : Bool) : run E (.call 48 [xB b]) = some (.res [xS (if b then [116, 114, 117, 101] else [102, 97, 108, 115, 101])] []) := by
  have h : run E (.call 72 [xB b]) = some (.res [xS (if b then [116, 114, 117, 101] else [102, 97, 108, 115, 101])] []) := by
    rw [run_call E 72 _ rfl Tryd.func72 rfl rfl rfl (by simp)]
    cases b <;> simp
  rw [run_call E 48 _ rfl Tryd.func48 rfl rfl rfl (by simp)]
  simp [h]
theorem implText_items (xs : List Val) (F : Val → Bytes) (hF : ∀ x ∈ xs, run E (.call 21 [xV x]) = some (.res [xS (F x)] [])) (hl : xs.length ≤ 100000) : ∀ s o q, (s 3 = .row 1 ∧ s 41 = .row 2 ∧ s 42 = .t (.int .i64 xs.length) ∧ s 43 = .t (.int .i64 0) ∧ o 1 = .row 9 [] true ∧ o 2 = .row 26 (xs.map valT) true ∧ 2 < q) →
    ∃ e s' o' q', run E (.code (.loop (loopAt Tryd.f21 0)) ⟨s, o, q, 83⟩) = some (.st e ⟨s', o', q', 83⟩) ∧ ∃ r, e = .exit 1 ∧ s' 3 = .row r ∧ o' r = .row 9 ((xs.map F).map strT) true := by
  intro s o q hI
  refine loop_for (c := loopAt Tryd.f21 0) (N := 83)
    (fun i s o q => ∃ r acc, s 3 = .row r ∧ s 41 = .row 2 ∧ s 42 = .t (.int .i64 xs.length) ∧ s 43 = .t (.int .i64 i) ∧ o r = .row 9 (acc.map strT) true ∧ o 2 = .row 26 (xs.map valT) true ∧ r < q ∧ r ≠ 2 ∧ 2 < q ∧ acc.length = i ∧ xs.map F = acc ++ (xs.drop i).map F)
    (fun e s' o' q' => ∃ r, e = .exit 1 ∧ s' 3 = .row r ∧ o' r = .row 9 ((xs.map F).map strT) true) xs.length ?_ ?_
    xs.length 0 s o q (by omega) (by
      obtain ⟨h3, h41, h42, h43, o1, o2, hq⟩ := hI
      exact ⟨1, [], h3, h41, h42, h43, o1, o2, by omega, by omega, hq, rfl, by simp⟩)
  · rintro i s o q hi ⟨r, acc, h3, h41, h42, h43, hor, ho2, hrq, hr2, hq, hac, hp⟩
    have hi' : (i : Int) < (xs.length : Int) := by omega
    have hwi := wrap_succ (n := i) (by omega)
    have hxi : xs[i]? = some xs[i] := List.getElem?_eq_getElem hi
    have hk := hF _ (List.getElem_mem hi)
    have h2r : 2 ≠ r := fun h => hr2 h.symm
    have hrn : r ≠ q := by omega
    have hrn1 : r ≠ q + 1 := by omega
    have hrn2 : r ≠ q + 2 := by omega
    have h2n : 2 ≠ q := by omega
    have h2n1 : 2 ≠ q + 1 := by omega
    have h2n2 : 2 ≠ q + 2 := by omega
    have hqr : q ≠ r := by omega
    have hq2 : q ≠ 2 := by omega
    have hcat : acc.length + 1 ≤ 140737488355328 := by omega
    have hcat2 : (acc.length + 1) * 16 ≤ 140737488355328 := by omega
    rw [List.drop_eq_getElem_cons hi, List.map_cons] at hp
    generalize hkx : F xs[i] = kx at *
    simp [loopAt, loopsOf, Tryd.f21, h3, h41, h42, h43, hor, ho2, hi, hi', hwi, hxi, hk, hr2, h2r, hrn, hrn1, hrn2, h2n, h2n1, h2n2, hqr, hq2, hcat, hcat2]
    exact ⟨acc ++ [kx], by simp, by omega, by simp [hac], by rw [← List.map_drop]; simpa using hp⟩
  · rintro s o q ⟨r, acc, h3, h41, h42, h43, hor, ho2, hrq, hr2, hq, hac, hp⟩
    simp at hp
    simp [loopAt, loopsOf, Tryd.f21, h3, h41, h42, h43, hor, ho2, hp]
theorem implText_fields (xs : List Fld) (F : Val → Bytes) (hF : ∀ x ∈ xs, run E (.call 21 [xV x.v]) = some (.res [xS (F x.v)] []) ∧ (F x.v).length ≤ 1000000 ∧ x.name.length ≤ 1000000) (hl : xs.length ≤ 100000) : ∀ s o q, (s 3 = .row 1 ∧ s 62 = .row 2 ∧ s 63 = .t (.int .i64 xs.length) ∧ s 64 = .t (.int .i64 0) ∧ o 1 = .row 9 [] true ∧ o 2 = .row 71 (xs.map fldT) true ∧ 2 < q) →
    ∃ e s' o' q', run E (.code (.loop (loopAt Tryd.f21 1)) ⟨s, o, q, 83⟩) = some (.st e ⟨s', o', q', 83⟩) ∧ ∃ r, e = .exit 3 ∧ s' 3 = .row r ∧ o' r = .row 9 ((xs.map (fun f => f.name ++ [58] ++ F f.v)).map strT) true := by
  intro s o q hI
  have d23 := d21_23
  simp [regionOf, findR, pick, Tryd.f21] at d23
  have dd := fun st => run_region_draw E st 23 _ d23
  clear d23
  obtain ⟨G, hG⟩ : ∃ G : Fld → Bytes, G = (fun f => f.name ++ [58] ++ F f.v) := ⟨_, rfl⟩
  have hGx : ∀ f, f.name ++ 58 :: F f.v = G f := by intro f; rw [hG]; simp
  rw [← hG]
  clear hG
  refine loop_for (c := loopAt Tryd.f21 1) (N := 83)
    (fun i s o q => ∃ r acc, s 3 = .row r ∧ s 62 = .row 2 ∧ s 63 = .t (.int .i64 xs.length) ∧ s 64 = .t (.int .i64 i) ∧ o r = .row 9 (acc.map strT) true ∧ o 2 = .row 71 (xs.map fldT) true ∧ r < q ∧ r ≠ 2 ∧ 2 < q ∧ acc.length = i ∧ xs.map G = acc ++ (xs.drop i).map G)
    (fun e s' o' q' => ∃ r, e = .exit 3 ∧ s' 3 = .row r ∧ o' r = .row 9 ((xs.map G).map strT) true) xs.length ?_ ?_
    xs.length 0 s o q (by omega) (by
      obtain ⟨h3, h41, h42, h43, o1, o2, hq⟩ := hI
      exact ⟨1, [], h3, h41, h42, h43, o1, o2, by omega, by omega, hq, rfl, by simp⟩)
  · rintro i s o q hi ⟨r, acc, h3, h41, h42, h43, hor, ho2, hrq, hr2, hq, hac, hp⟩
    have hi' : (i : Int) < (xs.length : Int) := by omega
    have hwi := wrap_succ (n := i) (by omega)
    have hxi : xs[i]? = some xs[i] := List.getElem?_eq_getElem hi
    obtain ⟨hk, hb1, hb2⟩ := hF _ (List.getElem_mem hi)
    have h2r : 2 ≠ r := fun h => hr2 h.symm
    have hrn : r ≠ q := by omega
    have hrn1 : r ≠ q + 1 := by omega
    have hrn2 : r ≠ q + 2 := by omega
    have h2n : 2 ≠ q := by omega
    have h2n1 : 2 ≠ q + 1 := by omega
    have h2n2 : 2 ≠ q + 2 := by omega
    have hqr : q ≠ r := by omega
    have hq2 : q ≠ 2 := by omega
    have hcat : acc.length + 1 ≤ 140737488355328 := by omega
    have hcat2 : (acc.length + 1) * 16 ≤ 140737488355328 := by omega
    have hn1 : xs[i].name.length + 1 ≤ 140737488355328 := by omega
    have hn2 : xs[i].name.length + 1 + (F xs[i].v).length ≤ 140737488355328 := by omega
    have hn3 : xs[i].name.length + (1 + (F xs[i].v).length) ≤ 140737488355328 := by omega
    have hn4 : xs[i].name.length + ((F xs[i].v).length + 1) ≤ 140737488355328 := by omega
    have hgx := hGx xs[i]
    rw [List.drop_eq_getElem_cons hi, List.map_cons] at hp
    simp [loopAt, loopsOf, Tryd.f21, dd, h3, h41, h42, h43, hor, ho2, hi, hi', hwi, hxi, hk, hr2, h2r, hrn, hrn1, hrn2, h2n, h2n1, h2n2, hqr, hq2, hcat, hcat2, hn1, hn2, hn3, hn4, hgx]
    exact ⟨acc ++ [G xs[i]], by simp, by omega, by simp [hac], by rw [← List.map_drop]; simpa using hp⟩
  · rintro s o q ⟨r, acc, h3, h41, h42, h43, hor, ho2, hrq, hr2, hq, hac, hp⟩
    simp at hp
    simp [loopAt, loopsOf, Tryd.f21, h3, h41, h42, h43, hor, ho2, hp]
theorem implText_small (d : Nat) (v : Val) (h : okP d v = true) (hv : v.t.length < 1048576) (hk : v.k = 0 ∨ v.k = 1 ∨ v.k = 2 ∨ v.k = 3) : run E (.call 21 [xV v]) = some (.res [xS (txtD d v)] []) := by
  rw [run_call E 21 _ rfl Tryd.func21 rfl rfl rfl (by simp)]
  rcases hk with hk | hk | hk | hk
  · have et : txtD d v = [110, 117, 108, 108] := by unfold txtD; simp [hk]
    rw [et]
    simp [hk]
  · have hb := goBool (v.n == 1)
    by_cases h1 : v.n = 1
    · have et : txtD d v = [116, 114, 117, 101] := by unfold txtD; simp [hk, h1]
      rw [et]
      simp [h1] at hb
      simp [hk, h1, hb]
    · have e : (v.n == 1) = false := by simpa using h1
      have et : txtD d v = [102, 97, 108, 115, 101] := by unfold txtD; simp [hk, h1]
      rw [et]
      rw [e] at hb
      simp at hb
      simp [hk, h1, e, hb]
  · obtain ⟨b1, b2⟩ := okP_int h hk
    have hi := goItoa v.n b1 b2
    have et : txtD d v = Lib.itoa v.n := by unfold txtD; simp [hk]
    rw [et]
    simp [hk, hi]
  · have l1 : 1 + v.t.length ≤ 140737488355328 := by omega
    have l2 : v.t.length + 1 ≤ 140737488355328 := by omega
    have l3 : v.t.length + 1 + 1 ≤ 140737488355328 := by omega
    have et : txtD d v = [39] ++ v.t ++ [39] := by unfold txtD; simp [hk]
    rw [et]
    simp [hk, l1, l2, l3]
theorem implText : ∀ (d : Nat) (v : Val), okP d v = true → v.t.length < 1048576 → run E (.call 21 [xV v]) = some (.res [xS (txtD d v)] []) := by
  intro d
  induction d with
  | zero =>
    intro v h hv
    refine implText_small 0 v h hv ?_
    unfold okP at h
    by_cases h0 : v.k = 0; · omega
    by_cases h1 : v.k = 1; · omega
    by_cases h2 : v.k = 2; · omega
    by_cases h3 : v.k = 3; · omega
    simp [h0, h1, h2, h3] at h
  | succ d ih =>
    intro v h hv
    by_cases hs : v.k = 0 ∨ v.k = 1 ∨ v.k = 2 ∨ v.k = 3
    · exact implText_small (d + 1) v h hv hs
    have e0 : (v.k = 0) = False := by simp; omega
    have e1 : (v.k = 1) = False := by simp; omega
    have e2 : (v.k = 2) = False := by simp; omega
    have e3 : (v.k = 3) = False := by simp; omega
    have hlen := txtD_len (d + 1) v h
    have hsz := okP_size h
    rw [run_call E 21 _ rfl Tryd.func21 rfl rfl rfl (by simp)]
    by_cases hk : v.k = 4
    · obtain ⟨e, xs, hd, _, hit, hx⟩ := okP_list h hk
      obtain rfl : d = e := by omega
      have e4 : (v.k = 4) = True := eq_true hk
      have eL : itemsL v.t = xs := by simp [itemsL, hit]
      obtain ⟨hs1, hs2⟩ := items_small hit
      have hi := implItems v (by omega)
      rw [itemsI_some hit] at hi
      have et : txtD (d + 1) v = [91] ++ Lib.join (xs.map (txtD d)) [44] ++ [93] := by simp [txtD, e0, e1, e2, e3, e4, eL]
      rw [et] at hlen ⊢
      obtain ⟨X, A, B, C, M, hl⟩ := sk1 (implText_items xs (txtD d) (fun x hm => ih x (hx x hm) (by have := hs2 x hm; omega)) (by omega))
      simp only [loopAt, loopsOf, Tryd.f21] at hl
      simp only [List.length_append, List.length_cons, List.length_nil] at hlen
      have hj := goJoin (xs.map (txtD d)) [44] (by simp; omega) (by omega)
      generalize Lib.join (xs.map (txtD d)) [44] = J at *
      have l1 : 1 + J.length ≤ 140737488355328 := by omega
      have l2 : J.length + 1 ≤ 140737488355328 := by omega
      have l3 : J.length + 1 + 1 ≤ 140737488355328 := by omega
      clear hk et
      simp at hl hi hj
      simp (maxDischargeDepth := 6) [e0, e1, e2, e3, e4, hi, hl, hj, l1, l2, l3]
    · have h5 : v.k = 5 := by
        unfold okP at h
        simp [e0, e1, e2, e3, hk] at h
        exact h.1
      obtain ⟨e, xs, hd, _, hit, _, hx⟩ := okP_doc h h5
      obtain rfl : d = e := by omega
      have e4 : (v.k = 4) = False := eq_false hk
      have eL : fieldsL v.t = xs := by simp [fieldsL, hit]
      obtain ⟨hs1, hs2⟩ := fields_small hit
      have hi := implFields v (by omega)
      rw [fieldsI_some hit] at hi
      have et : txtD (d + 1) v = [123] ++ Lib.join (xs.map (fun f => f.name ++ [58] ++ txtD d f.v)) [44] ++ [125] := by simp [txtD, e0, e1, e2, e3, e4, eL]
      rw [et] at hlen ⊢
      obtain ⟨X, A, B, C, M, hl⟩ := sk1 (implText_fields xs (txtD d) (fun f hm => by
        have h1 := hs2 f hm
        have h2 := txtD_len d f.v (hx f hm).2
        exact ⟨ih f.v (hx f hm).2 (by omega), by omega, by omega⟩) (by omega))
      simp only [loopAt, loopsOf, Tryd.f21] at hl
      simp only [List.length_append, List.length_cons, List.length_nil] at hlen
      have hj := goJoin (xs.map (fun f => f.name ++ [58] ++ txtD d f.v)) [44] (by simp; omega) (by omega)
      generalize hM : xs.map (fun f => f.name ++ [58] ++ txtD d f.v) = ws at *
      generalize Lib.join ws [44] = J at *
      have l1 : 1 + J.length ≤ 140737488355328 := by omega
      have l2 : J.length + 1 ≤ 140737488355328 := by omega
      have l3 : J.length + 1 + 1 ≤ 140737488355328 := by omega
      clear hk et h5
      simp at hl hi hj
      simp (maxDischargeDepth := 6) [e0, e1, e2, e3, e4, hi, hl, hj, l1, l2, l3]
end Go.Ud
/- Values' texts: spec's l01ValueText. -/
set_option linter.unusedSimpArgs false
set_option linter.unusedVariables false
namespace Go.Ud
open Go.Ev Go.Proofs Go.Pu
set_option maxRecDepth 100000
set_option maxHeartbeats 16000000
theorem specText_items (xs : List Val) (F : Val → Bytes) (hF : ∀ x ∈ xs, run E (.call 22 [xV x]) = some (.res [xS (F x)] [])) (hl : xs.length ≤ 100000) : ∀ s o q, (s 3 = .row 1 ∧ s 4 = .row 2 ∧ s 6 = .t (.int .i64 0) ∧ o 1 = .row 9 [] true ∧ o 2 = .row 26 (xs.map valT) true ∧ 2 < q) →
    ∃ e s' o' q', run E (.code (.loop (loopAt Tryd.f22 0)) ⟨s, o, q, 89⟩) = some (.st e ⟨s', o', q', 89⟩) ∧ ∃ r, e = .exit 1 ∧ s' 3 = .row r ∧ o' r = .row 9 ((xs.map F).map strT) true := by
  intro s o q hI
  refine loop_for (c := loopAt Tryd.f22 0) (N := 89)
    (fun i s o q => ∃ r acc, s 3 = .row r ∧ s 4 = .row 2 ∧ s 6 = .t (.int .i64 i) ∧ o r = .row 9 (acc.map strT) true ∧ o 2 = .row 26 (xs.map valT) true ∧ r < q ∧ r ≠ 2 ∧ 2 < q ∧ acc.length = i ∧ xs.map F = acc ++ (xs.drop i).map F)
    (fun e s' o' q' => ∃ r, e = .exit 1 ∧ s' 3 = .row r ∧ o' r = .row 9 ((xs.map F).map strT) true) xs.length ?_ ?_
    xs.length 0 s o q (by omega) (by
      obtain ⟨h3, h4, h6, o1, o2, hq⟩ := hI
      exact ⟨1, [], h3, h4, h6, o1, o2, by omega, by omega, hq, rfl, by simp⟩)
  · rintro i s o q hi ⟨r, acc, h3, h4, h6, hor, ho2, hrq, hr2, hq, hac, hp⟩
    have hi' : (i : Int) < (xs.length : Int) := by omega
    have hwi := wrap_succ (n := i) (by omega)
    have hxi : xs[i]? = some xs[i] := List.getElem?_eq_getElem hi
    have hk := hF _ (List.getElem_mem hi)
    have h2r : 2 ≠ r := fun h => hr2 h.symm
    have hrn : r ≠ q := by omega
    have hrn1 : r ≠ q + 1 := by omega
    have hrn2 : r ≠ q + 2 := by omega
    have h2n : 2 ≠ q := by omega
    have h2n1 : 2 ≠ q + 1 := by omega
    have h2n2 : 2 ≠ q + 2 := by omega
    have hqr : q ≠ r := by omega
    have hq2 : q ≠ 2 := by omega
    have hcat : acc.length + 1 ≤ 140737488355328 := by omega
    have hcat2 : (acc.length + 1) * 16 ≤ 140737488355328 := by omega
    rw [List.drop_eq_getElem_cons hi, List.map_cons] at hp
    generalize hkx : F xs[i] = kx at *
    simp [loopAt, loopsOf, Tryd.f22, h3, h4, h6, hor, ho2, hi, hi', hwi, hxi, hk, hr2, h2r, hrn, hrn1, hrn2, h2n, h2n1, h2n2, hqr, hq2, hcat, hcat2]
    exact ⟨acc ++ [kx], by simp, by omega, by omega, by simp [hac], by rw [← List.map_drop]; simpa using hp⟩
  · rintro s o q ⟨r, acc, h3, h4, h6, hor, ho2, hrq, hr2, hq, hac, hp⟩
    simp at hp
    simp [loopAt, loopsOf, Tryd.f22, h3, h4, h6, hor, ho2, hp]
theorem specText_fields (xs : List Fld) (F : Val → Bytes) (hF : ∀ x ∈ xs, run E (.call 22 [xV x.v]) = some (.res [xS (F x.v)] []) ∧ (F x.v).length ≤ 1000000 ∧ x.name.length ≤ 1000000) (hl : xs.length ≤ 100000) : ∀ s o q, (s 3 = .row 1 ∧ s 7 = .row 2 ∧ s 9 = .t (.int .i64 0) ∧ o 1 = .row 9 [] true ∧ o 2 = .row 71 (xs.map fldT) true ∧ 2 < q) →
    ∃ e s' o' q', run E (.code (.loop (loopAt Tryd.f22 1)) ⟨s, o, q, 89⟩) = some (.st e ⟨s', o', q', 89⟩) ∧ ∃ r, e = .exit 3 ∧ s' 3 = .row r ∧ o' r = .row 9 ((xs.map (fun f => f.name ++ [58] ++ F f.v)).map strT) true := by
  intro s o q hI
  have d24 := d22_24
  simp [regionOf, findR, pick, Tryd.f22] at d24
  have dd := fun st => run_region_draw E st 24 _ d24
  clear d24
  obtain ⟨G, hG⟩ : ∃ G : Fld → Bytes, G = (fun f => f.name ++ [58] ++ F f.v) := ⟨_, rfl⟩
  have hGx : ∀ f, f.name ++ 58 :: F f.v = G f := by intro f; rw [hG]; simp
  rw [← hG]
  clear hG
  refine loop_for (c := loopAt Tryd.f22 1) (N := 89)
    (fun i s o q => ∃ r acc, s 3 = .row r ∧ s 7 = .row 2 ∧ s 9 = .t (.int .i64 i) ∧ o r = .row 9 (acc.map strT) true ∧ o 2 = .row 71 (xs.map fldT) true ∧ r < q ∧ r ≠ 2 ∧ 2 < q ∧ acc.length = i ∧ xs.map G = acc ++ (xs.drop i).map G)
    (fun e s' o' q' => ∃ r, e = .exit 3 ∧ s' 3 = .row r ∧ o' r = .row 9 ((xs.map G).map strT) true) xs.length ?_ ?_
    xs.length 0 s o q (by omega) (by
      obtain ⟨h3, h7, h9, o1, o2, hq⟩ := hI
      exact ⟨1, [], h3, h7, h9, o1, o2, by omega, by omega, hq, rfl, by simp⟩)
  · rintro i s o q hi ⟨r, acc, h3, h7, h9, hor, ho2, hrq, hr2, hq, hac, hp⟩
    have hi' : (i : Int) < (xs.length : Int) := by omega
    have hwi := wrap_succ (n := i) (by omega)
    have hxi : xs[i]? = some xs[i] := List.getElem?_eq_getElem hi
    obtain ⟨hk, hb1, hb2⟩ := hF _ (List.getElem_mem hi)
    have h2r : 2 ≠ r := fun h => hr2 h.symm
    have hrn : r ≠ q := by omega
    have hrn1 : r ≠ q + 1 := by omega
    have hrn2 : r ≠ q + 2 := by omega
    have h2n : 2 ≠ q := by omega
    have h2n1 : 2 ≠ q + 1 := by omega
    have h2n2 : 2 ≠ q + 2 := by omega
    have hqr : q ≠ r := by omega
    have hq2 : q ≠ 2 := by omega
    have hcat : acc.length + 1 ≤ 140737488355328 := by omega
    have hcat2 : (acc.length + 1) * 16 ≤ 140737488355328 := by omega
    have hn1 : xs[i].name.length + 1 ≤ 140737488355328 := by omega
    have hn2 : xs[i].name.length + 1 + (F xs[i].v).length ≤ 140737488355328 := by omega
    have hn3 : xs[i].name.length + (1 + (F xs[i].v).length) ≤ 140737488355328 := by omega
    have hn4 : xs[i].name.length + ((F xs[i].v).length + 1) ≤ 140737488355328 := by omega
    have hgx := hGx xs[i]
    rw [List.drop_eq_getElem_cons hi, List.map_cons] at hp
    simp [loopAt, loopsOf, Tryd.f22, dd, h3, h7, h9, hor, ho2, hi, hi', hwi, hxi, hk, hr2, h2r, hrn, hrn1, hrn2, h2n, h2n1, h2n2, hqr, hq2, hcat, hcat2, hn1, hn2, hn3, hn4, hgx]
    exact ⟨acc ++ [G xs[i]], by simp, by omega, by omega, by simp [hac], by rw [← List.map_drop]; simpa using hp⟩
  · rintro s o q ⟨r, acc, h3, h7, h9, hor, ho2, hrq, hr2, hq, hac, hp⟩
    simp at hp
    simp [loopAt, loopsOf, Tryd.f22, h3, h7, h9, hor, ho2, hp]
theorem specText_small (d : Nat) (v : Val) (h : okP d v = true) (hv : v.t.length < 1048576) (hk : v.k = 0 ∨ v.k = 1 ∨ v.k = 2 ∨ v.k = 3) : run E (.call 22 [xV v]) = some (.res [xS (txtD d v)] []) := by
  rw [run_call E 22 _ rfl Tryd.func22 rfl rfl rfl (by simp)]
  rcases hk with hk | hk | hk | hk
  · have et : txtD d v = [110, 117, 108, 108] := by unfold txtD; simp [hk]
    rw [et]
    simp [hk]
  · by_cases h1 : v.n = 1
    · have et : txtD d v = [116, 114, 117, 101] := by unfold txtD; simp [hk, h1]
      rw [et]
      simp [hk, h1]
    · have e : (v.n == 1) = false := by simpa using h1
      have et : txtD d v = [102, 97, 108, 115, 101] := by unfold txtD; simp [hk, h1]
      rw [et]
      simp [hk, h1, e]
  · obtain ⟨b1, b2⟩ := int_rangeT h hk
    have hi := l00Digits v.n b1 b2
    have et : txtD d v = Lib.itoa v.n := by unfold txtD; simp [hk]
    rw [et]
    simp [hk, hi]
  · have l1 : 1 + v.t.length ≤ 140737488355328 := by omega
    have l2 : v.t.length + 1 ≤ 140737488355328 := by omega
    have l3 : v.t.length + 1 + 1 ≤ 140737488355328 := by omega
    have et : txtD d v = [39] ++ v.t ++ [39] := by unfold txtD; simp [hk]
    rw [et]
    simp [hk, l1, l2, l3]
theorem specText : ∀ (d : Nat) (v : Val), okP d v = true → v.t.length < 1048576 → run E (.call 22 [xV v]) = some (.res [xS (txtD d v)] []) := by
  intro d
  induction d with
  | zero =>
    intro v h hv
    refine specText_small 0 v h hv ?_
    unfold okP at h
    by_cases h0 : v.k = 0; · omega
    by_cases h1 : v.k = 1; · omega
    by_cases h2 : v.k = 2; · omega
    by_cases h3 : v.k = 3; · omega
    simp [h0, h1, h2, h3] at h
  | succ d ih =>
    intro v h hv
    by_cases hs : v.k = 0 ∨ v.k = 1 ∨ v.k = 2 ∨ v.k = 3
    · exact specText_small (d + 1) v h hv hs
    have e0 : (v.k = 0) = False := by simp; omega
    have e1 : (v.k = 1) = False := by simp; omega
    have e2 : (v.k = 2) = False := by simp; omega
    have e3 : (v.k = 3) = False := by simp; omega
    have hlen := txtD_len (d + 1) v h
    have hsz := okP_size h
    rw [run_call E 22 _ rfl Tryd.func22 rfl rfl rfl (by simp)]
    by_cases hk : v.k = 4
    · obtain ⟨e, xs, hd, _, hit, hx⟩ := okP_list h hk
      obtain rfl : d = e := by omega
      have e4 : (v.k = 4) = True := eq_true hk
      have eL : itemsL v.t = xs := by simp [itemsL, hit]
      obtain ⟨hs1, hs2⟩ := items_small hit
      have hi := l01Items v.t (by omega)
      rw [hit] at hi
      simp only [itemsX] at hi
      have et : txtD (d + 1) v = [91] ++ Lib.join (xs.map (txtD d)) [44] ++ [93] := by simp [txtD, e0, e1, e2, e3, e4, eL]
      rw [et] at hlen ⊢
      obtain ⟨X, A, B, C, M, hl⟩ := sk1 (specText_items xs (txtD d) (fun x hm => ih x (hx x hm) (by have := hs2 x hm; omega)) (by omega))
      simp only [loopAt, loopsOf, Tryd.f22] at hl
      simp only [List.length_append, List.length_cons, List.length_nil] at hlen
      have hj := l00Join (xs.map (txtD d)) [44] (by simp; omega) (by omega)
      generalize Lib.join (xs.map (txtD d)) [44] = J at *
      have l1 : 1 + J.length ≤ 140737488355328 := by omega
      have l2 : J.length + 1 ≤ 140737488355328 := by omega
      have l3 : J.length + 1 + 1 ≤ 140737488355328 := by omega
      clear hk et
      simp at hl hi hj
      simp (maxDischargeDepth := 6) [e0, e1, e2, e3, e4, hi, hl, hj, l1, l2, l3]
    · have h5 : v.k = 5 := by
        unfold okP at h
        simp [e0, e1, e2, e3, hk] at h
        exact h.1
      obtain ⟨e, xs, hd, _, hit, _, hx⟩ := okP_doc h h5
      obtain rfl : d = e := by omega
      have e4 : (v.k = 4) = False := eq_false hk
      have eL : fieldsL v.t = xs := by simp [fieldsL, hit]
      obtain ⟨hs1, hs2⟩ := fields_small hit
      have hi := l01Fields v.t (by omega)
      rw [hit] at hi
      simp only [fieldsX] at hi
      have et : txtD (d + 1) v = [123] ++ Lib.join (xs.map (fun f => f.name ++ [58] ++ txtD d f.v)) [44] ++ [125] := by simp [txtD, e0, e1, e2, e3, e4, eL]
      rw [et] at hlen ⊢
      obtain ⟨X, A, B, C, M, hl⟩ := sk1 (specText_fields xs (txtD d) (fun f hm => by
        have h1 := hs2 f hm
        have h2 := txtD_len d f.v (hx f hm).2
        exact ⟨ih f.v (hx f hm).2 (by omega), by omega, by omega⟩) (by omega))
      simp only [loopAt, loopsOf, Tryd.f22] at hl
      simp only [List.length_append, List.length_cons, List.length_nil] at hlen
      have hj := l00Join (xs.map (fun f => f.name ++ [58] ++ txtD d f.v)) [44] (by simp; omega) (by omega)
      generalize hM : xs.map (fun f => f.name ++ [58] ++ txtD d f.v) = ws at *
      generalize Lib.join ws [44] = J at *
      have l1 : 1 + J.length ≤ 140737488355328 := by omega
      have l2 : J.length + 1 ≤ 140737488355328 := by omega
      have l3 : J.length + 1 + 1 ≤ 140737488355328 := by omega
      clear hk et h5
      simp at hl hi hj
      simp (maxDischargeDepth := 6) [e0, e1, e2, e3, e4, hi, hl, hj, l1, l2, l3]
end Go.Ud
/- An update's text: both sides, and the law. -/
set_option linter.unusedSimpArgs false
set_option linter.unusedVariables false
namespace Go.Ud
open Go.Ev Go.Proofs Go.Pu
set_option maxRecDepth 100000
set_option maxHeartbeats 16000000
def wordU (op : Int) : Bytes := tabWords.getD (op - 1).toNat []
theorem wordU_len (op : Int) : (wordU op).length ≤ 6 := by
  unfold wordU
  rw [List.getD_eq_getElem?_getD]
  cases h : tabWords[(op - 1).toNat]? with
  | none => simp
  | some w =>
    have hm := List.mem_of_getElem? h
    have : ∀ x ∈ tabWords, x.length ≤ 6 := by decide
    exact this w hm
def txtU (t : Trm) : Bytes := (wordU t.op ++ [32] ++ t.path) ++ (if t.op = 2 then [] else [32] ++ txtD 5 t.v)
def updOut (t : Trm) : Bytes × Int := if updOK t then (txtU t, 0) else ([], 1)
theorem wordU_get (op : Int) (h1 : 1 ≤ op) (h5 : op ≤ 5) : (([] :: tabWords).map strT)[op.toNat]? = some (.str (wordU op)) := by
  obtain ⟨n, rfl, hn⟩ : ∃ n : Nat, op = (n : Int) + 1 ∧ n < 5 := ⟨(op - 1).toNat, by omega, by omega⟩
  have e : ((n : Int) + 1).toNat = n + 1 := by omega
  have e2 : ((n : Int) + 1 - 1).toNat = n := by omega
  rw [e, List.map_cons, List.getElem?_cons_succ, List.getElem?_map]
  unfold wordU
  rw [e2, List.getD_eq_getElem?_getD]
  have hl : n < tabWords.length := by rw [show tabWords.length = 5 from rfl]; exact hn
  rw [List.getElem?_eq_getElem hl]
  rfl
theorem wordU_at (op : Int) (h1 : 1 ≤ op) (h5 : op ≤ 5) : globAt E 52 0 (.t (.int .i64 (op - 1))) = some (.dptr [.str (wordU op)]) := by
  obtain ⟨n, rfl, hn⟩ : ∃ n : Nat, op = (n : Int) + 1 ∧ n < 5 := ⟨(op - 1).toNat, by omega, by omega⟩
  have e2 : ((n : Int) + 1 - 1) = (n : Int) := by omega
  have e3 : ((n : Int) + 1 - 1).toNat = n := by omega
  have hl : n < tabWords.length := by rw [show tabWords.length = 5 from rfl]; exact hn
  have hgl : E.glob 0 = tabWords.map T.str := rfl
  have hg : (E.glob 0)[n]? = some (.str (wordU ((n : Int) + 1))) := by
    rw [hgl, List.getElem?_map]
    unfold wordU
    rw [e3, List.getD_eq_getElem?_getD, List.getElem?_eq_getElem hl]
    rfl
  unfold globAt
  rw [E_arr52, e2]
  have ha : asNat (.t (.int .i64 (n : Int))) = some n := by simp [asNat]
  simp only [ha, hg, hn, if_true]
  simp [T.one, T.flat]
theorem pathOK_le {p : Bytes} (h : pathOK p = true) : p.length ≤ 50 := by
  unfold pathOK at h
  simp at h
  exact h.1.1
theorem updOK_fit {t : Trm} (h : updOK t = true) : (1 ≤ t.op ∧ t.op ≤ 5) ∧ t.path.length ≤ 50 ∧ okP 5 t.v = true := by
  unfold updOK at h
  simp only [Bool.and_eq_true] at h
  obtain ⟨⟨⟨h1, h2⟩, h3⟩, h4⟩ := h
  refine ⟨?_, pathOK_le h1, h3⟩
  split at h4
  · omega
  · split at h4
    · omega
    · simp at h4
      omega
theorem implUpdateText (t : Trm) (hs : t.sm) : run E (.call 13 [.t (trmT t)]) = some (.res [xS (updOut t).1, xI (updOut t).2] []) := by
  rw [run_call E 13 _ rfl Tryd.func13 rfl rfl rfl (by simp)]
  have d3 := d13_3
  simp [regionOf, findR, pick, Tryd.f13] at d3
  have dd := fun st => run_region_draw E st 3 _ d3
  clear d3
  have h1 := implUpdateOK t hs
  unfold updOut
  cases hu : updOK t with
  | false => simp [h1, hu]
  | true =>
    obtain ⟨⟨o1, o5⟩, hp, hv⟩ := updOK_fit hu
    have hk := implText 5 t.v hv (by have := okP_size hv; omega)
    have hg := wordU_at t.op o1 o5
    have hwo := wrap_of (n := t.op - 1) (by omega) (by omega)
    have htl := txtD_len 5 t.v hv
    have hts := okP_size hv
    have hwl := wordU_len t.op
    have l1 : (wordU t.op).length + 1 ≤ 140737488355328 := by omega
    have l2 : (wordU t.op).length + 1 + t.path.length ≤ 140737488355328 := by omega
    have l3 : 1 + (txtD 5 t.v).length ≤ 140737488355328 := by omega
    have l3' : (txtD 5 t.v).length + 1 ≤ 140737488355328 := by omega
    have l4 : (wordU t.op).length + (t.path.length + 1) ≤ 140737488355328 := by omega
    have l5 : (wordU t.op).length + (t.path.length + 1) + (1 + (txtD 5 t.v).length) ≤ 140737488355328 := by omega
    have l6 : (wordU t.op).length + (t.path.length + 1) + ((txtD 5 t.v).length + 1) ≤ 140737488355328 := by omega
    have l7 : (wordU t.op).length + (t.path.length + ((txtD 5 t.v).length + 1) + 1) ≤ 140737488355328 := by omega
    by_cases h2 : t.op = 2
    · have h2' : (t.op = 2) = True := eq_true h2
      simp [h1, hu, dd, hg, hwo, -globAt, l1, l2, l4, txtU, h2']
    · simp [h1, hu, dd, hg, hwo, -globAt, hk, l1, l2, l3, l3', l4, l5, l6, l7, txtU, h2]
theorem get_of {l : List T} {i : Nat} {x : T} (h : l[i]? = some x) : ∀ hi : i < l.length, l[i]'hi = x := fun hi => by
  rw [List.getElem?_eq_getElem hi] at h
  exact Option.some.inj h
theorem specUpdateText (t : Trm) (hs : t.sm) : run E (.call 11 [.t (trmT t)]) = some (.res [xS (updOut t).1, xI (updOut t).2] []) := by
  rw [run_call E 11 _ rfl Tryd.func11 rfl rfl rfl (by simp)]
  have n3 := n11_3
  have s3 := s11_3
  simp [regionOf, findR, pick, Tryd.f11] at n3 s3
  have dd := fun st => run_region_drawS E st 3 _ n3 s3
  clear n3 s3
  have h1 := specUpdateOK t hs
  unfold updOut
  cases hu : updOK t with
  | false => simp [h1, hu]
  | true =>
    obtain ⟨⟨o1, o5⟩, hp, hv⟩ := updOK_fit hu
    have hk := specText 5 t.v hv (by have := okP_size hv; omega)
    have hg := wordU_get t.op o1 o5
    have htl := txtD_len 5 t.v hv
    have hts := okP_size hv
    have hwl := wordU_len t.op
    simp only [tabWords, List.map_cons, List.map_nil, strT] at hg
    have hg' := get_of hg
    have hr6 : ([0, 1, 2, 3, 4, 5] : List Nat) = List.range 6 := rfl
    have o0 : (0 : Int) ≤ t.op := by omega
    have o6 : t.op < 6 := by omega
    have l1 : (wordU t.op).length + 1 ≤ 140737488355328 := by omega
    have l2 : (wordU t.op).length + 1 + t.path.length ≤ 140737488355328 := by omega
    have l3 : 1 + (txtD 5 t.v).length ≤ 140737488355328 := by omega
    have l3' : (txtD 5 t.v).length + 1 ≤ 140737488355328 := by omega
    have l4 : (wordU t.op).length + (t.path.length + 1) ≤ 140737488355328 := by omega
    have l5 : (wordU t.op).length + (t.path.length + 1) + (1 + (txtD 5 t.v).length) ≤ 140737488355328 := by omega
    have l6 : (wordU t.op).length + (t.path.length + 1) + ((txtD 5 t.v).length + 1) ≤ 140737488355328 := by omega
    have l7 : (wordU t.op).length + (t.path.length + ((txtD 5 t.v).length + 1) + 1) ≤ 140737488355328 := by omega
    by_cases h2 : t.op = 2
    · have h2' : (t.op = 2) = True := eq_true h2
      simp [h1, hu, dd, hg, hg', hr6, o0, o6, l1, l2, l4, txtU, h2']
    · simp [h1, hu, dd, hg, hg', hr6, o0, o6, hk, l1, l2, l3, l3', l4, l5, l6, l7, txtU, h2]
theorem lawUpdateText (t : Trm) (h : t.wd) : run E (.call 4 [.t (trmT t)]) = some (.res [xB true] []) := by
  rw [run_call E 4 _ rfl Tryd.func4 rfl rfl rfl (by simp)]
  have h1 := szUpdate t h 1048576 (by omega) (by omega)
  by_cases hn : szTrm t 1048576 < 0
  · simp [h1, hn]
  · have hs : t.sm := szTrm_sm (by omega) (by omega) hn
    have t1 := toUpdate t
    have t3 := specUpdateText t hs
    have t4 := implUpdateText t hs
    generalize updOut t = R at *
    obtain ⟨b, c⟩ := R
    simp [h1, hn, t1, t3, t4, trmX]
end Go.Ud
/- A row's tables, as they lie in memory. -/
set_option linter.unusedSimpArgs false
set_option linter.unusedVariables false
namespace Go.Ev
open Go.RowKit
/-- A table of texts, as a row lists it. -/
def strData {H : Type} (zs : List (List UInt8)) : DataW H := .agg (zs.map fun z => .lit (.string z))
theorem cells_of_strs {H : Type} {enc : TypeId × Value → H} {P : Program} {w : World} {base : Nat} {sp : Nat → Bool} {held : Bool} {fuel : Nat} {t e : TypeId} {n : Nat} {cs : List Value} {zs : List (List UInt8)} {p : List MemPlace}
    (ht : P.underlying t = some (.array n e)) (he : P.underlying e = some .string) (hce : P.cellsOf e = 1) (hct : P.cellsOf t = n)
    (h : DataW.trod enc P w base sp held fuel t cs = some (strData zs, p)) : cs = zs.map fun z => Value.string ⟨⟨z⟩⟩ := by
  cases fuel with
  | zero => simp [DataW.trod] at h
  | succ fuel =>
    simp only [DataW.trod, ht, hce, hct, Nat.mul_one] at h
    split at h
    · rename_i hl
      obtain ⟨xs, hm, hx⟩ := Option.map_eq_some_iff.1 h
      have hxs : xs.map (·.1) = zs.map fun z => (DataW.lit (.string z) : DataW H) := by
        have := congrArg Prod.fst hx
        simpa [strData] using this
      have hxl : xs.length = n := by simpa using Lib.mapM_length hm
      have hzl : zs.length = n := by
        have := congrArg List.length hxs
        simp at this
        omega
      apply List.ext_getElem?
      intro i
      by_cases hi : i < n
      · obtain ⟨b, hb, hf⟩ := Lib.mapM_at hm i i (by simp [hi])
        obtain ⟨z, hc, rfl, _⟩ := DataW.trod_string he hf
        have h1 : cs[i]? = some (.string z) := by
          have := congrArg (·[0]?) hc
          simpa [List.getElem?_take, List.getElem?_drop] using this
        have h2 : (xs.map (·.1))[i]? = some (DataW.lit (.string z.data.toList) : DataW H) := by simp [hb]
        rw [hxs] at h2
        simp only [List.getElem?_map, Option.map_eq_some_iff, DataW.lit.injEq, Lit.string.injEq] at h2
        obtain ⟨z', hz', rfl⟩ := h2
        simp [h1, hz']
      · rw [List.getElem?_eq_none (by omega), List.getElem?_eq_none (by simp; omega)]
    · cases h
theorem laid_mem {P : Program} {W : World} {name : String} {d : DataW Unit} : ∀ {l : List (String × DataW Unit)}, laidMet P l W → (name, d) ∈ l →
    ∃ r, laidMet P ((name, d) :: r) W
  | x :: r, h, hm => by
    rcases List.mem_cons.1 hm with rfl | hm
    · exact ⟨r, h⟩
    · exact laid_mem h.tail hm
theorem heap_of_var {P : Program} {W : World} {name : String} {g : Nat} {cs : Array Value} (hg : P.globalNamed name = some g) (h : W.var? P name = some cs) : ∃ a b, W.heap[g]? = some (.cells cs a b) := by
  unfold World.var? at h
  rw [hg, Option.bind_some] at h
  split at h
  · rename_i cs' a b hh
    obtain rfl := Option.some.inj h
    exact ⟨a, b, hh⟩
  · cases h
/-- A table of integers lies there. -/
theorem laid_ints {P : Program} {W : World} {l : List (String × DataW Unit)} {name : String} {k : IntKind} {zs : List Int} {g : Nat} {t e : TypeId} {n : Nat} (h : laidMet P l W) (hm : (name, Lib.tabData k zs) ∈ l)
    (hg : P.globalNamed name = some g) (hty : (P.globals[g]?).map (·.type) = some t) (ht : P.underlying t = some (.array n e)) (he : P.underlying e = some (.int k)) (hce : P.cellsOf e = 1) (hct : P.cellsOf t = n) :
    ∃ a b, W.heap[g]? = some (.cells ((zs.map (T.int k)).map vOf).toArray a b) := by
  obtain ⟨r, hr⟩ := laid_mem h hm
  have := Lib.tabIs_of_head hg hty ht he hce hct hr
  obtain ⟨a, b, hh⟩ := heap_of_var hg this
  exact ⟨a, b, by rw [hh, List.map_map]; rfl⟩
theorem laid_strs {P : Program} {W : World} {l : List (String × DataW Unit)} {name : String} {zs : List (List UInt8)} {g : Nat} {t e : TypeId} {n : Nat} (h : laidMet P l W) (hm : (name, strData zs) ∈ l)
    (hg : P.globalNamed name = some g) (hty : (P.globals[g]?).map (·.type) = some t) (ht : P.underlying t = some (.array n e)) (he : P.underlying e = some .string) (hce : P.cellsOf e = 1) (hct : P.cellsOf t = n) :
    ∃ a b, W.heap[g]? = some (.cells ((zs.map T.str).map vOf).toArray a b) := by
  obtain ⟨r, ps, ⟨g', t', cs, fuel, p, q, hg', ht', hvar, hd, _, _⟩, _⟩ := laid_mem h hm
  obtain rfl := Option.some.inj (hg.symm.trans hg')
  obtain rfl := Option.some.inj (hty.symm.trans ht')
  obtain ⟨a, b, hh⟩ := heap_of_var hg hvar
  refine ⟨a, b, ?_⟩
  have hc := cells_of_strs ht he hce hct hd
  rw [hh, show cs = cs.toList.toArray by simp, hc, List.map_map]
  rfl
end Go.Ev
/- A row's variables: they read behind the call as they did ahead of it. -/
set_option linter.unusedSimpArgs false
set_option linter.unusedVariables false
namespace Go.Ev
open Go.RowKit Go.ChangeShapes Go.WideShapes
variable {H : Type} {enc : TypeId × Value → H} {P : Program} {w w' : World}
theorem var?_below {n : String} {cs : Array Value} (h : w.var? P n = some cs) (hb : Below w.heap.size w w') : w'.var? P n = some cs := by
  unfold World.var? at h ⊢
  cases hg : P.globalNamed n with
  | none => rw [hg] at h; cases h
  | some g =>
    rw [hg] at h
    simp only [Option.bind_some] at h ⊢
    have hlt : g < w.heap.size := by
      by_cases hlt : g < w.heap.size
      · exact hlt
      · rw [Array.getElem?_eq_none (by omega)] at h; cases h
    rw [hb.block g hlt]
    exact h
theorem trodVars_back (hl : laidOutB P = true) : ∀ {ns : List String} {ds : List (DataW H)} {ps : List MemPlace}, (∀ n ∈ ns, ∀ g t, P.globalNamed n = some g → (P.globals[g]?).map (·.type) = some t → P.readableRec t = true ∧ t < P.types.size) →
    DataW.TrodVars enc P w (fun _ => true) ns ds ps → Below w.heap.size w w' → DataW.TrodVars enc P w' (fun b => decide (b < w.heap.size)) ns ds ps
  | [], ds, ps, hr, h, hb => by
    cases ds <;> simp [DataW.TrodVars] at h ⊢
    exact h
  | n :: ns, [], ps, hr, h, hb => by simp [DataW.TrodVars] at h
  | n :: ns, d :: ds, ps, hr, ⟨g, t, cs, fuel, p, q, h1, h2, h3, h4, hs, e⟩, hb => by
    obtain ⟨r1, r2⟩ := hr n (by simp) g t h1 h2
    have hlt : ∀ x ∈ p, x.block < w.heap.size := DataW.trod_lt fuel _ _ _ h4
    exact ⟨g, t, cs, fuel, p, q, h1, h2, var?_below h3 hb, DataW.trod_stays (kids_book hl r1) (book_sized r1) (fun h => by cases h) ⟨r2, book_self t⟩ h4 (fun x hx => hb.same (hlt x hx)) (fun x hx => by simpa using hlt x hx), trodVars_back hl (fun m hm => hr m (by simp [hm])) hs hb, e⟩
end Go.Ev
