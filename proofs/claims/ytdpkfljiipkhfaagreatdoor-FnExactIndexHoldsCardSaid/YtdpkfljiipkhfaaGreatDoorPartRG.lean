/- spec's values: l01Of, l01Next. -/
import Derived.Test.YtdpkfljiipkhfaaGreatDoorPartRF
import Derived.Shelf.Small.Strs
import Derived.Shelf.Strings.Repeat
import Derived.Test.YtdpkfljiipkhfaaGreatDoorProg
import Derived.Test.YtdpkfljiipkhfaaGreatDoorPartRE
import Derived.Below
import Derived.Shelf.SlicesE.Clone
namespace Go.Rd
open Go.Ev Go.Proofs Go.Pu
set_option linter.unusedSimpArgs false
set_option linter.unusedVariables false
set_option maxRecDepth 100000
set_option maxHeartbeats 8000000
theorem l01Of_loop (t : List UInt8) (ht : t.length < 9223372036854775807) (o : Nat → Ob) (q : Nat) : ∀ (k i : Nat) (n : Int) (s : Nat → SV), i + k = t.length → s 0 = .t (.str t) → s 4 = .t (.int .i64 i) → s 3 = .t (.int .i64 n) →
    ∃ s', run E (.code (.loop (loopAt Tryz.f329 0)) ⟨s, o, q, 19⟩) = some (.st (.exit 0) ⟨s', o, q, 19⟩) ∧ s' 3 = .t (.int .i64 (ofBytes n (t.drop i)))
  | 0, i, n, s, hk, h0, h4, h3 => by
    have hi : ¬ ((i : Int) < (t.length : Int)) := by omega
    rw [run_loop]
    have hd : t.drop i = [] := by simp; omega
    simp [loopAt, loopsOf, Tryz.f329, h0, h4, h3, hi, hd, ofBytes]
  | k + 1, i, n, s, hk, h0, h4, h3 => by
    have hi : ((i : Int) < (t.length : Int)) := by omega
    have hil : i < t.length := by omega
    have hd : t.drop i = t[i] :: t.drop (i + 1) := by rw [List.drop_eq_getElem_cons hil]
    have hb := t[i].toNat_lt
    have hw : IntKind.i64.wrap (t[i].toNat : Int) = t[i].toNat := wrap_of (by omega) (by omega)
    have hw2 : IntKind.i64.wrap ((i : Int) + 1) = ((i + 1 : Nat) : Int) := by rw [wrap_of (by omega) (by omega)]; rfl
    have ih := l01Of_loop t ht o q k (i + 1) (IntKind.i64.wrap (IntKind.i64.wrap (n * 256) + t[i].toNat))
    rw [run_loop]
    simp [loopAt, loopsOf, Tryz.f329] at ih
    simp [loopAt, loopsOf, Tryz.f329, h0, h4, h3, hi, hil, hw, hw2]
    rw [hd, ofBytes]
    refine ih _ (by omega) ?_ ?_ ?_ <;> simp [h0]
theorem l01Of (t : List UInt8) (ht : t.length < 9223372036854775807) : run E (.call 329 [.t (.str t)]) = some (.res [.t (.int .i64 (ofBytes 0 t))] []) := by
  rw [run_call E 329 _ rfl Tryz.func329 rfl rfl rfl (by simp)]
  have hl := l01Of_loop t ht (fun _ => .dead) 0 t.length 0 0
  simp [loopAt, loopsOf, Tryz.f329] at hl
  simp
  obtain ⟨s', h1, h2⟩ := hl (upd (upd (upd (fun i => [SV.t (T.str t)][i]?.getD SV.undef) 2 (SV.t (T.int IntKind.i64 0))) 3 (SV.t (T.int IntKind.i64 0))) 4 (SV.t (T.int IntKind.i64 0))) (by simp) (by simp) (by simp)
  simp [h1, h2]
theorem l01Next_null (b : UInt8) (r : List UInt8) (hb : b.toNat = 0) : run E (.call 277 [.t (.str (b :: r))]) = some (.res [valX ⟨0, 0, []⟩, .t (.str r), .t (.bool true)] []) := by
  rw [run_call E 277 _ rfl Tryz.func277 rfl rfl rfl (by simp)]
  have d := d277_8
  simp [regionOf, findR, pick, Tryz.f277] at d
  have dd := fun st => run_region_draw E st 8 _ d
  clear d
  simp [dd, wrap_of, succ_ne, hb]
theorem l01Next_other (b : UInt8) (r : List UInt8) (h0 : ¬ b.toNat = 0) (h1 : ¬ b.toNat = 1) (h2 : ¬ b.toNat = 2) (h3 : ¬ b.toNat = 3) (h4 : ¬ b.toNat = 4) (h5 : ¬ b.toNat = 5) : run E (.call 277 [.t (.str (b :: r))]) = some (.res [valX ⟨0, 0, []⟩, .t (.str []), .t (.bool false)] []) := by
  rw [run_call E 277 _ rfl Tryz.func277 rfl rfl rfl (by simp)]
  have hw : IntKind.i64.wrap (b.toNat : Int) = b.toNat := wrap_of (by omega) (by have := b.toNat_lt; omega)
  have e0 : ¬ ((b.toNat : Int) = 0) := by omega
  have e1 : ¬ ((b.toNat : Int) = 1) := by omega
  have e2 : ¬ ((b.toNat : Int) = 2) := by omega
  have e3 : ¬ ((b.toNat : Int) = 3) := by omega
  have e4 : ¬ ((b.toNat : Int) = 4) := by omega
  have e5 : ¬ ((b.toNat : Int) = 5) := by omega
  simp [succ_ne, hw, e0, e1, e2, e3, e4, e5, h0, h1, h2, h3, h4, h5]
theorem l01Next_bool (b x : UInt8) (r : List UInt8) (h1 : b.toNat = 1) : run E (.call 277 [.t (.str (b :: x :: r))]) = some (.res [valX ⟨1, x.toNat, []⟩, .t (.str r), .t (.bool true)] []) := by
  rw [run_call E 277 _ rfl Tryz.func277 rfl rfl rfl (by simp)]
  have d := d277_30
  simp [regionOf, findR, pick, Tryz.f277] at d
  have dd := fun st => run_region_draw E st 30 _ d
  clear d
  have hx : IntKind.i64.wrap (x.toNat : Int) = x.toNat := wrap_of (by omega) (by have := x.toNat_lt; omega)
  have hl : ¬ ((r.length : Int) + 1 + 1 < 2) := by omega
  have hs : ∀ n : Nat, ((n : Int) + 1 + 1 = 0) = False := fun n => by simp; omega
  simp [dd, wrap_of, succ_ne, h1, hx, hl, hs]
theorem l01Next_bool_short (b : UInt8) (h1 : b.toNat = 1) : run E (.call 277 [.t (.str [b])]) = some (.res [valX ⟨0, 0, []⟩, .t (.str []), .t (.bool false)] []) := by
  rw [run_call E 277 _ rfl Tryz.func277 rfl rfl rfl (by simp)]
  simp [wrap_of, succ_ne, h1]
theorem l01Of_two (x y : UInt8) : run E (.call 329 [.t (.str [x, y])]) = some (.res [.t (.int .i64 (two x y : Nat))] []) := by
  rw [l01Of [x, y] (by simp), ofBytes_two]
theorem l01Next_text (b x y : UInt8) (r : List UInt8) (hb : b.toNat = 3 ∨ b.toNat = 4 ∨ b.toNat = 5) (hr : two x y ≤ r.length) : run E (.call 277 [.t (.str (b :: x :: y :: r))]) = some (.res [valX ⟨b.toNat, 0, r.take (two x y)⟩, .t (.str (r.drop (two x y))), .t (.bool true)] []) := by
  rw [run_call E 277 _ rfl Tryz.func277 rfl rfl rfl (by simp)]
  have d := d277_22
  simp [regionOf, findR, pick, Tryz.f277] at d
  have dd := fun st => run_region_draw E st 22 _ d
  clear d
  have hk := two_lt x y
  have hw : IntKind.i64.wrap (3 + (two x y : Int)) = 3 + (two x y : Int) := wrap_of (by omega) (by omega)
  have hl : ¬ ((r.length : Int) + 1 + 1 + 1 < 3) := by omega
  have hl2 : ¬ ((r.length : Int) + 1 + 1 + 1 < 3 + (two x y : Int)) := by omega
  have hs : ∀ n : Nat, ((n : Int) + 1 + 1 + 1 = 0) = False := fun n => by simp; omega
  have hn : (0 : Int) ≤ 3 + (two x y : Int) := by omega
  have ht : (3 + (two x y : Int)).toNat = 3 + two x y := by omega
  have hc : 3 + two x y ≤ r.length + 1 + 1 + 1 := by omega
  have e : 3 + two x y = two x y + 1 + 1 + 1 := by omega
  rcases hb with hb | hb | hb <;> simp [dd, wrap_of, succ_ne, hb, hl, hl2, hs, hw, l01Of_two, hn, ht, hc] <;> simp [e]
theorem l01Next_long (b x y : UInt8) (r : List UInt8) (hb : b.toNat = 3 ∨ b.toNat = 4 ∨ b.toNat = 5) (hr : r.length < two x y) : run E (.call 277 [.t (.str (b :: x :: y :: r))]) = some (.res [valX ⟨0, 0, []⟩, .t (.str []), .t (.bool false)] []) := by
  rw [run_call E 277 _ rfl Tryz.func277 rfl rfl rfl (by simp)]
  have hk := two_lt x y
  have hw : IntKind.i64.wrap (3 + (two x y : Int)) = 3 + (two x y : Int) := wrap_of (by omega) (by omega)
  have hl : ¬ ((r.length : Int) + 1 + 1 + 1 < 3) := by omega
  have hl2 : ((r.length : Int) + 1 + 1 + 1 < 3 + (two x y : Int)) := by omega
  have hs : ∀ n : Nat, ((n : Int) + 1 + 1 + 1 = 0) = False := fun n => by simp; omega
  rcases hb with hb | hb | hb <;> simp [wrap_of, succ_ne, hb, hl, hl2, hs, hw, l01Of_two]
theorem l01Next_short (b : UInt8) (r : List UInt8) (hb : b.toNat = 3 ∨ b.toNat = 4 ∨ b.toNat = 5) (hr : r.length < 2) : run E (.call 277 [.t (.str (b :: r))]) = some (.res [valX ⟨0, 0, []⟩, .t (.str []), .t (.bool false)] []) := by
  rw [run_call E 277 _ rfl Tryz.func277 rfl rfl rfl (by simp)]
  have hl : ((r.length : Int) + 1 < 3) := by omega
  rcases hb with hb | hb | hb <;> simp [wrap_of, succ_ne, hb, hl]
theorem l01Next_int_short (b : UInt8) (r : List UInt8) (hb : b.toNat = 2) (hr : r.length < 8) : run E (.call 277 [.t (.str (b :: r))]) = some (.res [valX ⟨0, 0, []⟩, .t (.str []), .t (.bool false)] []) := by
  rw [run_call E 277 _ rfl Tryz.func277 rfl rfl rfl (by simp)]
  have hl : ((r.length : Int) + 1 < 9) := by omega
  simp [wrap_of, succ_ne, hb, hl]
theorem l01Next_int_big (b x : UInt8) (r : List UInt8) (hb : b.toNat = 2) (hr : 7 ≤ r.length) (hx : 127 < x.toNat) : run E (.call 277 [.t (.str (b :: x :: r))]) = some (.res [valX ⟨0, 0, []⟩, .t (.str []), .t (.bool false)] []) := by
  rw [run_call E 277 _ rfl Tryz.func277 rfl rfl rfl (by simp)]
  have hl : ¬ ((r.length : Int) + 1 + 1 < 9) := by omega
  have hs : ∀ n : Nat, ((n : Int) + 1 + 1 = 0) = False := fun n => by simp; omega
  have hx' : (127 : Int) < (x.toNat : Int) := by omega
  simp [wrap_of, succ_ne, hb, hl, hs, hx']
theorem l01Next_int (b x : UInt8) (r : List UInt8) (hb : b.toNat = 2) (hr : 7 ≤ r.length) (hx : ¬ 127 < x.toNat) : run E (.call 277 [.t (.str (b :: x :: r))]) = some (.res [valX ⟨2, (IntKind.i64.wrap (ofBytes 0 (x :: r.take 7) - 4611686018427387904)), []⟩, .t (.str (r.drop 7)), .t (.bool true)] []) := by
  rw [run_call E 277 _ rfl Tryz.func277 rfl rfl rfl (by simp)]
  have d := d277_30
  simp [regionOf, findR, pick, Tryz.f277] at d
  have dd := fun st => run_region_draw E st 30 _ d
  clear d
  have hl : ¬ ((r.length : Int) + 1 + 1 < 9) := by omega
  have hs : ∀ n : Nat, ((n : Int) + 1 + 1 = 0) = False := fun n => by simp; omega
  have hx' : ¬ (127 : Int) < (x.toNat : Int) := by omega
  have hc : 9 ≤ r.length + 1 + 1 := by omega
  have ho := l01Of (x :: r.take 7) (by simp; omega)
  simp [dd, wrap_of, succ_ne, hb, hl, hs, hx', hc, ho]
/-- As l01Next answers. -/
def nextX : Option (Val × Bytes) → List X
  | some (v, r) => [valX v, xS r, xB true]
  | none => [valX ⟨0, 0, []⟩, xS [], xB false]
theorem l01Next (t : Bytes) (ht : t.length < 9223372036854775807) : run E (.call 277 [xS t]) = some (.res (nextX (nextP t)) []) := by
  cases t with
  | nil =>
    rw [run_call E 277 _ rfl Tryz.func277 rfl rfl rfl (by simp)]
    simp [nextP, nextX]
  | cons b r =>
    unfold nextP
    by_cases h0 : b.toNat = 0
    · simp only [h0, if_true, nextX]
      exact l01Next_null b r h0
    · by_cases h1 : b.toNat = 1
      · simp only [h1, Nat.one_ne_zero, if_false, if_true]
        cases r with
        | nil => exact l01Next_bool_short b h1
        | cons x r => exact l01Next_bool b x r h1
      · by_cases h2 : b.toNat = 2
        · simp only [h0, h1, h2, if_false, if_true]
          by_cases hl : r.length < 8
          · simp only [hl, if_true, nextX]
            exact l01Next_int_short b r h2 hl
          · cases r with
            | nil => simp at hl
            | cons x r =>
              simp only [List.length_cons] at hl
              by_cases hx : 127 < x.toNat
              · have h8 : ¬ (x :: r).length < 8 := by simp; omega
                simp only [h8, List.headD_cons, hx, if_true, if_false, nextX]
                exact l01Next_int_big b x r h2 (by omega) hx
              · have h8 : ¬ (x :: r).length < 8 := by simp; omega
                simp only [h8, List.headD_cons, hx, if_true, if_false, nextX, List.take_succ_cons, List.drop_succ_cons]
                exact l01Next_int b x r h2 (by omega) hx
        · by_cases h3 : b.toNat = 3 ∨ b.toNat = 4 ∨ b.toNat = 5
          · simp only [h0, h1, h2, h3, if_false, if_true]
            match r with
            | [] => exact l01Next_short b [] h3 (by simp)
            | [x] => exact l01Next_short b [x] h3 (by simp)
            | x :: y :: r' =>
              simp only
              by_cases hl : r'.length < two x y
              · simp only [hl, if_true, nextX]
                exact l01Next_long b x y r' h3 hl
              · simp only [hl, if_false, nextX]
                exact l01Next_text b x y r' h3 (by omega)
          · simp only [h0, h1, h2, h3, if_false, nextX]
            exact l01Next_other b r h0 h1 h2 (by omega) (by omega) (by omega)
def itemsX : Option (List Val) → List X
  | some xs => [.row 74 (xs.map valT), xB true]
  | none => [.row 74 [], xB false]
theorem l01Items (t : Bytes) (ht : t.length < 4294967296) : run E (.call 192 [xS t]) = some (.res (itemsX (itemsP t)) []) := by
  rw [run_call E 192 _ rfl Tryz.func192 rfl rfl rfl (by simp)]
  have lp := fun (res : Option (List Val)) (hres : itemsP t = res) => sk1 (fun s o q hI => loop_wf (c := loopAt Tryz.f192 0) (N := 27)
    (fun k s o q => ∃ r body xs, s 0 = .t (.str body) ∧ s 4 = .row r ∧ o r = .row 74 (xs.map valT) true ∧ r < q ∧ body.length = k ∧ itemsP t = (itemsP body).map (xs ++ ·) ∧ xs.length + body.length ≤ t.length)
    (fun e s' o' q' => ∃ r, match (generalizing := false) res with
      | some L => e = .exit 0 ∧ s' 4 = .row r ∧ o' r = .row 74 (L.map valT) true
      | none => e = .ret ∧ s' 2 = .row r ∧ s' 3 = .t (.bool false) ∧ o' r = .row 74 [] true)
    (by
      rintro k s o q ⟨r, body, xs, h0, h4, ho, hrq, hk, hit, hl⟩
      cases body with
      | nil =>
        rw [hres] at hit
        simp [itemsP_nil] at hit
        subst hit
        simp [loopAt, loopsOf, Tryz.f192, h0, h4, ho]
      | cons b u =>
        have hn := l01Next (b :: u) (by simp at hl ⊢; omega)
        have hpos : (0 : Int) < (u.length : Int) + 1 := by omega
        have hrn : r ≠ q := by omega
        have hrn1 : r ≠ q + 1 := by omega
        have hqn : q ≠ r := by omega
        cases hnx : nextP (b :: u) with
        | none =>
          rw [itemsP_none hnx, Option.map_none] at hit
          rw [hres] at hit
          subst hit
          simp [hnx, nextX] at hn
          simp [loopAt, loopsOf, Tryz.f192, h0, h4, ho, hn, hpos]
        | some p =>
          obtain ⟨v, rest⟩ := p
          have hlen := (nextP_len hnx).1
          rw [itemsP_some hnx] at hit
          simp [hnx, nextX] at hn
          have hx1 : xs.length + 1 ≤ 140737488355328 := by simp at hl; omega
          have hx2 : (xs.length + 1) * 32 ≤ 140737488355328 := by simp at hl; omega
          simp [loopAt, loopsOf, Tryz.f192, h0, h4, ho, hn, hpos, hrn, hrn1, hqn, hx1, hx2]
          refine ⟨rest.length, by simp at hk hlen; omega, xs ++ [v], by simp, rfl, ?_, by simp at hl hlen ⊢; omega⟩
          rw [hit, Option.map_map]
          congr 1
          funext l
          simp)
    t.length s o q hI)
  simp only [loopAt, loopsOf, Tryz.f192] at lp
  cases hres : itemsP t with
  | some L =>
    obtain ⟨X, A, B, C, M, hx⟩ := lp _ hres
    have hx' := fun s o q r a0 a4 a5 a6 => hx s o q ⟨r, t, [], a0, a4, a5, a6, rfl, by simp, by simp⟩
    clear hx
    simp at hx'
    simp [hx', itemsX]
  | none =>
    obtain ⟨X, A, B, C, M, hx⟩ := lp _ hres
    have hx' := fun s o q r a0 a4 a5 a6 => hx s o q ⟨r, t, [], a0, a4, a5, a6, rfl, by simp [hres], by simp⟩
    clear hx
    simp at hx'
    simp [hx', itemsX]
def fieldsX : Option (List Fld) → List X
  | some xs => [.row 211 (xs.map fldT), xB true]
  | none => [.row 211 [], xB false]
theorem l01Fields (t : Bytes) (ht : t.length < 4294967296) : run E (.call 194 [xS t]) = some (.res (fieldsX (fieldsP t)) []) := by
  rw [run_call E 194 _ rfl Tryz.func194 rfl rfl rfl (by simp)]
  have lp := fun (res : Option (List Fld)) (hres : fieldsP t = res) => sk1 (fun s o q hI => loop_wf (c := loopAt Tryz.f194 0) (N := 47)
    (fun k s o q => ∃ r body xs, s 0 = .t (.str body) ∧ s 4 = .row r ∧ o r = .row 211 (xs.map fldT) true ∧ r < q ∧ body.length = k ∧ fieldsP t = (fieldsP body).map (xs ++ ·) ∧ xs.length + body.length ≤ t.length)
    (fun e s' o' q' => ∃ r, match (generalizing := false) res with
      | some L => e = .exit 0 ∧ s' 4 = .row r ∧ o' r = .row 211 (L.map fldT) true
      | none => e = .ret ∧ s' 2 = .row r ∧ s' 3 = .t (.bool false) ∧ o' r = .row 211 [] true)
    (by
      rintro k s o q ⟨r, body, xs, h0, h4, ho, hrq, hk, hit, hl⟩
      cases body with
      | nil =>
        rw [hres] at hit
        simp [fieldsP_nil] at hit
        subst hit
        simp [loopAt, loopsOf, Tryz.f194, h0, h4, ho]
      | cons b u =>
        have hb := b.toNat_lt
        have hpos : (0 : Int) < (u.length : Int) + 1 := by omega
        have hrn : r ≠ q := by omega
        have hrn1 : r ≠ q + 1 := by omega
        have hqn : q ≠ r := by omega
        have hwb := wrap_byte b
        have hw1 : IntKind.i64.wrap (1 + (b.toNat : Int)) = 1 + (b.toNat : Int) := wrap_of (by omega) (by omega)
        by_cases hs : u.length < b.toNat
        · have hs' : (u.length : Int) + 1 < 1 + (b.toNat : Int) := by omega
          rw [fieldsP_short hs, Option.map_none] at hit
          rw [hres] at hit
          subst hit
          simp [loopAt, loopsOf, Tryz.f194, h0, h4, ho, hpos, succ_ne, hwb, hw1, hs']
        · have hs' : ¬ (u.length : Int) + 1 < 1 + (b.toNat : Int) := by omega
          have hn := l01Next (u.drop b.toNat) (by simp at hl ⊢; omega)
          have hn0 : (0 : Int) ≤ 1 + (b.toNat : Int) := by omega
          have hn1 : (1 + (b.toNat : Int)).toNat = b.toNat + 1 := by omega
          have hn2 : b.toNat ≤ u.length := by omega
          cases hnx : nextP (u.drop b.toNat) with
          | none =>
            rw [fieldsP_none hs hnx, Option.map_none] at hit
            rw [hres] at hit
            subst hit
            simp [hnx, nextX] at hn
            simp [loopAt, loopsOf, Tryz.f194, h0, h4, ho, hn, hpos, succ_ne, hwb, hw1, hs', hn0, hn1, hn2]
          | some p =>
            obtain ⟨v, rest⟩ := p
            have hlen := (nextP_len hnx).1
            rw [fieldsP_some hs hnx] at hit
            simp [hnx, nextX] at hn
            have hx1 : xs.length + 1 ≤ 140737488355328 := by simp at hl; omega
            have hx2 : (xs.length + 1) * 48 ≤ 140737488355328 := by simp at hl; omega
            simp [loopAt, loopsOf, Tryz.f194, h0, h4, ho, hn, hpos, hrn, hrn1, hqn, hx1, hx2, succ_ne, hwb, hw1, hs', hn0, hn1, hn2]
            refine ⟨rest.length, by simp at hk hlen; omega, xs ++ [⟨u.take b.toNat, v⟩], by simp, rfl, ?_, by simp at hl hlen ⊢; omega⟩
            rw [hit, Option.map_map]
            congr 1
            funext l
            simp)
    t.length s o q hI)
  simp only [loopAt, loopsOf, Tryz.f194] at lp
  cases hres : fieldsP t with
  | some L =>
    obtain ⟨X, A, B, C, M, hx⟩ := lp _ hres
    have hx' := fun s o q r a0 a4 a5 a6 => hx s o q ⟨r, t, [], a0, a4, a5, a6, rfl, by simp, by simp⟩
    clear hx
    simp at hx'
    simp [hx', fieldsX]
  | none =>
    obtain ⟨X, A, B, C, M, hx⟩ := lp _ hres
    have hx' := fun s o q r a0 a4 a5 a6 => hx s o q ⟨r, t, [], a0, a4, a5, a6, rfl, by simp [hres], by simp⟩
    clear hx
    simp at hx'
    simp [hx', fieldsX]
set_option maxHeartbeats 16000000
theorem items_small : ∀ {xs : List Val} {t : Bytes}, itemsP t = some xs → xs.length ≤ t.length ∧ ∀ x ∈ xs, x.t.length < t.length
  | [], t, h => by simp
  | x :: xs, t, h => by
    rcases items_cases h with ⟨_, e⟩ | ⟨v, r, ys, h1, h2, e⟩
    · cases e
    · cases e
      have := nextP_len h1
      obtain ⟨i1, i2⟩ := items_small h2
      refine ⟨by simp; omega, fun y hy => ?_⟩
      rcases List.mem_cons.1 hy with rfl | hy
      · omega
      · have := i2 y hy; omega
theorem fields_small {xs : List Fld} : ∀ {t : Bytes}, fieldsP t = some xs → xs.length ≤ t.length ∧ ∀ x ∈ xs, x.v.t.length < t.length ∧ x.name.length ≤ t.length := by
  induction xs with
  | nil => intro t h; simp
  | cons x xs ih =>
    intro t h
    rcases fields_cases h with ⟨_, e⟩ | ⟨b, q, v, r, ys, rfl, hl, h1, h2, e⟩
    · cases e
    · cases e
      have := nextP_len h1
      simp only [List.length_drop] at this
      obtain ⟨i1, i2⟩ := ih h2
      refine ⟨by simp; omega, fun y hy => ?_⟩
      rcases List.mem_cons.1 hy with rfl | hy
      · simp; omega
      · have := i2 y hy; simp; omega
/-- Fields, one after another. -/
def docGo (d : Nat) : Option Bytes → List Fld → Bool
  | _, [] => true
  | p, f :: r => nameP f.name && (match p with
      | none => true
      | some q => Op.bytesLess q f.name) && okP d f.v && docGo d (some f.name) r
theorem docGo_eq (d : Nat) : ∀ (fs : List Fld), docGo d none fs = (rising fs && fs.all (fun f => nameP f.name && okP d f.v))
  | [] => rfl
  | [f] => by simp [docGo, rising]
  | f :: g :: r => by
    have ih := docGo_eq d (g :: r)
    simp only [docGo, rising, List.all_cons, Bool.and_true] at ih ⊢
    generalize hX : (nameP f.name && okP d f.v) = X at *
    have e1 : ∀ (a b c e q : Bool), (a && b && (c && e && q)) = (e && (a && b) && (c && q)) := by decide
    generalize docGo d (some g.name) r = D at *
    cases h1 : nameP f.name <;> cases h2 : okP d f.v <;> cases h3 : Op.bytesLess f.name g.name <;> simp_all
theorem zcase (n m : Int) : ∃ z : Bool, (n == m) = z ∧ (n != m) = (!z) ∧ decide (n = m) = z := ⟨n == m, rfl, rfl, by rw [Bool.eq_iff_iff]; simp⟩
theorem l01OK : ∀ (d : Nat) (v : Val), d ≤ 1000 → v.t.length < 4294967296 → run E (.call 171 [xV v, xI d]) = some (.res [xB (okP d v)] []) := by
  intro d
  induction d with
  | zero =>
    intro v _ hv
    rw [run_call E 171 _ rfl Tryz.func171 rfl rfl rfl (by simp)]
    have hi := l01Items v.t hv
    have hf := l01Fields v.t hv
    have h300 : ((v.t.length : Int) ≤ 300) = (v.t.length ≤ 300) := by simp; omega
    have h300' : ((300 : Int) < (v.t.length : Int)) = (300 < v.t.length) := by simp; omega
    have he : (v.t == []) = v.t.isEmpty := by cases v.t <;> rfl
    obtain ⟨z, z1, z2, z3⟩ := zcase v.n 0
    unfold okP
    by_cases h0 : v.k = 0
    · cases z <;> simp [h0, z1, z2, z3, he]
    · by_cases h1 : v.k = 1
      · by_cases hn : 0 ≤ v.n <;> by_cases hn' : v.n ≤ 1 <;> simp [h1, hn, hn', l01In, he]
      · by_cases h2 : v.k = 2
        · by_cases hn : -1000000000000 ≤ v.n <;> by_cases hn' : v.n ≤ 1000000000000 <;> simp [h2, hn, hn', l01In, he]
        · by_cases h3 : v.k = 3
          · cases z <;> simp [h3, z1, z2, z3, h300]
          · by_cases h4 : v.k = 4
            · cases hit : itemsP v.t with
              | none => rw [hit] at hi; simp only [itemsX] at hi; cases z <;> simp [h4, hi, z1, z2, z3]
              | some xs => rw [hit] at hi; simp only [itemsX] at hi; cases z <;> by_cases hl : 300 < v.t.length <;> simp [h4, hi, z1, z2, z3, h300', hl]
            · by_cases h5 : v.k = 5
              · cases hit : fieldsP v.t with
                | none => rw [hit] at hf; simp only [fieldsX] at hf; cases z <;> simp [h5, hf, z1, z2, z3]
                | some xs => rw [hit] at hf; simp only [fieldsX] at hf; cases z <;> by_cases hl : 300 < v.t.length <;> simp [h5, hf, z1, z2, z3, h300', hl]
              · simp [h0, h1, h2, h3, h4, h5]
  | succ d ih =>
    intro v hd hv
    rw [run_call E 171 _ rfl Tryz.func171 rfl rfl rfl (by simp)]
    have hi := l01Items v.t hv
    have hf := l01Fields v.t hv
    have h300 : ((v.t.length : Int) ≤ 300) = (v.t.length ≤ 300) := by simp; omega
    have h300' : ((300 : Int) < (v.t.length : Int)) = (300 < v.t.length) := by simp; omega
    have he : (v.t == []) = v.t.isEmpty := by cases v.t <;> rfl
    have hdz : ((d : Int) + 1 == 0) = false := by simp; omega
    have hwd2 := wrap_nat (n := d) (by omega)
    have hwd : IntKind.i64.wrap ((d : Int) + 1 - 1) = (d : Int) := by rw [wrap_of (by omega) (by omega)]; omega
    obtain ⟨z, z1, z2, z3⟩ := zcase v.n 0
    unfold okP
    by_cases h0 : v.k = 0
    · cases z <;> simp [h0, z1, z2, z3, he]
    · by_cases h1 : v.k = 1
      · by_cases hn : 0 ≤ v.n <;> by_cases hn' : v.n ≤ 1 <;> simp [h1, hn, hn', l01In, he]
      · by_cases h2 : v.k = 2
        · by_cases hn : -1000000000000 ≤ v.n <;> by_cases hn' : v.n ≤ 1000000000000 <;> simp [h2, hn, hn', l01In, he]
        · by_cases h3 : v.k = 3
          · cases z <;> simp [h3, z1, z2, z3, h300]
          · by_cases h4 : v.k = 4
            · cases hit : itemsP v.t with
              | none => rw [hit] at hi; simp only [itemsX] at hi; cases z <;> simp [h4, hi, z1, z2, z3]
              | some xs =>
                rw [hit] at hi
                simp only [itemsX] at hi
                obtain ⟨hs1, hs2⟩ := items_small hit
                by_cases hl : 300 < v.t.length
                · have hl' : ¬ v.t.length ≤ 300 := by omega
                  cases z <;> simp [h4, hi, z1, z2, z3, h300', hl, hl']
                · have hl' : v.t.length ≤ 300 := by omega
                  cases z with
                  | false => simp [h4, hi, z1, z2, z3]
                  | true =>
                    have lp := fun b (hb : b = xs.all (okP d)) => sk (fun s o q hI => loop_for (c := loopAt Tryz.f171 0) (N := 160)
                      (fun i s o q => s 1 = .t (.int .i64 ((d : Int) + 1)) ∧ s 5 = .row 1 ∧ s 7 = .t (.int .i64 i) ∧ o 1 = .row 74 (xs.map valT) true ∧ b = (xs.drop i).all (okP d))
                      (fun e s' o' q' => e = (if b then .exit 1 else .ret) ∧ (b = false → s' 4 = .t (.bool false))) xs.length
                      (by
                        rintro i s o q hi ⟨h1, h5, h7, ho, hp⟩
                        have hdr : xs.drop i = xs[i] :: xs.drop (i + 1) := by rw [List.drop_eq_getElem_cons hi]
                        have hi' : (i : Int) < (xs.length : Int) := by omega
                        have hw := wrap_succ (n := i) (by omega)
                        have hx := ih xs[i] (by omega) (by have := hs2 _ (List.getElem_mem hi); omega)
                        rw [hdr, List.all_cons] at hp
                        cases hok : okP d xs[i] <;> simp [hok] at hp hx <;> simp [loopAt, loopsOf, Tryz.f171, h1, h5, h7, ho, hi, hi', hwd, hwd2, hx, hw, hp])
                      (by
                        rintro s o q ⟨h1, h5, h7, ho, hp⟩
                        simp at hp
                        simp [loopAt, loopsOf, Tryz.f171, h1, h5, h7, ho, hp])
                      xs.length 0 s o q (by omega) hI)
                    simp only [loopAt, loopsOf, Tryz.f171] at lp
                    cases hb : xs.all (okP d) with
                    | true =>
                      obtain ⟨X, A, B, C, hx⟩ := lp true hb.symm
                      simp [hb, -List.all_eq_true] at hx
                      simp [h4, hi, z1, z2, z3, h300', hl, hl', hdz, hx, hb, -List.all_eq_true]
                    | false =>
                      obtain ⟨X, A, B, C, hx⟩ := lp false hb.symm
                      simp [hb, -List.all_eq_true, -List.all_eq_false] at hx
                      simp [h4, hi, z1, z2, z3, h300', hl, hl', hdz, hx, hb, -List.all_eq_true, -List.all_eq_false]
            · by_cases h5 : v.k = 5
              · cases hit : fieldsP v.t with
                | none => rw [hit] at hf; simp only [fieldsX] at hf; cases z <;> simp [h5, hf, z1, z2, z3]
                | some xs =>
                  rw [hit] at hf
                  simp only [fieldsX] at hf
                  obtain ⟨hs1, hs2⟩ := fields_small hit
                  by_cases hl : 300 < v.t.length
                  · have hl' : ¬ v.t.length ≤ 300 := by omega
                    cases z <;> simp [h5, hf, z1, z2, z3, h300', hl, hl']
                  · have hl' : v.t.length ≤ 300 := by omega
                    cases z with
                    | false => simp [h5, hf, z1, z2, z3]
                    | true =>
                      have d27 := d171_27
                      simp [regionOf, findR, pick, Tryz.f171] at d27
                      have dd := fun st => run_region_draw E st 27 _ d27
                      clear d27
                      have lp := fun b (hb : b = docGo d none xs) => sk (fun s o q hI => loop_for (c := loopAt Tryz.f171 1) (N := 160)
                        (fun i s o q => s 1 = .t (.int .i64 ((d : Int) + 1)) ∧ s 8 = .row 1 ∧ s 10 = .t (.int .i64 i) ∧ o 1 = .row 211 (xs.map fldT) true ∧ b = docGo d (match i with | 0 => none | j + 1 => (xs[j]?).map (·.name)) (xs.drop i))
                        (fun e s' o' q' => e = (if b then .exit 3 else .ret) ∧ (b = false → s' 4 = .t (.bool false))) xs.length
                        (by
                          rintro i s o q hi ⟨h1, h8, h10, ho, hp⟩
                          have hdr : xs.drop i = xs[i] :: xs.drop (i + 1) := by rw [List.drop_eq_getElem_cons hi]
                          have hi' : (i : Int) < (xs.length : Int) := by omega
                          have hw := wrap_succ (n := i) (by omega)
                          have hsm := hs2 _ (List.getElem_mem hi)
                          have hx := ih xs[i].v (by omega) (by omega)
                          have hnm := l01Name xs[i].name (by omega)
                          have hxi : xs[i]? = some xs[i] := List.getElem?_eq_getElem hi
                          rw [hdr] at hp
                          cases i with
                          | zero =>
                            simp only [docGo] at hp
                            cases hok : okP d xs[0].v <;> cases hn : nameP xs[0].name <;> simp [hok, hn] at hp hx hnm <;> simp [loopAt, loopsOf, Tryz.f171, dd, h1, h8, h10, ho, hi, hi', hwd, hwd2, hx, hnm, hw, hp, hxi]
                          | succ j =>
                            have hj : j < xs.length := by omega
                            have hxj : xs[j]? = some xs[j] := List.getElem?_eq_getElem hj
                            have hpos : (0 : Int) < (j : Int) + 1 := by omega
                            have hnn : (0 : Int) ≤ (j : Int) + 1 := by omega
                            have hwj2 := wrap_nat (n := j) (by omega)
                            have hwj : IntKind.i64.wrap ((j : Int) + 1 - 1) = (j : Int) := by rw [wrap_of (by omega) (by omega)]; omega
                            simp only [hxj, Option.map_some, docGo] at hp
                            simp at h10 hi' hw
                            cases hok : okP d xs[j + 1].v <;> cases hn : nameP xs[j + 1].name <;> cases hbl : Op.bytesLess xs[j].name xs[j + 1].name <;> simp [hok, hn, hbl] at hp hx hnm <;> simp [loopAt, loopsOf, Tryz.f171, dd, h1, h8, h10, ho, hi, hi', hwd, hwd2, hx, hnm, hw, hp, hxi, hxj, hpos, hnn, hwj, hwj2, hj, hbl])
                        (by
                          rintro s o q ⟨h1, h8, h10, ho, hp⟩
                          simp [docGo] at hp
                          simp [loopAt, loopsOf, Tryz.f171, h1, h8, h10, ho, hp])
                        xs.length 0 s o q (by omega) hI)
                      simp only [loopAt, loopsOf, Tryz.f171] at lp
                      have heq := docGo_eq d xs
                      cases hb : docGo d none xs with
                      | true =>
                        obtain ⟨X, A, B, C, hx⟩ := lp true hb.symm
                        simp [hb] at hx
                        rw [hb] at heq
                        simp [h5, hf, z1, z2, z3, h300', hl, hl', hdz, hx, ← heq, -List.all_eq_true]
                      | false =>
                        obtain ⟨X, A, B, C, hx⟩ := lp false hb.symm
                        simp [hb] at hx
                        rw [hb] at heq
                        simp [h5, hf, z1, z2, z3, h300', hl, hl', hdz, hx, ← heq, -List.all_eq_true, -List.all_eq_false]
              · simp [h0, h1, h2, h3, h4, h5]
theorem specValueOK (v : Val) (hv : v.t.length < 4294967296) : run E (.call 94 [xV v]) = some (.res [xB (valueOK v)] []) := by
  rw [run_call E 94 _ rfl Tryz.func94 rfl rfl rfl (by simp)]
  have h := l01OK 5 v (by omega) hv
  simp at h
  by_cases hl : (v.t.length : Int) ≤ 65536
  · simp [hl, h, valueOK]
  · have hr : okP 5 v = false := by
      cases ho : okP 5 v with
      | false => rfl
      | true => have := okP_range ho; omega
    simp [hl, valueOK, hr]
theorem or_byte (n : Int) (b : UInt8) : IntKind.i64.wrap (((BitVec.ofInt 64 (IntKind.i64.wrap (n * 256)) ||| BitVec.ofInt 64 (b.toNat : Int)).toNat : Nat) : Int) = IntKind.i64.wrap (IntKind.i64.wrap (n * 256) + b.toNat) := by
  have hb := b.toNat_lt
  rw [BitVec.toNat_or]
  have h1 : (BitVec.ofInt 64 (b.toNat : Int)).toNat = b.toNat := by
    rw [BitVec.toNat_ofInt]; omega
  obtain ⟨m, hm⟩ : ∃ m : Nat, (BitVec.ofInt 64 (IntKind.i64.wrap (n * 256))).toNat = 2 ^ 8 * m := by
    rw [BitVec.toNat_ofInt, IntKind.wrap_i64]
    exact ⟨((n * 256 % 18446744073709551616) / 256).toNat, by omega⟩
  have h2 : ((2 ^ 8 * m : Nat) : Int) % 18446744073709551616 = (IntKind.i64.wrap (n * 256)) % 18446744073709551616 := by
    rw [← hm, BitVec.toNat_ofInt]; omega
  rw [h1, hm, ← Nat.two_pow_add_eq_or_of_lt (by omega : b.toNat < 2 ^ 8) m]
  simp only [IntKind.wrap_i64] at h2 ⊢
  omega
abbrev byteT (b : UInt8) : T := .int .u8 b.toNat
theorem big (l : Bytes) (hl : l.length < 4294967296) : run E (.call 256 [.t (.list (l.map byteT))]) = some (.res [xI (ofBytes 0 l)] []) := by
  rw [run_call E 256 _ rfl Tryz.func256 rfl rfl rfl (by simp)]
  have lp := sk (fun s o q hI => loop_for (c := loopAt Tryz.f256 0) (N := 19)
    (fun i s o q => ∃ n : Int, s 6 = .t (.list (l.map byteT)) ∧ s 7 = .t (.int .i64 l.length) ∧ s 8 = .t (.int .i64 i) ∧ s 3 = .t (.int .i64 n) ∧ ofBytes n (l.drop i) = ofBytes 0 l)
    (fun e s' o' q' => e = .exit 0 ∧ s' 3 = .t (.int .i64 (ofBytes 0 l))) l.length
    (by
      rintro i s o q hi ⟨n, h6, h7, h8, h3, hp⟩
      have hd : l.drop i = l[i] :: l.drop (i + 1) := by rw [List.drop_eq_getElem_cons hi]
      have hi' : (i : Int) < (l.length : Int) := by omega
      have hw := wrap_succ (n := i) (by omega)
      have hwb := wrap_byte l[i]
      have hor := or_byte n l[i]
      rw [BitVec.ofInt_natCast] at hor
      rw [hd, ofBytes] at hp
      simp [IntKind.bits, loopAt, loopsOf, Tryz.f256, h6, h7, h8, h3, hi, hi', hw, hwb]
      exact (congrArg (fun z => ofBytes z (List.drop (i + 1) l)) hor).trans hp)
    (by
      rintro s o q ⟨n, h6, h7, h8, h3, hp⟩
      simp [ofBytes] at hp
      simp [loopAt, loopsOf, Tryz.f256, h6, h7, h8, h3, hp])
    l.length 0 s o q (by omega) hI)
  simp only [loopAt, loopsOf, Tryz.f256] at lp
  obtain ⟨X, A, B, C, hx⟩ := lp
  have hx' := fun s o q a6 a7 a8 a3 => hx s o q ⟨0, a6, a7, a8, a3, by simp⟩
  clear hx
  simp at hx'
  simp [hx']
/-- A reader, as a box. -/
abbrev rdr (p : Bytes × Bool) : X := .ref 217 [.t (.str p.1), .t (.bool p.2)]
theorem ext262 (m : Nat) (h : m ≤ 4294967296) : run E (.call 255 [xS [0], xI m]) = some (.res [xS (List.replicate m 0)] []) := by
  rw [run_ext E 255 _ (g := _) rfl]
  have h1 : (m : Int) ≤ 9223372036854775807 := by omega
  have h2 : m ≤ 140737488355328 := by omega
  have h3 : Lib.repeatL [0] m = List.replicate m 0 := by
    have := Lib.repeatL_replicate 0 1 m
    simpa using this
  simp [h1, h2, h3]
theorem rTake (p : Bytes × Bool) (m : Nat) (hm : m ≤ 4294967296) (hp : p.1.length ≤ 4294967296) : run E (.call 168 [rdr p, xI m]) = some (.res [xS (rtake m p).1] [some (rdr (rtake m p).2)]) := by
  rw [run_call E 168 _ rfl Tryz.func168 rfl rfl rfl (by simp)]
  obtain ⟨t, f⟩ := p
  by_cases h : t.length < m
  · have h' : (t.length : Int) < (m : Int) := by omega
    simp [rtake, h, h', ext262 m hm]
  · have h' : ¬ (t.length : Int) < (m : Int) := by omega
    have hle : m ≤ t.length := by omega
    simp [rtake, h, h', hle]
theorem rtake_length (m : Nat) (p : Bytes × Bool) : (rtake m p).1.length = m := by
  unfold rtake; split <;> simp; omega
theorem rNum (p : Bytes × Bool) (m : Nat) (hm : m ≤ 65536) (hp : p.1.length ≤ 4294967296) : run E (.call 169 [rdr p, xI m]) = some (.res [xI (rnum m p).1] [some (rdr (rnum m p).2)]) := by
  rw [run_call E 169 _ rfl Tryz.func169 rfl rfl rfl (by simp)]
  have h1 := rTake p m (by omega) hp
  have hl := rtake_length m p
  have h2 := big (rtake m p).1 (by omega)
  have hle : (rtake m p).1.length ≤ 140737488355328 := by omega
  simp [h1, h2, hle, rnum]
theorem rnum1_nat (p : Bytes × Bool) : ∃ k : Nat, (rnum 1 p).1 = k ∧ k < 256 := by
  have hl := rtake_length 1 p
  unfold rnum
  match hq : (rtake 1 p).1, hl with
  | [x], _ => exact ⟨x.toNat, by rw [ofBytes_one], x.toNat_lt⟩
theorem rnum2_nat (p : Bytes × Bool) : ∃ k : Nat, (rnum 2 p).1 = k ∧ k < 65536 := by
  have hl := rtake_length 2 p
  unfold rnum
  match hq : (rtake 2 p).1, hl with
  | [x, y], _ => exact ⟨two x y, by rw [ofBytes_two], two_lt x y⟩
theorem rValue (p : Bytes × Bool) (hp : p.1.length ≤ 4294967296) : run E (.call 170 [rdr p]) = some (.res [valX (rvalue p).1] [some (rdr (rvalue p).2)]) := by
  rw [run_call E 170 _ rfl Tryz.func170 rfl rfl rfl (by simp)]
  have h1 := rNum p 1 (by omega) hp
  have l1 := rnum_len 1 p
  have h11 := rNum (rnum 1 p).2 1 (by omega) (by omega)
  have h18 := rNum (rnum 1 p).2 8 (by omega) (by omega)
  have h12 := rNum (rnum 1 p).2 2 (by omega) (by omega)
  have l2 := rnum_len 2 (rnum 1 p).2
  obtain ⟨k, hk, hk2⟩ := rnum2_nat (rnum 1 p).2
  have ht := rTake (rnum 2 (rnum 1 p).2).2 k (by omega) (by omega)
  simp at h1 h11 h18 h12
  unfold rvalue
  by_cases e1 : (rnum 1 p).1 = 1
  · simp [h1, h11, e1]
  · by_cases e2 : (rnum 1 p).1 = 2
    · simp [h1, h18, e2]
    · by_cases e3 : (rnum 1 p).1 = 3
      · simp [h1, h12, e3, hk, ht]
      · by_cases e4 : (rnum 1 p).1 = 4
        · simp [h1, h12, e4, hk, ht]
        · by_cases e5 : (rnum 1 p).1 = 5
          · simp [h1, h12, e5, hk, ht]
          · have b1 : ((rnum 1 p).1 == 1) = false := by simpa using e1
            have b2 : ((rnum 1 p).1 == 2) = false := by simpa using e2
            have b3 : ((rnum 1 p).1 == 3) = false := by simpa using e3
            have b4 : ((rnum 1 p).1 == 4) = false := by simpa using e4
            have b5 : ((rnum 1 p).1 == 5) = false := by simpa using e5
            simp [h1, e1, e2, e3, e4, e5, b1, b2, b3, b4, b5]
def restI {α : Type} (f : Bytes × Bool → α × (Bytes × Bool)) : Nat → Bytes × Bool → Bytes
  | 0, p => p.1
  | n + 1, p => if p.1 = [] ∨ p.2 = true then p.1 else restI f n (f p).2
theorem rfield_len' (p : Bytes × Bool) (h : p.1 ≠ []) : (rfield p).2.1.length < p.1.length := by
  obtain ⟨t, f⟩ := p
  cases t with
  | nil => exact absurd rfl h
  | cons x r => have := rfield_len x r f; simp; omega
theorem rvalue_len' (p : Bytes × Bool) (h : p.1 ≠ []) : (rvalue p).2.1.length < p.1.length := by
  obtain ⟨t, f⟩ := p
  cases t with
  | nil => exact absurd rfl h
  | cons x r => have := rvalue_len x r f; simp; omega
theorem implItems (v : Val) (hv : v.t.length < 4294967296) : run E (.call 189 [xV v]) = some (.res [.row 74 ((itemsI v.t).1.map valT), xB (!(itemsI v.t).2)] []) := by
  rw [run_call E 189 _ rfl Tryz.func189 rfl rfl rfl (by simp)]
  have lp := sk1 (fun s o q hI => loop_wf (c := loopAt Tryz.f189 0) (N := 34)
    (fun k s o q => ∃ r p xs n, s 4 = .ptr 1 0 ∧ o 1 = .box 217 [.t (.str p.1), .t (.bool p.2)] ∧ s 5 = .row r ∧ o r = .row 74 (xs.map valT) true ∧ 1 < r ∧ r < q ∧ p.1.length = k ∧ k < n ∧ loopI rvalue (v.t.length + 1) (v.t, false) = (xs ++ (loopI rvalue n p).1, (loopI rvalue n p).2) ∧ restI rvalue (v.t.length + 1) (v.t, false) = restI rvalue n p ∧ xs.length + p.1.length ≤ v.t.length)
    (fun e s' o' q' => ∃ r, e = .exit 0 ∧ s' 4 = .ptr 1 0 ∧ o' 1 = .box 217 [.t (.str (restI rvalue (v.t.length + 1) (v.t, false))), .t (.bool (itemsI v.t).2)] ∧ s' 5 = .row r ∧ o' r = .row 74 ((itemsI v.t).1.map valT) true)
    (by
      rintro k s o q ⟨r, p, xs, n, h4, ho1, h5, hor, h1r, hrq, hk, hkn, hlo, hre, hl⟩
      have hr1 : r ≠ 1 := by omega
      have h1r' : 1 ≠ r := by omega
      have hrn : r ≠ q := by omega
      have hrn1 : r ≠ q + 1 := by omega
      have hqn : q ≠ r := by omega
      have hq1 : q ≠ 1 := by omega
      have h1q : 1 ≠ q := by omega
      have h1q1 : 1 ≠ q + 1 := by omega
      have hq0 : q ≠ 0 := by omega
      cases n with
      | zero => omega
      | succ n =>
        rcases p with ⟨_ | ⟨x0, r0⟩, pf⟩
        · have hI : (itemsI v.t) = (xs, pf) := by
            unfold itemsI; rw [hlo]; simp [loopI]
          have hR : restI rvalue (v.t.length + 1) (v.t, false) = [] := by rw [hre]; simp [restI]
          simp [loopAt, loopsOf, Tryz.f189, h4, ho1, h5, hor, hI, hR]
        · cases pf with
          | true =>
            have hI : (itemsI v.t) = (xs, true) := by
              unfold itemsI; rw [hlo]; simp [loopI]
            have hR : restI rvalue (v.t.length + 1) (v.t, false) = x0 :: r0 := by rw [hre]; simp [restI]
            simp [loopAt, loopsOf, Tryz.f189, h4, ho1, h5, hor, hI, hR]
          | false =>
            have hlen := rvalue_len' (x0 :: r0, false) (by simp)
            have hl0 : (x0 :: r0).length ≤ 4294967296 := by simp at hl ⊢; omega
            have hc := rValue (x0 :: r0, false) hl0
            have hx1 : xs.length + 1 ≤ 140737488355328 := by omega
            have hx2 : (xs.length + 1) * 32 ≤ 140737488355328 := by omega
            have hlo2 : loopI rvalue (n + 1) (x0 :: r0, false) = ((rvalue (x0 :: r0, false)).1 :: (loopI rvalue n (rvalue (x0 :: r0, false)).2).1, (loopI rvalue n (rvalue (x0 :: r0, false)).2).2) := by simp [loopI]
            have hre2 : restI rvalue (n + 1) (x0 :: r0, false) = restI rvalue n (rvalue (x0 :: r0, false)).2 := by simp [restI]
            simp [-Prod.exists, -Bool.exists_bool, loopAt, loopsOf, Tryz.f189, h4, ho1, h5, hor, hc, hr1, h1r', hrn, hrn1, hqn, hq1, h1q, h1q1, hq0, hx1, hx2]
            refine ⟨(rvalue (x0 :: r0, false)).2.1.length, by simp at hlen hk; omega, q + 1, (rvalue (x0 :: r0, false)).2, ⟨rfl, rfl⟩, rfl, xs ++ [(rvalue (x0 :: r0, false)).1], by simp, by omega, by omega, rfl, n, by simp at hlen hk; omega, ?_, ?_, by simp at hlen hl ⊢; omega⟩
            · rw [hlo, hlo2]; simp
            · rw [hre, hre2])
    v.t.length s o q hI)
  simp only [loopAt, loopsOf, Tryz.f189] at lp
  obtain ⟨X, A, B, C, M, hx⟩ := lp
  have hx' := fun s o q r a1 a2 a3 a4 a5 a6 => hx s o q ⟨r, (v.t, false), [], v.t.length + 1, a1, a2, a3, a4, a5, a6, rfl, by omega, by simp, rfl, by simp⟩
  clear hx
  simp at hx'
  have d := d189_4
  simp [regionOf, findR, pick, Tryz.f189] at d
  have dd := fun st => run_region_draw E st 4 _ d
  clear d
  simp [hx', dd]
theorem implFields (v : Val) (hv : v.t.length < 4294967296) : run E (.call 93 [xV v]) = some (.res [.row 211 ((fieldsI v.t).1.map fldT), xB (!(fieldsI v.t).2)] []) := by
  rw [run_call E 93 _ rfl Tryz.func93 rfl rfl rfl (by simp)]
  have lp := sk1 (fun s o q hI => loop_wf (c := loopAt Tryz.f93 0) (N := 39)
    (fun k s o q => ∃ r p xs n, s 4 = .ptr 1 0 ∧ o 1 = .box 217 [.t (.str p.1), .t (.bool p.2)] ∧ s 5 = .row r ∧ o r = .row 211 (xs.map fldT) true ∧ 1 < r ∧ r < q ∧ p.1.length = k ∧ k < n ∧ loopI rfield (v.t.length + 1) (v.t, false) = (xs ++ (loopI rfield n p).1, (loopI rfield n p).2) ∧ restI rfield (v.t.length + 1) (v.t, false) = restI rfield n p ∧ xs.length + p.1.length ≤ v.t.length)
    (fun e s' o' q' => ∃ r, e = .exit 0 ∧ s' 4 = .ptr 1 0 ∧ o' 1 = .box 217 [.t (.str (restI rfield (v.t.length + 1) (v.t, false))), .t (.bool (fieldsI v.t).2)] ∧ s' 5 = .row r ∧ o' r = .row 211 ((fieldsI v.t).1.map fldT) true)
    (by
      rintro k s o q ⟨r, p, xs, n, h4, ho1, h5, hor, h1r, hrq, hk, hkn, hlo, hre, hl⟩
      have hr1 : r ≠ 1 := by omega
      have h1r' : 1 ≠ r := by omega
      have hrn : r ≠ q := by omega
      have hrn1 : r ≠ q + 1 := by omega
      have hqn : q ≠ r := by omega
      have hq1 : q ≠ 1 := by omega
      have h1q : 1 ≠ q := by omega
      have h1q1 : 1 ≠ q + 1 := by omega
      have hq0 : q ≠ 0 := by omega
      cases n with
      | zero => omega
      | succ n =>
        rcases p with ⟨_ | ⟨x0, r0⟩, pf⟩
        · have hI : (fieldsI v.t) = (xs, pf) := by
            unfold fieldsI; rw [hlo]; simp [loopI]
          have hR : restI rfield (v.t.length + 1) (v.t, false) = [] := by rw [hre]; simp [restI]
          simp [loopAt, loopsOf, Tryz.f93, h4, ho1, h5, hor, hI, hR]
        · cases pf with
          | true =>
            have hI : (fieldsI v.t) = (xs, true) := by
              unfold fieldsI; rw [hlo]; simp [loopI]
            have hR : restI rfield (v.t.length + 1) (v.t, false) = x0 :: r0 := by rw [hre]; simp [restI]
            simp [loopAt, loopsOf, Tryz.f93, h4, ho1, h5, hor, hI, hR]
          | false =>
            have hlen := rfield_len' (x0 :: r0, false) (by simp)
            have hl0 : (x0 :: r0).length ≤ 4294967296 := by simp at hl ⊢; omega
            obtain ⟨k1, hk1, hk1l⟩ := rnum1_nat (x0 :: r0, false)
            have l1 := rnum_len 1 (x0 :: r0, false)
            have l2 := rtake_len k1 (rnum 1 (x0 :: r0, false)).2
            have hc1 := rNum (x0 :: r0, false) 1 (by omega) hl0
            have hc2 := rTake (rnum 1 (x0 :: r0, false)).2 k1 (by omega) (by simp at l1 hl0 ⊢; omega)
            have hc3 := rValue (rtake k1 (rnum 1 (x0 :: r0, false)).2).2 (by simp at l1 l2 hl0 ⊢; omega)
            simp [hk1] at hc1
            have hrf : rfield (x0 :: r0, false) = (⟨(rtake k1 (rnum 1 (x0 :: r0, false)).2).1, (rvalue (rtake k1 (rnum 1 (x0 :: r0, false)).2).2).1⟩, (rvalue (rtake k1 (rnum 1 (x0 :: r0, false)).2).2).2) := by unfold rfield; rw [hk1]; rfl
            have hx1 : xs.length + 1 ≤ 140737488355328 := by omega
            have hx2 : (xs.length + 1) * 48 ≤ 140737488355328 := by omega
            have hlo2 : loopI rfield (n + 1) (x0 :: r0, false) = ((rfield (x0 :: r0, false)).1 :: (loopI rfield n (rfield (x0 :: r0, false)).2).1, (loopI rfield n (rfield (x0 :: r0, false)).2).2) := by simp [loopI]
            have hre2 : restI rfield (n + 1) (x0 :: r0, false) = restI rfield n (rfield (x0 :: r0, false)).2 := by simp [restI]
            simp [-Prod.exists, -Bool.exists_bool, loopAt, loopsOf, Tryz.f93, h4, ho1, h5, hor, hc1, hc2, hc3, hr1, h1r', hrn, hrn1, hqn, hq1, h1q, h1q1, hq0, hx1, hx2]
            refine ⟨(rfield (x0 :: r0, false)).2.1.length, by simp at hlen hk; omega, q + 1, (rfield (x0 :: r0, false)).2, ⟨by rw [hrf], by rw [hrf]⟩, rfl, xs ++ [(rfield (x0 :: r0, false)).1], by simp [hrf], by omega, by omega, rfl, n, by simp at hlen hk; omega, ?_, ?_, by simp at hlen hl ⊢; omega⟩
            · rw [hlo, hlo2]; simp
            · rw [hre, hre2])
    v.t.length s o q hI)
  simp only [loopAt, loopsOf, Tryz.f93] at lp
  obtain ⟨X, A, B, C, M, hx⟩ := lp
  have hx' := fun s o q r a1 a2 a3 a4 a5 a6 => hx s o q ⟨r, (v.t, false), [], v.t.length + 1, a1, a2, a3, a4, a5, a6, rfl, by omega, by simp, rfl, by simp⟩
  clear hx
  simp at hx'
  have d := d93_4
  simp [regionOf, findR, pick, Tryz.f93] at d
  have dd := fun st => run_region_draw E st 4 _ d
  clear d
  simp [hx', dd]
def nameGo : Option Bytes → List Fld → Bool
  | _, [] => true
  | p, f :: r => nameP f.name && (match p with
      | none => true
      | some q => Op.bytesLess q f.name) && nameGo (some f.name) r
theorem nameGo_eq : ∀ (fs : List Fld), nameGo none fs = (fs.all (fun f => nameP f.name) && rising fs)
  | [] => rfl
  | [f] => by simp [nameGo, rising]
  | f :: g :: r => by
    have ih := nameGo_eq (g :: r)
    simp only [nameGo, rising, List.all_cons, Bool.and_true] at ih ⊢
    generalize nameGo (some g.name) r = D at *
    cases h1 : nameP f.name <;> cases h3 : Op.bytesLess f.name g.name <;> simp_all
theorem loopI_small {α : Type} (f : Bytes × Bool → α × (Bytes × Bool)) (hf : ∀ p : Bytes × Bool, p.1 ≠ [] → (f p).2.1.length < p.1.length) : ∀ (n : Nat) (p : Bytes × Bool), (loopI f n p).1.length ≤ p.1.length
  | 0, p => by simp [loopI]
  | n + 1, p => by
    unfold loopI
    split
    · simp
    · rename_i h
      have h1 : p.1 ≠ [] := fun e => h (.inl e)
      have := hf p h1
      have := loopI_small f hf n (f p).2
      simp; omega
theorem rvalue_small (p : Bytes × Bool) : (rvalue p).1.t.length ≤ 65536 := by
  unfold rvalue
  obtain ⟨k, hk, hk2⟩ := rnum2_nat (rnum 1 p).2
  split
  · simp
  · split
    · simp
    · split
      · simp only [hk]; rw [rtake_length]; omega
      · simp
theorem rfield_small (p : Bytes × Bool) : (rfield p).1.v.t.length ≤ 65536 ∧ (rfield p).1.name.length ≤ 256 := by
  unfold rfield
  obtain ⟨k, hk, hk2⟩ := rnum1_nat p
  exact ⟨rvalue_small _, by simp only [hk]; rw [rtake_length]; omega⟩
theorem loopI_all {α : Type} (f : Bytes × Bool → α × (Bytes × Bool)) (P : α → Prop) (hf : ∀ p, P (f p).1) : ∀ (n : Nat) (p : Bytes × Bool), ∀ x ∈ (loopI f n p).1, P x
  | 0, p, x, hx => by simp [loopI] at hx
  | n + 1, p, x, hx => by
    unfold loopI at hx
    split at hx
    · simp at hx
    · rcases List.mem_cons.1 hx with rfl | hx
      · exact hf p
      · exact loopI_all f P hf n _ x hx
theorem itemsI_small (t : Bytes) : (itemsI t).1.length ≤ t.length ∧ ∀ x ∈ (itemsI t).1, x.t.length ≤ 65536 := ⟨loopI_small _ rvalue_len' _ _, loopI_all _ _ rvalue_small _ _⟩
theorem fieldsI_small (t : Bytes) : (fieldsI t).1.length ≤ t.length ∧ ∀ x ∈ (fieldsI t).1, x.v.t.length ≤ 65536 ∧ x.name.length ≤ 256 := ⟨loopI_small _ rfield_len' _ _, loopI_all _ _ rfield_small _ _⟩
theorem implInner (v : Val) (hv : v.t.length < 4294967296) : run E (.call 252 [xV v]) = some (.res [.row 74 ((innerI v).1.map valT), xB (innerI v).2] []) := by
  rw [run_call E 252 _ rfl Tryz.func252 rfl rfl rfl (by simp)]
  by_cases h4 : v.k = 4
  · obtain ⟨k, n, t⟩ := v
    simp only at h4 hv
    subst h4
    have h := implItems ⟨4, n, t⟩ hv
    simp [h, innerI]
  · have h := implFields v hv
    obtain ⟨hs1, hs2⟩ := fieldsI_small v.t
    generalize hfs : (fieldsI v.t).1 = fs at *
    generalize hff : (fieldsI v.t).2 = ff at *
    have d8 := d252_8
    simp [regionOf, findR, pick, Tryz.f252] at d8
    have dd := fun st => run_region_draw E st 8 _ d8
    clear d8
    have lp := fun b (hb : b = (!ff && nameGo none fs)) => sk1 (fun s o q hI => loop_for (c := loopAt Tryz.f252 0) (N := 58)
      (fun i s o q => ∃ r z, s 4 = .row 1 ∧ s 5 = .t (.bool z) ∧ s 6 = .row r ∧ s 22 = .row 1 ∧ s 23 = .t (.int .i64 fs.length) ∧ s 24 = .t (.int .i64 i) ∧ o 1 = .row 211 (fs.map fldT) true ∧ 1 < r ∧ r < q ∧ o r = .row 74 ((fs.map (fun f => valT f.v)).take i) true ∧ b = (z && nameGo (match i with | 0 => none | j + 1 => (fs[j]?).map (·.name)) (fs.drop i)))
      (fun e s' o' q' => ∃ r, e = .exit 0 ∧ s' 6 = .row r ∧ s' 5 = .t (.bool b) ∧ o' r = .row 74 (fs.map (fun f => valT f.v)) true) fs.length
      (by
        rintro i s o q hi ⟨r, z, h4, h5, h6, h22, h23, h24, ho1, h1r, hrq, hor, hp⟩
        have hr1 : r ≠ 1 := by omega
        have h1r' : 1 ≠ r := by omega
        have hrn : r ≠ q := by omega
        have hrn1 : r ≠ q + 1 := by omega
        have hqn : q ≠ r := by omega
        have hq1 : q ≠ 1 := by omega
        have h1q : 1 ≠ q := by omega
        have h1q1 : 1 ≠ q + 1 := by omega
        have hq0 : q ≠ 0 := by omega
        have hdr : fs.drop i = fs[i] :: fs.drop (i + 1) := by rw [List.drop_eq_getElem_cons hi]
        have htk : (fs.map (fun f => valT f.v)).take (i + 1) = (fs.map (fun f => valT f.v)).take i ++ [valT fs[i].v] := by rw [List.take_add_one]; simp [hi]
        have hi' : (i : Int) < (fs.length : Int) := by omega
        have hw := wrap_succ (n := i) (by omega)
        have hsm := hs2 _ (List.getElem_mem hi)
        have hnm := isShort fs[i].name (by omega)
        have hxi : fs[i]? = some fs[i] := List.getElem?_eq_getElem hi
        have hx1 : i + 1 ≤ 140737488355328 := by omega
        have hx2 : (i + 1) * 32 ≤ 140737488355328 := by omega
        have hmin : min i fs.length = i := by omega
        rw [hdr] at hp
        simp only [htk]
        cases i with
        | zero =>
          simp only [nameGo] at hp
          cases z <;> cases hn : nameP fs[0].name <;> simp [hn] at hp hnm hor <;> simp [loopAt, loopsOf, Tryz.f252, dd, h4, h5, h6, h22, h23, h24, ho1, hor, hi, hi', hnm, hw, hp, hxi, hr1, h1r', hrn, hrn1, hqn, hq1, h1q, h1q1, hq0, hx1, hx2, hmin]
        | succ j =>
          have hj : j < fs.length := by omega
          have hxj : fs[j]? = some fs[j] := List.getElem?_eq_getElem hj
          have hpos : (0 : Int) < (j : Int) + 1 := by omega
          have hnn : (0 : Int) ≤ (j : Int) + 1 := by omega
          have hwj2 := wrap_nat (n := j) (by omega)
          have hjz : ((j : Int) + 1 == 0) = false := by simp; omega
          simp only [hxj, Option.map_some, nameGo] at hp
          simp at h24 hi' hw
          cases z <;> cases hn : nameP fs[j + 1].name <;> cases hbl : Op.bytesLess fs[j].name fs[j + 1].name <;> simp [hn, hbl] at hp hnm <;> simp [loopAt, loopsOf, Tryz.f252, dd, h4, h5, h6, h22, h23, h24, ho1, hor, hi, hi', hnm, hw, hp, hxi, hxj, hj, hpos, hnn, hwj2, hjz, succ_ne, hbl, hr1, h1r', hrn, hrn1, hqn, hq1, h1q, h1q1, hq0, hx1, hx2, hmin])
      (by
        rintro s o q ⟨r, z, h4, h5, h6, h22, h23, h24, ho1, h1r, hrq, hor, hp⟩
        simp [nameGo] at hp
        have hfull : (fs.map (fun f => valT f.v)).take fs.length = fs.map (fun f => valT f.v) := List.take_of_length_le (by simp)
        simp [loopAt, loopsOf, Tryz.f252, h4, h5, h6, h22, h23, h24, hor, hp, hfull])
      fs.length 0 s o q (by omega) hI)
    simp only [loopAt, loopsOf, Tryz.f252] at lp
    obtain ⟨X, A, B, C, M, hx⟩ := lp _ rfl
    have hx' := fun s o q r a1 a2 a3 a4 a5 a6 a7 a8 a9 a10 => hx s o q ⟨r, !ff, a1, a2, a3, a4, a5, a6, a7, a8, a9, a10, by simp⟩
    clear hx
    simp at hx'
    have heq := nameGo_eq fs
    simp [h4, h, hx', innerI, hfs, hff, heq, Function.comp_def, Bool.and_assoc, -List.all_eq_true]
theorem innerI_small (v : Val) : (innerI v).1.length ≤ v.t.length ∧ ∀ x ∈ (innerI v).1, x.t.length ≤ 65536 := by
  unfold innerI
  split
  · exact itemsI_small v.t
  · obtain ⟨h1, h2⟩ := fieldsI_small v.t
    refine ⟨by simpa using h1, fun x hx => ?_⟩
    simp only [List.mem_map] at hx
    obtain ⟨f, hf, rfl⟩ := hx
    exact (h2 f hf).1
theorem isNumber (n : Int) : run E (.call 251 [xI n]) = some (.res [xB (decide (-1000000000000 ≤ n) && decide (n ≤ 1000000000000))] []) := by
  rw [run_call E 251 _ rfl Tryz.func251 rfl rfl rfl (by simp)]
  simp [inRange]
theorem isRight : ∀ (d : Nat) (v : Val), d ≤ 1000 → v.t.length < 4294967296 → run E (.call 167 [xV v, xI d]) = some (.res [xB (rightI d v)] []) := by
  intro d
  induction d with
  | zero =>
    intro v _ hv
    rw [run_call E 167 _ rfl Tryz.func167 rfl rfl rfl (by simp)]
    obtain ⟨k, n, t⟩ := v
    simp only at hv
    have h300 : ((t.length : Int) ≤ 300) = (t.length ≤ 300) := by simp; omega
    have he : (t == []) = t.isEmpty := by cases t <;> rfl
    have hin := implInner ⟨k, n, t⟩ hv
    obtain ⟨z, z1, z2, z3⟩ := zcase n 0
    unfold rightI
    by_cases h0 : k = 0
    · subst h0; cases z <;> simp [z1, z2, z3, he]
    · by_cases h1 : k = 1
      · subst h1; by_cases hn : 0 ≤ n <;> by_cases hn' : n ≤ 1 <;> simp [hn, hn', inRange, he]
      · by_cases h2 : k = 2
        · subst h2; by_cases hn : -1000000000000 ≤ n <;> by_cases hn' : n ≤ 1000000000000 <;> simp [hn, hn', isNumber, he]
        · by_cases h3 : k = 3
          · subst h3; cases z <;> simp [z1, z2, z3, h300]
          · by_cases h4 : k = 4
            · subst h4
              cases z <;> by_cases hl : t.length ≤ 300 <;> simp [hin, z1, z2, z3, h300, hl]
            · by_cases h5 : k = 5
              · subst h5
                cases z <;> by_cases hl : t.length ≤ 300 <;> simp [hin, z1, z2, z3, h300, hl]
              · simp [h0, h1, h2, h3, h4, h5]
  | succ d ih =>
    intro v hd hv
    have hcl : ∀ x : Val, x.t.length < 4294967296 → run E (.call 254 [xV x, .dref [.int .i64 ((d : Int) + 1)]]) = some (.res [xB (!rightI d x)] []) := by
      intro x hx
      rw [run_call E 254 _ rfl Tryz.func254 rfl rfl rfl (by simp)]
      have hw1 : IntKind.i64.wrap ((d : Int) + 1 - 1) = (d : Int) := by rw [wrap_of (by omega) (by omega)]; omega
      have hw2 := wrap_nat (n := d) (by omega)
      have := ih x (by omega) hx
      simp [hw1, hw2, this]
    rw [run_call E 167 _ rfl Tryz.func167 rfl rfl rfl (by simp)]
    obtain ⟨k, n, t⟩ := v
    simp only at hv
    have h300 : ((t.length : Int) ≤ 300) = (t.length ≤ 300) := by simp; omega
    have he : (t == []) = t.isEmpty := by cases t <;> rfl
    have hin := implInner ⟨k, n, t⟩ hv
    obtain ⟨hs1, hs2⟩ := innerI_small ⟨k, n, t⟩
    have hd0 : (0 : Int) < (d : Int) + 1 := by omega
    have hcf := containsFunc_143_1 (innerI ⟨k, n, t⟩).1 254 [.int .i64 ((d : Int) + 1)] (fun x => !rightI d x) (by simp at hs1; omega) rfl (by simp) (fun x hx => hcl x (by have := hs2 x hx; omega))
    have hall : (!(innerI ⟨k, n, t⟩).1.any (fun x => !rightI d x)) = (innerI ⟨k, n, t⟩).1.all (rightI d) := by simp [List.any_eq_not_all_not]
    obtain ⟨z, z1, z2, z3⟩ := zcase n 0
    unfold rightI
    by_cases h0 : k = 0
    · subst h0; cases z <;> simp [z1, z2, z3, he]
    · by_cases h1 : k = 1
      · subst h1; by_cases hn : 0 ≤ n <;> by_cases hn' : n ≤ 1 <;> simp [hn, hn', inRange, he]
      · by_cases h2 : k = 2
        · subst h2; by_cases hn : -1000000000000 ≤ n <;> by_cases hn' : n ≤ 1000000000000 <;> simp [hn, hn', isNumber, he]
        · by_cases h3 : k = 3
          · subst h3; cases z <;> simp [z1, z2, z3, h300]
          · by_cases h4 : k = 4
            · subst h4
              cases hio : (innerI ⟨4, n, t⟩).2 <;> cases z <;> by_cases hl : t.length ≤ 300 <;> simp [hio] at hin <;> simp [hin, z1, z2, z3, h300, hl, hd0, hcf, hio, ← hall]
            · by_cases h5 : k = 5
              · subst h5
                cases hio : (innerI ⟨5, n, t⟩).2 <;> cases z <;> by_cases hl : t.length ≤ 300 <;> simp [hio] at hin <;> simp [hin, z1, z2, z3, h300, hl, hd0, hcf, hio, ← hall]
              · simp [h0, h1, h2, h3, h4, h5]
theorem implValueOK (v : Val) (hv : v.t.length < 4294967296) : run E (.call 92 [xV v]) = some (.res [xB (valueOK v)] []) := by
  rw [run_call E 92 _ rfl Tryz.func92 rfl rfl rfl (by simp)]
  have h := isRight 5 v (by omega) hv
  simp at h
  simp [h, valueOK, rightI_eq]
theorem beqd (a b : Int) : (a == b) = decide (a = b) := by rw [Bool.eq_iff_iff]; simp
def opOK (op : Int) (v : Val) : Bool :=
  if op = 7 then decide (v.k = 4)
  else if op = 8 then decide (v.k = 1)
  else if op = 9 then decide (v.k = 2) && (decide (0 ≤ v.n) && decide (v.n ≤ 5))
  else if op = 10 then decide (v.k = 2) && decide (0 ≤ v.n)
  else decide (1 ≤ op) && decide (op ≤ 6)
def termOK (t : Trm) : Bool := pathOK t.path && valueOK t.v && opOK t.op t.v
/-- Its parts are no longer than memory allows. -/
def Trm.sm (t : Trm) : Prop := t.path.length < 4294967296 ∧ t.v.t.length < 4294967296
def clauseOK (c : List Trm) : Bool := decide (c.length ≤ 4) && c.all termOK
def filterOK (f : List (List Trm)) : Bool := (decide (1 ≤ f.length) && decide (f.length ≤ 3)) && f.all clauseOK
def clauseSm (c : List Trm) : Prop := c.length < 4294967296 ∧ ∀ t ∈ c, t.sm
def filterSm (f : List (List Trm)) : Prop := f.length < 4294967296 ∧ ∀ c ∈ f, clauseSm c
theorem any_not_all {α : Type} (p : α → Bool) (l : List α) : (l.any (fun x => !p x)) = !l.all p := by simp [List.any_eq_not_all_not]
structure Qry where
  filter : List (List Trm)
  sort : List Prt
  skip : Int
  limit : Int
  keep : List Bytes
  hint : Bytes
abbrev qryT (q : Qry) : T := .agg [.list (q.filter.map clsT), .list (q.sort.map prtT), .int .i64 q.skip, .int .i64 q.limit, .list (q.keep.map strT), .str q.hint]
def partsOK (l : List Prt) : Bool := decide (l.length ≤ 2) && l.all (fun p => pathOK p.path)
def keepOK (l : List Bytes) : Bool := decide (l.length ≤ 4) && l.all nameP
def in100 (n : Int) : Bool := decide (0 ≤ n) && decide (n ≤ 100)
def hintOK (t : Bytes) : Bool := t.isEmpty || nameP t
def queryOK (q : Qry) : Bool := filterOK q.filter && partsOK q.sort && in100 q.skip && in100 q.limit && keepOK q.keep && hintOK q.hint
def partsSm (l : List Prt) : Prop := l.length < 4294967296 ∧ ∀ p ∈ l, p.path.length < 4294967296
def textsSm (l : List Bytes) : Prop := l.length < 4294967296 ∧ ∀ p ∈ l, p.length < 4294967296
structure Qry.Sm (q : Qry) : Prop where
  filter : filterSm q.filter
  sort : partsSm q.sort
  keep : textsSm q.keep
  hint : q.hint.length < 4294967296
theorem partOK (p : Prt) (h : p.path.length < 4294967296) : run E (.call 130 [.t (prtT p)]) = some (.res [xB (pathOK p.path)] []) := by
  rw [run_call E 130 _ rfl Tryz.func130 rfl rfl rfl (by simp)]
  simp [implPathOK p.path h]
theorem sortClosure (p : Prt) (h : p.path.length < 4294967296) : run E (.call 129 [.t (prtT p)]) = some (.res [xB (!pathOK p.path)] []) := by
  rw [run_call E 129 _ rfl Tryz.func129 rfl rfl rfl (by simp)]
  simp [partOK p h]
theorem sortOK (l : List Prt) (h : partsSm l) : run E (.call 62 [.t (.list (l.map prtT))]) = some (.res [xB (partsOK l)] []) := by
  rw [run_call E 62 _ rfl Tryz.func62 rfl rfl rfl (by simp)]
  have hc := containsFunc_136_0 l 129 (fun p => !pathOK p.path) (by have := h.1; omega) rfl (by simp) (fun p hp => sortClosure p (h.2 p hp))
  rw [any_not_all] at hc
  have h2 : ((l.length : Int) ≤ 2) = (l.length ≤ 2) := by simp; omega
  by_cases hl : l.length ≤ 2 <;> simp [h2, hl, partsOK, hc, -List.all_eq_true]
abbrev qBox (q : Qry) : Ob := .box 72 [.t (.list (q.filter.map clsT)), .t (.list (q.sort.map prtT)), .t (.int .i64 q.skip), .t (.int .i64 q.limit), .t (.list (q.keep.map strT)), .t (.str q.hint)]
def szB (n : Nat) (l : Int) : Int := if l - n < 0 then -1 else l - n
def goSz {α : Type} (f : α → Int → Int) : List α → Int → Int
  | [], l => l
  | x :: r, l => if f x l < 0 then -1 else goSz f r (f x l)
def lstSz {α : Type} (f : α → Int → Int) (xs : List α) (l : Int) : Int := if szB xs.length l < 0 then -1 else goSz f xs (szB xs.length l)
def thenSz (f g : Int → Int) (l : Int) : Int := if f l < 0 then -1 else g (f l)
theorem szB_le {n : Nat} {l : Int} (h : 0 ≤ l) : szB n l ≤ l := by unfold szB; split <;> omega
theorem szB_bound {n : Nat} {l : Int} (h : ¬ szB n l < 0) : (n : Int) ≤ l := by unfold szB at h; split at h <;> omega
theorem goSz_le {α : Type} {f : α → Int → Int} : ∀ {xs : List α} {l : Int}, 0 ≤ l → (∀ x ∈ xs, ∀ k, 0 ≤ k → f x k ≤ k) → goSz f xs l ≤ l
  | [], l, _, _ => Int.le_refl _
  | x :: r, l, h0, h => by
    unfold goSz
    have hx := h x (by simp) l h0
    split
    · omega
    · have := goSz_le (xs := r) (l := f x l) (by omega) (fun y hy => h y (by simp [hy]))
      omega
theorem lstSz_le {α : Type} {f : α → Int → Int} {xs : List α} {l : Int} (h0 : 0 ≤ l) (h : ∀ x ∈ xs, ∀ k, 0 ≤ k → f x k ≤ k) : lstSz f xs l ≤ l := by
  unfold lstSz
  have := szB_le (n := xs.length) h0
  split
  · omega
  · have := goSz_le (f := f) (xs := xs) (l := szB xs.length l) (by omega) h
    omega
theorem goSz_all {α : Type} {f : α → Int → Int} {P : α → Prop} {m : Int} : ∀ {xs : List α} {l : Int}, 0 ≤ l → l ≤ m → (∀ x ∈ xs, ∀ k, 0 ≤ k → f x k ≤ k) → (∀ x ∈ xs, ∀ k, 0 ≤ k → k ≤ m → ¬ f x k < 0 → P x) → ¬ goSz f xs l < 0 → ∀ x ∈ xs, P x
  | [], _, _, _, _, _, _, x, hx => by simp at hx
  | y :: r, l, h0, hm, hle, hp, h, x, hx => by
    unfold goSz at h
    split at h
    · omega
    · rename_i hf
      have hy := hle y (by simp) l h0
      rcases List.mem_cons.1 hx with rfl | hx
      · exact hp _ (by simp) l h0 hm hf
      · exact goSz_all (by omega) (by omega) (fun z hz => hle z (by simp [hz])) (fun z hz => hp z (by simp [hz])) h x hx
theorem lstSz_all {α : Type} {f : α → Int → Int} {P : α → Prop} {m : Int} {xs : List α} {l : Int} (h0 : 0 ≤ l) (hm : l ≤ m) (hle : ∀ x ∈ xs, ∀ k, 0 ≤ k → f x k ≤ k) (hp : ∀ x ∈ xs, ∀ k, 0 ≤ k → k ≤ m → ¬ f x k < 0 → P x) (h : ¬ lstSz f xs l < 0) : (xs.length : Int) ≤ m ∧ ∀ x ∈ xs, P x := by
  unfold lstSz at h
  split at h
  · omega
  · rename_i hb
    have h1 := szB_bound hb
    have h2 := szB_le (n := xs.length) h0
    exact ⟨by omega, goSz_all (m := m) (by omega) (by omega) hle hp h⟩
theorem mid_get {α : Type} (ys : List α) (z : α) (i n : Nat) (hi : i < n) (hy : i ≤ ys.length) : (ys.take i ++ List.replicate (n - i) z)[i]? = some z := by
  rw [List.getElem?_append_right (by simp; omega)]
  have h : min i ys.length = i := by omega
  have hp : 0 < n - i := by omega
  simp only [List.length_take, h, Nat.sub_self, List.getElem?_replicate, hp, if_true]
theorem mid_set {α : Type} (ys : List α) (z x : α) (i n : Nat) (hi : i < n) (hx : ys[i]? = some x) : (ys.take i ++ List.replicate (n - i) z).set i x = ys.take (i + 1) ++ List.replicate (n - (i + 1)) z := by
  have hy : i < ys.length := by
    by_cases h : i < ys.length
    · exact h
    · rw [List.getElem?_eq_none (by omega)] at hx; cases hx
  have hl : (ys.take i).length = i := by simp; omega
  have e : n - i = (n - (i + 1)) + 1 := by omega
  have h1 := set_mid (ys.take i) x z (n - (i + 1))
  rw [hl] at h1
  rw [e, h1, List.take_add_one, hx]
  rfl
theorem sz_68 (xs : List Prt) (f : Prt → Int → Int) (hl : xs.length < 9223372036854775807) (hf : ∀ x ∈ xs, ∀ l, 0 ≤ l → l ≤ 1048576 → run E (.call 56 [.t (prtT x), xI l]) = some (.res [xI (f x l)] [])) (hle : ∀ x ∈ xs, ∀ k, 0 ≤ k → f x k ≤ k) (l : Int) (h0 : 0 ≤ l) (hm : l ≤ 1048576) :
    run E (.call 11 [.t (.list (xs.map prtT)), xI l]) = some (.res [xI (lstSz f xs l)] []) := by
  rw [run_call E 11 _ rfl Tryz.func11 rfl rfl rfl (by simp)]
  have hw : IntKind.i64.wrap (l - (xs.length : Int)) = l - xs.length := wrap_of (by omega) (by omega)
  unfold lstSz szB
  by_cases hb : l - (xs.length : Int) < 0
  · simp [hw, hb]
  · have hb0 : ¬ l < (xs.length : Int) := by omega
    have lp := fun (r : Int) (hr : r = goSz f xs (l - xs.length)) => sk (fun s o q hI => loop_for (c := loopAt Tryz.f11 0) (N := 27)
      (fun i s o q => ∃ k : Int, s 0 = .t (.list (xs.map prtT)) ∧ s 1 = .t (.int .i64 k) ∧ s 5 = .t (.int .i64 i) ∧ 0 ≤ k ∧ k ≤ 1048576 ∧ r = goSz f (xs.drop i) k)
      (fun e s' o' q' => e = (if r < 0 then .ret else .exit 0) ∧ (r < 0 → s' 4 = .t (.int .i64 r)) ∧ (0 ≤ r → s' 1 = .t (.int .i64 r))) xs.length
      (by
        rintro i s o q hi ⟨k, g0, g1, g5, hk0, hkm, hp⟩
        have hi' : (i : Int) < (xs.length : Int) := by omega
        have hwi := wrap_succ (n := i) (by omega)
        have hxi : xs[i]? = some xs[i] := List.getElem?_eq_getElem hi
        have hx := hf _ (List.getElem_mem hi) k hk0 hkm
        have hxl := hle _ (List.getElem_mem hi) k hk0
        rw [List.drop_eq_getElem_cons hi, goSz] at hp
        by_cases hn : f xs[i] k < 0
        · simp [hn] at hp
          simp [loopAt, loopsOf, Tryz.f11, g0, g1, g5, hi', hxi, hwi, hx, hn, hp]
        · simp [hn] at hp
          simp [loopAt, loopsOf, Tryz.f11, g0, g1, g5, hi', hxi, hwi, hx, hn]
          exact ⟨by omega, by omega, hp⟩)
      (by
        rintro s o q ⟨k, g0, g1, g5, hk0, hkm, hp⟩
        simp [goSz] at hp
        have hn : ¬ r < 0 := by omega
        have hn' : 0 ≤ r := by omega
        have hk1 : ¬ k < 0 := by omega
        simp [loopAt, loopsOf, Tryz.f11, g0, g1, g5, hp, hk1]
        try omega)
      xs.length 0 s o q (by omega) hI)
    simp only [loopAt, loopsOf, Tryz.f11] at lp
    obtain ⟨r, hr⟩ : ∃ r, r = goSz f xs (l - xs.length) := ⟨_, rfl⟩
    obtain ⟨X, A, B, C, hx⟩ := lp r hr
    have hx' := fun s o q a0 a1 a5 => hx s o q ⟨l - xs.length, a0, a1, a5, by omega, by omega, by simpa using hr⟩
    clear hx
    by_cases hn : r < 0
    · have hn' : ¬ 0 ≤ r := by omega
      simp [hn, hn'] at hx'
      simp [hw, hb, hb0, hx', hn, ← hr]
    · have hn' : 0 ≤ r := by omega
      simp [hn, hn'] at hx'
      simp [hw, hb, hb0, hx', hn, ← hr]
theorem to_74 (xs : List Prt) (hl : xs.length < 4294967296) (hf : ∀ x ∈ xs, run E (.call 60 [.t (prtT x)]) = some (.res [prtX x] [])) :
    run E (.call 14 [.t (.list (xs.map prtT))]) = some (.res [.row 62 (xs.map prtT)] []) := by
  rw [run_call E 14 _ rfl Tryz.func14 rfl rfl rfl (by simp)]
  have lp := sk (fun s o q hI => loop_for (c := loopAt Tryz.f14 0) (N := 23)
    (fun i s o q => s 0 = .t (.list (xs.map prtT)) ∧ s 3 = .row 0 ∧ s 4 = .t (.int .i64 i) ∧ 0 < q ∧ o 0 = .row 62 ((xs.map prtT).take i ++ List.replicate (xs.length - i) (.agg [.str [], .bool false])) true)
    (fun e s' o' q' => e = .exit 0 ∧ s' 3 = .row 0 ∧ o' 0 = .row 62 (xs.map prtT) true) xs.length
    (by
      rintro i s o q hi ⟨g0, g3, g4, hq, ho⟩
      have hi' : (i : Int) < (xs.length : Int) := by omega
      have hwi := wrap_succ (n := i) (by omega)
      have hxi : xs[i]? = some xs[i] := List.getElem?_eq_getElem hi
      have hx := hf _ (List.getElem_mem hi)
      have hq0 : q ≠ 0 := by omega
      have h0q : 0 ≠ q := by omega
      have hget := mid_get (xs.map prtT) (.agg [.str [], .bool false]) i xs.length hi (by simp; omega)
      have hset := mid_set (xs.map prtT) (.agg [.str [], .bool false]) (prtT xs[i]) i xs.length hi (by simp [hxi])
      simp [loopAt, loopsOf, Tryz.f14, g0, g3, g4, hi', hxi, hwi, hx, ho, hget, hset, hq0, h0q]
      try omega)
    (by
      rintro s o q ⟨g0, g3, g4, hq, ho⟩
      have hfull : (xs.map prtT).take xs.length = xs.map prtT := List.take_of_length_le (by simp)
      simp [hfull] at ho
      simp [loopAt, loopsOf, Tryz.f14, g0, g3, g4, ho])
    xs.length 0 s o q (by omega) hI)
  simp only [loopAt, loopsOf, Tryz.f14] at lp
  obtain ⟨X, A, B, C, hx⟩ := lp
  simp at hx
  have h1 : xs.length ≤ 140737488355328 := by omega
  have h2 : xs.length * 24 ≤ 140737488355328 := by omega
  simp [h1, h2, hx]
theorem eq_81 (xs : List Prt) (hl : xs.length < 9223372036854775807) (hf : ∀ x ∈ xs, run E (.call 64 [.t (prtT x), .t (prtT x)]) = some (.res [xB true] [])) :
    run E (.call 17 [.t (.list (xs.map prtT)), .t (.list (xs.map prtT))]) = some (.res [xB true] []) := by
  rw [run_call E 17 _ rfl Tryz.func17 rfl rfl rfl (by simp)]
  have d6 := d17_6
  simp [regionOf, findR, pick, Tryz.f17] at d6
  have dd := fun st => run_region_draw E st 6 _ d6
  clear d6
  have lp := sk (fun s o q hI => loop_for (c := loopAt Tryz.f17 0) (N := 27)
    (fun i s o q => s 0 = .t (.list (xs.map prtT)) ∧ s 1 = .t (.list (xs.map prtT)) ∧ s 5 = .t (.int .i64 i))
    (fun e s' o' q' => e = .exit 0) xs.length
    (by
      rintro i s o q hi ⟨g0, g1, g5⟩
      have hi' : (i : Int) < (xs.length : Int) := by omega
      have hwi := wrap_succ (n := i) (by omega)
      have hxi : xs[i]? = some xs[i] := List.getElem?_eq_getElem hi
      have hx := hf _ (List.getElem_mem hi)
      simp [loopAt, loopsOf, Tryz.f17, dd, g0, g1, g5, hi', hxi, hwi, hx])
    (by
      rintro s o q ⟨g0, g1, g5⟩
      simp [loopAt, loopsOf, Tryz.f17, g0, g1, g5])
    xs.length 0 s o q (by omega) hI)
  simp only [loopAt, loopsOf, Tryz.f17] at lp
  obtain ⟨X, A, B, C, hx⟩ := lp
  simp at hx
  simp [hx]
def szVal (v : Val) (l : Int) : Int := szB v.t.length l
def szTrm (t : Trm) (l : Int) : Int := thenSz (szB t.path.length) (thenSz (szVal t.v) (fun k => k)) l
def szPrt (p : Prt) (l : Int) : Int := szB p.path.length l
def szCls (c : List Trm) (l : Int) : Int := thenSz (lstSz szTrm c) (fun k => k) l
def szFil (f : List (List Trm)) (l : Int) : Int := thenSz (lstSz szCls f) (fun k => k) l
def szTxt (t : Bytes) (l : Int) : Int := szB t.length l
theorem szVal_le (v : Val) (k : Int) (h : 0 ≤ k) : szVal v k ≤ k := szB_le h
theorem szPrt_le (p : Prt) (k : Int) (h : 0 ≤ k) : szPrt p k ≤ k := szB_le h
/-- No longer than what memory holds. -/
def W (n : Nat) : Prop := n < 4611686018427387904
def Trm.wd (t : Trm) : Prop := W t.path.length ∧ W t.v.t.length
def clsWd (c : List Trm) : Prop := W c.length ∧ ∀ t ∈ c, t.wd
def filWd (f : List (List Trm)) : Prop := W f.length ∧ ∀ c ∈ f, clsWd c
def prtsWd (l : List Prt) : Prop := W l.length ∧ ∀ p ∈ l, W p.path.length
def txtsWd (l : List Bytes) : Prop := W l.length ∧ ∀ p ∈ l, W p.length
theorem wrap_sz {n : Nat} {l : Int} (h : W n) (h0 : 0 ≤ l) (hm : l ≤ 1048576) : IntKind.i64.wrap (l - (n : Int)) = l - n := by unfold W at h; exact wrap_of (by omega) (by omega)
theorem szValue (v : Val) (h : W v.t.length) (l : Int) (h0 : 0 ≤ l) (hm : l ≤ 1048576) : run E (.call 34 [xV v, xI l]) = some (.res [xI (szVal v l)] []) := by
  rw [run_call E 34 _ rfl Tryz.func34 rfl rfl rfl (by simp)]
  have hw := wrap_sz h h0 hm
  unfold szVal szB
  by_cases hb : l - (v.t.length : Int) < 0 <;> simp [hw, hb]
theorem szPart (p : Prt) (h : W p.path.length) (l : Int) (h0 : 0 ≤ l) (hm : l ≤ 1048576) : run E (.call 56 [.t (prtT p), xI l]) = some (.res [xI (szPrt p l)] []) := by
  rw [run_call E 56 _ rfl Tryz.func56 rfl rfl rfl (by simp)]
  have hw := wrap_sz h h0 hm
  unfold szPrt szB
  by_cases hb : l - (p.path.length : Int) < 0 <;> simp [hw, hb]
theorem szPartS (c : List Prt) (h : prtsWd c) (l : Int) (h0 : 0 ≤ l) (hm : l ≤ 1048576) : run E (.call 11 [.t (.list (c.map prtT)), xI l]) = some (.res [xI (lstSz szPrt c l)] []) :=
  sz_68 c szPrt (by have := h.1; unfold W at this; omega) (fun x hx l h0 hm => szPart x (h.2 x hx) l h0 hm) (fun x _ k hk => szPrt_le x k hk) l h0 hm
theorem toValue (v : Val) : run E (.call 37 [xV v]) = some (.res [valX v] []) := by
  rw [run_call E 37 _ rfl Tryz.func37 rfl rfl rfl (by simp)]
  simp
theorem toPart (p : Prt) : run E (.call 60 [.t (prtT p)]) = some (.res [prtX p] []) := by
  rw [run_call E 60 _ rfl Tryz.func60 rfl rfl rfl (by simp)]
  simp
theorem toPartS (l : List Prt) (h : l.length < 4294967296) : run E (.call 14 [.t (.list (l.map prtT))]) = some (.res [.row 62 (l.map prtT)] []) := to_74 l h (fun x _ => toPart x)
theorem eqValue (v : Val) : run E (.call 40 [xV v, xV v]) = some (.res [xB true] []) := by
  rw [run_call E 40 _ rfl Tryz.func40 rfl rfl rfl (by simp)]
  simp
theorem eqPart (p : Prt) : run E (.call 64 [.t (prtT p), .t (prtT p)]) = some (.res [xB true] []) := by
  rw [run_call E 64 _ rfl Tryz.func64 rfl rfl rfl (by simp)]
  simp
theorem eqPartS (l : List Prt) (h : l.length < 4294967296) : run E (.call 17 [.t (.list (l.map prtT)), .t (.list (l.map prtT))]) = some (.res [xB true] []) := eq_81 l (by omega) (fun x _ => eqPart x)
structure Qry.Wd (q : Qry) : Prop where
  filter : filWd q.filter
  sort : prtsWd q.sort
  keep : txtsWd q.keep
  hint : W q.hint.length
def szQry (q : Qry) (l : Int) : Int := thenSz (szFil q.filter) (thenSz (lstSz szPrt q.sort) (thenSz (lstSz szTxt q.keep) (thenSz (szB q.hint.length) (fun k => k)))) l
theorem lstPrt_sm {c : List Prt} {k : Int} (h0 : 0 ≤ k) (hm : k ≤ 1048576) (h : ¬ lstSz szPrt c k < 0) : partsSm c := by
  obtain ⟨b1, b2⟩ := lstSz_all (P := fun p => p.path.length < 4294967296) (m := 1048576) h0 hm (fun x _ k hk => szPrt_le x k hk) (fun x _ k hk hm h => by have := szB_bound h; omega) h
  exact ⟨by omega, b2⟩
end Go.Rd
namespace Go.Proofs
open Go.Shelf
def Tryz.lays213_ren : Go.Shelf.Ren := ⟨fun | 213 => 233 | 265 => 310 | n => n, fun | 9 => 9 | 3 => 3 | n => n, fun | n => n⟩
theorem Tryz.lays213 : Go.Proofs.Lays.n213 Tryz.prog Tryz.lays213_ren := {
  mixed := by kernel_rfl
  f213 := Tryz.func233.trans (congrArg some (by kernel_rfl))
  f265 := Tryz.func310.trans (congrArg some (by kernel_rfl))
  t3 := Tryz.underlying3
  a3 := Tryz.isAgg3
  z3 := Tryz.sizeOf3
  v3 := Tryz.zeroValue3
  t9 := Tryz.underlying9
  a9 := Tryz.isAgg9
  z9 := Tryz.sizeOf9
  v9 := Tryz.zeroValue9 }
open Go.RowKit in
theorem Tryz.bytealg_CompareString (a b : ByteArray) (w : World) :
    Calls Tryz.prog 233 #[.string a, .string b] w fun e w' => e = .returned (.int .i64 (Lib.compareBytes a.data.toList b.data.toList)) ∧ w' = w := Any.bytealg_CompareString Tryz.lays213 a b w
def Tryz.lays105_ren : Go.Shelf.Ren := ⟨fun | 105 => 255 | 212 => 317 | 99 => 318 | 165 => 274 | 166 => 275 | 170 => 319 | 169 => 276 | 263 => 343 | 264 => 344 | 206 => 345 | 240 => 327 | 241 => 328 | 276 => 356 | 277 => 357 | n => n, fun | 9 => 9 | 3 => 3 | 4 => 4 | 20 => 20 | 0 => 0 | 46 => 197 | 109 => 340 | 5 => 5 | 72 => 304 | 76 => 308 | 51 => 278 | 146 => 364 | 53 => 280 | 148 => 366 | 70 => 302 | 37 => 57 | 75 => 307 | 127 => 349 | 164 => 372 | 80 => 151 | n => n, fun | n => n⟩
theorem Tryz.lays105 : Go.Proofs.Lays.n105 Tryz.prog Tryz.lays105_ren := {
  mixed := by kernel_rfl
  f99 := Tryz.func318.trans (congrArg some (by kernel_rfl))
  f105 := Tryz.func255.trans (congrArg some (by kernel_rfl))
  f165 := Tryz.func274.trans (congrArg some (by kernel_rfl))
  f166 := Tryz.func275.trans (congrArg some (by kernel_rfl))
  f169 := Tryz.func276.trans (congrArg some (by kernel_rfl))
  f170 := Tryz.func319.trans (congrArg some (by kernel_rfl))
  f206 := Tryz.func345.trans (congrArg some (by kernel_rfl))
  f212 := Tryz.func317.trans (congrArg some (by kernel_rfl))
  f240 := Tryz.func327.trans (congrArg some (by kernel_rfl))
  f241 := Tryz.func328.trans (congrArg some (by kernel_rfl))
  f263 := Tryz.func343.trans (congrArg some (by kernel_rfl))
  f264 := Tryz.func344.trans (congrArg some (by kernel_rfl))
  f276 := Tryz.func356.trans (congrArg some (by kernel_rfl))
  f277 := Tryz.func357.trans (congrArg some (by kernel_rfl))
  t0 := Tryz.underlying0
  a0 := Tryz.isAgg0
  z0 := Tryz.sizeOf0
  v0 := Tryz.zeroValue0
  t3 := Tryz.underlying3
  a3 := Tryz.isAgg3
  z3 := Tryz.sizeOf3
  v3 := Tryz.zeroValue3
  t4 := Tryz.underlying4
  a4 := Tryz.isAgg4
  z4 := Tryz.sizeOf4
  v4 := Tryz.zeroValue4
  t5 := Tryz.underlying5
  a5 := Tryz.isAgg5
  z5 := Tryz.sizeOf5
  v5 := Tryz.zeroValue5
  t9 := Tryz.underlying9
  a9 := Tryz.isAgg9
  z9 := Tryz.sizeOf9
  v9 := Tryz.zeroValue9
  t20 := Tryz.underlying20
  a20 := Tryz.isAgg20
  z20 := Tryz.sizeOf20
  v20 := Tryz.zeroValue20
  t37 := Tryz.underlying57
  a37 := Tryz.isAgg57
  z37 := Tryz.sizeOf57
  v37 := Tryz.zeroValue57
  t46 := Tryz.underlying197
  a46 := Tryz.isAgg197
  z46 := Tryz.sizeOf197
  v46 := Tryz.zeroValue197
  t51 := Tryz.underlying278
  a51 := Tryz.isAgg278
  z51 := Tryz.sizeOf278
  v51 := Tryz.zeroValue278
  t53 := Tryz.underlying280
  a53 := Tryz.isAgg280
  z53 := Tryz.sizeOf280
  v53 := Tryz.zeroValue280
  t70 := Tryz.underlying302
  a70 := Tryz.isAgg302
  z70 := Tryz.sizeOf302
  v70 := Tryz.zeroValue302
  t72 := Tryz.underlying304
  a72 := Tryz.isAgg304
  z72 := Tryz.sizeOf304
  v72 := Tryz.zeroValue304
  t75 := Tryz.underlying307
  a75 := Tryz.isAgg307
  z75 := Tryz.sizeOf307
  v75 := Tryz.zeroValue307
  t76 := Tryz.underlying308
  a76 := Tryz.isAgg308
  z76 := Tryz.sizeOf308
  v76 := Tryz.zeroValue308
  t109 := Tryz.underlying340
  a109 := Tryz.isAgg340
  z109 := Tryz.sizeOf340
  v109 := Tryz.zeroValue340
  t127 := Tryz.underlying349
  a127 := Tryz.isAgg349
  z127 := Tryz.sizeOf349
  v127 := Tryz.zeroValue349
  t146 := Tryz.underlying364
  a146 := Tryz.isAgg364
  z146 := Tryz.sizeOf364
  v146 := Tryz.zeroValue364
  t148 := Tryz.underlying366
  a148 := Tryz.isAgg366
  z148 := Tryz.sizeOf366
  v148 := Tryz.zeroValue366
  t164 := Tryz.underlying372
  a164 := Tryz.isAgg372
  z164 := Tryz.sizeOf372
  v164 := Tryz.zeroValue372 }
theorem Tryz.Builder_Extra_105 : Builder.Extra Tryz.prog Tryz.lays105_ren := {
  sizeBuilder := by kernel_rfl
  liesBuilder := by kernel_rfl
  t5 := Tryz.underlying5
  a5 := Tryz.isAgg5
  z5 := Tryz.sizeOf5
  v5 := Tryz.zeroValue5
  infoByte := by kernel_rfl
  cellsByte := by kernel_rfl
  sizeByte := by kernel_rfl
  neB5 := by decide }
open Go.RowKit Go.Lib in
theorem Tryz.strings_Repeat (s : ByteArray) (c : Nat) (w : World) (hc : c ≤ 9223372036854775807) (hlen : s.size * c ≤ 140737488355328) :
    Calls Tryz.prog 255 #[.string s, .int .i64 c] w fun e w' => e = .returned (.string ⟨(Lib.repeatL s.data.toList c).toArray⟩) ∧ Below w.heap.size w w' := Any.strings_Repeat Tryz.lays105 Tryz.Builder_Extra_105 s c w hc hlen
end Go.Proofs
set_option linter.unusedSimpArgs false
set_option linter.unusedVariables false
namespace Go.Proofs
open Go.Shelf Go.RowKit Go.Lib
variable {P : Program} {ρ : Ren}
set_option maxHeartbeats 2000000 in
set_option maxRecDepth 100000 in
/-- The shelf's contract of slices.Clone, at whatever address. -/
theorem cloneAt (L : SlLaysE0.n41 P ρ) (i0 : TypeInfo) (z : Value) (size bytes : Nat) (hi : P.info? (ρ.t 23) = some i0) (hz0 : i0.zero = some z) (hz1 : i0.size = size) (hz2 : i0.bytes = bytes) (hzs : z.cells.size = size) (hsz : 0 < size)
    (z23 : ∀ w, (Go.sizeOf (ρ.t 23)).run P w = .ok size w) (a : Addr) (n c : Nat) (news : List Value) (w : World) (hl : news.length = n * size) (hn : n ≤ maxLen) (hbig : n * bytes ≤ 140737488355328)
    (hc : ∀ j u, news[j]? = some u → w.cell? (a.add j) = some u) (h1 : ∀ u ∈ news, u.oneCell' = true) :
    Calls P (ρ.f 41) #[.slice (some a) n c] w fun e w' => ∃ v', e = .returned v' ∧ w'.ownsRow w.heap.size (ρ.t 23) size v' n news ∧ v' ≠ .slice none 0 0 ∧ Below w.heap.size w w' := by
  have mixed := L.mixed; have t4 := L.t4; have a4 := L.a4; have z4 := L.z4; have v4 := L.v4; have t22 := L.t22; have a22 := L.a22; have z22 := L.z22; have v22 := L.v22
  have q22 : ∀ (w : World) (a : Option Addr) (n c n' c' : Nat), (binOp .eql (ρ.t 22) (.slice a n c) (.slice none n' c')).run P w = .ok (.bool a.isNone) w := fun w a n c n' c' => Lib.run_eql_slice_nil w _ _ a n c n' c' L.t22
  have u22 : ∀ w, Sem.run P (underlying (ρ.t 22)) w = .ok (TypeDesc.slice (ρ.t 23)) w := run_underlying t22
  have A : Aside (∀ j u, news[j]? = some u → w.cell? (a.add j) = some u) := hc
  clear hc
  obtain ⟨_, _, FG⟩ := L.f41
  go_enter FG, SlBodyN.n41_ntmps ρ
  go_wp2_with (at_builtin; refine wpList_append_own _ rfl _ _ (ρ.t 22) rfl w.heap.size (ρ.t 23) i0 z size bytes t22 hi hz0 hz1 hz2 hzs hsz _ _ _ rfl (World.ownsRow_made w #[] 0 (Nat.le_refl _) (Nat.zero_le _) (by simp)) a n c news rfl ?qc1 ?qc2 ?qc3 ?qc4 ?qc5 ?qc6 ?_)
  case qc1 => exact hl
  case qc2 =>
    intro j u hj
    exact Lib.cell?_alloc_some _ (A.out j u hj)
  case qc3 => exact h1
  case qc4 => rw [Nat.zero_add]; exact hn
  case qc5 => rw [Nat.zero_add]; exact hbig
  case qc6 => simp
  intro v' w1 hown hgrow hnil
  go_wp2
  go_ret
  refine ⟨v', rfl, by simpa using hown, ?_, ?_⟩
  · exact hnil
  · exact ((Below.refl _ w).alloc (Nat.le_refl _) _).grown hgrow (by simp) (by intro k hk; simp [Value.ownBlock] at hk; omega)
end Go.Proofs
namespace Go.Ev
open Go.Proofs Go.RowKit Go.Lib Go.Shelf
theorem oneCell_of {v : Value} (h : oneV v = true) : v.oneCell' = true := by cases v <;> first | rfl | (simp [oneV] at h)
theorem sameBelow {w w' : World} (h : Below w.heap.size w w') : Same w w' (fun _ => False) := ⟨h.size, fun k hk _ => h.block k hk, h.tape, h.os, h.output⟩
theorem Goes.of_calls {P : Program} {f : Nat} {vals : Array Value} {w : World} {R : Ending → World → Prop} (he : Enters P f) (h : Calls P f vals w R) : Goes P f vals w R := .inl ⟨he vals w, h⟩
/-- slices.Clone hands over a row that holds the same. -/
theorem clone_ok {E : Env} {P : Program} {ρ : Ren} (L : SlLaysE0.n41 P ρ) (he : Enters P (ρ.f 41)) (hm : E.md (ρ.f 41) = []) (hfl : E.flat (ρ.f 41) = false) (i0 : TypeInfo) (z : Value) (hi : P.info? (ρ.t 23) = some i0) (hz0 : i0.zero = some z) (hzs : z.cells.size = i0.size) (hsz : 0 < i0.size) (hty : (E.ty (ρ.t 23)).size = i0.size)
    (xs : List T) (hw : ∀ x ∈ xs, x.cells.length = i0.size) (hn : xs.length ≤ maxLen) (hbig : xs.length * i0.bytes ≤ 140737488355328) :
    CallOK E P (ρ.f 41) [.t (.list xs)] [.row (ρ.t 23) xs] [] := by
  refine ⟨fun h => (by rw [hfl] at h; cases h), fun F w vals bl hx hnd hb hF hL => ?_⟩
  obtain ⟨v, hvs, hv, rfl⟩ : ∃ v, vals.toList = [v] ∧ RD F w (.list xs) v ∧ bl = [] := by
    generalize vals.toList = l at hx
    cases hx with
    | cons h r =>
      cases r with
      | nil =>
        cases h with
        | t h => exact ⟨_, rfl, h, rfl⟩
  have hva : vals = #[v] := by cases vals; simpa using hvs
  subst hva
  rw [hm]
  cases hv with
  | list xs A c sz cell hc hmx hz hwd h1 ha h =>
    cases A with
    | none =>
      have hnil : xs = [] := by
        cases xs with
        | nil => rfl
        | cons x r => obtain ⟨g, o, e, _⟩ := ha (by simp); cases e
      subst hnil
      refine Goes.of_calls he ((AnyE.slices_Clone_nil L 0 c w).mono ?_)
      rintro e w' ⟨rfl, rfl⟩
      refine ⟨[.slice none 0 0], rfl, F, [], [], Same.refl _ _, fun _ h => h, fun _ h => .inl h, hF, ?_, by rw [muts_nil]; exact .nil, by simp, by simp⟩
      refine .cons (b := []) (bs := []) ?_ .nil
      exact .row (l := 0) ⟨by rw [hty]; exact hsz, ⟨none, 0, rfl, Nat.le_refl _, Nat.zero_le _⟩, by simp, by simp, fun A n k e hk => by cases e; exact absurd rfl hk⟩
    | some a =>
      have hsize : xs ≠ [] → sz = i0.size := fun hne => by
        obtain ⟨x, hx⟩ := List.exists_mem_of_ne_nil xs hne
        rw [← hwd x hx, hw x hx]
      obtain ⟨news, hnews⟩ : ∃ news, news = (List.range (xs.length * i0.size)).map (fun k => cell (k / i0.size) (k % i0.size)) := ⟨_, rfl⟩
      have hnl : news.length = xs.length * i0.size := by rw [hnews]; simp
      have hget : ∀ k u, news[k]? = some u → k < xs.length * i0.size ∧ u = cell (k / i0.size) (k % i0.size) := by
        intro k u hk
        have hlt := (List.getElem?_eq_some_iff.1 hk).1
        rw [hnl] at hlt
        rw [hnews, List.getElem?_map, List.getElem?_range hlt] at hk
        simp at hk
        exact ⟨hlt, hk.symm⟩
      have hjt : ∀ k, k < xs.length * i0.size → k / i0.size < xs.length ∧ k % i0.size < i0.size := fun k hk => ⟨Nat.div_lt_of_lt_mul (by rw [Nat.mul_comm]; exact hk), Nat.mod_lt _ hsz⟩
      have hone : ∀ u ∈ news, u.oneCell' = true := by
        intro u hu
        obtain ⟨k, hk, hE⟩ := List.getElem_of_mem hu
        obtain ⟨hlt, rfl⟩ := hget k u (by rw [← hE]; exact List.getElem?_eq_getElem hk)
        obtain ⟨hj, ht⟩ := hjt k hlt
        have hx1 : xs[k / i0.size]? = some xs[k / i0.size] := List.getElem?_eq_getElem hj
        have hlt2 : k % i0.size < xs[k / i0.size].cells.length := by rw [hw _ (List.getElem_mem hj)]; exact ht
        exact oneCell_of ((h _ _ _ _ hx1 (List.getElem?_eq_getElem hlt2)).one (h1 _ (List.getElem_mem hj) _ (List.getElem_mem hlt2)))
      have hcell : ∀ k u, news[k]? = some u → w.cell? (a.add k) = some u := by
        intro k u hk
        obtain ⟨hlt, rfl⟩ := hget k u hk
        obtain ⟨hj, ht⟩ := hjt k hlt
        have hne : xs ≠ [] := fun e => by subst e; simp at hj
        obtain ⟨g, o, e, _, hcl⟩ := ha hne
        cases e
        have := hcl _ _ hj (by rw [hsize hne]; exact ht)
        rw [hsize hne, Nat.div_add_mod'] at this
        rw [Addr.add_lit]
        exact this
      refine Goes.of_calls he ((cloneAt L i0 z i0.size i0.bytes hi hz0 rfl rfl hzs hsz (fun w => by simp [Go.sizeOf, typeInfo, hi]) a xs.length c news w hnl hn hbig hcell hone).mono ?_)
      rintro e w' ⟨v', rfl, ⟨_, hown⟩, hnz, hbel⟩
      rcases hown with ⟨rfl, _⟩ | ⟨g, cap, cur, rfl, hg, hblk, hle, hcap, hcs, htk⟩
      · exact absurd rfl hnz
      have hsm := sameBelow hbel
      have hlt : g < w'.heap.size := by
        rcases Nat.lt_or_ge g w'.heap.size with h | h
        · exact h
        · rw [Array.getElem?_eq_none h] at hblk; cases hblk
      have hrow : RowV E F w' (ρ.t 23) xs (.slice (some ⟨g, 0, none⟩) xs.length cap) g := by
        refine ⟨by rw [hty]; exact hsz, ⟨_, cap, rfl, hle, hcap⟩, fun x hx => by rw [hty]; exact hw x hx, h1, fun A n k e hk => ?_⟩
        cases e
        refine ⟨0, cur, 0, 0, rfl, hblk, by rw [hty, hcs]; omega, fun j _ _ h => by omega, fun j x t y hx hy => ?_⟩
        rw [hty]
        have hj := (List.getElem?_eq_some_iff.1 hx).1
        have hxm : x ∈ xs := List.mem_of_getElem? hx
        have ht := (List.getElem?_eq_some_iff.1 hy).1
        rw [hw x hxm] at ht
        have hk2 : j * i0.size + t < xs.length * i0.size := by
          have : (j + 1) * i0.size ≤ xs.length * i0.size := Nat.mul_le_mul_right _ hj
          rw [Nat.add_mul, Nat.one_mul] at this
          omega
        have hdv : (j * i0.size + t) / i0.size = j := by rw [Nat.mul_comm, Nat.mul_add_div hsz, Nat.div_eq_of_lt ht, Nat.add_zero]
        have hmd : (j * i0.size + t) % i0.size = t := by rw [Nat.mul_comm, Nat.mul_add_mod, Nat.mod_eq_of_lt ht]
        refine ⟨cell j t, ?_, (h j x t y hx hy).mono (fun _ h => h) (fun k hk => hsm.blk k (hF k hk) (fun h => h))⟩
        have hn1 : news[j * i0.size + t]? = some (cell j t) := by
          rw [hnews, List.getElem?_map, List.getElem?_range hk2]
          simp [hdv, hmd]
        rw [← htk, List.getElem?_take, if_pos hk2, Array.getElem?_toList] at hn1
        rw [Nat.zero_add]
        exact hn1
      refine ⟨[_], rfl, F, ownL (.slice (some ⟨g, 0, none⟩) xs.length cap) g, [], hsm.mono (fun _ _ h => h.elim), fun _ h => h, fun _ h => .inl h, fun k hk => Nat.lt_of_lt_of_le (hF k hk) hsm.size, ?_, by rw [muts_nil]; exact .nil, ?_, ?_⟩
      · have := XVs.cons (XV.row hrow) (.nil (E := E) (F := F) (w := w'))
        simpa using this
      · unfold ownL; split <;> simp
      · intro k hk
        have hkg : k = g := by
          unfold ownL at hk
          split at hk <;> simp at hk
          exact hk
        subst hkg
        exact ⟨hlt, fun h => by have := hF _ h; omega, .inr hg⟩
end Go.Ev
namespace Go.Rd
open Go.Ev Go.Proofs Go.RowKit
set_option linter.unusedSimpArgs false
set_option linter.unusedVariables false
theorem same_of_below {w w' : World} (h : Below w.heap.size w w') : Same w w' (fun _ => False) := ⟨h.size, fun k hk _ => h.block k hk, h.tape, h.os, h.output⟩
theorem callOK_flat {E : Env} {P : Program} {f : Nat} {args : List X} {r : T} (hr : r.flat = true) (h1 : r.one = true) (hm : E.md f = [])
    (h : ∀ (F : Nat → Prop) (w : World) (vals : Array Value) (bl : List Nat), XVs E F w args vals.toList bl → (∀ k, F k → k < w.heap.size) → Laid E F w → ∃ v, RD F w r v ∧ ((callFunc f vals).run P w = .ok (.value v) w ∨ ((callFunc f vals).run P w = .ok (.enter f vals) w ∧ Calls P f vals w (fun e w' => e = .returned v ∧ Below w.heap.size w w')))) :
    CallOK E P f args [.t r] [] := by
  refine ⟨fun _ => ⟨by simp [X.flats, X.flat, hr], rfl, rfl⟩, fun F w vals bl hx hn hb hF hL => ?_⟩
  obtain ⟨v, hv, hc⟩ := h F w vals bl hx hF hL
  have key : ∀ w', Below w.heap.size w w' → Go.Ev.Leaves E F w bl (muts (E.md f) vals.toList) [.t r] [] [v] w' := by
    intro w' hw
    refine ⟨F, [], [], (same_of_below hw).mono (fun _ _ h => h.elim), fun _ h => h, fun _ h => .inl h, fun k hk => Nat.lt_of_lt_of_le (hF k hk) hw.size, .cons (b := []) (.t (hv.flat hr)) .nil, ?_, by simp, by simp⟩
    rw [hm, show muts [] vals.toList = [] from muts_nil _]
    exact .nil
  rcases hc with hc | ⟨hc, hC⟩
  · exact .inr ⟨v, w, hc, [v], rfl, key w (Below.refl _ _)⟩
  · refine .inl ⟨hc, hC.mono ?_⟩
    rintro e w' ⟨rfl, hw⟩
    exact ⟨[v], rfl, key w' hw⟩
theorem xvs_two {E : Env} {F : Nat → Prop} {w : World} {a b : T} {vs : List Value} {bl : List Nat} (h : XVs E F w [.t a, .t b] vs bl) : ∃ u v, vs = [u, v] ∧ RD F w a u ∧ RD F w b v := by
  cases h with
  | cons h r =>
    cases r with
    | cons h' r' =>
      cases r' with
      | nil =>
        cases h with
        | t h => cases h' with
          | t h' => exact ⟨_, _, rfl, h, h'⟩
theorem arr_two {vals : Array Value} {u v : Value} (h : vals.toList = [u, v]) : vals = #[u, v] := by
  cases vals; simpa using h
/-- The layings of slices.Clone. -/
def cloneRen (f t e : Nat) : Go.Shelf.Ren := ⟨fun | 41 => f | n => n, fun | 22 => t | 23 => e | n => n, fun n => n⟩
theorem lay131 : Go.Proofs.SlLaysE0.n41 Tryz.prog (cloneRen 131 26 74) := {
  mixed := by kernel_rfl
  f41 := ⟨Tryz.f131.name, by kernel_rfl, Tryz.func131.trans (congrArg some (by kernel_rfl))⟩
  t4 := Tryz.underlying4
  a4 := Tryz.isAgg4
  z4 := Tryz.sizeOf4
  v4 := Tryz.zeroValue4
  t22 := Tryz.underlying26
  a22 := Tryz.isAgg26
  z22 := Tryz.sizeOf26
  v22 := Tryz.zeroValue26 }
theorem ext_ok : ∀ f g args rs bs, extOf f = some g → g args = some (rs, bs) → CallOK E Tryz.prog f args rs bs := by
  intro f g args rs bs hx hg
  unfold extOf at hx
  split at hx
  · obtain rfl := Option.some.inj hx
    dsimp only at hg
    split at hg
    · rename_i a b
      obtain ⟨rfl, rfl⟩ := Prod.mk.inj (Option.some.inj hg)
      refine callOK_flat rfl rfl rfl (fun F w vals bl h _ _ => ?_)
      obtain ⟨u, v, hv, hu, hv'⟩ := xvs_two h
      obtain rfl := arr_two hv
      cases hu; cases hv'
      refine ⟨_, .int _ _, .inr ⟨Go.Proofs.enters_of Tryz.func233 (by kernel_rfl) rfl _ _, (Tryz.bytealg_CompareString ⟨⟨a⟩⟩ ⟨⟨b⟩⟩ w).mono ?_⟩⟩
      rintro e w' ⟨rfl, rfl⟩
      exact ⟨rfl, Below.refl _ _⟩
    · cases hg
  · obtain rfl := Option.some.inj hx
    dsimp only at hg
    split at hg
    · rename_i a n
      split at hg
      · rename_i hn
        obtain ⟨rfl, rfl⟩ := Prod.mk.inj (Option.some.inj hg)
        refine callOK_flat rfl rfl rfl (fun F w vals bl h _ _ => ?_)
        obtain ⟨u, v, hv, hu, hv'⟩ := xvs_two h
        obtain rfl := arr_two hv
        cases hu; cases hv'
        obtain ⟨h0, h1, h2⟩ := hn
        have hc := Tryz.strings_Repeat ⟨⟨a⟩⟩ n.toNat w (by omega) (by simpa [ByteArray.size] using h2)
        rw [Int.toNat_of_nonneg h0] at hc
        refine ⟨_, .str _, .inr ⟨Go.Proofs.enters_of Tryz.func255 (by kernel_rfl) rfl _ _, hc⟩⟩
      · cases hg
    · cases hg
  · obtain rfl := Option.some.inj hx
    dsimp only at hg
    split at hg
    · rename_i a c
      obtain ⟨rfl, rfl⟩ := Prod.mk.inj (Option.some.inj hg)
      refine callOK_flat rfl rfl rfl (fun F w vals bl h _ _ => ?_)
      obtain ⟨u, v, hv, hu, hv'⟩ := xvs_two h
      obtain rfl := arr_two hv
      cases hu; cases hv'
      refine ⟨_, .int _ _, .inl ?_⟩
      rw [run_callFunc_extern Tryz.func324 (by kernel_rfl) (by kernel_rfl) (by kernel_rfl) (e := Extern.BytealgCount.count) (by kernel_rfl), Lib.run_countString]
      rfl
    · cases hg
  · obtain rfl := Option.some.inj hx
    dsimp only at hg
    split at hg
    · rename_i a c
      obtain ⟨rfl, rfl⟩ := Prod.mk.inj (Option.some.inj hg)
      refine callOK_flat rfl rfl rfl (fun F w vals bl h _ _ => ?_)
      obtain ⟨u, v, hv, hu, hv'⟩ := xvs_two h
      obtain rfl := arr_two hv
      cases hu; cases hv'
      refine ⟨_, .int _ _, .inl ?_⟩
      rw [run_callFunc_extern Tryz.func363 (by kernel_rfl) (by kernel_rfl) (by kernel_rfl) (e := Extern.BytealgIndexByte.indexByte) (by kernel_rfl), Lib.run_indexByteString]
      rfl
    · cases hg
  · obtain rfl := Option.some.inj hx
    dsimp only at hg
    split at hg
    · rename_i xs
      split at hg
      · rename_i hc
        obtain ⟨rfl, rfl⟩ := Prod.mk.inj (Option.some.inj hg)
        have hz : Tryz.t74.size = 3 := by kernel_rfl
        have hw : ∀ x ∈ xs, x.cells.length = Tryz.t74.size := fun x hx => by rw [hz]; simpa using List.all_eq_true.1 hc.1 x hx
        have hb : Tryz.t74.bytes = 32 := by kernel_rfl
        exact clone_ok lay131 (Go.Proofs.enters_of Tryz.func131 (by kernel_rfl) rfl) rfl fl131 Tryz.t74 (Tryz.t74.zero.getD .nilFunc) (by kernel_rfl) (by kernel_rfl) (by kernel_rfl) (by rw [hz]; decide) (by kernel_rfl) xs hw (by have := hc.2; unfold maxLen; omega) (by rw [hb]; have := hc.2; omega)
      · cases hg
    · cases hg
  · obtain rfl := Option.some.inj hx
    dsimp only at hg
    cases hg
  · obtain rfl := Option.some.inj hx
    dsimp only at hg
    cases hg
  · cases hx
theorem E_sok : SOK E Tryz.prog := envE_sok mixed names_ok ext_ok
end Go.Rd
namespace Go.Rd
open Go.Ev Go.Proofs Go.Pu
set_option linter.unusedSimpArgs false
set_option linter.unusedVariables false
set_option maxRecDepth 100000
set_option maxHeartbeats 4000000
theorem list_choose {α β : Type} {enc : α → β} {P : α → Prop} : ∀ {xs : List β}, (∀ x ∈ xs, ∃ a, x = enc a ∧ P a) → ∃ l : List α, xs = l.map enc ∧ ∀ a ∈ l, P a
  | [], _ => ⟨[], rfl, by simp⟩
  | x :: xs, h => by
    obtain ⟨a, h1, h2⟩ := h x (by simp)
    obtain ⟨l, h3, h4⟩ := list_choose (fun y hy => h y (List.mem_cons_of_mem _ hy))
    refine ⟨a :: l, by simp [h1, h3], fun b hb => ?_⟩
    rcases List.mem_cons.1 hb with rfl | hb
    · exact h2
    · exact h4 b hb
theorem typed_int {n : Nat} {ts : List T} (h : typed E (n + 1) 3 ts) : ∃ m, ts = [.int .i64 m] := by
  unfold typed at h
  rw [E_ty3] at h
  simp only at h
  split at h <;> first | exact h.elim | skip
  all_goals rename_i hk
  all_goals first | cases hk | skip
  all_goals first | (obtain ⟨rfl, _⟩ := h; exact ⟨_, rfl⟩) | skip
theorem typed_str {n : Nat} {ts : List T} (h : typed E (n + 1) 9 ts) : ∃ s, ts = [.str s] ∧ W s.length := by
  unfold typed at h
  rw [E_ty9] at h
  simp only at h
  split at h <;> first | exact h.elim | skip
  all_goals rename_i hk
  all_goals first | cases hk | skip
  all_goals first | exact ⟨_, rfl, by unfold W; omega⟩ | skip
theorem typed_bool {n : Nat} {ts : List T} (h : typed E (n + 1) 4 ts) : ∃ b, ts = [.bool b] := by
  unfold typed at h
  rw [E_ty4] at h
  simp only at h
  split at h <;> first | exact h.elim | skip
  all_goals rename_i hk
  all_goals first | cases hk | skip
  all_goals first | exact ⟨_, rfl⟩ | skip
theorem typed_slice {n t : Nat} {ts : List T} (hk : (E.ty t).k = .slice) (hb : 1 ≤ (E.ty (E.ty t).elem).bytes) (h : typed E (n + 1) t ts) : ∃ xs, ts = [.list xs] ∧ W xs.length ∧ ∀ x ∈ xs, ∃ cs, x = (if (E.ty (E.ty t).elem).agg then T.agg cs else (cs.headD (.bool false))) ∧ cs.length = (E.ty (E.ty t).elem).size ∧ typed E n (E.ty t).elem cs := by
  unfold typed at h
  rw [hk] at h
  try simp only at h
  split at h <;> first | exact h.elim | skip
  all_goals rename_i hk'
  all_goals first | cases hk' | skip
  rename_i xs
  refine ⟨xs, rfl, ?_, h.2⟩
  have := Nat.le_mul_of_pos_right xs.length hb
  unfold W
  have := h.1
  omega
theorem typed_struct {n t : Nat} {ts : List T} (hk : (E.ty t).k = .struct) (h : typed E (n + 1) t ts) : ts.length = (E.ty t).size ∧ ∀ p ∈ (E.ty t).fields, typed E n p.2 ((ts.drop p.1).take (E.ty p.2).size) := by
  unfold typed at h
  rw [hk] at h
  exact h
theorem dec83 {n : Nat} {ts : List T} (h : typed E (n + 2) 83 ts) : ∃ v : Val, ts = [.int .i64 v.k, .int .i64 v.n, .str v.t] ∧ W v.t.length := by
  obtain ⟨h1, h2⟩ := typed_struct (by simp) h
  simp at h1 h2
  obtain ⟨g1, g2, g3⟩ := h2
  match ts, h1 with
  | [a, b, c], _ =>
    obtain ⟨x, hx⟩ := typed_int g1
    obtain ⟨y, hy⟩ := typed_int g2
    obtain ⟨z, hz, hz2⟩ := typed_str g3
    simp at hx hy hz
    exact ⟨⟨x, y, z⟩, by simp [hx, hy, hz], hz2⟩
theorem dec119 {n : Nat} {ts : List T} (h : typed E (n + 2) 119 ts) : ∃ p : Prt, T.agg ts = prtT p ∧ W p.path.length := by
  obtain ⟨h1, h2⟩ := typed_struct (by simp) h
  simp at h1 h2
  obtain ⟨g1, g2⟩ := h2
  match ts, h1 with
  | [a, b], _ =>
    obtain ⟨x, hx, hx2⟩ := typed_str g1
    obtain ⟨y, hy⟩ := typed_bool g2
    simp at hx hy
    exact ⟨⟨x, y⟩, by simp [hx, hy], hx2⟩
theorem dec23 {n : Nat} {ts : List T} (h : typed E (n + 3) 23 ts) : ∃ c : List Prt, ts = [.list (c.map prtT)] ∧ prtsWd c := by
  obtain ⟨xs, rfl, h1, h2⟩ := typed_slice (by simp) (by simp) h
  obtain ⟨l, rfl, h4⟩ := list_choose (enc := prtT) (P := fun p => W p.path.length) (fun x hx => by
    obtain ⟨cs, e, _, h⟩ := h2 x hx
    simp at e h
    obtain ⟨t, h3, h4⟩ := dec119 h
    exact ⟨t, e.trans h3, h4⟩)
  exact ⟨l, rfl, by simpa using h1, h4⟩
set_option maxHeartbeats 16000000
theorem compareBytes_lt : ∀ (a b : Bytes), (Lib.compareBytes a b < 0) = (Op.bytesLess a b = true)
  | [], [] => by simp [Lib.compareBytes, Op.bytesLess]
  | [], _ :: _ => by simp [Lib.compareBytes, Op.bytesLess]
  | _ :: _, [] => by simp [Lib.compareBytes, Op.bytesLess]
  | x :: a, y :: b => by
    have ih := compareBytes_lt a b
    unfold Lib.compareBytes Op.bytesLess
    by_cases h1 : x < y
    · simp [h1]
    · by_cases h2 : y < x
      · have : ¬ x = y := fun e => by subst e; exact h1 h2
        simp [h1, h2, this]
      · have e : x = y := UInt8.le_antisymm (UInt8.not_lt.1 h2) (UInt8.not_lt.1 h1)
        subst e
        simp [h1, ih]
theorem compareBytes_eq : ∀ (a b : Bytes), (Lib.compareBytes a b = 0) = (a = b)
  | [], [] => by simp [Lib.compareBytes]
  | [], _ :: _ => by simp [Lib.compareBytes]
  | _ :: _, [] => by simp [Lib.compareBytes]
  | x :: a, y :: b => by
    have ih := compareBytes_eq a b
    unfold Lib.compareBytes
    by_cases h1 : x < y
    · have : ¬ x = y := fun e => by subst e; exact absurd h1 (UInt8.lt_irrefl x)
      simp [h1, this]
    · by_cases h2 : y < x
      · have : ¬ x = y := fun e => by subst e; exact h1 h2
        simp [h1, h2, this]
      · have e : x = y := UInt8.le_antisymm (UInt8.not_lt.1 h2) (UInt8.not_lt.1 h1)
        subst e
        simp [h1, ih]
theorem compare (a b : Bytes) : run E (.call 152 [xS a, xS b]) = some (.res [xI (Lib.compareBytes a b)] []) := by
  have h : run E (.call 233 [xS a, xS b]) = some (.res [xI (Lib.compareBytes a b)] []) := by
    rw [run_ext E 233 _ (g := _) rfl]
    simp
  rw [run_call E 152 _ rfl Tryz.func152 rfl rfl rfl (by simp)]
  simp [h]
theorem findClosure (f : Fld) (name : Bytes) : run E (.call 302 [.t (fldT f), xS name]) = some (.res [xI (Lib.compareBytes f.name name)] []) := by
  rw [run_call E 302 _ rfl Tryz.func302 rfl rfl rfl (by simp)]
  simp [compare f.name name]
/-- Where a search by halves ends. -/
def seekI (fs : List Fld) (name : Bytes) : Nat := halves (fun k => match fs[k]? with
  | some f => Op.bytesLess f.name name
  | none => false) (fs.length + 1) 0 fs.length
def thereI (fs : List Fld) (name : Bytes) : Bool := match fs[seekI fs name]? with
  | some f => f.name == name
  | none => false
theorem wrap_u64 {n : Nat} (h : n < 18446744073709551616) : IntKind.u64.wrap (n : Int) = n := by
  simp [IntKind.wrap, IntKind.bits, IntKind.signed]
  omega
theorem pow_u64 : (2 : Int) ^ min 1 IntKind.u64.bits = 2 := by rfl
theorem binarySearch (fs : List Fld) (name : Bytes) (hl : fs.length < 4294967296) : run E (.call 301 [.t (.list (fs.map fldT)), xS name, .fn 302 []]) = some (.res [xI (seekI fs name : Nat), xB (thereI fs name)] []) := by
  rw [run_call E 301 _ rfl Tryz.func301 rfl rfl rfl (by simp)]
  have lp := sk (fun s o q hI => loop_wf (c := loopAt Tryz.f301 0) (N := 49)
    (fun k s o q => ∃ i j : Nat, s 0 = .t (.list (fs.map fldT)) ∧ s 1 = .t (.str name) ∧ s 2 = .fn 302 [] ∧ s 8 = .t (.int .i64 fs.length) ∧ s 9 = .t (.int .i64 i) ∧ s 10 = .t (.int .i64 j) ∧ j ≤ fs.length ∧ i ≤ j ∧ k = j - i ∧ ∃ n, k < n ∧ halves (fun k => match fs[k]? with
        | some f => Op.bytesLess f.name name
        | none => false) n i j = seekI fs name)
    (fun e s' o' q' => e = .exit 0 ∧ s' 0 = .t (.list (fs.map fldT)) ∧ s' 1 = .t (.str name) ∧ s' 2 = .fn 302 [] ∧ s' 8 = .t (.int .i64 fs.length) ∧ s' 9 = .t (.int .i64 (seekI fs name : Nat)))
    (by
      rintro k s o q ⟨i, j, h0, h1, h2, h8, h9, h10, hj, hij, hk, n, hn, hh⟩
      cases n with
      | zero => omega
      | succ n =>
        unfold halves at hh
        by_cases hlt : i < j
        · have hlt' : (i : Int) < (j : Int) := by omega
          have hw1 : IntKind.i64.wrap ((i : Int) + (j : Int)) = ((i + j : Nat) : Int) := by rw [wrap_of (by omega) (by omega)]; omega
          have hw2 := wrap_u64 (n := i + j) (by omega)
          obtain ⟨m, hme⟩ : ∃ m, m = (i + j) / 2 := ⟨_, rfl⟩
          have hm : m < fs.length := by omega
          have hw3 := wrap_nat (n := m) (by omega)
          have hw4 := wrap_succ (n := m) (by omega)
          have hfd : ((i : Int) + (j : Int)).fdiv 2 = (m : Int) := by rw [Int.fdiv_eq_ediv_of_nonneg _ (by omega)]; omega
          have hed : ((i : Int) + (j : Int)) / 2 = (m : Int) := by omega
          have hx : fs[m]? = some fs[m] := List.getElem?_eq_getElem hm
          have hc := findClosure fs[m] name
          rw [if_pos hlt, ← hme] at hh
          simp only [hx] at hh
          simp only [Int.natCast_add] at hw1 hw2
          cases hb : Op.bytesLess fs[m].name name with
          | true =>
            have hcl : Lib.compareBytes fs[m].name name < 0 := by rw [compareBytes_lt]; exact hb
            simp [hb] at hh
            simp [loopAt, loopsOf, Tryz.f301, h0, h1, h2, h8, h9, h10, hlt', pow_u64, hw1, hw2, hfd, hed, hw3, hw4, hx, hc, hcl, hm]
            exact ⟨j - (m + 1), by omega, m + 1, by simp, j, rfl, hj, by omega, rfl, n, by omega, hh⟩
          | false =>
            have hcl : ¬ Lib.compareBytes fs[m].name name < 0 := by rw [compareBytes_lt]; simp [hb]
            simp [hb] at hh
            simp [loopAt, loopsOf, Tryz.f301, h0, h1, h2, h8, h9, h10, hlt', pow_u64, hw1, hw2, hfd, hed, hw3, hw4, hx, hc, hcl, hm]
            exact ⟨m - i, by omega, i, rfl, m, rfl, by omega, by omega, rfl, n, by omega, hh⟩
        · have hlt' : ¬ (i : Int) < (j : Int) := by omega
          rw [if_neg hlt] at hh
          simp [loopAt, loopsOf, Tryz.f301, h0, h1, h2, h8, h9, h10, hlt', ← hh])
    fs.length s o q hI)
  simp only [loopAt, loopsOf, Tryz.f301] at lp
  obtain ⟨X, A, B, C, hx⟩ := lp
  have hx' := fun s o q a0 a1 a2 a8 a9 a10 => hx s o q ⟨0, fs.length, a0, a1, a2, a8, a9, a10, Nat.le_refl _, Nat.zero_le _, by omega, fs.length + 1, by omega, rfl⟩
  clear hx
  simp at hx'
  unfold thereI
  by_cases hs : seekI fs name < fs.length
  · have hs' : (seekI fs name : Int) < (fs.length : Int) := by omega
    have hg : fs[seekI fs name]? = some fs[seekI fs name] := List.getElem?_eq_getElem hs
    have hc := findClosure fs[seekI fs name] name
    have heq : (Lib.compareBytes fs[seekI fs name].name name == 0) = (fs[seekI fs name].name == name) := by
      rw [Bool.eq_iff_iff]; simp [compareBytes_eq]
    simp [hx', hs, hs', hg, hc, heq]
  · have hs' : ¬ (seekI fs name : Int) < (fs.length : Int) := by omega
    have hg : fs[seekI fs name]? = none := List.getElem?_eq_none (by omega)
    simp [hx', hs, hs', hg]
theorem findField (fs : List Fld) (name : Bytes) (hl : fs.length < 4294967296) : run E (.call 221 [.t (.list (fs.map fldT)), xS name]) = some (.res [xI (seekI fs name : Nat), xB (thereI fs name)] []) := by
  rw [run_call E 221 _ rfl Tryz.func221 rfl rfl rfl (by simp)]
  simp [binarySearch fs name hl]
def fieldI (v : Val) (name : Bytes) : Option Val := match (fieldsI v.t).1[seekI (fieldsI v.t).1 name]? with
  | some f => if f.name == name then some f.v else none
  | none => none
def optX : Option Val → List X
  | some v => [valX v, xB true]
  | none => [valX ⟨0, 0, []⟩, xB false]
theorem implField (v : Val) (name : Bytes) (hv : v.t.length < 4294967296) : run E (.call 147 [xV v, xS name]) = some (.res (optX (fieldI v name)) []) := by
  rw [run_call E 147 _ rfl Tryz.func147 rfl rfl rfl (by simp)]
  have h1 := implFields v hv
  obtain ⟨hs1, hs2⟩ := fieldsI_small v.t
  have h2 := findField (fieldsI v.t).1 name (by omega)
  unfold fieldI
  generalize (fieldsI v.t).1 = fs at *
  unfold thereI at h2
  cases hg : fs[seekI fs name]? with
  | none => simp [hg] at h2; simp [h1, h2, optX]
  | some f =>
    cases hn : f.name == name with
    | false => simp [hg, hn] at h2; simp [h1, h2, hn, optX]
    | true => simp [hg, hn] at h2; simp [h1, h2, hn, hg, optX]
theorem specField (v : Val) (name : Bytes) (hv : v.t.length < 4294967296) : run E (.call 141 [xV v, xS name]) = some (.res (optX (fieldP v name)) []) := by
  rw [run_call E 141 _ rfl Tryz.func141 rfl rfl rfl (by simp)]
  have h1 := l01Fields v.t hv
  have hfx : ∃ b, fieldsX (fieldsP v.t) = [.row 211 ((fieldsL v.t).map fldT), xB b] ∧ (fieldsL v.t).length ≤ v.t.length := by
    unfold fieldsL
    cases h : fieldsP v.t with
    | none => exact ⟨false, rfl, by simp⟩
    | some fs => exact ⟨true, rfl, by have := (fields_small h).1; simpa using this⟩
  obtain ⟨b, hfx, hl⟩ := hfx
  rw [hfx] at h1
  unfold fieldP
  generalize fieldsL v.t = fs at *
  have lp := fun (r : Option Fld) (hr : fs.find? (fun f => f.name == name) = r) => sk (fun s o q hI => loop_for (c := loopAt Tryz.f141 0) (N := 34)
    (fun i s o q => s 1 = .t (.str name) ∧ s 6 = .row 2 ∧ s 8 = .t (.int .i64 i) ∧ s 4 = .ptr 1 0 ∧ o 1 = .box 74 [.t (.int .i64 0), .t (.int .i64 0), .t (.str [])] ∧ o 2 = .row 211 (fs.map fldT) true ∧ (fs.drop i).find? (fun f => f.name == name) = r)
    (fun e s' o' q' => match (generalizing := false) r with
      | some f => e = .ret ∧ s' 4 = .ptr 1 0 ∧ s' 5 = .t (.bool true) ∧ o' 1 = .box 74 [.t (.int .i64 f.v.k), .t (.int .i64 f.v.n), .t (.str f.v.t)]
      | none => e = .exit 0 ∧ s' 4 = .ptr 1 0 ∧ o' 1 = .box 74 [.t (.int .i64 0), .t (.int .i64 0), .t (.str [])]) fs.length
    (by
      rintro i s o q hi ⟨g1, g6, g8, g4, ho1, ho2, hp⟩
      have hi' : (i : Int) < (fs.length : Int) := by omega
      have hw := wrap_succ (n := i) (by omega)
      have hxi : fs[i]? = some fs[i] := List.getElem?_eq_getElem hi
      rw [List.drop_eq_getElem_cons hi, List.find?_cons] at hp
      cases hn : fs[i].name == name with
      | true =>
        simp only [hn] at hp
        subst hp
        simp [loopAt, loopsOf, Tryz.f141, g1, g6, g8, g4, ho1, ho2, hi', hxi, hw, hn]
      | false =>
        simp only [hn] at hp
        simp [loopAt, loopsOf, Tryz.f141, g1, g6, g8, g4, ho1, ho2, hi', hxi, hw, hn, hp])
    (by
      rintro s o q ⟨g1, g6, g8, g4, ho1, ho2, hp⟩
      simp at hp
      subst hp
      simp [loopAt, loopsOf, Tryz.f141, g1, g6, g8, g4, ho1, ho2])
    fs.length 0 s o q (by omega) hI)
  simp only [loopAt, loopsOf, Tryz.f141] at lp
  cases hr : fs.find? (fun f => f.name == name) with
  | some f =>
    obtain ⟨X, A, B, C, hx⟩ := lp _ hr
    simp [hr, -List.find?_eq_none] at hx
    simp [h1, hx, optX]
  | none =>
    obtain ⟨X, A, B, C, hx⟩ := lp _ hr
    simp [hr, -List.find?_eq_none] at hx
    simp [h1, hx, optX]
abbrev idB : Bytes := [105, 100]
theorem fieldI_eq {v : Val} {fs : List Fld} (name : Bytes) (hf : fieldsP v.t = some fs) (hr : rising fs = true) : fieldI v name = fieldP v name := by
  have hs : seekI fs name = placeP fs name := by
    unfold seekI
    refine halves_ok (p := placeP fs name) (m := fs.length) ?_ ?_ _ _ _ (Nat.zero_le _) (place_le fs name) (Nat.le_refl _) (by omega)
    · intro k hk
      have hlt : k < fs.length := Nat.lt_of_lt_of_le hk (place_le fs name)
      have hg : fs[k]? = some fs[k] := List.getElem?_eq_getElem hlt
      simp only [hg]
      exact (rising_place name hr k _ hg).2 hk
    · intro k hk hkl
      have hg : fs[k]? = some fs[k] := List.getElem?_eq_getElem hkl
      simp only [hg]
      cases hb : Op.bytesLess fs[k].name name with
      | false => rfl
      | true =>
        have := (rising_place name hr k _ hg).1 hb
        omega
  unfold fieldI
  rw [fieldsI_some hf]
  simp only [hs]
  rw [field_place name hf hr]
  cases fs[placeP fs name]? with
  | none => rfl
  | some f => simp
def okId (x : Val) : Bool := decide (x.k = 2) && (decide (0 ≤ x.n) && decide (x.n ≤ 99))
def idI (v : Val) : Int × Bool := match fieldI v idB with
  | some x => (x.n, okId x)
  | none => (0, false)
def specId (v : Val) : Int := match fieldP v idB with
  | some x => if okId x then x.n else -1
  | none => -1
def isDocP (v : Val) : Bool := valueOK v && decide (v.k = 5)
def nullB (v : Val) : Bool := (v.k == 0) && ((v.n == 0) && (v.t == []))
theorem implIdOf (v : Val) (hv : v.t.length < 4294967296) : run E (.call 76 [xV v]) = some (.res [xI (idI v).1, xB (idI v).2] []) := by
  rw [run_call E 76 _ rfl Tryz.func76 rfl rfl rfl (by simp)]
  have h := implField v idB hv
  have d2 := d76_2
  simp [regionOf, findR, pick, Tryz.f76] at d2
  have dd := fun st => run_region_draw E st 2 _ d2
  clear d2
  unfold idI
  cases hf : fieldI v idB with
  | none => rw [hf] at h; simp only [optX] at h; simp [h, dd]
  | some x =>
    rw [hf] at h
    simp only [optX] at h
    have hr := inRange x.n 0 99
    obtain ⟨z, z1, z2, z3⟩ := zcase x.k 2
    unfold okId
    cases z <;> simp [h, dd, z1, z2, z3, hr]
theorem specIdOf (v : Val) (hv : v.t.length < 4294967296) : run E (.call 70 [xV v]) = some (.res [xI (specId v)] []) := by
  rw [run_call E 70 _ rfl Tryz.func70 rfl rfl rfl (by simp)]
  have h := specField v idB hv
  unfold specId
  cases hf : fieldP v idB with
  | none => rw [hf] at h; simp only [optX] at h; simp [h]
  | some x =>
    rw [hf] at h
    simp only [optX] at h
    have hr := l01In x.n 0 99
    obtain ⟨z, z1, z2, z3⟩ := zcase x.k 2
    unfold okId
    cases z with
    | false => simp [h, z1, z2, z3]
    | true =>
      cases hb : (decide (0 ≤ x.n) && decide (x.n ≤ 99)) with
      | false => rw [hb] at hr; simp at hb; simp [h, z1, z2, z3, hr]; intro a b; have := hb a; omega
      | true => rw [hb] at hr; simp at hb; simp [h, z1, z2, z3, hr]; intro a; have := a hb.1; omega
theorem isDoc (v : Val) (hv : v.t.length < 4294967296) : run E (.call 89 [xV v]) = some (.res [xB (isDocP v)] []) := by
  rw [run_call E 89 _ rfl Tryz.func89 rfl rfl rfl (by simp)]
  have h := implValueOK v hv
  obtain ⟨z, z1, z2, z3⟩ := zcase v.k 5
  unfold isDocP
  cases z <;> simp [h, z1, z2, z3]
theorem l03Doc (v : Val) (hv : v.t.length < 4294967296) : run E (.call 124 [xV v]) = some (.res [xB (isDocP v)] []) := by
  rw [run_call E 124 _ rfl Tryz.func124 rfl rfl rfl (by simp)]
  have h := specValueOK v hv
  unfold isDocP
  cases hb : valueOK v with
  | false => rw [hb] at h; simp [h]
  | true => rw [hb] at h; simp [h, beqd]
def verDoc (id : Int) (gone : Bool) (v : Val) : Bool := if gone then nullB v else isDocP v && (specId v == id)
def verDocI (gone : Bool) (v : Val) (id : Int) : Bool := if gone then nullB v else isDocP v && (idI v).2 && ((idI v).1 == id)
structure Dfn where
  name : Bytes
  parts : List Prt
abbrev dfnT (d : Dfn) : T := .agg [.str d.name, .list (d.parts.map prtT)]
structure Ver where
  at_ : Int
  gone : Bool
  v : Val
abbrev verT (x : Ver) : T := .agg [.int .i64 x.at_, .bool x.gone, .int .i64 x.v.k, .int .i64 x.v.n, .str x.v.t]
abbrev verX (x : Ver) : X := .agg [.t (.int .i64 x.at_), .t (.bool x.gone), .t (.int .i64 x.v.k), .t (.int .i64 x.v.n), .t (.str x.v.t)]
structure Chn where
  id : Int
  vs : List Ver
abbrev chnT (c : Chn) : T := .agg [.int .i64 c.id, .list (c.vs.map verT)]
structure Col where
  name : Bytes
  chains : List Chn
  defs : List Dfn
abbrev colT (c : Col) : T := .agg [.str c.name, .list (c.chains.map chnT), .list (c.defs.map dfnT)]
def Dfn.Sm (d : Dfn) : Prop := d.name.length < 4294967296 ∧ partsSm d.parts
def Ver.Sm (x : Ver) : Prop := x.v.t.length < 4294967296
def Chn.Sm (c : Chn) : Prop := c.vs.length < 4294967296 ∧ ∀ x ∈ c.vs, x.Sm
structure Col.Sm (c : Col) : Prop where
  name : c.name.length < 4294967296
  chains : c.chains.length < 4294967296 ∧ ∀ x ∈ c.chains, x.Sm
  defs : c.defs.length < 4294967296 ∧ ∀ x ∈ c.defs, x.Sm
def twoOK : List Prt → Bool
  | [p, q] => !(p.path == q.path)
  | _ => true
def in12 (n : Nat) : Bool := decide (1 ≤ n) && decide (n ≤ 2)
def defOK (d : Dfn) : Bool := nameP d.name && in12 d.parts.length && d.parts.all (fun p => pathOK p.path) && twoOK d.parts
def in1 (lo hi n : Int) : Bool := decide (lo ≤ n) && decide (n ≤ hi)
def versGo (D : Bool → Val → Bool) : Option Int → List Ver → Bool
  | _, [] => true
  | p, x :: r => in1 1 10000 x.at_ && (match p with
      | none => true
      | some q => !decide (x.at_ ≤ q)) && D x.gone x.v && versGo D (some x.at_) r
def chainOK (c : Chn) : Bool := in1 0 19 c.id && in1 1 12 c.vs.length && versGo (fun g v => verDoc c.id g v) none c.vs
def chainsGo : Option Int → List Chn → Bool
  | _, [] => true
  | p, c :: r => chainOK c && (match p with
      | none => true
      | some q => !decide (c.id ≤ q)) && chainsGo (some c.id) r
def defsGo : List Dfn → List Dfn → Bool
  | _, [] => true
  | pre, d :: r => defOK d && !(pre.any (fun x => x.name == d.name)) && defsGo (pre ++ [d]) r
def collOK (c : Col) : Bool := nameP c.name && decide (c.chains.length ≤ 20) && decide (c.defs.length ≤ 3) && defsGo [] c.defs && chainsGo none c.chains
abbrev zeroV : Ver := ⟨0, false, ⟨0, 0, []⟩⟩
abbrev goneV : Ver := ⟨0, true, ⟨0, 0, []⟩⟩
def lastLe (t : Int) : Ver → List Ver → Ver
  | d, [] => d
  | d, x :: r => lastLe t (if x.at_ ≤ t then x else d) r
def findC (cs : List Chn) (id : Int) : Option Chn := cs.find? (fun x => x.id == id)
def cmpI (a b : Int) : Int := if a < b then -1 else if b < a then 1 else 0
theorem cmpI_lt (a b : Int) : (cmpI a b < 0) = (a < b) := by
  unfold cmpI
  by_cases h : a < b
  · simp [h]
  · by_cases h2 : b < a <;> simp [h, h2]
theorem cmpI_eq (a b : Int) : (cmpI a b = 0) = (a = b) := by
  unfold cmpI
  by_cases h : a < b
  · have : a ≠ b := by omega
    simp [h, this]
  · by_cases h2 : b < a
    · have : a ≠ b := by omega
      simp [h, h2, this]
    · have : a = b := by omega
      simp [h, h2, this]
theorem isNaNInt (a : Int) : run E (.call 234 [xI a]) = some (.res [xB false] []) := by
  rw [run_call E 234 _ rfl Tryz.func234 rfl rfl rfl (by simp)]
  simp
theorem compareInt (a b : Int) : run E (.call 153 [xI a, xI b]) = some (.res [xI (cmpI a b)] []) := by
  rw [run_call E 153 _ rfl Tryz.func153 rfl rfl rfl (by simp)]
  have h1 := isNaNInt a
  have h2 := isNaNInt b
  unfold cmpI
  by_cases h : a < b
  · simp [h1, h2, h]
  · by_cases h' : b < a <;> simp [h1, h2, h, h']
def seekC (fs : List Chn) (id : Int) : Nat := halves (fun k => match fs[k]? with
  | some f => decide (f.id < id)
  | none => false) (fs.length + 1) 0 fs.length
def thereC (fs : List Chn) (id : Int) : Bool := match fs[seekC fs id]? with
  | some f => f.id == id
  | none => false
def placeC (fs : List Chn) (id : Int) : Nat := (fs.takeWhile (fun f => decide (f.id < id))).length
/-- Lists in order, item by item. -/
def ordL {α : Type} (f : α → α → Int) : List α → List α → Int
  | [], [] => 0
  | [], _ :: _ => -1
  | _ :: _, [] => 1
  | x :: xs, y :: ys => if f x y = 0 then ordL f xs ys else f x y
/-- The first list is gone through with nothing told apart. -/
def thru {α : Type} (f : α → α → Int) : List α → List α → Bool
  | [], _ => true
  | _ :: _, [] => false
  | x :: xs, y :: ys => decide (f x y = 0) && thru f xs ys
theorem thru_ord {α : Type} {f : α → α → Int} : ∀ {xs ys : List α}, thru f xs ys = true → ordL f xs ys = if xs.length < ys.length then -1 else 0
  | [], [], _ => by simp [ordL]
  | [], _ :: _, _ => by simp [ordL]
  | _ :: _, [], h => by simp [thru] at h
  | x :: xs, y :: ys, h => by
    simp [thru] at h
    have := thru_ord h.2
    simp [ordL, h.1, this]
def orI (a b : Int) : Int := if a = 0 then b else a
theorem cmpOr (a b : Int) : run E (.call 151 [.t (.list [.int .i64 a, .int .i64 b])]) = some (.res [xI (orI a b)] []) := by
  rw [run_call E 151 _ rfl Tryz.func151 rfl rfl rfl (by simp)]
  have lp := sk (fun s o q hI => loop_for (c := loopAt Tryz.f151 0) (N := 18)
    (fun i s o q => s 3 = .t (.int .i64 0) ∧ s 6 = .t (.list [.int .i64 a, .int .i64 b]) ∧ s 7 = .t (.int .i64 2) ∧ s 8 = .t (.int .i64 i) ∧ (i = 1 → a = 0) ∧ (i = 2 → a = 0 ∧ b = 0))
    (fun e s' o' q' => e = (if orI a b = 0 then .exit 0 else .ret) ∧ s' 3 = .t (.int .i64 0) ∧ (¬ orI a b = 0 → s' 2 = .t (.int .i64 (orI a b)))) 2
    (by
      rintro i s o q hi ⟨h3, h6, h7, h8, hp, hp2⟩
      have hw := wrap_succ (n := i) (by omega)
      match i, hi with
      | 0, _ =>
        by_cases ha : a = 0
        · subst ha
          simp [loopAt, loopsOf, Tryz.f151, h3, h6, h7, h8]
        · have hb : orI a b = a := by simp [orI, ha]
          simp [loopAt, loopsOf, Tryz.f151, h3, h6, h7, h8, ha, hb]
      | 1, _ =>
        have ha := hp rfl
        subst ha
        have hb : orI 0 b = b := by simp [orI]
        simp at hw
        by_cases h : b = 0
        · subst h
          simp [loopAt, loopsOf, Tryz.f151, h3, h6, h7, h8, hw]
        · simp [loopAt, loopsOf, Tryz.f151, h3, h6, h7, h8, hb, h, hw])
    (by
      rintro s o q ⟨h3, h6, h7, h8, hp, hp2⟩
      obtain ⟨ha, hb⟩ := hp2 rfl
      subst ha hb
      simp [loopAt, loopsOf, Tryz.f151, h3, h6, h7, h8, orI])
    2 0 s o q (by omega) hI)
  simp only [loopAt, loopsOf, Tryz.f151] at lp
  obtain ⟨X, A, B, C, hx⟩ := lp
  generalize orI a b = r at *
  by_cases h : r = 0
  · subst h
    simp at hx
    simp [hx]
  · simp [h] at hx
    simp [hx]
theorem compareFunc_195 (xs ys : List Val) (g : Nat) (f : Val → Val → Int) (hl : xs.length < 4294967296) (hl2 : ys.length < 4294967296) (hm : E.md g = []) (hf : E.flat g = true) (hp : ∀ x ∈ xs, ∀ y ∈ ys, run E (.call g [.t (valT x), .t (valT y)]) = some (.res [xI (f x y)] [])) :
    run E (.call 209 [.t (.list (xs.map valT)), .t (.list (ys.map valT)), .fn g []]) = some (.res [xI (ordL f xs ys)] []) := by
  rw [run_call E 209 _ rfl Tryz.func209 rfl rfl rfl (by simp)]
  rw [E_md] at hm
  have lp := fun (r : Int) (w : Bool) (hr : r = ordL f xs ys) (hw : w = thru f xs ys) => sk (fun s o q hI => loop_for (c := loopAt Tryz.f209 0) (N := 39)
    (fun i s o q => s 0 = .t (.list (xs.map valT)) ∧ s 1 = .t (.list (ys.map valT)) ∧ s 2 = .fn g [] ∧ s 11 = .t (.list (xs.map valT)) ∧ s 12 = .t (.int .i64 xs.length) ∧ s 13 = .t (.int .i64 i) ∧ i ≤ ys.length ∧ r = ordL f (xs.drop i) (ys.drop i) ∧ w = thru f (xs.drop i) (ys.drop i))
    (fun e s' o' q' => e = (if w then .exit 0 else .ret) ∧ s' 0 = .t (.list (xs.map valT)) ∧ s' 1 = .t (.list (ys.map valT)) ∧ (w = false → s' 6 = .t (.int .i64 r))) xs.length
    (by
      rintro i s o q hi ⟨h0, h1, h2, h11, h12, h13, hiy, hr, hwr⟩
      have hi' : (i : Int) < (xs.length : Int) := by omega
      have hw := wrap_succ (n := i) (by omega)
      have hxi : xs[i]? = some xs[i] := List.getElem?_eq_getElem hi
      have hqq : q ≠ q + 1 := by omega
      have hqq2 : q + 1 ≠ q := by omega
      rw [List.drop_eq_getElem_cons hi] at hr hwr
      by_cases hy : i < ys.length
      · have hy' : ¬ (ys.length : Int) ≤ (i : Int) := by omega
        have hyi : ys[i]? = some ys[i] := List.getElem?_eq_getElem hy
        have hx := hp xs[i] (List.getElem_mem hi) ys[i] (List.getElem_mem hy)
        rw [List.drop_eq_getElem_cons hy] at hr hwr
        rw [ordL] at hr
        rw [thru] at hwr
        by_cases hz : f xs[i] ys[i] = 0
        · rw [hz] at hx
          simp [hz] at hr hwr
          simp [-mdOf, loopAt, loopsOf, Tryz.f209, h0, h1, h2, h11, h12, h13, hi', hxi, hyi, hx, hw, hm, hf, hy, hy', hqq, hqq2]
          exact ⟨by omega, hr, hwr⟩
        · simp [hz] at hr hwr
          simp [-mdOf, loopAt, loopsOf, Tryz.f209, h0, h1, h2, h11, h12, h13, hi', hxi, hyi, hx, hw, hm, hf, hy, hy', hqq, hqq2, hz, hr, hwr]
      · have hy' : (ys.length : Int) ≤ (i : Int) := by omega
        have he : ys.drop i = [] := List.drop_eq_nil_of_le (by omega)
        rw [he] at hr hwr
        rw [ordL] at hr
        rw [thru] at hwr
        simp [-mdOf, loopAt, loopsOf, Tryz.f209, h0, h1, h2, h11, h12, h13, hi', hxi, hw, hm, hf, hy, hy', hqq, hqq2, hr, hwr])
    (by
      rintro s o q ⟨h0, h1, h2, h11, h12, h13, hiy, hr, hwr⟩
      rw [List.drop_length, thru] at hwr
      simp [loopAt, loopsOf, Tryz.f209, h0, h1, h2, h11, h12, h13, hwr])
    xs.length 0 s o q (by omega) hI)
  simp only [loopAt, loopsOf, Tryz.f209] at lp
  obtain ⟨w, hw⟩ : ∃ w, w = thru f xs ys := ⟨_, rfl⟩
  obtain ⟨r, hr⟩ : ∃ r, r = ordL f xs ys := ⟨_, rfl⟩
  obtain ⟨X, A, B, C, hx⟩ := lp r w hr hw
  have hx' := fun s o q a0 a1 a2 a11 a12 a13 => hx s o q ⟨a0, a1, a2, a11, a12, a13, Nat.zero_le _, by simpa using hr, by simpa using hw⟩
  clear hx lp
  rw [← hr]
  cases w with
  | true =>
    have ho := thru_ord hw.symm
    rw [← hr] at ho
    have hlt : ((xs.length : Int) < (ys.length : Int)) = (xs.length < ys.length) := by simp
    by_cases h : xs.length < ys.length
    · simp [h] at ho
      simp at hx'
      simp [hx', h, ho]
    · simp [h] at ho
      simp at hx'
      simp [hx', h, ho]
  | false =>
    simp at hx'
    simp [hx']
theorem compareFunc_196 (xs ys : List Fld) (g : Nat) (f : Fld → Fld → Int) (hl : xs.length < 4294967296) (hl2 : ys.length < 4294967296) (hm : E.md g = []) (hf : E.flat g = true) (hp : ∀ x ∈ xs, ∀ y ∈ ys, run E (.call g [.t (fldT x), .t (fldT y)]) = some (.res [xI (f x y)] [])) :
    run E (.call 210 [.t (.list (xs.map fldT)), .t (.list (ys.map fldT)), .fn g []]) = some (.res [xI (ordL f xs ys)] []) := by
  rw [run_call E 210 _ rfl Tryz.func210 rfl rfl rfl (by simp)]
  rw [E_md] at hm
  have lp := fun (r : Int) (w : Bool) (hr : r = ordL f xs ys) (hw : w = thru f xs ys) => sk (fun s o q hI => loop_for (c := loopAt Tryz.f210 0) (N := 39)
    (fun i s o q => s 0 = .t (.list (xs.map fldT)) ∧ s 1 = .t (.list (ys.map fldT)) ∧ s 2 = .fn g [] ∧ s 11 = .t (.list (xs.map fldT)) ∧ s 12 = .t (.int .i64 xs.length) ∧ s 13 = .t (.int .i64 i) ∧ i ≤ ys.length ∧ r = ordL f (xs.drop i) (ys.drop i) ∧ w = thru f (xs.drop i) (ys.drop i))
    (fun e s' o' q' => e = (if w then .exit 0 else .ret) ∧ s' 0 = .t (.list (xs.map fldT)) ∧ s' 1 = .t (.list (ys.map fldT)) ∧ (w = false → s' 6 = .t (.int .i64 r))) xs.length
    (by
      rintro i s o q hi ⟨h0, h1, h2, h11, h12, h13, hiy, hr, hwr⟩
      have hi' : (i : Int) < (xs.length : Int) := by omega
      have hw := wrap_succ (n := i) (by omega)
      have hxi : xs[i]? = some xs[i] := List.getElem?_eq_getElem hi
      have hqq : q ≠ q + 1 := by omega
      have hqq2 : q + 1 ≠ q := by omega
      rw [List.drop_eq_getElem_cons hi] at hr hwr
      by_cases hy : i < ys.length
      · have hy' : ¬ (ys.length : Int) ≤ (i : Int) := by omega
        have hyi : ys[i]? = some ys[i] := List.getElem?_eq_getElem hy
        have hx := hp xs[i] (List.getElem_mem hi) ys[i] (List.getElem_mem hy)
        rw [List.drop_eq_getElem_cons hy] at hr hwr
        rw [ordL] at hr
        rw [thru] at hwr
        by_cases hz : f xs[i] ys[i] = 0
        · rw [hz] at hx
          simp [hz] at hr hwr
          simp [-mdOf, loopAt, loopsOf, Tryz.f210, h0, h1, h2, h11, h12, h13, hi', hxi, hyi, hx, hw, hm, hf, hy, hy', hqq, hqq2]
          exact ⟨by omega, hr, hwr⟩
        · simp [hz] at hr hwr
          simp [-mdOf, loopAt, loopsOf, Tryz.f210, h0, h1, h2, h11, h12, h13, hi', hxi, hyi, hx, hw, hm, hf, hy, hy', hqq, hqq2, hz, hr, hwr]
      · have hy' : (ys.length : Int) ≤ (i : Int) := by omega
        have he : ys.drop i = [] := List.drop_eq_nil_of_le (by omega)
        rw [he] at hr hwr
        rw [ordL] at hr
        rw [thru] at hwr
        simp [-mdOf, loopAt, loopsOf, Tryz.f210, h0, h1, h2, h11, h12, h13, hi', hxi, hw, hm, hf, hy, hy', hqq, hqq2, hr, hwr])
    (by
      rintro s o q ⟨h0, h1, h2, h11, h12, h13, hiy, hr, hwr⟩
      rw [List.drop_length, thru] at hwr
      simp [loopAt, loopsOf, Tryz.f210, h0, h1, h2, h11, h12, h13, hwr])
    xs.length 0 s o q (by omega) hI)
  simp only [loopAt, loopsOf, Tryz.f210] at lp
  obtain ⟨w, hw⟩ : ∃ w, w = thru f xs ys := ⟨_, rfl⟩
  obtain ⟨r, hr⟩ : ∃ r, r = ordL f xs ys := ⟨_, rfl⟩
  obtain ⟨X, A, B, C, hx⟩ := lp r w hr hw
  have hx' := fun s o q a0 a1 a2 a11 a12 a13 => hx s o q ⟨a0, a1, a2, a11, a12, a13, Nat.zero_le _, by simpa using hr, by simpa using hw⟩
  clear hx lp
  rw [← hr]
  cases w with
  | true =>
    have ho := thru_ord hw.symm
    rw [← hr] at ho
    have hlt : ((xs.length : Int) < (ys.length : Int)) = (xs.length < ys.length) := by simp
    by_cases h : xs.length < ys.length
    · simp [h] at ho
      simp at hx'
      simp [hx', h, ho]
    · simp [h] at ho
      simp at hx'
      simp [hx', h, ho]
  | false =>
    simp at hx'
    simp [hx']
/-- Values in order. -/
def ordD : Nat → Val → Val → Int
  | d, a, b =>
    if orI (cmpI a.k b.k) (cmpI a.n b.n) = 0 then
      (if a.k = 4 then (match d with
        | 0 => 0
        | d + 1 => ordL (ordD d) (itemsL a.t) (itemsL b.t))
      else if a.k = 5 then (match d with
        | 0 => 0
        | d + 1 => ordL (fun f g => orI (Lib.compareBytes f.name g.name) (ordD d f.v g.v)) (fieldsL a.t) (fieldsL b.t))
      else Lib.compareBytes a.t b.t)
    else orI (cmpI a.k b.k) (cmpI a.n b.n)
theorem orI_zero {a b : Int} (h : orI a b = 0) : a = 0 ∧ b = 0 := by
  unfold orI at h
  split at h
  · exact ⟨by assumption, h⟩
  · contradiction
theorem orderFields (f g : Fld) (n : Int) (h : run E (.call 134 [xV f.v, xV g.v]) = some (.res [xI n] [])) : run E (.call 211 [.t (fldT f), .t (fldT g)]) = some (.res [xI (orI (Lib.compareBytes f.name g.name) n)] []) := by
  rw [run_call E 211 _ rfl Tryz.func211 rfl rfl rfl (by simp)]
  have d1 := d211_1
  simp [regionOf, findR, pick, Tryz.f211] at d1
  have dd := fun st => run_region_draw E st 1 _ d1
  clear d1
  have hr2 : List.range 2 = [0, 1] := rfl
  simp [dd, compare f.name g.name, h, cmpOr, hr2]
theorem implOrder : ∀ (d : Nat) (a b : Val), okP d a = true → okP d b = true → a.t.length < 4294967296 → b.t.length < 4294967296 → run E (.call 134 [xV a, xV b]) = some (.res [xI (ordD d a b)] []) := by
  intro d
  induction d with
  | zero =>
    intro a b ha hb hal hbl
    rw [run_call E 134 _ rfl Tryz.func134 rfl rfl rfl (by simp)]
    have d1 := d134_1
    simp [regionOf, findR, pick, Tryz.f134] at d1
    have dd := fun st => run_region_draw E st 1 _ d1
    clear d1
    have hr2 : List.range 2 = [0, 1] := rfl
    have e4 : (a.k = 4) = False := by
      simp; intro h; obtain ⟨e, _, hd, _⟩ := okP_list ha h; omega
    have e5 : (a.k = 5) = False := by
      simp; intro h; obtain ⟨e, _, hd, _⟩ := okP_doc ha h; omega
    have c1 := compareInt a.k b.k
    have c2 := compareInt a.n b.n
    have c3 := cmpOr (cmpI a.k b.k) (cmpI a.n b.n)
    have c4 := compare a.t b.t
    unfold ordD
    generalize orI (cmpI a.k b.k) (cmpI a.n b.n) = z at *
    by_cases hz : z = 0
    · subst hz
      simp [dd, hr2, c1, c2, c3, c4, e4, e5]
    · simp [dd, hr2, c1, c2, c3, c4, e4, e5, hz]
  | succ d ih =>
    intro a b ha hb hal hbl
    rw [run_call E 134 _ rfl Tryz.func134 rfl rfl rfl (by simp)]
    have d1 := d134_1
    simp [regionOf, findR, pick, Tryz.f134] at d1
    have dd := fun st => run_region_draw E st 1 _ d1
    clear d1
    have hr2 : List.range 2 = [0, 1] := rfl
    have c1 := compareInt a.k b.k
    have c2 := compareInt a.n b.n
    have c3 := cmpOr (cmpI a.k b.k) (cmpI a.n b.n)
    have c4 := compare a.t b.t
    have hkk : orI (cmpI a.k b.k) (cmpI a.n b.n) = 0 → b.k = a.k := by
      intro h
      have := (orI_zero h).1
      rw [cmpI_eq] at this
      exact this.symm
    unfold ordD
    generalize orI (cmpI a.k b.k) (cmpI a.n b.n) = z at *
    by_cases hz : z = 0
    · subst hz
      have hk := hkk rfl
      clear hkk
      by_cases h4 : a.k = 4
      · obtain ⟨e, xs, hd, _, hi, hx⟩ := okP_list ha h4
        obtain ⟨e', ys, hd', _, hi', hy⟩ := okP_list hb (by omega)
        obtain rfl : d = e := by omega
        obtain rfl : d = e' := by omega
        obtain ⟨s1, s2⟩ := items_small hi
        obtain ⟨t1, t2⟩ := items_small hi'
        have i1 := implItems a hal
        have i2 := implItems b hbl
        rw [itemsI_some hi] at i1
        rw [itemsI_some hi'] at i2
        have hc := compareFunc_195 xs ys 134 (ordD d) (by omega) (by omega) (by simp) (by simp) (fun x hx' y hy' => ih x y (hx x hx') (hy y hy') (by have := s2 x hx'; omega) (by have := t2 y hy'; omega))
        have e4 : (a.k = 4) = True := eq_true h4
        have eL : itemsL a.t = xs := by simp [itemsL, hi]
        have eL' : itemsL b.t = ys := by simp [itemsL, hi']
        clear h4
        simp at i1 i2
        simp [dd, hr2, c1, c2, c3, c4, e4, i1, i2, hc, eL, eL']
      · have e4 : (a.k = 4) = False := eq_false h4
        by_cases h5 : a.k = 5
        · obtain ⟨e, xs, hd, _, hi, _, hx⟩ := okP_doc ha h5
          obtain ⟨e', ys, hd', _, hi', _, hy⟩ := okP_doc hb (by omega)
          obtain rfl : d = e := by omega
          obtain rfl : d = e' := by omega
          obtain ⟨s1, s2⟩ := fields_small hi
          obtain ⟨t1, t2⟩ := fields_small hi'
          have i1 := implFields a hal
          have i2 := implFields b hbl
          rw [fieldsI_some hi] at i1
          rw [fieldsI_some hi'] at i2
          have hc := compareFunc_196 xs ys 211 (fun f g => orI (Lib.compareBytes f.name g.name) (ordD d f.v g.v)) (by omega) (by omega) (by simp) (by simp) (fun x hx' y hy' => orderFields x y _ (ih x.v y.v (hx x hx').2 (hy y hy').2 (by have := s2 x hx'; omega) (by have := t2 y hy'; omega)))
          have e5 : (a.k = 5) = True := eq_true h5
          have eL : fieldsL a.t = xs := by simp [fieldsL, hi]
          have eL' : fieldsL b.t = ys := by simp [fieldsL, hi']
          clear h5
          simp at i1 i2
          simp [dd, hr2, c1, c2, c3, c4, e4, e5, i1, i2, hc, eL, eL']
        · have e5 : (a.k = 5) = False := eq_false h5
          simp [dd, hr2, c1, c2, c3, c4, e4, e5]
    · simp [dd, hr2, c1, c2, c3, c4, hz]
theorem ordL_zero {α : Type} {f : α → α → Int} : ∀ {xs ys : List α}, (∀ x ∈ xs, ∀ y ∈ ys, f x y = 0 → x = y) → ordL f xs ys = 0 → xs = ys
  | [], [], _, _ => rfl
  | [], _ :: _, _, h => by simp [ordL] at h
  | _ :: _, [], _, h => by simp [ordL] at h
  | x :: xs, y :: ys, hf, h => by
    unfold ordL at h
    split at h
    · rename_i hz
      rw [hf x (by simp) y (by simp) hz, ordL_zero (fun a ha b hb => hf a (by simp [ha]) b (by simp [hb])) h]
    · contradiction
theorem ordL_refl {α : Type} {f : α → α → Int} : ∀ {xs : List α}, (∀ x ∈ xs, f x x = 0) → ordL f xs xs = 0
  | [], _ => rfl
  | x :: xs, h => by
    unfold ordL
    rw [if_pos (h x (by simp))]
    exact ordL_refl (fun y hy => h y (by simp [hy]))
theorem val_eq {a b : Val} (h1 : a.k = b.k) (h2 : a.n = b.n) (h3 : a.t = b.t) : a = b := by
  cases a; cases b; simp_all
theorem fld_eq {a b : Fld} (h1 : a.name = b.name) (h2 : a.v = b.v) : a = b := by
  cases a; cases b; simp_all
theorem ordD_zero : ∀ (d : Nat) (a b : Val), okP d a = true → okP d b = true → ordD d a b = 0 → a = b := by
  intro d
  induction d with
  | zero =>
    intro a b ha hb h
    unfold ordD at h
    split at h
    · rename_i hz
      obtain ⟨h1, h2⟩ := orI_zero hz
      rw [cmpI_eq] at h1 h2
      refine val_eq h1 h2 ?_
      split at h
      · rename_i h4; obtain ⟨e, _, hd, _⟩ := okP_list ha h4; omega
      · split at h
        · rename_i h5; obtain ⟨e, _, hd, _⟩ := okP_doc ha h5; omega
        · rwa [compareBytes_eq] at h
    · contradiction
  | succ d ih =>
    intro a b ha hb h
    unfold ordD at h
    split at h
    · rename_i hz
      obtain ⟨h1, h2⟩ := orI_zero hz
      rw [cmpI_eq] at h1 h2
      refine val_eq h1 h2 ?_
      split at h
      · rename_i h4
        obtain ⟨e, xs, hd, _, hi, hx⟩ := okP_list ha h4
        obtain ⟨e', ys, hd', _, hi', hy⟩ := okP_list hb (by omega)
        obtain rfl : d = e := by omega
        obtain rfl : d = e' := by omega
        simp [itemsL, hi, hi'] at h
        have := ordL_zero (fun x hx' y hy' hz => ih x y (hx x hx') (hy y hy') hz) h
        subst this
        exact items_inj hi hi'
      · split at h
        · rename_i h5
          obtain ⟨e, xs, hd, _, hi, _, hx⟩ := okP_doc ha h5
          obtain ⟨e', ys, hd', _, hi', _, hy⟩ := okP_doc hb (by omega)
          obtain rfl : d = e := by omega
          obtain rfl : d = e' := by omega
          simp [fieldsL, hi, hi'] at h
          have := ordL_zero (fun x hx' y hy' hz => by
            obtain ⟨z1, z2⟩ := orI_zero hz
            rw [compareBytes_eq] at z1
            exact fld_eq z1 (ih x.v y.v (hx x hx').2 (hy y hy').2 z2)) h
          subst this
          exact fields_inj hi hi'
        · rwa [compareBytes_eq] at h
    · contradiction
theorem cmpI_refl (a : Int) : cmpI a a = 0 := by simp [cmpI]
theorem cmpB_refl (a : Bytes) : Lib.compareBytes a a = 0 := by rw [compareBytes_eq]
theorem ordD_refl : ∀ (d : Nat) (a : Val), okP d a = true → ordD d a a = 0 := by
  intro d
  induction d with
  | zero =>
    intro a ha
    unfold ordD
    simp [cmpI_refl, orI, cmpB_refl]
  | succ d ih =>
    intro a ha
    unfold ordD
    simp only [cmpI_refl, orI, if_true]
    by_cases h4 : a.k = 4
    · obtain ⟨e, xs, hd, _, hi, hx⟩ := okP_list ha h4
      obtain rfl : d = e := by omega
      simp [h4, itemsL, hi]
      exact ordL_refl (fun x hx' => ih x (hx x hx'))
    · by_cases h5 : a.k = 5
      · obtain ⟨e, xs, hd, _, hi, _, hx⟩ := okP_doc ha h5
        obtain rfl : d = e := by omega
        simp [h5, fieldsL, hi]
        exact ordL_refl (fun x hx' => by simp [cmpB_refl, ih x.v (hx x hx').2])
      · simp [h4, h5, cmpB_refl]
theorem cmpB_sign : ∀ (a b : Bytes), a ≠ b → Lib.compareBytes a b = if Op.bytesLess a b = true then -1 else 1
  | [], [], h => absurd rfl h
  | [], _ :: _, _ => by simp [Lib.compareBytes, Op.bytesLess]
  | _ :: _, [], _ => by simp [Lib.compareBytes, Op.bytesLess]
  | x :: a, y :: b, h => by
    unfold Lib.compareBytes Op.bytesLess
    by_cases h1 : x < y
    · simp [h1]
    · by_cases h2 : y < x
      · have : ¬ x = y := fun e => by subst e; exact absurd h2 (UInt8.lt_irrefl x)
        simp [h1, h2, this]
      · have e : x = y := UInt8.le_antisymm (UInt8.not_lt.1 h2) (UInt8.not_lt.1 h1)
        subst e
        have hab : a ≠ b := fun e => h (by rw [e])
        simp [h1, cmpB_sign a b hab]
/-- One of the two is gone through with nothing told apart. -/
def cutB {α : Type} (f : α → α → Int) : List α → List α → Bool
  | [], _ => true
  | _ :: _, [] => true
  | x :: xs, y :: ys => decide (f x y = 0) && cutB f xs ys
theorem cutB_ord {α : Type} {f : α → α → Int} : ∀ {xs ys : List α}, cutB f xs ys = true → ordL f xs ys = if xs.length < ys.length then -1 else if ys.length < xs.length then 1 else 0
  | [], [], _ => by simp [ordL]
  | [], _ :: _, _ => by simp [ordL]
  | _ :: _, [], h => by simp [ordL]
  | x :: xs, y :: ys, h => by
    simp [cutB] at h
    have := cutB_ord h.2
    simp [ordL, h.1, this]
theorem specItems_loop (d : Nat) (xs ys : List Val) (hl : xs.length < 4294967296) (hl2 : ys.length < 4294967296) (hp : ∀ x ∈ xs, ∀ y ∈ ys, run E (.call 205 [xV x, xV y]) = some (.res [xI (ordD d x y)] []))
    (r : Int) (w : Bool) (hr : r = ordL (ordD d) xs ys) (hw : w = cutB (ordD d) xs ys) : ∀ s o q, (s 5 = .row 2 ∧ s 7 = .row 3 ∧ s 9 = .t (.int .i64 0) ∧ o 2 = .row 74 (xs.map valT) true ∧ o 3 = .row 74 (ys.map valT) true) →
    ∃ e s' o' q', run E (.code (.loop (loopAt Tryz.f205 0)) ⟨s, o, q, 182⟩) = some (.st e ⟨s', o', q', 182⟩) ∧ e = (if w then .exit 1 else .ret) ∧ s' 5 = .row 2 ∧ s' 7 = .row 3 ∧ o' 2 = .row 74 (xs.map valT) true ∧ o' 3 = .row 74 (ys.map valT) true ∧ (w = false → s' 4 = .t (.int .i64 r)) := by
  intro s o q hI
  have d15 := d205_15
  simp [regionOf, findR, pick, Tryz.f205] at d15
  have dd := fun st => run_region_draw E st 15 _ d15
  clear d15
  refine loop_wf (c := loopAt Tryz.f205 0) (N := 182)
    (fun k s o q => ∃ i : Nat, k = xs.length - i ∧ s 5 = .row 2 ∧ s 7 = .row 3 ∧ s 9 = .t (.int .i64 i) ∧ o 2 = .row 74 (xs.map valT) true ∧ o 3 = .row 74 (ys.map valT) true ∧ i ≤ xs.length ∧ i ≤ ys.length ∧ r = ordL (ordD d) (xs.drop i) (ys.drop i) ∧ w = cutB (ordD d) (xs.drop i) (ys.drop i))
    (fun e s' o' q' => e = (if w then .exit 1 else .ret) ∧ s' 5 = .row 2 ∧ s' 7 = .row 3 ∧ o' 2 = .row 74 (xs.map valT) true ∧ o' 3 = .row 74 (ys.map valT) true ∧ (w = false → s' 4 = .t (.int .i64 r)))
    ?_ xs.length s o q ⟨0, by omega, hI.1, hI.2.1, hI.2.2.1, hI.2.2.2.1, hI.2.2.2.2, Nat.zero_le _, Nat.zero_le _, by simpa using hr, by simpa using hw⟩
  rintro k s o q ⟨i, hk, h5, h7, h9, ho, ho2, hix, hiy, hr, hwr⟩
  have hwi := wrap_succ (n := i) (by omega)
  by_cases hx : i < xs.length
  · have hx' : (i : Int) < (xs.length : Int) := by omega
    have hxi : xs[i]? = some xs[i] := List.getElem?_eq_getElem hx
    rw [List.drop_eq_getElem_cons hx] at hr hwr
    by_cases hy : i < ys.length
    · have hy' : (i : Int) < (ys.length : Int) := by omega
      have hyi : ys[i]? = some ys[i] := List.getElem?_eq_getElem hy
      have hc := hp xs[i] (List.getElem_mem hx) ys[i] (List.getElem_mem hy)
      rw [List.drop_eq_getElem_cons hy] at hr hwr
      rw [ordL] at hr
      rw [cutB] at hwr
      by_cases hz : ordD d xs[i] ys[i] = 0
      · rw [hz] at hc
        simp [hz] at hr hwr
        simp [loopAt, loopsOf, Tryz.f205, dd, h5, h7, h9, ho, ho2, hx, hy, hx', hy', hxi, hyi, hc, hwi]
        exact ⟨xs.length - (i + 1), by omega, i + 1, rfl, by simp, by omega, by omega, hr, hwr⟩
      · simp [hz] at hr hwr
        simp [loopAt, loopsOf, Tryz.f205, dd, h5, h7, h9, ho, ho2, hx, hy, hx', hy', hxi, hyi, hc, hwi, hz, hr, hwr]
    · have hy' : ¬ (i : Int) < (ys.length : Int) := by omega
      have he : ys.drop i = [] := List.drop_eq_nil_of_le (by omega)
      rw [he, cutB] at hwr
      simp [loopAt, loopsOf, Tryz.f205, dd, h5, h7, h9, ho, ho2, hx, hy, hx', hy', hxi, hwi, hwr]
  · have hx' : ¬ (i : Int) < (xs.length : Int) := by omega
    have he : xs.drop i = [] := List.drop_eq_nil_of_le (by omega)
    rw [he, cutB] at hwr
    simp [loopAt, loopsOf, Tryz.f205, dd, h5, h7, h9, ho, ho2, hx, hx', hwi, hwr]
def fldO (d : Nat) (f g : Fld) : Int := orI (Lib.compareBytes f.name g.name) (ordD d f.v g.v)
theorem specFields_loop (d : Nat) (xs ys : List Fld) (hl : xs.length < 4294967296) (hl2 : ys.length < 4294967296) (hp : ∀ x ∈ xs, ∀ y ∈ ys, run E (.call 205 [xV x.v, xV y.v]) = some (.res [xI (ordD d x.v y.v)] []))
    (r : Int) (w : Bool) (hr : r = ordL (fldO d) xs ys) (hw : w = cutB (fldO d) xs ys) : ∀ s o q, (s 11 = .row 2 ∧ s 13 = .row 3 ∧ s 15 = .t (.int .i64 0) ∧ o 2 = .row 211 (xs.map fldT) true ∧ o 3 = .row 211 (ys.map fldT) true) →
    ∃ e s' o' q', run E (.code (.loop (loopAt Tryz.f205 1)) ⟨s, o, q, 182⟩) = some (.st e ⟨s', o', q', 182⟩) ∧ e = (if w then .exit 3 else .ret) ∧ s' 11 = .row 2 ∧ s' 13 = .row 3 ∧ o' 2 = .row 211 (xs.map fldT) true ∧ o' 3 = .row 211 (ys.map fldT) true ∧ (w = false → s' 4 = .t (.int .i64 r)) := by
  intro s o q hI
  have d24 := d205_24
  simp [regionOf, findR, pick, Tryz.f205] at d24
  have dd := fun st => run_region_draw E st 24 _ d24
  clear d24
  have d25 := d205_25
  simp [regionOf, findR, pick, Tryz.f205] at d25
  have de := fun st => run_region_draw E st 25 _ d25
  clear d25
  have d26 := d205_26
  simp [regionOf, findR, pick, Tryz.f205] at d26
  have df := fun st => run_region_draw E st 26 _ d26
  clear d26
  have b1 := l01Bit true
  have b0 := l01Bit false
  simp at b1 b0
  have w2 : IntKind.i64.wrap 2 = 2 := rfl
  have wm : IntKind.i64.wrap (-1) = -1 := rfl
  refine loop_wf (c := loopAt Tryz.f205 1) (N := 182)
    (fun k s o q => ∃ i : Nat, k = xs.length - i ∧ s 11 = .row 2 ∧ s 13 = .row 3 ∧ s 15 = .t (.int .i64 i) ∧ o 2 = .row 211 (xs.map fldT) true ∧ o 3 = .row 211 (ys.map fldT) true ∧ i ≤ xs.length ∧ i ≤ ys.length ∧ r = ordL (fldO d) (xs.drop i) (ys.drop i) ∧ w = cutB (fldO d) (xs.drop i) (ys.drop i))
    (fun e s' o' q' => e = (if w then .exit 3 else .ret) ∧ s' 11 = .row 2 ∧ s' 13 = .row 3 ∧ o' 2 = .row 211 (xs.map fldT) true ∧ o' 3 = .row 211 (ys.map fldT) true ∧ (w = false → s' 4 = .t (.int .i64 r)))
    ?_ xs.length s o q ⟨0, by omega, hI.1, hI.2.1, hI.2.2.1, hI.2.2.2.1, hI.2.2.2.2, Nat.zero_le _, Nat.zero_le _, by simpa using hr, by simpa using hw⟩
  rintro k s o q ⟨i, hk, h5, h7, h9, ho, ho2, hix, hiy, hr, hwr⟩
  have hwi := wrap_succ (n := i) (by omega)
  by_cases hx : i < xs.length
  · have hx' : (i : Int) < (xs.length : Int) := by omega
    have hxi : xs[i]? = some xs[i] := List.getElem?_eq_getElem hx
    rw [List.drop_eq_getElem_cons hx] at hr hwr
    by_cases hy : i < ys.length
    · have hy' : (i : Int) < (ys.length : Int) := by omega
      have hyi : ys[i]? = some ys[i] := List.getElem?_eq_getElem hy
      have hc := hp xs[i] (List.getElem_mem hx) ys[i] (List.getElem_mem hy)
      rw [List.drop_eq_getElem_cons hy] at hr hwr
      rw [ordL] at hr
      rw [cutB] at hwr
      by_cases hn : xs[i].name = ys[i].name
      · have hn' : (xs[i].name = ys[i].name) = True := eq_true hn
        have hf : fldO d xs[i] ys[i] = ordD d xs[i].v ys[i].v := by simp [fldO, hn, cmpB_refl, orI]
        rw [hf] at hr hwr
        clear hn
        by_cases hz : ordD d xs[i].v ys[i].v = 0
        · rw [hz] at hc
          simp [hz] at hr hwr
          simp [loopAt, loopsOf, Tryz.f205, dd, de, df, h5, h7, h9, ho, ho2, hx, hy, hx', hy', hxi, hyi, hc, hwi, hn']
          exact ⟨xs.length - (i + 1), by omega, i + 1, rfl, by simp, by omega, by omega, hr, hwr⟩
        · simp [hz] at hr hwr
          simp [loopAt, loopsOf, Tryz.f205, dd, de, df, h5, h7, h9, ho, ho2, hx, hy, hx', hy', hxi, hyi, hc, hwi, hz, hr, hwr, hn']
      · have hs := cmpB_sign _ _ hn
        have hn' : (xs[i].name = ys[i].name) = False := eq_false hn
        have hne : (xs[i].name == ys[i].name) = false := by simpa using hn
        cases hb : Op.bytesLess xs[i].name ys[i].name with
        | false =>
          have hf : fldO d xs[i] ys[i] = 1 := by simp [fldO, hs, hb, orI]
          simp [hf] at hr hwr
          simp [loopAt, loopsOf, Tryz.f205, dd, de, df, h5, h7, h9, ho, ho2, hx, hy, hx', hy', hxi, hyi, hc, hwi, hn', hne, hb, b1, b0, w2, wm, hr, hwr]
        | true =>
          have hf : fldO d xs[i] ys[i] = -1 := by simp [fldO, hs, hb, orI]
          simp [hf] at hr hwr
          simp [loopAt, loopsOf, Tryz.f205, dd, de, df, h5, h7, h9, ho, ho2, hx, hy, hx', hy', hxi, hyi, hc, hwi, hn', hne, hb, b1, b0, w2, wm, hr, hwr]
    · have hy' : ¬ (i : Int) < (ys.length : Int) := by omega
      have he : ys.drop i = [] := List.drop_eq_nil_of_le (by omega)
      rw [he, cutB] at hwr
      simp [loopAt, loopsOf, Tryz.f205, dd, h5, h7, h9, ho, ho2, hx, hy, hx', hy', hxi, hwi, hwr]
  · have hx' : ¬ (i : Int) < (xs.length : Int) := by omega
    have he : xs.drop i = [] := List.drop_eq_nil_of_le (by omega)
    rw [he, cutB] at hwr
    simp [loopAt, loopsOf, Tryz.f205, dd, h5, h7, h9, ho, ho2, hx, hx', hwi, hwr]
end Go.Rd
