/- spec's values: l01Of, l01Next. -/
import Derived.Test.YtgfdeomfociobaaDoorPartUA
import Derived.Shelf.Strings.OnBuilder
import Derived.Shelf.Small.Strs
import Derived.Shelf.Strconv.Itoa3
import Derived.Shelf.LaysM
import Derived.Shelf.Strings.Repeat
import Derived.Test.YtgfdeomfociobaaDoorProg
import Derived.Test.YtgfdeomfociobaaDoorPartA
import Derived.Below
import Derived.Lib.AppendIntMem
set_option linter.unusedSimpArgs false
set_option linter.unusedVariables false
namespace Go.Ud
open Go.Ev Go.Proofs Go.Pu
set_option maxRecDepth 100000
set_option maxHeartbeats 8000000
theorem l01Of_loop (t : List UInt8) (ht : t.length < 9223372036854775807) (o : Nat → Ob) (q : Nat) : ∀ (k i : Nat) (n : Int) (s : Nat → SV), i + k = t.length → s 0 = .t (.str t) → s 4 = .t (.int .i64 i) → s 3 = .t (.int .i64 n) →
    ∃ s', run E (.code (.loop (loopAt Tryd.f87 0)) ⟨s, o, q, 19⟩) = some (.st (.exit 0) ⟨s', o, q, 19⟩) ∧ s' 3 = .t (.int .i64 (ofBytes n (t.drop i)))
  | 0, i, n, s, hk, h0, h4, h3 => by
    have hi : ¬ ((i : Int) < (t.length : Int)) := by omega
    rw [run_loop]
    have hd : t.drop i = [] := by simp; omega
    simp [loopAt, loopsOf, Tryd.f87, h0, h4, h3, hi, hd, ofBytes]
  | k + 1, i, n, s, hk, h0, h4, h3 => by
    have hi : ((i : Int) < (t.length : Int)) := by omega
    have hil : i < t.length := by omega
    have hd : t.drop i = t[i] :: t.drop (i + 1) := by rw [List.drop_eq_getElem_cons hil]
    have hb := t[i].toNat_lt
    have hw : IntKind.i64.wrap (t[i].toNat : Int) = t[i].toNat := wrap_of (by omega) (by omega)
    have hw2 : IntKind.i64.wrap ((i : Int) + 1) = ((i + 1 : Nat) : Int) := by rw [wrap_of (by omega) (by omega)]; rfl
    have ih := l01Of_loop t ht o q k (i + 1) (IntKind.i64.wrap (IntKind.i64.wrap (n * 256) + t[i].toNat))
    rw [run_loop]
    simp [loopAt, loopsOf, Tryd.f87] at ih
    simp [loopAt, loopsOf, Tryd.f87, h0, h4, h3, hi, hil, hw, hw2]
    rw [hd, ofBytes]
    refine ih _ (by omega) ?_ ?_ ?_ <;> simp [h0]
theorem l01Of (t : List UInt8) (ht : t.length < 9223372036854775807) : run E (.call 87 [.t (.str t)]) = some (.res [.t (.int .i64 (ofBytes 0 t))] []) := by
  rw [run_call E 87 _ rfl Tryd.func87 rfl rfl rfl (by simp)]
  have hl := l01Of_loop t ht (fun _ => .dead) 0 t.length 0 0
  simp [loopAt, loopsOf, Tryd.f87] at hl
  simp
  obtain ⟨s', h1, h2⟩ := hl (upd (upd (upd (fun i => [SV.t (T.str t)][i]?.getD SV.undef) 2 (SV.t (T.int IntKind.i64 0))) 3 (SV.t (T.int IntKind.i64 0))) 4 (SV.t (T.int IntKind.i64 0))) (by simp) (by simp) (by simp)
  simp [h1, h2]
theorem l01Next_null (b : UInt8) (r : List UInt8) (hb : b.toNat = 0) : run E (.call 67 [.t (.str (b :: r))]) = some (.res [valX ⟨0, 0, []⟩, .t (.str r), .t (.bool true)] []) := by
  rw [run_call E 67 _ rfl Tryd.func67 rfl rfl rfl (by simp)]
  have d := d67_8
  simp [regionOf, findR, pick, Tryd.f67] at d
  have dd := fun st => run_region_draw E st 8 _ d
  clear d
  simp [dd, wrap_of, succ_ne, hb]
theorem l01Next_other (b : UInt8) (r : List UInt8) (h0 : ¬ b.toNat = 0) (h1 : ¬ b.toNat = 1) (h2 : ¬ b.toNat = 2) (h3 : ¬ b.toNat = 3) (h4 : ¬ b.toNat = 4) (h5 : ¬ b.toNat = 5) : run E (.call 67 [.t (.str (b :: r))]) = some (.res [valX ⟨0, 0, []⟩, .t (.str []), .t (.bool false)] []) := by
  rw [run_call E 67 _ rfl Tryd.func67 rfl rfl rfl (by simp)]
  have hw : IntKind.i64.wrap (b.toNat : Int) = b.toNat := wrap_of (by omega) (by have := b.toNat_lt; omega)
  have e0 : ¬ ((b.toNat : Int) = 0) := by omega
  have e1 : ¬ ((b.toNat : Int) = 1) := by omega
  have e2 : ¬ ((b.toNat : Int) = 2) := by omega
  have e3 : ¬ ((b.toNat : Int) = 3) := by omega
  have e4 : ¬ ((b.toNat : Int) = 4) := by omega
  have e5 : ¬ ((b.toNat : Int) = 5) := by omega
  simp [succ_ne, hw, e0, e1, e2, e3, e4, e5, h0, h1, h2, h3, h4, h5]
theorem l01Next_bool (b x : UInt8) (r : List UInt8) (h1 : b.toNat = 1) : run E (.call 67 [.t (.str (b :: x :: r))]) = some (.res [valX ⟨1, x.toNat, []⟩, .t (.str r), .t (.bool true)] []) := by
  rw [run_call E 67 _ rfl Tryd.func67 rfl rfl rfl (by simp)]
  have d := d67_30
  simp [regionOf, findR, pick, Tryd.f67] at d
  have dd := fun st => run_region_draw E st 30 _ d
  clear d
  have hx : IntKind.i64.wrap (x.toNat : Int) = x.toNat := wrap_of (by omega) (by have := x.toNat_lt; omega)
  have hl : ¬ ((r.length : Int) + 1 + 1 < 2) := by omega
  have hs : ∀ n : Nat, ((n : Int) + 1 + 1 = 0) = False := fun n => by simp; omega
  simp [dd, wrap_of, succ_ne, h1, hx, hl, hs]
theorem l01Next_bool_short (b : UInt8) (h1 : b.toNat = 1) : run E (.call 67 [.t (.str [b])]) = some (.res [valX ⟨0, 0, []⟩, .t (.str []), .t (.bool false)] []) := by
  rw [run_call E 67 _ rfl Tryd.func67 rfl rfl rfl (by simp)]
  simp [wrap_of, succ_ne, h1]
theorem l01Of_two (x y : UInt8) : run E (.call 87 [.t (.str [x, y])]) = some (.res [.t (.int .i64 (two x y : Nat))] []) := by
  rw [l01Of [x, y] (by simp), ofBytes_two]
theorem l01Next_text (b x y : UInt8) (r : List UInt8) (hb : b.toNat = 3 ∨ b.toNat = 4 ∨ b.toNat = 5) (hr : two x y ≤ r.length) : run E (.call 67 [.t (.str (b :: x :: y :: r))]) = some (.res [valX ⟨b.toNat, 0, r.take (two x y)⟩, .t (.str (r.drop (two x y))), .t (.bool true)] []) := by
  rw [run_call E 67 _ rfl Tryd.func67 rfl rfl rfl (by simp)]
  have d := d67_22
  simp [regionOf, findR, pick, Tryd.f67] at d
  have dd := fun st => run_region_draw E st 22 _ d
  clear d
  have hk := two_lt x y
  have hw : IntKind.i64.wrap (3 + (two x y : Int)) = 3 + (two x y : Int) := wrap_of (by omega) (by omega)
  have hl : ¬ ((r.length : Int) + 1 + 1 + 1 < 3) := by omega
  have hl2 : ¬ ((r.length : Int) + 1 + 1 + 1 < 3 + (two x y : Int)) := by omega
  have hs : ∀ n : Nat, ((n : Int) + 1 + 1 + 1 = 0) = False := fun n => by simp; omega
  have hn : (0 : Int) ≤ 3 + (two x y : Int) := by omega
  have ht : (3 + (two x y : Int)).toNat = 3 + two x y := by omega
  have hc : 3 + two x y ≤ r.length + 1 + 1 + 1 := by omega
  have e : 3 + two x y = two x y + 1 + 1 + 1 := by omega
  rcases hb with hb | hb | hb <;> simp [dd, wrap_of, succ_ne, hb, hl, hl2, hs, hw, l01Of_two, hn, ht, hc] <;> simp [e]
theorem l01Next_long (b x y : UInt8) (r : List UInt8) (hb : b.toNat = 3 ∨ b.toNat = 4 ∨ b.toNat = 5) (hr : r.length < two x y) : run E (.call 67 [.t (.str (b :: x :: y :: r))]) = some (.res [valX ⟨0, 0, []⟩, .t (.str []), .t (.bool false)] []) := by
  rw [run_call E 67 _ rfl Tryd.func67 rfl rfl rfl (by simp)]
  have hk := two_lt x y
  have hw : IntKind.i64.wrap (3 + (two x y : Int)) = 3 + (two x y : Int) := wrap_of (by omega) (by omega)
  have hl : ¬ ((r.length : Int) + 1 + 1 + 1 < 3) := by omega
  have hl2 : ((r.length : Int) + 1 + 1 + 1 < 3 + (two x y : Int)) := by omega
  have hs : ∀ n : Nat, ((n : Int) + 1 + 1 + 1 = 0) = False := fun n => by simp; omega
  rcases hb with hb | hb | hb <;> simp [wrap_of, succ_ne, hb, hl, hl2, hs, hw, l01Of_two]
theorem l01Next_short (b : UInt8) (r : List UInt8) (hb : b.toNat = 3 ∨ b.toNat = 4 ∨ b.toNat = 5) (hr : r.length < 2) : run E (.call 67 [.t (.str (b :: r))]) = some (.res [valX ⟨0, 0, []⟩, .t (.str []), .t (.bool false)] []) := by
  rw [run_call E 67 _ rfl Tryd.func67 rfl rfl rfl (by simp)]
  have hl : ((r.length : Int) + 1 < 3) := by omega
  rcases hb with hb | hb | hb <;> simp [wrap_of, succ_ne, hb, hl]
theorem l01Next_int_short (b : UInt8) (r : List UInt8) (hb : b.toNat = 2) (hr : r.length < 8) : run E (.call 67 [.t (.str (b :: r))]) = some (.res [valX ⟨0, 0, []⟩, .t (.str []), .t (.bool false)] []) := by
  rw [run_call E 67 _ rfl Tryd.func67 rfl rfl rfl (by simp)]
  have hl : ((r.length : Int) + 1 < 9) := by omega
  simp [wrap_of, succ_ne, hb, hl]
theorem l01Next_int_big (b x : UInt8) (r : List UInt8) (hb : b.toNat = 2) (hr : 7 ≤ r.length) (hx : 127 < x.toNat) : run E (.call 67 [.t (.str (b :: x :: r))]) = some (.res [valX ⟨0, 0, []⟩, .t (.str []), .t (.bool false)] []) := by
  rw [run_call E 67 _ rfl Tryd.func67 rfl rfl rfl (by simp)]
  have hl : ¬ ((r.length : Int) + 1 + 1 < 9) := by omega
  have hs : ∀ n : Nat, ((n : Int) + 1 + 1 = 0) = False := fun n => by simp; omega
  have hx' : (127 : Int) < (x.toNat : Int) := by omega
  simp [wrap_of, succ_ne, hb, hl, hs, hx']
theorem l01Next_int (b x : UInt8) (r : List UInt8) (hb : b.toNat = 2) (hr : 7 ≤ r.length) (hx : ¬ 127 < x.toNat) : run E (.call 67 [.t (.str (b :: x :: r))]) = some (.res [valX ⟨2, (IntKind.i64.wrap (ofBytes 0 (x :: r.take 7) - 4611686018427387904)), []⟩, .t (.str (r.drop 7)), .t (.bool true)] []) := by
  rw [run_call E 67 _ rfl Tryd.func67 rfl rfl rfl (by simp)]
  have d := d67_30
  simp [regionOf, findR, pick, Tryd.f67] at d
  have dd := fun st => run_region_draw E st 30 _ d
  clear d
  have hl : ¬ ((r.length : Int) + 1 + 1 < 9) := by omega
  have hs : ∀ n : Nat, ((n : Int) + 1 + 1 = 0) = False := fun n => by simp; omega
  have hx' : ¬ (127 : Int) < (x.toNat : Int) := by omega
  have hc : 9 ≤ r.length + 1 + 1 := by omega
  have ho := l01Of (x :: r.take 7) (by simp; omega)
  simp [dd, wrap_of, succ_ne, hb, hl, hs, hx', hc, ho]
/-- As l01Next answers. -/
def nextX : Option (Val × Bytes) → List X
  | some (v, r) => [valX v, xS r, xB true]
  | none => [valX ⟨0, 0, []⟩, xS [], xB false]
theorem l01Next (t : Bytes) (ht : t.length < 9223372036854775807) : run E (.call 67 [xS t]) = some (.res (nextX (nextP t)) []) := by
  cases t with
  | nil =>
    rw [run_call E 67 _ rfl Tryd.func67 rfl rfl rfl (by simp)]
    simp [nextP, nextX]
  | cons b r =>
    unfold nextP
    by_cases h0 : b.toNat = 0
    · simp only [h0, if_true, nextX]
      exact l01Next_null b r h0
    · by_cases h1 : b.toNat = 1
      · simp only [h1, Nat.one_ne_zero, if_false, if_true]
        cases r with
        | nil => exact l01Next_bool_short b h1
        | cons x r => exact l01Next_bool b x r h1
      · by_cases h2 : b.toNat = 2
        · simp only [h0, h1, h2, if_false, if_true]
          by_cases hl : r.length < 8
          · simp only [hl, if_true, nextX]
            exact l01Next_int_short b r h2 hl
          · cases r with
            | nil => simp at hl
            | cons x r =>
              simp only [List.length_cons] at hl
              by_cases hx : 127 < x.toNat
              · have h8 : ¬ (x :: r).length < 8 := by simp; omega
                simp only [h8, List.headD_cons, hx, if_true, if_false, nextX]
                exact l01Next_int_big b x r h2 (by omega) hx
              · have h8 : ¬ (x :: r).length < 8 := by simp; omega
                simp only [h8, List.headD_cons, hx, if_true, if_false, nextX, List.take_succ_cons, List.drop_succ_cons]
                exact l01Next_int b x r h2 (by omega) hx
        · by_cases h3 : b.toNat = 3 ∨ b.toNat = 4 ∨ b.toNat = 5
          · simp only [h0, h1, h2, h3, if_false, if_true]
            match r with
            | [] => exact l01Next_short b [] h3 (by simp)
            | [x] => exact l01Next_short b [x] h3 (by simp)
            | x :: y :: r' =>
              simp only
              by_cases hl : r'.length < two x y
              · simp only [hl, if_true, nextX]
                exact l01Next_long b x y r' h3 hl
              · simp only [hl, if_false, nextX]
                exact l01Next_text b x y r' h3 (by omega)
          · simp only [h0, h1, h2, h3, if_false, nextX]
            exact l01Next_other b r h0 h1 h2 (by omega) (by omega) (by omega)
end Go.Ud
/- spec's l01Items, l01Fields. -/
set_option linter.unusedSimpArgs false
set_option linter.unusedVariables false
namespace Go.Ud
open Go.Ev Go.Proofs Go.Pu
set_option maxRecDepth 100000
set_option maxHeartbeats 8000000
def itemsX : Option (List Val) → List X
  | some xs => [.row 26 (xs.map valT), xB true]
  | none => [.row 26 [], xB false]
theorem l01Items (t : Bytes) (ht : t.length < 4294967296) : run E (.call 45 [xS t]) = some (.res (itemsX (itemsP t)) []) := by
  rw [run_call E 45 _ rfl Tryd.func45 rfl rfl rfl (by simp)]
  have lp := fun (res : Option (List Val)) (hres : itemsP t = res) => sk1 (fun s o q hI => loop_wf (c := loopAt Tryd.f45 0) (N := 27)
    (fun k s o q => ∃ r body xs, s 0 = .t (.str body) ∧ s 4 = .row r ∧ o r = .row 26 (xs.map valT) true ∧ r < q ∧ body.length = k ∧ itemsP t = (itemsP body).map (xs ++ ·) ∧ xs.length + body.length ≤ t.length)
    (fun e s' o' q' => ∃ r, match (generalizing := false) res with
      | some L => e = .exit 0 ∧ s' 4 = .row r ∧ o' r = .row 26 (L.map valT) true
      | none => e = .ret ∧ s' 2 = .row r ∧ s' 3 = .t (.bool false) ∧ o' r = .row 26 [] true)
    (by
      rintro k s o q ⟨r, body, xs, h0, h4, ho, hrq, hk, hit, hl⟩
      cases body with
      | nil =>
        rw [hres] at hit
        simp [itemsP_nil] at hit
        subst hit
        simp [loopAt, loopsOf, Tryd.f45, h0, h4, ho]
      | cons b u =>
        have hn := l01Next (b :: u) (by simp at hl ⊢; omega)
        have hpos : (0 : Int) < (u.length : Int) + 1 := by omega
        have hrn : r ≠ q := by omega
        have hrn1 : r ≠ q + 1 := by omega
        have hqn : q ≠ r := by omega
        cases hnx : nextP (b :: u) with
        | none =>
          rw [itemsP_none hnx, Option.map_none] at hit
          rw [hres] at hit
          subst hit
          simp [hnx, nextX] at hn
          simp [loopAt, loopsOf, Tryd.f45, h0, h4, ho, hn, hpos]
        | some p =>
          obtain ⟨v, rest⟩ := p
          have hlen := (nextP_len hnx).1
          rw [itemsP_some hnx] at hit
          simp [hnx, nextX] at hn
          have hx1 : xs.length + 1 ≤ 140737488355328 := by simp at hl; omega
          have hx2 : (xs.length + 1) * 32 ≤ 140737488355328 := by simp at hl; omega
          simp [loopAt, loopsOf, Tryd.f45, h0, h4, ho, hn, hpos, hrn, hrn1, hqn, hx1, hx2]
          refine ⟨rest.length, by simp at hk hlen; omega, xs ++ [v], by simp, rfl, ?_, by simp at hl hlen ⊢; omega⟩
          rw [hit, Option.map_map]
          congr 1
          funext l
          simp)
    t.length s o q hI)
  simp only [loopAt, loopsOf, Tryd.f45] at lp
  cases hres : itemsP t with
  | some L =>
    obtain ⟨X, A, B, C, M, hx⟩ := lp _ hres
    have hx' := fun s o q r a0 a4 a5 a6 => hx s o q ⟨r, t, [], a0, a4, a5, a6, rfl, by simp, by simp⟩
    clear hx
    simp at hx'
    simp [hx', itemsX]
  | none =>
    obtain ⟨X, A, B, C, M, hx⟩ := lp _ hres
    have hx' := fun s o q r a0 a4 a5 a6 => hx s o q ⟨r, t, [], a0, a4, a5, a6, rfl, by simp [hres], by simp⟩
    clear hx
    simp at hx'
    simp [hx', itemsX]
def fieldsX : Option (List Fld) → List X
  | some xs => [.row 71 (xs.map fldT), xB true]
  | none => [.row 71 [], xB false]
theorem l01Fields (t : Bytes) (ht : t.length < 4294967296) : run E (.call 46 [xS t]) = some (.res (fieldsX (fieldsP t)) []) := by
  rw [run_call E 46 _ rfl Tryd.func46 rfl rfl rfl (by simp)]
  have lp := fun (res : Option (List Fld)) (hres : fieldsP t = res) => sk1 (fun s o q hI => loop_wf (c := loopAt Tryd.f46 0) (N := 47)
    (fun k s o q => ∃ r body xs, s 0 = .t (.str body) ∧ s 4 = .row r ∧ o r = .row 71 (xs.map fldT) true ∧ r < q ∧ body.length = k ∧ fieldsP t = (fieldsP body).map (xs ++ ·) ∧ xs.length + body.length ≤ t.length)
    (fun e s' o' q' => ∃ r, match (generalizing := false) res with
      | some L => e = .exit 0 ∧ s' 4 = .row r ∧ o' r = .row 71 (L.map fldT) true
      | none => e = .ret ∧ s' 2 = .row r ∧ s' 3 = .t (.bool false) ∧ o' r = .row 71 [] true)
    (by
      rintro k s o q ⟨r, body, xs, h0, h4, ho, hrq, hk, hit, hl⟩
      cases body with
      | nil =>
        rw [hres] at hit
        simp [fieldsP_nil] at hit
        subst hit
        simp [loopAt, loopsOf, Tryd.f46, h0, h4, ho]
      | cons b u =>
        have hb := b.toNat_lt
        have hpos : (0 : Int) < (u.length : Int) + 1 := by omega
        have hrn : r ≠ q := by omega
        have hrn1 : r ≠ q + 1 := by omega
        have hqn : q ≠ r := by omega
        have hwb := wrap_byte b
        have hw1 : IntKind.i64.wrap (1 + (b.toNat : Int)) = 1 + (b.toNat : Int) := wrap_of (by omega) (by omega)
        by_cases hs : u.length < b.toNat
        · have hs' : (u.length : Int) + 1 < 1 + (b.toNat : Int) := by omega
          rw [fieldsP_short hs, Option.map_none] at hit
          rw [hres] at hit
          subst hit
          simp [loopAt, loopsOf, Tryd.f46, h0, h4, ho, hpos, succ_ne, hwb, hw1, hs']
        · have hs' : ¬ (u.length : Int) + 1 < 1 + (b.toNat : Int) := by omega
          have hn := l01Next (u.drop b.toNat) (by simp at hl ⊢; omega)
          have hn0 : (0 : Int) ≤ 1 + (b.toNat : Int) := by omega
          have hn1 : (1 + (b.toNat : Int)).toNat = b.toNat + 1 := by omega
          have hn2 : b.toNat ≤ u.length := by omega
          cases hnx : nextP (u.drop b.toNat) with
          | none =>
            rw [fieldsP_none hs hnx, Option.map_none] at hit
            rw [hres] at hit
            subst hit
            simp [hnx, nextX] at hn
            simp [loopAt, loopsOf, Tryd.f46, h0, h4, ho, hn, hpos, succ_ne, hwb, hw1, hs', hn0, hn1, hn2]
          | some p =>
            obtain ⟨v, rest⟩ := p
            have hlen := (nextP_len hnx).1
            rw [fieldsP_some hs hnx] at hit
            simp [hnx, nextX] at hn
            have hx1 : xs.length + 1 ≤ 140737488355328 := by simp at hl; omega
            have hx2 : (xs.length + 1) * 48 ≤ 140737488355328 := by simp at hl; omega
            simp [loopAt, loopsOf, Tryd.f46, h0, h4, ho, hn, hpos, hrn, hrn1, hqn, hx1, hx2, succ_ne, hwb, hw1, hs', hn0, hn1, hn2]
            refine ⟨rest.length, by simp at hk hlen; omega, xs ++ [⟨u.take b.toNat, v⟩], by simp, rfl, ?_, by simp at hl hlen ⊢; omega⟩
            rw [hit, Option.map_map]
            congr 1
            funext l
            simp)
    t.length s o q hI)
  simp only [loopAt, loopsOf, Tryd.f46] at lp
  cases hres : fieldsP t with
  | some L =>
    obtain ⟨X, A, B, C, M, hx⟩ := lp _ hres
    have hx' := fun s o q r a0 a4 a5 a6 => hx s o q ⟨r, t, [], a0, a4, a5, a6, rfl, by simp, by simp⟩
    clear hx
    simp at hx'
    simp [hx', fieldsX]
  | none =>
    obtain ⟨X, A, B, C, M, hx⟩ := lp _ hres
    have hx' := fun s o q r a0 a4 a5 a6 => hx s o q ⟨r, t, [], a0, a4, a5, a6, rfl, by simp [hres], by simp⟩
    clear hx
    simp at hx'
    simp [hx', fieldsX]
end Go.Ud
/- spec's l01OK, ValueOK. -/
set_option linter.unusedSimpArgs false
set_option linter.unusedVariables false
namespace Go.Ud
open Go.Ev Go.Proofs Go.Pu
set_option maxRecDepth 100000
set_option maxHeartbeats 16000000
theorem items_small : ∀ {xs : List Val} {t : Bytes}, itemsP t = some xs → xs.length ≤ t.length ∧ ∀ x ∈ xs, x.t.length < t.length
  | [], t, h => by simp
  | x :: xs, t, h => by
    rcases items_cases h with ⟨_, e⟩ | ⟨v, r, ys, h1, h2, e⟩
    · cases e
    · cases e
      have := nextP_len h1
      obtain ⟨i1, i2⟩ := items_small h2
      refine ⟨by simp; omega, fun y hy => ?_⟩
      rcases List.mem_cons.1 hy with rfl | hy
      · omega
      · have := i2 y hy; omega
theorem fields_small {xs : List Fld} : ∀ {t : Bytes}, fieldsP t = some xs → xs.length ≤ t.length ∧ ∀ x ∈ xs, x.v.t.length < t.length ∧ x.name.length ≤ t.length := by
  induction xs with
  | nil => intro t h; simp
  | cons x xs ih =>
    intro t h
    rcases fields_cases h with ⟨_, e⟩ | ⟨b, q, v, r, ys, rfl, hl, h1, h2, e⟩
    · cases e
    · cases e
      have := nextP_len h1
      simp only [List.length_drop] at this
      obtain ⟨i1, i2⟩ := ih h2
      refine ⟨by simp; omega, fun y hy => ?_⟩
      rcases List.mem_cons.1 hy with rfl | hy
      · simp; omega
      · have := i2 y hy; simp; omega
/-- Fields, one after another. -/
def docGo (d : Nat) : Option Bytes → List Fld → Bool
  | _, [] => true
  | p, f :: r => nameP f.name && (match p with
      | none => true
      | some q => Op.bytesLess q f.name) && okP d f.v && docGo d (some f.name) r
theorem docGo_eq (d : Nat) : ∀ (fs : List Fld), docGo d none fs = (rising fs && fs.all (fun f => nameP f.name && okP d f.v))
  | [] => rfl
  | [f] => by simp [docGo, rising]
  | f :: g :: r => by
    have ih := docGo_eq d (g :: r)
    simp only [docGo, rising, List.all_cons, Bool.and_true] at ih ⊢
    generalize hX : (nameP f.name && okP d f.v) = X at *
    have e1 : ∀ (a b c e q : Bool), (a && b && (c && e && q)) = (e && (a && b) && (c && q)) := by decide
    generalize docGo d (some g.name) r = D at *
    cases h1 : nameP f.name <;> cases h2 : okP d f.v <;> cases h3 : Op.bytesLess f.name g.name <;> simp_all
theorem zcase (n m : Int) : ∃ z : Bool, (n == m) = z ∧ (n != m) = (!z) ∧ decide (n = m) = z := ⟨n == m, rfl, rfl, by rw [Bool.eq_iff_iff]; simp⟩
theorem l01OK : ∀ (d : Nat) (v : Val), d ≤ 1000 → v.t.length < 4294967296 → run E (.call 43 [xV v, xI d]) = some (.res [xB (okP d v)] []) := by
  intro d
  induction d with
  | zero =>
    intro v _ hv
    rw [run_call E 43 _ rfl Tryd.func43 rfl rfl rfl (by simp)]
    have hi := l01Items v.t hv
    have hf := l01Fields v.t hv
    have h300 : ((v.t.length : Int) ≤ 300) = (v.t.length ≤ 300) := by simp; omega
    have h300' : ((300 : Int) < (v.t.length : Int)) = (300 < v.t.length) := by simp; omega
    have he : (v.t == []) = v.t.isEmpty := by cases v.t <;> rfl
    obtain ⟨z, z1, z2, z3⟩ := zcase v.n 0
    unfold okP
    by_cases h0 : v.k = 0
    · cases z <;> simp [h0, z1, z2, z3, he]
    · by_cases h1 : v.k = 1
      · by_cases hn : 0 ≤ v.n <;> by_cases hn' : v.n ≤ 1 <;> simp [h1, hn, hn', l01In, he]
      · by_cases h2 : v.k = 2
        · by_cases hn : -1000000000000 ≤ v.n <;> by_cases hn' : v.n ≤ 1000000000000 <;> simp [h2, hn, hn', l01In, he]
        · by_cases h3 : v.k = 3
          · cases z <;> simp [h3, z1, z2, z3, h300]
          · by_cases h4 : v.k = 4
            · cases hit : itemsP v.t with
              | none => rw [hit] at hi; simp only [itemsX] at hi; cases z <;> simp [h4, hi, z1, z2, z3]
              | some xs => rw [hit] at hi; simp only [itemsX] at hi; cases z <;> by_cases hl : 300 < v.t.length <;> simp [h4, hi, z1, z2, z3, h300', hl]
            · by_cases h5 : v.k = 5
              · cases hit : fieldsP v.t with
                | none => rw [hit] at hf; simp only [fieldsX] at hf; cases z <;> simp [h5, hf, z1, z2, z3]
                | some xs => rw [hit] at hf; simp only [fieldsX] at hf; cases z <;> by_cases hl : 300 < v.t.length <;> simp [h5, hf, z1, z2, z3, h300', hl]
              · simp [h0, h1, h2, h3, h4, h5]
  | succ d ih =>
    intro v hd hv
    rw [run_call E 43 _ rfl Tryd.func43 rfl rfl rfl (by simp)]
    have hi := l01Items v.t hv
    have hf := l01Fields v.t hv
    have h300 : ((v.t.length : Int) ≤ 300) = (v.t.length ≤ 300) := by simp; omega
    have h300' : ((300 : Int) < (v.t.length : Int)) = (300 < v.t.length) := by simp; omega
    have he : (v.t == []) = v.t.isEmpty := by cases v.t <;> rfl
    have hdz : ((d : Int) + 1 == 0) = false := by simp; omega
    have hwd2 := wrap_nat (n := d) (by omega)
    have hwd : IntKind.i64.wrap ((d : Int) + 1 - 1) = (d : Int) := by rw [wrap_of (by omega) (by omega)]; omega
    obtain ⟨z, z1, z2, z3⟩ := zcase v.n 0
    unfold okP
    by_cases h0 : v.k = 0
    · cases z <;> simp [h0, z1, z2, z3, he]
    · by_cases h1 : v.k = 1
      · by_cases hn : 0 ≤ v.n <;> by_cases hn' : v.n ≤ 1 <;> simp [h1, hn, hn', l01In, he]
      · by_cases h2 : v.k = 2
        · by_cases hn : -1000000000000 ≤ v.n <;> by_cases hn' : v.n ≤ 1000000000000 <;> simp [h2, hn, hn', l01In, he]
        · by_cases h3 : v.k = 3
          · cases z <;> simp [h3, z1, z2, z3, h300]
          · by_cases h4 : v.k = 4
            · cases hit : itemsP v.t with
              | none => rw [hit] at hi; simp only [itemsX] at hi; cases z <;> simp [h4, hi, z1, z2, z3]
              | some xs =>
                rw [hit] at hi
                simp only [itemsX] at hi
                obtain ⟨hs1, hs2⟩ := items_small hit
                by_cases hl : 300 < v.t.length
                · have hl' : ¬ v.t.length ≤ 300 := by omega
                  cases z <;> simp [h4, hi, z1, z2, z3, h300', hl, hl']
                · have hl' : v.t.length ≤ 300 := by omega
                  cases z with
                  | false => simp [h4, hi, z1, z2, z3]
                  | true =>
                    have lp := fun b (hb : b = xs.all (okP d)) => sk (fun s o q hI => loop_for (c := loopAt Tryd.f43 0) (N := 160)
                      (fun i s o q => s 1 = .t (.int .i64 ((d : Int) + 1)) ∧ s 5 = .row 1 ∧ s 7 = .t (.int .i64 i) ∧ o 1 = .row 26 (xs.map valT) true ∧ b = (xs.drop i).all (okP d))
                      (fun e s' o' q' => e = (if b then .exit 1 else .ret) ∧ (b = false → s' 4 = .t (.bool false))) xs.length
                      (by
                        rintro i s o q hi ⟨h1, h5, h7, ho, hp⟩
                        have hdr : xs.drop i = xs[i] :: xs.drop (i + 1) := by rw [List.drop_eq_getElem_cons hi]
                        have hi' : (i : Int) < (xs.length : Int) := by omega
                        have hw := wrap_succ (n := i) (by omega)
                        have hx := ih xs[i] (by omega) (by have := hs2 _ (List.getElem_mem hi); omega)
                        rw [hdr, List.all_cons] at hp
                        cases hok : okP d xs[i] <;> simp [hok] at hp hx <;> simp [loopAt, loopsOf, Tryd.f43, h1, h5, h7, ho, hi, hi', hwd, hwd2, hx, hw, hp])
                      (by
                        rintro s o q ⟨h1, h5, h7, ho, hp⟩
                        simp at hp
                        simp [loopAt, loopsOf, Tryd.f43, h1, h5, h7, ho, hp])
                      xs.length 0 s o q (by omega) hI)
                    simp only [loopAt, loopsOf, Tryd.f43] at lp
                    cases hb : xs.all (okP d) with
                    | true =>
                      obtain ⟨X, A, B, C, hx⟩ := lp true hb.symm
                      simp [hb, -List.all_eq_true] at hx
                      simp [h4, hi, z1, z2, z3, h300', hl, hl', hdz, hx, hb, -List.all_eq_true]
                    | false =>
                      obtain ⟨X, A, B, C, hx⟩ := lp false hb.symm
                      simp [hb, -List.all_eq_true, -List.all_eq_false] at hx
                      simp [h4, hi, z1, z2, z3, h300', hl, hl', hdz, hx, hb, -List.all_eq_true, -List.all_eq_false]
            · by_cases h5 : v.k = 5
              · cases hit : fieldsP v.t with
                | none => rw [hit] at hf; simp only [fieldsX] at hf; cases z <;> simp [h5, hf, z1, z2, z3]
                | some xs =>
                  rw [hit] at hf
                  simp only [fieldsX] at hf
                  obtain ⟨hs1, hs2⟩ := fields_small hit
                  by_cases hl : 300 < v.t.length
                  · have hl' : ¬ v.t.length ≤ 300 := by omega
                    cases z <;> simp [h5, hf, z1, z2, z3, h300', hl, hl']
                  · have hl' : v.t.length ≤ 300 := by omega
                    cases z with
                    | false => simp [h5, hf, z1, z2, z3]
                    | true =>
                      have d27 := d43_27
                      simp [regionOf, findR, pick, Tryd.f43] at d27
                      have dd := fun st => run_region_draw E st 27 _ d27
                      clear d27
                      have lp := fun b (hb : b = docGo d none xs) => sk (fun s o q hI => loop_for (c := loopAt Tryd.f43 1) (N := 160)
                        (fun i s o q => s 1 = .t (.int .i64 ((d : Int) + 1)) ∧ s 8 = .row 1 ∧ s 10 = .t (.int .i64 i) ∧ o 1 = .row 71 (xs.map fldT) true ∧ b = docGo d (match i with | 0 => none | j + 1 => (xs[j]?).map (·.name)) (xs.drop i))
                        (fun e s' o' q' => e = (if b then .exit 3 else .ret) ∧ (b = false → s' 4 = .t (.bool false))) xs.length
                        (by
                          rintro i s o q hi ⟨h1, h8, h10, ho, hp⟩
                          have hdr : xs.drop i = xs[i] :: xs.drop (i + 1) := by rw [List.drop_eq_getElem_cons hi]
                          have hi' : (i : Int) < (xs.length : Int) := by omega
                          have hw := wrap_succ (n := i) (by omega)
                          have hsm := hs2 _ (List.getElem_mem hi)
                          have hx := ih xs[i].v (by omega) (by omega)
                          have hnm := l01Name xs[i].name (by omega)
                          have hxi : xs[i]? = some xs[i] := List.getElem?_eq_getElem hi
                          rw [hdr] at hp
                          cases i with
                          | zero =>
                            simp only [docGo] at hp
                            cases hok : okP d xs[0].v <;> cases hn : nameP xs[0].name <;> simp [hok, hn] at hp hx hnm <;> simp [loopAt, loopsOf, Tryd.f43, dd, h1, h8, h10, ho, hi, hi', hwd, hwd2, hx, hnm, hw, hp, hxi]
                          | succ j =>
                            have hj : j < xs.length := by omega
                            have hxj : xs[j]? = some xs[j] := List.getElem?_eq_getElem hj
                            have hpos : (0 : Int) < (j : Int) + 1 := by omega
                            have hnn : (0 : Int) ≤ (j : Int) + 1 := by omega
                            have hwj2 := wrap_nat (n := j) (by omega)
                            have hwj : IntKind.i64.wrap ((j : Int) + 1 - 1) = (j : Int) := by rw [wrap_of (by omega) (by omega)]; omega
                            simp only [hxj, Option.map_some, docGo] at hp
                            simp at h10 hi' hw
                            cases hok : okP d xs[j + 1].v <;> cases hn : nameP xs[j + 1].name <;> cases hbl : Op.bytesLess xs[j].name xs[j + 1].name <;> simp [hok, hn, hbl] at hp hx hnm <;> simp [loopAt, loopsOf, Tryd.f43, dd, h1, h8, h10, ho, hi, hi', hwd, hwd2, hx, hnm, hw, hp, hxi, hxj, hpos, hnn, hwj, hwj2, hj, hbl])
                        (by
                          rintro s o q ⟨h1, h8, h10, ho, hp⟩
                          simp [docGo] at hp
                          simp [loopAt, loopsOf, Tryd.f43, h1, h8, h10, ho, hp])
                        xs.length 0 s o q (by omega) hI)
                      simp only [loopAt, loopsOf, Tryd.f43] at lp
                      have heq := docGo_eq d xs
                      cases hb : docGo d none xs with
                      | true =>
                        obtain ⟨X, A, B, C, hx⟩ := lp true hb.symm
                        simp [hb] at hx
                        rw [hb] at heq
                        simp [h5, hf, z1, z2, z3, h300', hl, hl', hdz, hx, ← heq, -List.all_eq_true]
                      | false =>
                        obtain ⟨X, A, B, C, hx⟩ := lp false hb.symm
                        simp [hb] at hx
                        rw [hb] at heq
                        simp [h5, hf, z1, z2, z3, h300', hl, hl', hdz, hx, ← heq, -List.all_eq_true, -List.all_eq_false]
              · simp [h0, h1, h2, h3, h4, h5]
end Go.Ud
/- impl's reader of bytes. -/
set_option linter.unusedSimpArgs false
set_option linter.unusedVariables false
namespace Go.Ud
open Go.Ev Go.Proofs Go.Pu
set_option maxRecDepth 100000
set_option maxHeartbeats 16000000
theorem specValueOK (v : Val) (hv : v.t.length < 4294967296) : run E (.call 18 [xV v]) = some (.res [xB (valueOK v)] []) := by
  rw [run_call E 18 _ rfl Tryd.func18 rfl rfl rfl (by simp)]
  have h := l01OK 5 v (by omega) hv
  simp at h
  by_cases hl : (v.t.length : Int) ≤ 65536
  · simp [hl, h, valueOK]
  · have hr : okP 5 v = false := by
      cases ho : okP 5 v with
      | false => rfl
      | true => have := okP_range ho; omega
    simp [hl, valueOK, hr]
theorem or_byte (n : Int) (b : UInt8) : IntKind.i64.wrap (((BitVec.ofInt 64 (IntKind.i64.wrap (n * 256)) ||| BitVec.ofInt 64 (b.toNat : Int)).toNat : Nat) : Int) = IntKind.i64.wrap (IntKind.i64.wrap (n * 256) + b.toNat) := by
  have hb := b.toNat_lt
  rw [BitVec.toNat_or]
  have h1 : (BitVec.ofInt 64 (b.toNat : Int)).toNat = b.toNat := by
    rw [BitVec.toNat_ofInt]; omega
  obtain ⟨m, hm⟩ : ∃ m : Nat, (BitVec.ofInt 64 (IntKind.i64.wrap (n * 256))).toNat = 2 ^ 8 * m := by
    rw [BitVec.toNat_ofInt, IntKind.wrap_i64]
    exact ⟨((n * 256 % 18446744073709551616) / 256).toNat, by omega⟩
  have h2 : ((2 ^ 8 * m : Nat) : Int) % 18446744073709551616 = (IntKind.i64.wrap (n * 256)) % 18446744073709551616 := by
    rw [← hm, BitVec.toNat_ofInt]; omega
  rw [h1, hm, ← Nat.two_pow_add_eq_or_of_lt (by omega : b.toNat < 2 ^ 8) m]
  simp only [IntKind.wrap_i64] at h2 ⊢
  omega
abbrev byteT (b : UInt8) : T := .int .u8 b.toNat
theorem big (l : Bytes) (hl : l.length < 4294967296) : run E (.call 84 [.t (.list (l.map byteT))]) = some (.res [xI (ofBytes 0 l)] []) := by
  rw [run_call E 84 _ rfl Tryd.func84 rfl rfl rfl (by simp)]
  have lp := sk (fun s o q hI => loop_for (c := loopAt Tryd.f84 0) (N := 19)
    (fun i s o q => ∃ n : Int, s 6 = .t (.list (l.map byteT)) ∧ s 7 = .t (.int .i64 l.length) ∧ s 8 = .t (.int .i64 i) ∧ s 3 = .t (.int .i64 n) ∧ ofBytes n (l.drop i) = ofBytes 0 l)
    (fun e s' o' q' => e = .exit 0 ∧ s' 3 = .t (.int .i64 (ofBytes 0 l))) l.length
    (by
      rintro i s o q hi ⟨n, h6, h7, h8, h3, hp⟩
      have hd : l.drop i = l[i] :: l.drop (i + 1) := by rw [List.drop_eq_getElem_cons hi]
      have hi' : (i : Int) < (l.length : Int) := by omega
      have hw := wrap_succ (n := i) (by omega)
      have hwb := wrap_byte l[i]
      have hor := or_byte n l[i]
      rw [BitVec.ofInt_natCast] at hor
      rw [hd, ofBytes] at hp
      simp [IntKind.bits, loopAt, loopsOf, Tryd.f84, h6, h7, h8, h3, hi, hi', hw, hwb]
      exact (congrArg (fun z => ofBytes z (List.drop (i + 1) l)) hor).trans hp)
    (by
      rintro s o q ⟨n, h6, h7, h8, h3, hp⟩
      simp [ofBytes] at hp
      simp [loopAt, loopsOf, Tryd.f84, h6, h7, h8, h3, hp])
    l.length 0 s o q (by omega) hI)
  simp only [loopAt, loopsOf, Tryd.f84] at lp
  obtain ⟨X, A, B, C, hx⟩ := lp
  have hx' := fun s o q a6 a7 a8 a3 => hx s o q ⟨0, a6, a7, a8, a3, by simp⟩
  clear hx
  simp at hx'
  simp [hx']
/-- A reader, as a box. -/
abbrev rdr (p : Bytes × Bool) : X := .ref 89 [.t (.str p.1), .t (.bool p.2)]
theorem ext262 (m : Nat) (h : m ≤ 4294967296) : run E (.call 83 [xS [0], xI m]) = some (.res [xS (List.replicate m 0)] []) := by
  rw [run_ext E 83 _ (g := _) rfl]
  have h1 : (m : Int) ≤ 9223372036854775807 := by omega
  have h2 : m ≤ 140737488355328 := by omega
  have h3 : Lib.repeatL [0] m = List.replicate m 0 := by
    have := Lib.repeatL_replicate 0 1 m
    simpa using this
  simp [h1, h2, h3]
theorem rTake (p : Bytes × Bool) (m : Nat) (hm : m ≤ 4294967296) (hp : p.1.length ≤ 4294967296) : run E (.call 63 [rdr p, xI m]) = some (.res [xS (rtake m p).1] [some (rdr (rtake m p).2)]) := by
  rw [run_call E 63 _ rfl Tryd.func63 rfl rfl rfl (by simp)]
  obtain ⟨t, f⟩ := p
  by_cases h : t.length < m
  · have h' : (t.length : Int) < (m : Int) := by omega
    simp [rtake, h, h', ext262 m hm]
  · have h' : ¬ (t.length : Int) < (m : Int) := by omega
    have hle : m ≤ t.length := by omega
    simp [rtake, h, h', hle]
theorem rtake_length (m : Nat) (p : Bytes × Bool) : (rtake m p).1.length = m := by
  unfold rtake; split <;> simp; omega
theorem rNum (p : Bytes × Bool) (m : Nat) (hm : m ≤ 65536) (hp : p.1.length ≤ 4294967296) : run E (.call 64 [rdr p, xI m]) = some (.res [xI (rnum m p).1] [some (rdr (rnum m p).2)]) := by
  rw [run_call E 64 _ rfl Tryd.func64 rfl rfl rfl (by simp)]
  have h1 := rTake p m (by omega) hp
  have hl := rtake_length m p
  have h2 := big (rtake m p).1 (by omega)
  have hle : (rtake m p).1.length ≤ 140737488355328 := by omega
  simp [h1, h2, hle, rnum]
theorem rnum1_nat (p : Bytes × Bool) : ∃ k : Nat, (rnum 1 p).1 = k ∧ k < 256 := by
  have hl := rtake_length 1 p
  unfold rnum
  match hq : (rtake 1 p).1, hl with
  | [x], _ => exact ⟨x.toNat, by rw [ofBytes_one], x.toNat_lt⟩
theorem rnum2_nat (p : Bytes × Bool) : ∃ k : Nat, (rnum 2 p).1 = k ∧ k < 65536 := by
  have hl := rtake_length 2 p
  unfold rnum
  match hq : (rtake 2 p).1, hl with
  | [x, y], _ => exact ⟨two x y, by rw [ofBytes_two], two_lt x y⟩
theorem rValue (p : Bytes × Bool) (hp : p.1.length ≤ 4294967296) : run E (.call 62 [rdr p]) = some (.res [valX (rvalue p).1] [some (rdr (rvalue p).2)]) := by
  rw [run_call E 62 _ rfl Tryd.func62 rfl rfl rfl (by simp)]
  have h1 := rNum p 1 (by omega) hp
  have l1 := rnum_len 1 p
  have h11 := rNum (rnum 1 p).2 1 (by omega) (by omega)
  have h18 := rNum (rnum 1 p).2 8 (by omega) (by omega)
  have h12 := rNum (rnum 1 p).2 2 (by omega) (by omega)
  have l2 := rnum_len 2 (rnum 1 p).2
  obtain ⟨k, hk, hk2⟩ := rnum2_nat (rnum 1 p).2
  have ht := rTake (rnum 2 (rnum 1 p).2).2 k (by omega) (by omega)
  simp at h1 h11 h18 h12
  unfold rvalue
  by_cases e1 : (rnum 1 p).1 = 1
  · simp [h1, h11, e1]
  · by_cases e2 : (rnum 1 p).1 = 2
    · simp [h1, h18, e2]
    · by_cases e3 : (rnum 1 p).1 = 3
      · simp [h1, h12, e3, hk, ht]
      · by_cases e4 : (rnum 1 p).1 = 4
        · simp [h1, h12, e4, hk, ht]
        · by_cases e5 : (rnum 1 p).1 = 5
          · simp [h1, h12, e5, hk, ht]
          · have b1 : ((rnum 1 p).1 == 1) = false := by simpa using e1
            have b2 : ((rnum 1 p).1 == 2) = false := by simpa using e2
            have b3 : ((rnum 1 p).1 == 3) = false := by simpa using e3
            have b4 : ((rnum 1 p).1 == 4) = false := by simpa using e4
            have b5 : ((rnum 1 p).1 == 5) = false := by simpa using e5
            simp [h1, e1, e2, e3, e4, e5, b1, b2, b3, b4, b5]
end Go.Ud
/- impl's items, fields. -/
set_option linter.unusedSimpArgs false
set_option linter.unusedVariables false
namespace Go.Ud
open Go.Ev Go.Proofs Go.Pu
set_option maxRecDepth 100000
set_option maxHeartbeats 16000000
def restI {α : Type} (f : Bytes × Bool → α × (Bytes × Bool)) : Nat → Bytes × Bool → Bytes
  | 0, p => p.1
  | n + 1, p => if p.1 = [] ∨ p.2 = true then p.1 else restI f n (f p).2
theorem rfield_len' (p : Bytes × Bool) (h : p.1 ≠ []) : (rfield p).2.1.length < p.1.length := by
  obtain ⟨t, f⟩ := p
  cases t with
  | nil => exact absurd rfl h
  | cons x r => have := rfield_len x r f; simp; omega
theorem rvalue_len' (p : Bytes × Bool) (h : p.1 ≠ []) : (rvalue p).2.1.length < p.1.length := by
  obtain ⟨t, f⟩ := p
  cases t with
  | nil => exact absurd rfl h
  | cons x r => have := rvalue_len x r f; simp; omega
theorem implItems (v : Val) (hv : v.t.length < 4294967296) : run E (.call 37 [xV v]) = some (.res [.row 26 ((itemsI v.t).1.map valT), xB (!(itemsI v.t).2)] []) := by
  rw [run_call E 37 _ rfl Tryd.func37 rfl rfl rfl (by simp)]
  have lp := sk1 (fun s o q hI => loop_wf (c := loopAt Tryd.f37 0) (N := 34)
    (fun k s o q => ∃ r p xs n, s 4 = .ptr 1 0 ∧ o 1 = .box 89 [.t (.str p.1), .t (.bool p.2)] ∧ s 5 = .row r ∧ o r = .row 26 (xs.map valT) true ∧ 1 < r ∧ r < q ∧ p.1.length = k ∧ k < n ∧ loopI rvalue (v.t.length + 1) (v.t, false) = (xs ++ (loopI rvalue n p).1, (loopI rvalue n p).2) ∧ restI rvalue (v.t.length + 1) (v.t, false) = restI rvalue n p ∧ xs.length + p.1.length ≤ v.t.length)
    (fun e s' o' q' => ∃ r, e = .exit 0 ∧ s' 4 = .ptr 1 0 ∧ o' 1 = .box 89 [.t (.str (restI rvalue (v.t.length + 1) (v.t, false))), .t (.bool (itemsI v.t).2)] ∧ s' 5 = .row r ∧ o' r = .row 26 ((itemsI v.t).1.map valT) true)
    (by
      rintro k s o q ⟨r, p, xs, n, h4, ho1, h5, hor, h1r, hrq, hk, hkn, hlo, hre, hl⟩
      have hr1 : r ≠ 1 := by omega
      have h1r' : 1 ≠ r := by omega
      have hrn : r ≠ q := by omega
      have hrn1 : r ≠ q + 1 := by omega
      have hqn : q ≠ r := by omega
      have hq1 : q ≠ 1 := by omega
      have h1q : 1 ≠ q := by omega
      have h1q1 : 1 ≠ q + 1 := by omega
      have hq0 : q ≠ 0 := by omega
      cases n with
      | zero => omega
      | succ n =>
        rcases p with ⟨_ | ⟨x0, r0⟩, pf⟩
        · have hI : (itemsI v.t) = (xs, pf) := by
            unfold itemsI; rw [hlo]; simp [loopI]
          have hR : restI rvalue (v.t.length + 1) (v.t, false) = [] := by rw [hre]; simp [restI]
          simp [loopAt, loopsOf, Tryd.f37, h4, ho1, h5, hor, hI, hR]
        · cases pf with
          | true =>
            have hI : (itemsI v.t) = (xs, true) := by
              unfold itemsI; rw [hlo]; simp [loopI]
            have hR : restI rvalue (v.t.length + 1) (v.t, false) = x0 :: r0 := by rw [hre]; simp [restI]
            simp [loopAt, loopsOf, Tryd.f37, h4, ho1, h5, hor, hI, hR]
          | false =>
            have hlen := rvalue_len' (x0 :: r0, false) (by simp)
            have hl0 : (x0 :: r0).length ≤ 4294967296 := by simp at hl ⊢; omega
            have hc := rValue (x0 :: r0, false) hl0
            have hx1 : xs.length + 1 ≤ 140737488355328 := by omega
            have hx2 : (xs.length + 1) * 32 ≤ 140737488355328 := by omega
            have hlo2 : loopI rvalue (n + 1) (x0 :: r0, false) = ((rvalue (x0 :: r0, false)).1 :: (loopI rvalue n (rvalue (x0 :: r0, false)).2).1, (loopI rvalue n (rvalue (x0 :: r0, false)).2).2) := by simp [loopI]
            have hre2 : restI rvalue (n + 1) (x0 :: r0, false) = restI rvalue n (rvalue (x0 :: r0, false)).2 := by simp [restI]
            simp [-Prod.exists, -Bool.exists_bool, loopAt, loopsOf, Tryd.f37, h4, ho1, h5, hor, hc, hr1, h1r', hrn, hrn1, hqn, hq1, h1q, h1q1, hq0, hx1, hx2]
            refine ⟨(rvalue (x0 :: r0, false)).2.1.length, by simp at hlen hk; omega, q + 1, (rvalue (x0 :: r0, false)).2, ⟨rfl, rfl⟩, rfl, xs ++ [(rvalue (x0 :: r0, false)).1], by simp, by omega, by omega, rfl, n, by simp at hlen hk; omega, ?_, ?_, by simp at hlen hl ⊢; omega⟩
            · rw [hlo, hlo2]; simp
            · rw [hre, hre2])
    v.t.length s o q hI)
  simp only [loopAt, loopsOf, Tryd.f37] at lp
  obtain ⟨X, A, B, C, M, hx⟩ := lp
  have hx' := fun s o q r a1 a2 a3 a4 a5 a6 => hx s o q ⟨r, (v.t, false), [], v.t.length + 1, a1, a2, a3, a4, a5, a6, rfl, by omega, by simp, rfl, by simp⟩
  clear hx
  simp at hx'
  have d := d37_4
  simp [regionOf, findR, pick, Tryd.f37] at d
  have dd := fun st => run_region_draw E st 4 _ d
  clear d
  simp [hx', dd]
theorem implFields (v : Val) (hv : v.t.length < 4294967296) : run E (.call 39 [xV v]) = some (.res [.row 71 ((fieldsI v.t).1.map fldT), xB (!(fieldsI v.t).2)] []) := by
  rw [run_call E 39 _ rfl Tryd.func39 rfl rfl rfl (by simp)]
  have lp := sk1 (fun s o q hI => loop_wf (c := loopAt Tryd.f39 0) (N := 39)
    (fun k s o q => ∃ r p xs n, s 4 = .ptr 1 0 ∧ o 1 = .box 89 [.t (.str p.1), .t (.bool p.2)] ∧ s 5 = .row r ∧ o r = .row 71 (xs.map fldT) true ∧ 1 < r ∧ r < q ∧ p.1.length = k ∧ k < n ∧ loopI rfield (v.t.length + 1) (v.t, false) = (xs ++ (loopI rfield n p).1, (loopI rfield n p).2) ∧ restI rfield (v.t.length + 1) (v.t, false) = restI rfield n p ∧ xs.length + p.1.length ≤ v.t.length)
    (fun e s' o' q' => ∃ r, e = .exit 0 ∧ s' 4 = .ptr 1 0 ∧ o' 1 = .box 89 [.t (.str (restI rfield (v.t.length + 1) (v.t, false))), .t (.bool (fieldsI v.t).2)] ∧ s' 5 = .row r ∧ o' r = .row 71 ((fieldsI v.t).1.map fldT) true)
    (by
      rintro k s o q ⟨r, p, xs, n, h4, ho1, h5, hor, h1r, hrq, hk, hkn, hlo, hre, hl⟩
      have hr1 : r ≠ 1 := by omega
      have h1r' : 1 ≠ r := by omega
      have hrn : r ≠ q := by omega
      have hrn1 : r ≠ q + 1 := by omega
      have hqn : q ≠ r := by omega
      have hq1 : q ≠ 1 := by omega
      have h1q : 1 ≠ q := by omega
      have h1q1 : 1 ≠ q + 1 := by omega
      have hq0 : q ≠ 0 := by omega
      cases n with
      | zero => omega
      | succ n =>
        rcases p with ⟨_ | ⟨x0, r0⟩, pf⟩
        · have hI : (fieldsI v.t) = (xs, pf) := by
            unfold fieldsI; rw [hlo]; simp [loopI]
          have hR : restI rfield (v.t.length + 1) (v.t, false) = [] := by rw [hre]; simp [restI]
          simp [loopAt, loopsOf, Tryd.f39, h4, ho1, h5, hor, hI, hR]
        · cases pf with
          | true =>
            have hI : (fieldsI v.t) = (xs, true) := by
              unfold fieldsI; rw [hlo]; simp [loopI]
            have hR : restI rfield (v.t.length + 1) (v.t, false) = x0 :: r0 := by rw [hre]; simp [restI]
            simp [loopAt, loopsOf, Tryd.f39, h4, ho1, h5, hor, hI, hR]
          | false =>
            have hlen := rfield_len' (x0 :: r0, false) (by simp)
            have hl0 : (x0 :: r0).length ≤ 4294967296 := by simp at hl ⊢; omega
            obtain ⟨k1, hk1, hk1l⟩ := rnum1_nat (x0 :: r0, false)
            have l1 := rnum_len 1 (x0 :: r0, false)
            have l2 := rtake_len k1 (rnum 1 (x0 :: r0, false)).2
            have hc1 := rNum (x0 :: r0, false) 1 (by omega) hl0
            have hc2 := rTake (rnum 1 (x0 :: r0, false)).2 k1 (by omega) (by simp at l1 hl0 ⊢; omega)
            have hc3 := rValue (rtake k1 (rnum 1 (x0 :: r0, false)).2).2 (by simp at l1 l2 hl0 ⊢; omega)
            simp [hk1] at hc1
            have hrf : rfield (x0 :: r0, false) = (⟨(rtake k1 (rnum 1 (x0 :: r0, false)).2).1, (rvalue (rtake k1 (rnum 1 (x0 :: r0, false)).2).2).1⟩, (rvalue (rtake k1 (rnum 1 (x0 :: r0, false)).2).2).2) := by unfold rfield; rw [hk1]; rfl
            have hx1 : xs.length + 1 ≤ 140737488355328 := by omega
            have hx2 : (xs.length + 1) * 48 ≤ 140737488355328 := by omega
            have hlo2 : loopI rfield (n + 1) (x0 :: r0, false) = ((rfield (x0 :: r0, false)).1 :: (loopI rfield n (rfield (x0 :: r0, false)).2).1, (loopI rfield n (rfield (x0 :: r0, false)).2).2) := by simp [loopI]
            have hre2 : restI rfield (n + 1) (x0 :: r0, false) = restI rfield n (rfield (x0 :: r0, false)).2 := by simp [restI]
            simp [-Prod.exists, -Bool.exists_bool, loopAt, loopsOf, Tryd.f39, h4, ho1, h5, hor, hc1, hc2, hc3, hr1, h1r', hrn, hrn1, hqn, hq1, h1q, h1q1, hq0, hx1, hx2]
            refine ⟨(rfield (x0 :: r0, false)).2.1.length, by simp at hlen hk; omega, q + 1, (rfield (x0 :: r0, false)).2, ⟨by rw [hrf], by rw [hrf]⟩, rfl, xs ++ [(rfield (x0 :: r0, false)).1], by simp [hrf], by omega, by omega, rfl, n, by simp at hlen hk; omega, ?_, ?_, by simp at hlen hl ⊢; omega⟩
            · rw [hlo, hlo2]; simp
            · rw [hre, hre2])
    v.t.length s o q hI)
  simp only [loopAt, loopsOf, Tryd.f39] at lp
  obtain ⟨X, A, B, C, M, hx⟩ := lp
  have hx' := fun s o q r a1 a2 a3 a4 a5 a6 => hx s o q ⟨r, (v.t, false), [], v.t.length + 1, a1, a2, a3, a4, a5, a6, rfl, by omega, by simp, rfl, by simp⟩
  clear hx
  simp at hx'
  have d := d39_4
  simp [regionOf, findR, pick, Tryd.f39] at d
  have dd := fun st => run_region_draw E st 4 _ d
  clear d
  simp [hx', dd]
end Go.Ud
/- impl's inner, isRight, ValueOK. -/
set_option linter.unusedSimpArgs false
set_option linter.unusedVariables false
namespace Go.Ud
open Go.Ev Go.Proofs Go.Pu
set_option maxRecDepth 100000
set_option maxHeartbeats 16000000
def nameGo : Option Bytes → List Fld → Bool
  | _, [] => true
  | p, f :: r => nameP f.name && (match p with
      | none => true
      | some q => Op.bytesLess q f.name) && nameGo (some f.name) r
theorem nameGo_eq : ∀ (fs : List Fld), nameGo none fs = (fs.all (fun f => nameP f.name) && rising fs)
  | [] => rfl
  | [f] => by simp [nameGo, rising]
  | f :: g :: r => by
    have ih := nameGo_eq (g :: r)
    simp only [nameGo, rising, List.all_cons, Bool.and_true] at ih ⊢
    generalize nameGo (some g.name) r = D at *
    cases h1 : nameP f.name <;> cases h3 : Op.bytesLess f.name g.name <;> simp_all
theorem loopI_small {α : Type} (f : Bytes × Bool → α × (Bytes × Bool)) (hf : ∀ p : Bytes × Bool, p.1 ≠ [] → (f p).2.1.length < p.1.length) : ∀ (n : Nat) (p : Bytes × Bool), (loopI f n p).1.length ≤ p.1.length
  | 0, p => by simp [loopI]
  | n + 1, p => by
    unfold loopI
    split
    · simp
    · rename_i h
      have h1 : p.1 ≠ [] := fun e => h (.inl e)
      have := hf p h1
      have := loopI_small f hf n (f p).2
      simp; omega
theorem rtake_small (m : Nat) (p : Bytes × Bool) (hm : m ≤ 65536) : (rtake m p).1.length ≤ 65536 := by rw [rtake_length]; exact hm
theorem rvalue_small (p : Bytes × Bool) : (rvalue p).1.t.length ≤ 65536 := by
  unfold rvalue
  obtain ⟨k, hk, hk2⟩ := rnum2_nat (rnum 1 p).2
  split
  · simp
  · split
    · simp
    · split
      · simp only [hk]; rw [rtake_length]; omega
      · simp
theorem rfield_small (p : Bytes × Bool) : (rfield p).1.v.t.length ≤ 65536 ∧ (rfield p).1.name.length ≤ 256 := by
  unfold rfield
  obtain ⟨k, hk, hk2⟩ := rnum1_nat p
  exact ⟨rvalue_small _, by simp only [hk]; rw [rtake_length]; omega⟩
theorem loopI_all {α : Type} (f : Bytes × Bool → α × (Bytes × Bool)) (P : α → Prop) (hf : ∀ p, P (f p).1) : ∀ (n : Nat) (p : Bytes × Bool), ∀ x ∈ (loopI f n p).1, P x
  | 0, p, x, hx => by simp [loopI] at hx
  | n + 1, p, x, hx => by
    unfold loopI at hx
    split at hx
    · simp at hx
    · rcases List.mem_cons.1 hx with rfl | hx
      · exact hf p
      · exact loopI_all f P hf n _ x hx
theorem itemsI_small (t : Bytes) : (itemsI t).1.length ≤ t.length ∧ ∀ x ∈ (itemsI t).1, x.t.length ≤ 65536 := ⟨loopI_small _ rvalue_len' _ _, loopI_all _ _ rvalue_small _ _⟩
theorem fieldsI_small (t : Bytes) : (fieldsI t).1.length ≤ t.length ∧ ∀ x ∈ (fieldsI t).1, x.v.t.length ≤ 65536 ∧ x.name.length ≤ 256 := ⟨loopI_small _ rfield_len' _ _, loopI_all _ _ rfield_small _ _⟩
theorem implInner (v : Val) (hv : v.t.length < 4294967296) : run E (.call 70 [xV v]) = some (.res [.row 26 ((innerI v).1.map valT), xB (innerI v).2] []) := by
  rw [run_call E 70 _ rfl Tryd.func70 rfl rfl rfl (by simp)]
  by_cases h4 : v.k = 4
  · obtain ⟨k, n, t⟩ := v
    simp only at h4 hv
    subst h4
    have h := implItems ⟨4, n, t⟩ hv
    simp [h, innerI]
  · have h := implFields v hv
    obtain ⟨hs1, hs2⟩ := fieldsI_small v.t
    generalize hfs : (fieldsI v.t).1 = fs at *
    generalize hff : (fieldsI v.t).2 = ff at *
    have d8 := d70_8
    simp [regionOf, findR, pick, Tryd.f70] at d8
    have dd := fun st => run_region_draw E st 8 _ d8
    clear d8
    have lp := fun b (hb : b = (!ff && nameGo none fs)) => sk1 (fun s o q hI => loop_for (c := loopAt Tryd.f70 0) (N := 58)
      (fun i s o q => ∃ r z, s 4 = .row 1 ∧ s 5 = .t (.bool z) ∧ s 6 = .row r ∧ s 22 = .row 1 ∧ s 23 = .t (.int .i64 fs.length) ∧ s 24 = .t (.int .i64 i) ∧ o 1 = .row 71 (fs.map fldT) true ∧ 1 < r ∧ r < q ∧ o r = .row 26 ((fs.map (fun f => valT f.v)).take i) true ∧ b = (z && nameGo (match i with | 0 => none | j + 1 => (fs[j]?).map (·.name)) (fs.drop i)))
      (fun e s' o' q' => ∃ r, e = .exit 0 ∧ s' 6 = .row r ∧ s' 5 = .t (.bool b) ∧ o' r = .row 26 (fs.map (fun f => valT f.v)) true) fs.length
      (by
        rintro i s o q hi ⟨r, z, h4, h5, h6, h22, h23, h24, ho1, h1r, hrq, hor, hp⟩
        have hr1 : r ≠ 1 := by omega
        have h1r' : 1 ≠ r := by omega
        have hrn : r ≠ q := by omega
        have hrn1 : r ≠ q + 1 := by omega
        have hqn : q ≠ r := by omega
        have hq1 : q ≠ 1 := by omega
        have h1q : 1 ≠ q := by omega
        have h1q1 : 1 ≠ q + 1 := by omega
        have hq0 : q ≠ 0 := by omega
        have hdr : fs.drop i = fs[i] :: fs.drop (i + 1) := by rw [List.drop_eq_getElem_cons hi]
        have htk : (fs.map (fun f => valT f.v)).take (i + 1) = (fs.map (fun f => valT f.v)).take i ++ [valT fs[i].v] := by rw [List.take_add_one]; simp [hi]
        have hi' : (i : Int) < (fs.length : Int) := by omega
        have hw := wrap_succ (n := i) (by omega)
        have hsm := hs2 _ (List.getElem_mem hi)
        have hnm := isShort fs[i].name (by omega)
        have hxi : fs[i]? = some fs[i] := List.getElem?_eq_getElem hi
        have hx1 : i + 1 ≤ 140737488355328 := by omega
        have hx2 : (i + 1) * 32 ≤ 140737488355328 := by omega
        have hmin : min i fs.length = i := by omega
        rw [hdr] at hp
        simp only [htk]
        cases i with
        | zero =>
          simp only [nameGo] at hp
          cases z <;> cases hn : nameP fs[0].name <;> simp [hn] at hp hnm hor <;> simp [loopAt, loopsOf, Tryd.f70, dd, h4, h5, h6, h22, h23, h24, ho1, hor, hi, hi', hnm, hw, hp, hxi, hr1, h1r', hrn, hrn1, hqn, hq1, h1q, h1q1, hq0, hx1, hx2, hmin]
        | succ j =>
          have hj : j < fs.length := by omega
          have hxj : fs[j]? = some fs[j] := List.getElem?_eq_getElem hj
          have hpos : (0 : Int) < (j : Int) + 1 := by omega
          have hnn : (0 : Int) ≤ (j : Int) + 1 := by omega
          have hwj2 := wrap_nat (n := j) (by omega)
          have hjz : ((j : Int) + 1 == 0) = false := by simp; omega
          simp only [hxj, Option.map_some, nameGo] at hp
          simp at h24 hi' hw
          cases z <;> cases hn : nameP fs[j + 1].name <;> cases hbl : Op.bytesLess fs[j].name fs[j + 1].name <;> simp [hn, hbl] at hp hnm <;> simp [loopAt, loopsOf, Tryd.f70, dd, h4, h5, h6, h22, h23, h24, ho1, hor, hi, hi', hnm, hw, hp, hxi, hxj, hj, hpos, hnn, hwj2, hjz, succ_ne, hbl, hr1, h1r', hrn, hrn1, hqn, hq1, h1q, h1q1, hq0, hx1, hx2, hmin])
      (by
        rintro s o q ⟨r, z, h4, h5, h6, h22, h23, h24, ho1, h1r, hrq, hor, hp⟩
        simp [nameGo] at hp
        have hfull : (fs.map (fun f => valT f.v)).take fs.length = fs.map (fun f => valT f.v) := List.take_of_length_le (by simp)
        simp [loopAt, loopsOf, Tryd.f70, h4, h5, h6, h22, h23, h24, hor, hp, hfull])
      fs.length 0 s o q (by omega) hI)
    simp only [loopAt, loopsOf, Tryd.f70] at lp
    obtain ⟨X, A, B, C, M, hx⟩ := lp _ rfl
    have hx' := fun s o q r a1 a2 a3 a4 a5 a6 a7 a8 a9 a10 => hx s o q ⟨r, !ff, a1, a2, a3, a4, a5, a6, a7, a8, a9, a10, by simp⟩
    clear hx
    simp at hx'
    have heq := nameGo_eq fs
    simp [h4, h, hx', innerI, hfs, hff, heq, Function.comp_def, Bool.and_assoc, -List.all_eq_true]
theorem innerI_small (v : Val) : (innerI v).1.length ≤ v.t.length ∧ ∀ x ∈ (innerI v).1, x.t.length ≤ 65536 := by
  unfold innerI
  split
  · exact itemsI_small v.t
  · obtain ⟨h1, h2⟩ := fieldsI_small v.t
    refine ⟨by simpa using h1, fun x hx => ?_⟩
    simp only [List.mem_map] at hx
    obtain ⟨f, hf, rfl⟩ := hx
    exact (h2 f hf).1
theorem isNumber (n : Int) : run E (.call 69 [xI n]) = some (.res [xB (decide (-1000000000000 ≤ n) && decide (n ≤ 1000000000000))] []) := by
  rw [run_call E 69 _ rfl Tryd.func69 rfl rfl rfl (by simp)]
  simp [inRange]
theorem isRight : ∀ (d : Nat) (v : Val), d ≤ 1000 → v.t.length < 4294967296 → run E (.call 47 [xV v, xI d]) = some (.res [xB (rightI d v)] []) := by
  intro d
  induction d with
  | zero =>
    intro v _ hv
    rw [run_call E 47 _ rfl Tryd.func47 rfl rfl rfl (by simp)]
    obtain ⟨k, n, t⟩ := v
    simp only at hv
    have h300 : ((t.length : Int) ≤ 300) = (t.length ≤ 300) := by simp; omega
    have he : (t == []) = t.isEmpty := by cases t <;> rfl
    have hin := implInner ⟨k, n, t⟩ hv
    obtain ⟨z, z1, z2, z3⟩ := zcase n 0
    unfold rightI
    by_cases h0 : k = 0
    · subst h0; cases z <;> simp [z1, z2, z3, he]
    · by_cases h1 : k = 1
      · subst h1; by_cases hn : 0 ≤ n <;> by_cases hn' : n ≤ 1 <;> simp [hn, hn', inRange, he]
      · by_cases h2 : k = 2
        · subst h2; by_cases hn : -1000000000000 ≤ n <;> by_cases hn' : n ≤ 1000000000000 <;> simp [hn, hn', isNumber, he]
        · by_cases h3 : k = 3
          · subst h3; cases z <;> simp [z1, z2, z3, h300]
          · by_cases h4 : k = 4
            · subst h4
              cases z <;> by_cases hl : t.length ≤ 300 <;> simp [hin, z1, z2, z3, h300, hl]
            · by_cases h5 : k = 5
              · subst h5
                cases z <;> by_cases hl : t.length ≤ 300 <;> simp [hin, z1, z2, z3, h300, hl]
              · simp [h0, h1, h2, h3, h4, h5]
  | succ d ih =>
    intro v hd hv
    have hcl : ∀ x : Val, x.t.length < 4294967296 → run E (.call 71 [xV x, .dref [.int .i64 ((d : Int) + 1)]]) = some (.res [xB (!rightI d x)] []) := by
      intro x hx
      rw [run_call E 71 _ rfl Tryd.func71 rfl rfl rfl (by simp)]
      have hw1 : IntKind.i64.wrap ((d : Int) + 1 - 1) = (d : Int) := by rw [wrap_of (by omega) (by omega)]; omega
      have hw2 := wrap_nat (n := d) (by omega)
      have := ih x (by omega) hx
      simp [hw1, hw2, this]
    rw [run_call E 47 _ rfl Tryd.func47 rfl rfl rfl (by simp)]
    obtain ⟨k, n, t⟩ := v
    simp only at hv
    have h300 : ((t.length : Int) ≤ 300) = (t.length ≤ 300) := by simp; omega
    have he : (t == []) = t.isEmpty := by cases t <;> rfl
    have hin := implInner ⟨k, n, t⟩ hv
    obtain ⟨hs1, hs2⟩ := innerI_small ⟨k, n, t⟩
    have hd0 : (0 : Int) < (d : Int) + 1 := by omega
    have hcf := containsFunc_143_1 (innerI ⟨k, n, t⟩).1 71 [.int .i64 ((d : Int) + 1)] (fun x => !rightI d x) (by simp at hs1; omega) rfl (by simp) (fun x hx => hcl x (by have := hs2 x hx; omega))
    have hall : (!(innerI ⟨k, n, t⟩).1.any (fun x => !rightI d x)) = (innerI ⟨k, n, t⟩).1.all (rightI d) := by simp [List.any_eq_not_all_not]
    obtain ⟨z, z1, z2, z3⟩ := zcase n 0
    unfold rightI
    by_cases h0 : k = 0
    · subst h0; cases z <;> simp [z1, z2, z3, he]
    · by_cases h1 : k = 1
      · subst h1; by_cases hn : 0 ≤ n <;> by_cases hn' : n ≤ 1 <;> simp [hn, hn', inRange, he]
      · by_cases h2 : k = 2
        · subst h2; by_cases hn : -1000000000000 ≤ n <;> by_cases hn' : n ≤ 1000000000000 <;> simp [hn, hn', isNumber, he]
        · by_cases h3 : k = 3
          · subst h3; cases z <;> simp [z1, z2, z3, h300]
          · by_cases h4 : k = 4
            · subst h4
              cases hio : (innerI ⟨4, n, t⟩).2 <;> cases z <;> by_cases hl : t.length ≤ 300 <;> simp [hio] at hin <;> simp [hin, z1, z2, z3, h300, hl, hd0, hcf, hio, ← hall]
            · by_cases h5 : k = 5
              · subst h5
                cases hio : (innerI ⟨5, n, t⟩).2 <;> cases z <;> by_cases hl : t.length ≤ 300 <;> simp [hio] at hin <;> simp [hin, z1, z2, z3, h300, hl, hd0, hcf, hio, ← hall]
              · simp [h0, h1, h2, h3, h4, h5]
theorem implValueOK (v : Val) (hv : v.t.length < 4294967296) : run E (.call 20 [xV v]) = some (.res [xB (valueOK v)] []) := by
  rw [run_call E 20 _ rfl Tryd.func20 rfl rfl rfl (by simp)]
  have h := isRight 5 v (by omega) hv
  simp at h
  simp [h, valueOK, rightI_eq]
end Go.Ud
/- Terms and filters: both. -/
set_option linter.unusedSimpArgs false
set_option linter.unusedVariables false
namespace Go.Ud
open Go.Ev Go.Proofs Go.Pu
set_option maxRecDepth 100000
set_option maxHeartbeats 16000000
theorem beqd (a b : Int) : (a == b) = decide (a = b) := by rw [Bool.eq_iff_iff]; simp
def opOK (op : Int) (v : Val) : Bool :=
  if op = 7 then decide (v.k = 4)
  else if op = 8 then decide (v.k = 1)
  else if op = 9 then decide (v.k = 2) && (decide (0 ≤ v.n) && decide (v.n ≤ 5))
  else if op = 10 then decide (v.k = 2) && decide (0 ≤ v.n)
  else decide (1 ≤ op) && decide (op ≤ 6)
def termOK (t : Trm) : Bool := pathOK t.path && valueOK t.v && opOK t.op t.v
/-- Its parts are no longer than memory allows. -/
def Trm.sm (t : Trm) : Prop := t.path.length < 4294967296 ∧ t.v.t.length < 4294967296
def clauseOK (c : List Trm) : Bool := decide (c.length ≤ 4) && c.all termOK
def filterOK (f : List (List Trm)) : Bool := (decide (1 ≤ f.length) && decide (f.length ≤ 3)) && f.all clauseOK
def clauseSm (c : List Trm) : Prop := c.length < 4294967296 ∧ ∀ t ∈ c, t.sm
def filterSm (f : List (List Trm)) : Prop := f.length < 4294967296 ∧ ∀ c ∈ f, clauseSm c
theorem any_not_all {α : Type} (p : α → Bool) (l : List α) : (l.any (fun x => !p x)) = !l.all p := by simp [List.any_eq_not_all_not]
end Go.Ud
/- spec's FilterOK. -/
set_option linter.unusedSimpArgs false
set_option linter.unusedVariables false
namespace Go.Ud
open Go.Ev Go.Proofs Go.Pu
set_option maxRecDepth 100000
set_option maxHeartbeats 16000000
end Go.Ud
/- QueryOK: both. -/
set_option linter.unusedSimpArgs false
set_option linter.unusedVariables false
namespace Go.Ud
open Go.Ev Go.Proofs Go.Pu
set_option maxRecDepth 100000
set_option maxHeartbeats 16000000
structure Qry where
  filter : List (List Trm)
  sort : List Prt
  skip : Int
  limit : Int
  keep : List Bytes
  hint : Bytes
abbrev qryT (q : Qry) : T := .agg [.list (q.filter.map clsT), .list (q.sort.map prtT), .int .i64 q.skip, .int .i64 q.limit, .list (q.keep.map strT), .str q.hint]
def partsOK (l : List Prt) : Bool := decide (l.length ≤ 2) && l.all (fun p => pathOK p.path)
def keepOK (l : List Bytes) : Bool := decide (l.length ≤ 4) && l.all nameP
def in100 (n : Int) : Bool := decide (0 ≤ n) && decide (n ≤ 100)
def hintOK (t : Bytes) : Bool := t.isEmpty || nameP t
def queryOK (q : Qry) : Bool := filterOK q.filter && partsOK q.sort && in100 q.skip && in100 q.limit && keepOK q.keep && hintOK q.hint
def partsSm (l : List Prt) : Prop := l.length < 4294967296 ∧ ∀ p ∈ l, p.path.length < 4294967296
def textsSm (l : List Bytes) : Prop := l.length < 4294967296 ∧ ∀ p ∈ l, p.length < 4294967296
structure Qry.Sm (q : Qry) : Prop where
  filter : filterSm q.filter
  sort : partsSm q.sort
  keep : textsSm q.keep
  hint : q.hint.length < 4294967296
end Go.Ud
/- The laws' own functions over lists: sizes, copies, equality. -/
set_option linter.unusedSimpArgs false
set_option linter.unusedVariables false
namespace Go.Ud
open Go.Ev Go.Proofs Go.Pu
set_option maxRecDepth 100000
set_option maxHeartbeats 16000000
def szB (n : Nat) (l : Int) : Int := if l - n < 0 then -1 else l - n
def goSz {α : Type} (f : α → Int → Int) : List α → Int → Int
  | [], l => l
  | x :: r, l => if f x l < 0 then -1 else goSz f r (f x l)
def lstSz {α : Type} (f : α → Int → Int) (xs : List α) (l : Int) : Int := if szB xs.length l < 0 then -1 else goSz f xs (szB xs.length l)
def thenSz (f g : Int → Int) (l : Int) : Int := if f l < 0 then -1 else g (f l)
theorem szB_le {n : Nat} {l : Int} (h : 0 ≤ l) : szB n l ≤ l := by unfold szB; split <;> omega
theorem szB_bound {n : Nat} {l : Int} (h : ¬ szB n l < 0) : (n : Int) ≤ l := by unfold szB at h; split at h <;> omega
theorem goSz_le {α : Type} {f : α → Int → Int} : ∀ {xs : List α} {l : Int}, 0 ≤ l → (∀ x ∈ xs, ∀ k, 0 ≤ k → f x k ≤ k) → goSz f xs l ≤ l
  | [], l, _, _ => Int.le_refl _
  | x :: r, l, h0, h => by
    unfold goSz
    have hx := h x (by simp) l h0
    split
    · omega
    · have := goSz_le (xs := r) (l := f x l) (by omega) (fun y hy => h y (by simp [hy]))
      omega
theorem lstSz_le {α : Type} {f : α → Int → Int} {xs : List α} {l : Int} (h0 : 0 ≤ l) (h : ∀ x ∈ xs, ∀ k, 0 ≤ k → f x k ≤ k) : lstSz f xs l ≤ l := by
  unfold lstSz
  have := szB_le (n := xs.length) h0
  split
  · omega
  · have := goSz_le (f := f) (xs := xs) (l := szB xs.length l) (by omega) h
    omega
theorem thenSz_le {f g : Int → Int} {l : Int} (h0 : 0 ≤ l) (hf : ∀ k, 0 ≤ k → f k ≤ k) (hg : ∀ k, 0 ≤ k → g k ≤ k) : thenSz f g l ≤ l := by
  unfold thenSz
  have := hf l h0
  split
  · omega
  · have := hg (f l) (by omega); omega
theorem goSz_all {α : Type} {f : α → Int → Int} {P : α → Prop} {m : Int} : ∀ {xs : List α} {l : Int}, 0 ≤ l → l ≤ m → (∀ x ∈ xs, ∀ k, 0 ≤ k → f x k ≤ k) → (∀ x ∈ xs, ∀ k, 0 ≤ k → k ≤ m → ¬ f x k < 0 → P x) → ¬ goSz f xs l < 0 → ∀ x ∈ xs, P x
  | [], _, _, _, _, _, _, x, hx => by simp at hx
  | y :: r, l, h0, hm, hle, hp, h, x, hx => by
    unfold goSz at h
    split at h
    · omega
    · rename_i hf
      have hy := hle y (by simp) l h0
      rcases List.mem_cons.1 hx with rfl | hx
      · exact hp _ (by simp) l h0 hm hf
      · exact goSz_all (by omega) (by omega) (fun z hz => hle z (by simp [hz])) (fun z hz => hp z (by simp [hz])) h x hx
theorem lstSz_all {α : Type} {f : α → Int → Int} {P : α → Prop} {m : Int} {xs : List α} {l : Int} (h0 : 0 ≤ l) (hm : l ≤ m) (hle : ∀ x ∈ xs, ∀ k, 0 ≤ k → f x k ≤ k) (hp : ∀ x ∈ xs, ∀ k, 0 ≤ k → k ≤ m → ¬ f x k < 0 → P x) (h : ¬ lstSz f xs l < 0) : (xs.length : Int) ≤ m ∧ ∀ x ∈ xs, P x := by
  unfold lstSz at h
  split at h
  · omega
  · rename_i hb
    have h1 := szB_bound hb
    have h2 := szB_le (n := xs.length) h0
    exact ⟨by omega, goSz_all (m := m) (by omega) (by omega) hle hp h⟩
theorem mid_get {α : Type} (ys : List α) (z : α) (i n : Nat) (hi : i < n) (hy : i ≤ ys.length) : (ys.take i ++ List.replicate (n - i) z)[i]? = some z := by
  rw [List.getElem?_append_right (by simp; omega)]
  have h : min i ys.length = i := by omega
  have hp : 0 < n - i := by omega
  simp only [List.length_take, h, Nat.sub_self, List.getElem?_replicate, hp, if_true]
theorem mid_set {α : Type} (ys : List α) (z x : α) (i n : Nat) (hi : i < n) (hx : ys[i]? = some x) : (ys.take i ++ List.replicate (n - i) z).set i x = ys.take (i + 1) ++ List.replicate (n - (i + 1)) z := by
  have hy : i < ys.length := by
    by_cases h : i < ys.length
    · exact h
    · rw [List.getElem?_eq_none (by omega)] at hx; cases hx
  have hl : (ys.take i).length = i := by simp; omega
  have e : n - i = (n - (i + 1)) + 1 := by omega
  have h1 := set_mid (ys.take i) x z (n - (i + 1))
  rw [hl] at h1
  rw [e, h1, List.take_add_one, hx]
  rfl
end Go.Ud
/- The laws' own functions: values, terms, clauses, filters, parts, texts. -/
set_option linter.unusedSimpArgs false
set_option linter.unusedVariables false
namespace Go.Ud
open Go.Ev Go.Proofs Go.Pu
set_option maxRecDepth 100000
set_option maxHeartbeats 16000000
def szVal (v : Val) (l : Int) : Int := szB v.t.length l
def szTrm (t : Trm) (l : Int) : Int := thenSz (szB t.path.length) (thenSz (szVal t.v) (fun k => k)) l
def szPrt (p : Prt) (l : Int) : Int := szB p.path.length l
def szCls (c : List Trm) (l : Int) : Int := thenSz (lstSz szTrm c) (fun k => k) l
def szFil (f : List (List Trm)) (l : Int) : Int := thenSz (lstSz szCls f) (fun k => k) l
def szTxt (t : Bytes) (l : Int) : Int := szB t.length l
theorem szVal_le (v : Val) (k : Int) (h : 0 ≤ k) : szVal v k ≤ k := szB_le h
theorem szTrm_le (t : Trm) (k : Int) (h : 0 ≤ k) : szTrm t k ≤ k := thenSz_le h (fun k hk => szB_le hk) (fun k hk => thenSz_le hk (fun k hk => szB_le hk) (fun k _ => Int.le_refl k))
theorem szPrt_le (p : Prt) (k : Int) (h : 0 ≤ k) : szPrt p k ≤ k := szB_le h
theorem szCls_le (c : List Trm) (k : Int) (h : 0 ≤ k) : szCls c k ≤ k := thenSz_le h (fun k hk => lstSz_le hk (fun x _ k hk => szTrm_le x k hk)) (fun k _ => Int.le_refl k)
theorem szFil_le (c : List (List Trm)) (k : Int) (h : 0 ≤ k) : szFil c k ≤ k := thenSz_le h (fun k hk => lstSz_le hk (fun x _ k hk => szCls_le x k hk)) (fun k _ => Int.le_refl k)
/-- No longer than what memory holds. -/
def W (n : Nat) : Prop := n < 4611686018427387904
def Trm.wd (t : Trm) : Prop := W t.path.length ∧ W t.v.t.length
def clsWd (c : List Trm) : Prop := W c.length ∧ ∀ t ∈ c, t.wd
def filWd (f : List (List Trm)) : Prop := W f.length ∧ ∀ c ∈ f, clsWd c
def prtsWd (l : List Prt) : Prop := W l.length ∧ ∀ p ∈ l, W p.path.length
def txtsWd (l : List Bytes) : Prop := W l.length ∧ ∀ p ∈ l, W p.length
theorem wrap_sz {n : Nat} {l : Int} (h : W n) (h0 : 0 ≤ l) (hm : l ≤ 1048576) : IntKind.i64.wrap (l - (n : Int)) = l - n := by unfold W at h; exact wrap_of (by omega) (by omega)
theorem szValue (v : Val) (h : W v.t.length) (l : Int) (h0 : 0 ≤ l) (hm : l ≤ 1048576) : run E (.call 23 [xV v, xI l]) = some (.res [xI (szVal v l)] []) := by
  rw [run_call E 23 _ rfl Tryd.func23 rfl rfl rfl (by simp)]
  have hw := wrap_sz h h0 hm
  unfold szVal szB
  by_cases hb : l - (v.t.length : Int) < 0 <;> simp [hw, hb]
theorem toValue (v : Val) : run E (.call 25 [xV v]) = some (.res [valX v] []) := by
  rw [run_call E 25 _ rfl Tryd.func25 rfl rfl rfl (by simp)]
  simp
end Go.Ud
/- The law FnExactQueryOK, run over plain data: it answers true. -/
set_option linter.unusedSimpArgs false
set_option linter.unusedVariables false
namespace Go.Ud
open Go.Ev Go.Proofs Go.Pu
set_option maxRecDepth 100000
set_option maxHeartbeats 16000000
structure Qry.Wd (q : Qry) : Prop where
  filter : filWd q.filter
  sort : prtsWd q.sort
  keep : txtsWd q.keep
  hint : W q.hint.length
def szQry (q : Qry) (l : Int) : Int := thenSz (szFil q.filter) (thenSz (lstSz szPrt q.sort) (thenSz (lstSz szTxt q.keep) (thenSz (szB q.hint.length) (fun k => k)))) l
theorem szTxt_le (t : Bytes) (k : Int) (h : 0 ≤ k) : szTxt t k ≤ k := szB_le h
theorem lstPrt_le (l : List Prt) (k : Int) (h : 0 ≤ k) : lstSz szPrt l k ≤ k := lstSz_le h (fun x _ k hk => szPrt_le x k hk)
theorem lstTxt_le (l : List Bytes) (k : Int) (h : 0 ≤ k) : lstSz szTxt l k ≤ k := lstSz_le h (fun x _ k hk => szTxt_le x k hk)
theorem thenSz_neg {f g : Int → Int} {l : Int} (h : ¬ thenSz f g l < 0) : ¬ f l < 0 ∧ ¬ g (f l) < 0 := by
  unfold thenSz at h
  split at h
  · omega
  · rename_i hf; exact ⟨hf, h⟩
theorem szTrm_sm {t : Trm} {k : Int} (h0 : 0 ≤ k) (hm : k ≤ 1048576) (h : ¬ szTrm t k < 0) : t.sm := by
  obtain ⟨h1, h2⟩ := thenSz_neg h
  obtain ⟨h3, _⟩ := thenSz_neg h2
  have b1 := szB_bound h1
  have b2 := szB_bound h3
  have := szB_le (n := t.path.length) h0
  exact ⟨by omega, by omega⟩
theorem szCls_sm {c : List Trm} {k : Int} (h0 : 0 ≤ k) (hm : k ≤ 1048576) (h : ¬ szCls c k < 0) : clauseSm c := by
  obtain ⟨h1, h2⟩ := thenSz_neg h
  obtain ⟨b1, b2⟩ := lstSz_all (P := Trm.sm) (m := 1048576) h0 hm (fun x _ k hk => szTrm_le x k hk) (fun x _ k hk hm h => szTrm_sm hk hm h) h1
  exact ⟨by omega, b2⟩
theorem szFil_sm {c : List (List Trm)} {k : Int} (h0 : 0 ≤ k) (hm : k ≤ 1048576) (h : ¬ szFil c k < 0) : filterSm c := by
  obtain ⟨h1, h2⟩ := thenSz_neg h
  obtain ⟨b1, b2⟩ := lstSz_all (P := clauseSm) (m := 1048576) h0 hm (fun x _ k hk => szCls_le x k hk) (fun x _ k hk hm h => szCls_sm hk hm h) h1
  exact ⟨by omega, b2⟩
theorem lstPrt_sm {c : List Prt} {k : Int} (h0 : 0 ≤ k) (hm : k ≤ 1048576) (h : ¬ lstSz szPrt c k < 0) : partsSm c := by
  obtain ⟨b1, b2⟩ := lstSz_all (P := fun p => p.path.length < 4294967296) (m := 1048576) h0 hm (fun x _ k hk => szPrt_le x k hk) (fun x _ k hk hm h => by have := szB_bound h; omega) h
  exact ⟨by omega, b2⟩
theorem lstTxt_sm {c : List Bytes} {k : Int} (h0 : 0 ≤ k) (hm : k ≤ 1048576) (h : ¬ lstSz szTxt c k < 0) : textsSm c := by
  obtain ⟨b1, b2⟩ := lstSz_all (P := fun p => p.length < 4294967296) (m := 1048576) h0 hm (fun x _ k hk => szTxt_le x k hk) (fun x _ k hk hm h => by have := szB_bound h; omega) h
  exact ⟨by omega, b2⟩
theorem szQry_sm {q : Qry} (h : ¬ szQry q 1048576 < 0) : q.Sm := by
  obtain ⟨h1, h2⟩ := thenSz_neg h
  obtain ⟨h3, h4⟩ := thenSz_neg h2
  obtain ⟨h5, h6⟩ := thenSz_neg h4
  obtain ⟨h7, _⟩ := thenSz_neg h6
  have l1 := szFil_le q.filter 1048576 (by omega)
  have l2 := lstPrt_le q.sort (szFil q.filter 1048576) (by omega)
  have l3 := lstTxt_le q.keep (lstSz szPrt q.sort (szFil q.filter 1048576)) (by omega)
  have b := szB_bound h7
  exact ⟨szFil_sm (by omega) (by omega) h1, lstPrt_sm (by omega) (by omega) h3, lstTxt_sm (by omega) (by omega) h5, by omega⟩
end Go.Ud
/-
  DERIVED: THE SHELF's CONTRACTS AT THIS DUMP, IN PLAIN WORDS (tools/lay-plain.mjs out of 'TrydShelf.lean', which tools/lay-shelf.mjs wrote): THE SAME DECLARATIONS UNDER THE SAME NAMES: 'import', 'namespace', 'open', 'def', 'theorem' AND NOTHING ELSE: no command of the shelf's: FOR A HAND-IN. Each laying: the table of numbers ('.._ren') and one theorem, a field a fact of the dump's own or the kernel's comparison; each contract: ONE APPLICATION.
-/
namespace Go.Proofs
open Go.Shelf
def Tryd.lays156_ren : Go.Shelf.Ren := ⟨fun | 156 => 50 | 165 => 74 | 166 => 75 | 169 => 76 | 240 => 89 | 241 => 90 | 276 => 102 | 277 => 103 | n => n, fun | 31 => 50 | 9 => 9 | 3 => 3 | 4 => 4 | 0 => 0 | 20 => 20 | 72 => 95 | 76 => 99 | 70 => 93 | 37 => 22 | 75 => 98 | 127 => 110 | 164 => 123 | 5 => 5 | 80 => 101 | n => n, fun | n => n⟩
theorem Tryd.lays156 : Go.Proofs.Lays.n156 Tryd.prog Tryd.lays156_ren := {
  mixed := by kernel_rfl
  f156 := Tryd.func50.trans (congrArg some (by kernel_rfl))
  f165 := Tryd.func74.trans (congrArg some (by kernel_rfl))
  f166 := Tryd.func75.trans (congrArg some (by kernel_rfl))
  f169 := Tryd.func76.trans (congrArg some (by kernel_rfl))
  f240 := Tryd.func89.trans (congrArg some (by kernel_rfl))
  f241 := Tryd.func90.trans (congrArg some (by kernel_rfl))
  f276 := Tryd.func102.trans (congrArg some (by kernel_rfl))
  f277 := Tryd.func103.trans (congrArg some (by kernel_rfl))
  t0 := Tryd.underlying0
  a0 := Tryd.isAgg0
  z0 := Tryd.sizeOf0
  v0 := Tryd.zeroValue0
  t3 := Tryd.underlying3
  a3 := Tryd.isAgg3
  z3 := Tryd.sizeOf3
  v3 := Tryd.zeroValue3
  t4 := Tryd.underlying4
  a4 := Tryd.isAgg4
  z4 := Tryd.sizeOf4
  v4 := Tryd.zeroValue4
  t9 := Tryd.underlying9
  a9 := Tryd.isAgg9
  z9 := Tryd.sizeOf9
  v9 := Tryd.zeroValue9
  t20 := Tryd.underlying20
  a20 := Tryd.isAgg20
  z20 := Tryd.sizeOf20
  v20 := Tryd.zeroValue20
  t31 := Tryd.underlying50
  a31 := Tryd.isAgg50
  z31 := Tryd.sizeOf50
  v31 := Tryd.zeroValue50
  t37 := Tryd.underlying22
  a37 := Tryd.isAgg22
  z37 := Tryd.sizeOf22
  v37 := Tryd.zeroValue22
  t70 := Tryd.underlying93
  a70 := Tryd.isAgg93
  z70 := Tryd.sizeOf93
  v70 := Tryd.zeroValue93
  t72 := Tryd.underlying95
  a72 := Tryd.isAgg95
  z72 := Tryd.sizeOf95
  v72 := Tryd.zeroValue95
  t75 := Tryd.underlying98
  a75 := Tryd.isAgg98
  z75 := Tryd.sizeOf98
  v75 := Tryd.zeroValue98
  t76 := Tryd.underlying99
  a76 := Tryd.isAgg99
  z76 := Tryd.sizeOf99
  v76 := Tryd.zeroValue99
  t127 := Tryd.underlying110
  a127 := Tryd.isAgg110
  z127 := Tryd.sizeOf110
  v127 := Tryd.zeroValue110
  t164 := Tryd.underlying123
  a164 := Tryd.isAgg123
  z164 := Tryd.sizeOf123
  v164 := Tryd.zeroValue123 }
theorem Tryd.Builder_Extra_156 : Builder.Extra Tryd.prog Tryd.lays156_ren := {
  sizeBuilder := by kernel_rfl
  liesBuilder := by kernel_rfl
  t5 := Tryd.underlying5
  a5 := Tryd.isAgg5
  z5 := Tryd.sizeOf5
  v5 := Tryd.zeroValue5
  infoByte := by kernel_rfl
  cellsByte := by kernel_rfl
  sizeByte := by kernel_rfl
  neB5 := by decide }
open Go.RowKit in
theorem Tryd.strings_Join_none (a : Option Addr) (c : Nat) (sep : ByteArray) (w : World) :
    Calls Tryd.prog 50 #[.slice a 0 c, .string sep] w fun e w' => e = .returned (.string ⟨#[]⟩) ∧ w' = w := Any.strings_Join_none Tryd.lays156 Tryd.Builder_Extra_156 a c sep w
open Go.RowKit in
theorem Tryd.strings_Join (bk o c : Nat) (xs : List ByteArray) (sep : ByteArray) (w : World) (hcells : ∀ (j : Nat) x, xs[j]? = some x → w.cell? ⟨bk, o + j, none⟩ = some (.string x)) (hbk : bk < w.heap.size) (hN : xs.length ≤ 140737488355328) (hcap : xs.length ≤ c) (hlen : (Lib.join (xs.map (·.data.toList)) sep.data.toList).length ≤ 140737488355328) :
    Calls Tryd.prog 50 #[.slice (some ⟨bk, o, none⟩) xs.length c, .string sep] w fun e w' => e = .returned (.string ⟨(Lib.join (xs.map (·.data.toList)) sep.data.toList).toArray⟩) ∧ Below w.heap.size w w' := Any.strings_Join Tryd.lays156 Tryd.Builder_Extra_156 bk o c xs sep w hcells hbk hN hcap hlen
def Tryd.lays213_ren : Go.Shelf.Ren := ⟨fun | 213 => 65 | 265 => 85 | n => n, fun | 9 => 9 | 3 => 3 | n => n, fun | n => n⟩
theorem Tryd.lays213 : Go.Proofs.Lays.n213 Tryd.prog Tryd.lays213_ren := {
  mixed := by kernel_rfl
  f213 := Tryd.func65.trans (congrArg some (by kernel_rfl))
  f265 := Tryd.func85.trans (congrArg some (by kernel_rfl))
  t3 := Tryd.underlying3
  a3 := Tryd.isAgg3
  z3 := Tryd.sizeOf3
  v3 := Tryd.zeroValue3
  t9 := Tryd.underlying9
  a9 := Tryd.isAgg9
  z9 := Tryd.sizeOf9
  v9 := Tryd.zeroValue9 }
open Go.RowKit in
theorem Tryd.bytealg_CompareString (a b : ByteArray) (w : World) :
    Calls Tryd.prog 65 #[.string a, .string b] w fun e w' => e = .returned (.int .i64 (Lib.compareBytes a.data.toList b.data.toList)) ∧ w' = w := Any.bytealg_CompareString Tryd.lays213 a b w
def Tryd.laysM171_ren : Go.Shelf.Ren := ⟨fun | 171 => 49 | 243 => 73 | 246 => 88 | 283 => 98 | 284 => 99 | 285 => 100 | 286 => 101 | 129 => 115 | 317 => 114 | 318 => 116 | 319 => 117 | 320 => 118 | 337 => 123 | 338 => 124 | n => n, fun | 3 => 3 | 9 => 9 | 2 => 2 | 4 => 4 | 171 => 117 | 0 => 0 | 53 => 118 | 37 => 22 | 5 => 5 | 173 => 121 | 212 => 133 | 51 => 128 | 20 => 20 | 213 => 134 | 46 => 113 | 232 => 140 | 233 => 141 | n => n, fun | 17 => 2 | 18 => 3 | 19 => 4 | n => n⟩
theorem Tryd.laysM171 : Go.Proofs.LaysM.n171 Tryd.prog Tryd.laysM171_ren := {
  mixed := by kernel_rfl
  f129 := Tryd.func115.trans (congrArg some (by kernel_rfl))
  f171 := Tryd.func49.trans (congrArg some (by kernel_rfl))
  f243 := Tryd.func73.trans (congrArg some (by kernel_rfl))
  f246 := Tryd.func88.trans (congrArg some (by kernel_rfl))
  f283 := Tryd.func98.trans (congrArg some (by kernel_rfl))
  f284 := Tryd.func99.trans (congrArg some (by kernel_rfl))
  f285 := Tryd.func100.trans (congrArg some (by kernel_rfl))
  f286 := Tryd.func101.trans (congrArg some (by kernel_rfl))
  f317 := Tryd.func114.trans (congrArg some (by kernel_rfl))
  f318 := Tryd.func116.trans (congrArg some (by kernel_rfl))
  f319 := Tryd.func117.trans (congrArg some (by kernel_rfl))
  f320 := Tryd.func118.trans (congrArg some (by kernel_rfl))
  f337 := Tryd.func123.trans (congrArg some (by kernel_rfl))
  f338 := Tryd.func124.trans (congrArg some (by kernel_rfl))
  t0 := Tryd.underlying0
  a0 := Tryd.isAgg0
  z0 := Tryd.sizeOf0
  v0 := Tryd.zeroValue0
  t2 := Tryd.underlying2
  a2 := Tryd.isAgg2
  z2 := Tryd.sizeOf2
  v2 := Tryd.zeroValue2
  t3 := Tryd.underlying3
  a3 := Tryd.isAgg3
  z3 := Tryd.sizeOf3
  v3 := Tryd.zeroValue3
  t4 := Tryd.underlying4
  a4 := Tryd.isAgg4
  z4 := Tryd.sizeOf4
  v4 := Tryd.zeroValue4
  t5 := Tryd.underlying5
  a5 := Tryd.isAgg5
  z5 := Tryd.sizeOf5
  v5 := Tryd.zeroValue5
  t9 := Tryd.underlying9
  a9 := Tryd.isAgg9
  z9 := Tryd.sizeOf9
  v9 := Tryd.zeroValue9
  t20 := Tryd.underlying20
  a20 := Tryd.isAgg20
  z20 := Tryd.sizeOf20
  v20 := Tryd.zeroValue20
  t37 := Tryd.underlying22
  a37 := Tryd.isAgg22
  z37 := Tryd.sizeOf22
  v37 := Tryd.zeroValue22
  t46 := Tryd.underlying113
  a46 := Tryd.isAgg113
  z46 := Tryd.sizeOf113
  v46 := Tryd.zeroValue113
  t51 := Tryd.underlying128
  a51 := Tryd.isAgg128
  z51 := Tryd.sizeOf128
  v51 := Tryd.zeroValue128
  t53 := Tryd.underlying118
  a53 := Tryd.isAgg118
  z53 := Tryd.sizeOf118
  v53 := Tryd.zeroValue118
  t171 := Tryd.underlying117
  a171 := Tryd.isAgg117
  z171 := Tryd.sizeOf117
  v171 := Tryd.zeroValue117
  t173 := Tryd.underlying121
  a173 := Tryd.isAgg121
  z173 := Tryd.sizeOf121
  v173 := Tryd.zeroValue121
  t212 := Tryd.underlying133
  a212 := Tryd.isAgg133
  z212 := Tryd.sizeOf133
  v212 := Tryd.zeroValue133
  t213 := Tryd.underlying134
  a213 := Tryd.isAgg134
  z213 := Tryd.sizeOf134
  t232 := Tryd.underlying140
  a232 := Tryd.isAgg140
  z232 := Tryd.sizeOf140
  v232 := Tryd.zeroValue140
  t233 := Tryd.underlying141
  a233 := Tryd.isAgg141
  z233 := Tryd.sizeOf141
  v233 := Tryd.zeroValue141
  g17 := by kernel_rfl
  g18 := by kernel_rfl
  g19 := by kernel_rfl
  i0 := by kernel_rfl
  i2 := by kernel_rfl
  i3 := by kernel_rfl
  i4 := by kernel_rfl
  i5 := by kernel_rfl
  i9 := by kernel_rfl
  i20 := by kernel_rfl
  i37 := by kernel_rfl
  i46 := by kernel_rfl
  i51 := by kernel_rfl
  i53 := by kernel_rfl
  i171 := by kernel_rfl
  i173 := by kernel_rfl
  i212 := by kernel_rfl
  i232 := by kernel_rfl
  i233 := by kernel_rfl
  m17 := by kernel_rfl
  m18 := by kernel_rfl
  m19 := by kernel_rfl }
def Tryd.lays105_ren : Go.Shelf.Ren := ⟨fun | 105 => 83 | 212 => 94 | 99 => 95 | 165 => 74 | 166 => 75 | 170 => 96 | 169 => 76 | 263 => 109 | 264 => 110 | 206 => 111 | 240 => 89 | 241 => 90 | 276 => 102 | 277 => 103 | n => n, fun | 9 => 9 | 3 => 3 | 4 => 4 | 20 => 20 | 0 => 0 | 46 => 113 | 109 => 114 | 5 => 5 | 72 => 95 | 76 => 99 | 51 => 128 | 146 => 129 | 53 => 118 | 148 => 131 | 70 => 93 | 37 => 22 | 75 => 98 | 127 => 110 | 164 => 123 | 80 => 101 | n => n, fun | n => n⟩
theorem Tryd.lays105 : Go.Proofs.Lays.n105 Tryd.prog Tryd.lays105_ren := {
  mixed := by kernel_rfl
  f99 := Tryd.func95.trans (congrArg some (by kernel_rfl))
  f105 := Tryd.func83.trans (congrArg some (by kernel_rfl))
  f165 := Tryd.func74.trans (congrArg some (by kernel_rfl))
  f166 := Tryd.func75.trans (congrArg some (by kernel_rfl))
  f169 := Tryd.func76.trans (congrArg some (by kernel_rfl))
  f170 := Tryd.func96.trans (congrArg some (by kernel_rfl))
  f206 := Tryd.func111.trans (congrArg some (by kernel_rfl))
  f212 := Tryd.func94.trans (congrArg some (by kernel_rfl))
  f240 := Tryd.func89.trans (congrArg some (by kernel_rfl))
  f241 := Tryd.func90.trans (congrArg some (by kernel_rfl))
  f263 := Tryd.func109.trans (congrArg some (by kernel_rfl))
  f264 := Tryd.func110.trans (congrArg some (by kernel_rfl))
  f276 := Tryd.func102.trans (congrArg some (by kernel_rfl))
  f277 := Tryd.func103.trans (congrArg some (by kernel_rfl))
  t0 := Tryd.underlying0
  a0 := Tryd.isAgg0
  z0 := Tryd.sizeOf0
  v0 := Tryd.zeroValue0
  t3 := Tryd.underlying3
  a3 := Tryd.isAgg3
  z3 := Tryd.sizeOf3
  v3 := Tryd.zeroValue3
  t4 := Tryd.underlying4
  a4 := Tryd.isAgg4
  z4 := Tryd.sizeOf4
  v4 := Tryd.zeroValue4
  t5 := Tryd.underlying5
  a5 := Tryd.isAgg5
  z5 := Tryd.sizeOf5
  v5 := Tryd.zeroValue5
  t9 := Tryd.underlying9
  a9 := Tryd.isAgg9
  z9 := Tryd.sizeOf9
  v9 := Tryd.zeroValue9
  t20 := Tryd.underlying20
  a20 := Tryd.isAgg20
  z20 := Tryd.sizeOf20
  v20 := Tryd.zeroValue20
  t37 := Tryd.underlying22
  a37 := Tryd.isAgg22
  z37 := Tryd.sizeOf22
  v37 := Tryd.zeroValue22
  t46 := Tryd.underlying113
  a46 := Tryd.isAgg113
  z46 := Tryd.sizeOf113
  v46 := Tryd.zeroValue113
  t51 := Tryd.underlying128
  a51 := Tryd.isAgg128
  z51 := Tryd.sizeOf128
  v51 := Tryd.zeroValue128
  t53 := Tryd.underlying118
  a53 := Tryd.isAgg118
  z53 := Tryd.sizeOf118
  v53 := Tryd.zeroValue118
  t70 := Tryd.underlying93
  a70 := Tryd.isAgg93
  z70 := Tryd.sizeOf93
  v70 := Tryd.zeroValue93
  t72 := Tryd.underlying95
  a72 := Tryd.isAgg95
  z72 := Tryd.sizeOf95
  v72 := Tryd.zeroValue95
  t75 := Tryd.underlying98
  a75 := Tryd.isAgg98
  z75 := Tryd.sizeOf98
  v75 := Tryd.zeroValue98
  t76 := Tryd.underlying99
  a76 := Tryd.isAgg99
  z76 := Tryd.sizeOf99
  v76 := Tryd.zeroValue99
  t109 := Tryd.underlying114
  a109 := Tryd.isAgg114
  z109 := Tryd.sizeOf114
  v109 := Tryd.zeroValue114
  t127 := Tryd.underlying110
  a127 := Tryd.isAgg110
  z127 := Tryd.sizeOf110
  v127 := Tryd.zeroValue110
  t146 := Tryd.underlying129
  a146 := Tryd.isAgg129
  z146 := Tryd.sizeOf129
  v146 := Tryd.zeroValue129
  t148 := Tryd.underlying131
  a148 := Tryd.isAgg131
  z148 := Tryd.sizeOf131
  v148 := Tryd.zeroValue131
  t164 := Tryd.underlying123
  a164 := Tryd.isAgg123
  z164 := Tryd.sizeOf123
  v164 := Tryd.zeroValue123 }
theorem Tryd.Builder_Extra_105 : Builder.Extra Tryd.prog Tryd.lays105_ren := {
  sizeBuilder := by kernel_rfl
  liesBuilder := by kernel_rfl
  t5 := Tryd.underlying5
  a5 := Tryd.isAgg5
  z5 := Tryd.sizeOf5
  v5 := Tryd.zeroValue5
  infoByte := by kernel_rfl
  cellsByte := by kernel_rfl
  sizeByte := by kernel_rfl
  neB5 := by decide }
open Go.RowKit Go.Lib in
theorem Tryd.strings_Repeat (s : ByteArray) (c : Nat) (w : World) (hc : c ≤ 9223372036854775807) (hlen : s.size * c ≤ 140737488355328) :
    Calls Tryd.prog 83 #[.string s, .int .i64 c] w fun e w' => e = .returned (.string ⟨(Lib.repeatL s.data.toList c).toArray⟩) ∧ Below w.heap.size w w' := Any.strings_Repeat Tryd.lays105 Tryd.Builder_Extra_105 s c w hc hlen
end Go.Proofs
/- With more tables laid the evaluator answers no less. -/
set_option linter.unusedSimpArgs false
set_option linter.unusedVariables false
namespace Go.Ev

abbrev Env.withGlob (E : Env) (g : Nat → List T) : Env := { E with glob := g }
theorem resVals_more {E : Env} {g : Nat → List T} {st : St} : ∀ l : List ResultVar, st.resVals (E.withGlob g) l = st.resVals E l
  | [] => rfl
  | .tmp t :: r => by simp only [St.resVals, resVals_more r]
  | .cell a t :: r => by
    have : st.loadAt (E.withGlob g) t (st.val (.tmp a)) = st.loadAt E t (st.val (.tmp a)) := rfl
    simp only [St.resVals, resVals_more r, this]
theorem finish_more {E : Env} {g : Nat → List T} {st : St} {fl : Bool} {l : List ResultVar} {ms : List SV} : st.finish (E.withGlob g) fl l ms = st.finish E fl l ms := by
  unfold St.finish
  rw [resVals_more]
section
variable {E : Env} {g : Nat → List T} (hg : ∀ k, E.glob k ≠ [] → g k = E.glob k)
include hg
theorem globAt_more {t k : Nat} {i r : SV} (h : globAt E t k i = some r) : globAt (E.withGlob g) t k i = some r := by
  unfold globAt at h ⊢
  have ha : (E.withGlob g).arr = E.arr := rfl
  have hgl : (E.withGlob g).glob = g := rfl
  rw [ha, hgl]
  split at h
  · split at h
    · rename_i hj
      rw [if_pos hj]
      split at h
      · rename_i y hy
        rw [hg k (fun e => by rw [e] at hy; simp at hy), hy]
        exact h
      · cases h
    · cases h
  · cases h
theorem indexAt_more {st : St} {t : Nat} {v i r : SV} (h : st.indexAt E t v i = some r) : st.indexAt (E.withGlob g) t v i = some r := by
  cases v with
  | glob k => exact globAt_more hg h
  | _ => exact h
theorem op_more {st : St} {op : Op} {r : SV × St} (h : st.op E op = some r) : st.op (E.withGlob g) op = some r := by
  cases op with
  | indexAddr t x i =>
    simp only [St.op, Option.map_eq_some_iff] at h ⊢
    obtain ⟨a, h1, h2⟩ := h
    exact ⟨a, indexAt_more hg h1, h2⟩
  | makeFunc f a b => cases f <;> exact h
  | _ => exact h
theorem opM_more {st : St} {m : Md} {op : Op} {r : SV × St} (h : st.opM E m op = some r) : st.opM (E.withGlob g) m op = some r := by
  cases m with
  | none => exact op_more hg h
  | some p =>
    by_cases hb : ∃ t n ps, op = .buildSlice t n ps
    · obtain ⟨t, n, ps, rfl⟩ := hb
      exact h
    · have he : ∀ E : Env, st.opM E (some p) op = st.op E op := by
        intro E
        cases op <;> first | rfl | exact absurd ⟨_, _, _, rfl⟩ hb
      rw [he] at h ⊢
      exact op_more hg h
theorem body_more {rn : Task → Option Out} {t : Task} {o : Out} (h : body E rn t = some o) : body (E.withGlob g) rn t = some o := by
  cases t with
  | code c st => exact h
  | call f args =>
    unfold body at h ⊢
    dsimp only at h ⊢
    simp only [finish_more]
    exact h
  | ops m all l st =>
    cases l with
    | nil => exact h
    | cons o r =>
      unfold body at h ⊢
      dsimp only at h ⊢
      split at h
      · cases h
      · rename_i hd
        rw [if_neg hd]
        split at h
        · cases h
        · exact h
        · split at h
          · exact h
          · rename_i hne
            split at h
            · cases h
            · rename_i v st1 hop
              have hop2 := opM_more hg hop
              first
                | (simp only [hop2]
                   split
                   · rename_i f args at' hop'
                     exact absurd hop' (hne _ _ _)
                   · exact h)
                | (split
                   · rename_i hn
                     rw [hop2] at hn; cases hn
                   · rename_i v2 st2 hs
                     rw [hop2] at hs
                     injection hs with hs
                     injection hs with e1 e2
                     subst e1; subst e2
                     exact h)
theorem run_more {t : Task} {o : Out} (h : run E t = some o) : run (E.withGlob g) t = some o := by
  obtain ⟨n, hn⟩ := run_iff.1 h
  clear h
  refine run_iff.2 ⟨n, ?_⟩
  induction n generalizing t o with
  | zero => cases hn
  | succ n ih => exact body_mono (E := E.withGlob g) (rn := runN E n) (rn' := runN (E.withGlob g) n) (fun t o ht => ih ht) (body_more hg (show body E (runN E n) t = some o from hn))
end
end Go.Ev
/- The library's functions that are met by their contracts. -/
set_option linter.unusedSimpArgs false
set_option linter.unusedVariables false
namespace Go.Ud
open Go.Ev Go.Proofs Go.RowKit
theorem same_of_below {w w' : World} (h : Below w.heap.size w w') : Same w w' (fun _ => False) := ⟨h.size, fun k hk _ => h.block k hk, h.tape, h.os, h.output⟩
theorem callOK_flat {E : Env} {P : Program} {f : Nat} {args : List X} {r : T} (hr : r.flat = true) (h1 : r.one = true) (hm : E.md f = [])
    (h : ∀ (F : Nat → Prop) (w : World) (vals : Array Value) (bl : List Nat), XVs E F w args vals.toList bl → (∀ k, F k → k < w.heap.size) → Laid E F w → ∃ v, RD F w r v ∧ ((callFunc f vals).run P w = .ok (.value v) w ∨ ((callFunc f vals).run P w = .ok (.enter f vals) w ∧ Calls P f vals w (fun e w' => e = .returned v ∧ Below w.heap.size w w')))) :
    CallOK E P f args [.t r] [] := by
  refine ⟨fun _ => ⟨by simp [X.flats, X.flat, hr], rfl, rfl⟩, fun F w vals bl hx hn hb hF hL => ?_⟩
  obtain ⟨v, hv, hc⟩ := h F w vals bl hx hF hL
  have key : ∀ w', Below w.heap.size w w' → Go.Ev.Leaves E F w bl (muts (E.md f) vals.toList) [.t r] [] [v] w' := by
    intro w' hw
    refine ⟨F, [], [], (same_of_below hw).mono (fun _ _ h => h.elim), fun _ h => h, fun _ h => .inl h, fun k hk => Nat.lt_of_lt_of_le (hF k hk) hw.size, .cons (b := []) (.t (hv.flat hr)) .nil, ?_, by simp, by simp⟩
    rw [hm, show muts [] vals.toList = [] from muts_nil _]
    exact .nil
  rcases hc with hc | ⟨hc, hC⟩
  · exact .inr ⟨v, w, hc, [v], rfl, key w (Below.refl _ _)⟩
  · refine .inl ⟨hc, hC.mono ?_⟩
    rintro e w' ⟨rfl, hw⟩
    exact ⟨[v], rfl, key w' hw⟩
theorem xvs_two {E : Env} {F : Nat → Prop} {w : World} {a b : T} {vs : List Value} {bl : List Nat} (h : XVs E F w [.t a, .t b] vs bl) : ∃ u v, vs = [u, v] ∧ RD F w a u ∧ RD F w b v := by
  cases h with
  | cons h r =>
    cases r with
    | cons h' r' =>
      cases r' with
      | nil =>
        cases h with
        | t h => cases h' with
          | t h' => exact ⟨_, _, rfl, h, h'⟩
theorem arr_two {vals : Array Value} {u v : Value} (h : vals.toList = [u, v]) : vals = #[u, v] := by
  cases vals; simpa using h
theorem xvs_one {E : Env} {F : Nat → Prop} {w : World} {a : T} {vs : List Value} {bl : List Nat} (h : XVs E F w [.t a] vs bl) : ∃ u, vs = [u] ∧ RD F w a u := by
  cases h with
  | cons h r =>
    cases r with
    | nil =>
      cases h with
      | t h => exact ⟨_, rfl, h⟩
theorem arr_one {vals : Array Value} {u : Value} (h : vals.toList = [u]) : vals = #[u] := by
  cases vals; simpa using h
theorem strsOf_map : ∀ {xs : List T} {l : List (List UInt8)}, strsOf xs = some l → xs = l.map T.str
  | [], l, h => by simp [strsOf] at h; subst h; rfl
  | .str s :: r, l, h => by
    simp only [strsOf, Option.map_eq_some_iff] at h
    obtain ⟨l', h1, rfl⟩ := h
    rw [strsOf_map h1]; rfl
  | .int _ _ :: _, l, h => by simp [strsOf] at h
  | .bool _ :: _, l, h => by simp [strsOf] at h
  | .list _ :: _, l, h => by simp [strsOf] at h
  | .agg _ :: _, l, h => by simp [strsOf] at h
theorem pow_tab {G : Nat → List T} (hG : G 2 = Lib.pow10Tab.map (T.int .u64)) {F : Nat → Prop} {w : World} (h : Laid (E.withGlob G) F w) {name : String} (hg : Tryd.prog.globalNamed name = some 2) : Lib.TabIs Tryd.prog w name .u64 Lib.pow10Tab := by
  have e : (E.withGlob G).glob 2 = Lib.pow10Tab.map (T.int .u64) := hG
  obtain ⟨_, a, b, hh⟩ := h 2 (by
    rw [e]
    intro e
    have := congrArg List.length e
    have e2 : (Lib.pow10Tab.map (T.int .u64)).length = 20 := by kernel_rfl
    rw [e2] at this
    cases this)
  unfold Lib.TabIs World.var?
  rw [hg, Option.bind_some, hh]
  rw [e, List.map_map]
  rfl
theorem below_gr (w : World) (k : Nat) (os : Array Obj) : Below w.heap.size w (Sort.grow (w.drewN k) os) := Lib.below_grow _ w (Nat.le_refl _) k os
/-- A list of texts that is read: its cells. -/
theorem strs_cells {F : Nat → Prop} {w : World} {l : List (List UInt8)} {v : Value} (h : RD F w (.list (l.map T.str)) v) : ∃ A c, v = .slice A l.length c ∧ l.length ≤ c ∧ (l ≠ [] → ∃ g o, A = some ⟨g, o, none⟩ ∧ F g ∧ ∀ (j : Nat) x, l[j]? = some x → w.cell? ⟨g, o + j, none⟩ = some (.string ⟨⟨x⟩⟩)) := by
  generalize hxs : l.map T.str = xs at h
  cases h with
  | list _ A c sz cell hc hm hz hwd h1 ha hr =>
    subst hxs
    refine ⟨A, c, by simp, by simpa using hc, fun hne => ?_⟩
    obtain ⟨g, o, e, hF, hcell⟩ := ha (by simpa using hne)
    have hsz : sz = 1 := by
      obtain ⟨x, r, rfl⟩ : ∃ x r, l = x :: r := by
        cases l with
        | nil => exact absurd rfl hne
        | cons x r => exact ⟨x, r, rfl⟩
      have := hwd (T.str x) (by simp)
      simpa [T.cells] using this.symm
    subst hsz
    refine ⟨g, o, e, hF, fun j x hj => ?_⟩
    have hlt := (List.getElem?_eq_some_iff.1 hj).1
    have h2 := hcell j 0 (by simpa using hlt) (by omega)
    have h3 := hr j (T.str x) 0 (T.str x) (by simp [hj]) rfl
    rw [Nat.mul_one, Nat.add_zero] at h2
    rw [h2]
    generalize cell j 0 = u at h3
    cases h3
    rfl
theorem ext_ok (G : Nat → List T) (hG : G 2 = Lib.pow10Tab.map (T.int .u64)) : ∀ f g args rs bs, extOf f = some g → g args = some (rs, bs) → CallOK (E.withGlob G) Tryd.prog f args rs bs := by
  intro f g args rs bs hx hg
  unfold extOf at hx
  split at hx
  · obtain rfl := Option.some.inj hx
    dsimp only at hg
    split at hg
    · rename_i a b
      obtain ⟨rfl, rfl⟩ := Prod.mk.inj (Option.some.inj hg)
      refine callOK_flat rfl rfl rfl (fun F w vals bl h _ _ => ?_)
      obtain ⟨u, v, hv, hu, hv'⟩ := xvs_two h
      obtain rfl := arr_two hv
      cases hu; cases hv'
      refine ⟨_, .int _ _, .inr ⟨Go.Proofs.enters_of Tryd.func65 (by kernel_rfl) rfl _ _, (Tryd.bytealg_CompareString ⟨⟨a⟩⟩ ⟨⟨b⟩⟩ w).mono ?_⟩⟩
      rintro e w' ⟨rfl, rfl⟩
      exact ⟨rfl, Below.refl _ _⟩
    · cases hg
  · obtain rfl := Option.some.inj hx
    dsimp only at hg
    split at hg
    · rename_i a n
      split at hg
      · rename_i hn
        obtain ⟨rfl, rfl⟩ := Prod.mk.inj (Option.some.inj hg)
        refine callOK_flat rfl rfl rfl (fun F w vals bl h _ _ => ?_)
        obtain ⟨u, v, hv, hu, hv'⟩ := xvs_two h
        obtain rfl := arr_two hv
        cases hu; cases hv'
        obtain ⟨h0, h1, h2⟩ := hn
        have hc := Tryd.strings_Repeat ⟨⟨a⟩⟩ n.toNat w (by omega) (by simpa [ByteArray.size] using h2)
        rw [Int.toNat_of_nonneg h0] at hc
        refine ⟨_, .str _, .inr ⟨Go.Proofs.enters_of Tryd.func83 (by kernel_rfl) rfl _ _, hc⟩⟩
      · cases hg
    · cases hg
  · obtain rfl := Option.some.inj hx
    dsimp only at hg
    split at hg
    · rename_i a c
      obtain ⟨rfl, rfl⟩ := Prod.mk.inj (Option.some.inj hg)
      refine callOK_flat rfl rfl rfl (fun F w vals bl h _ _ => ?_)
      obtain ⟨u, v, hv, hu, hv'⟩ := xvs_two h
      obtain rfl := arr_two hv
      cases hu; cases hv'
      refine ⟨_, .int _ _, .inl ?_⟩
      rw [run_callFunc_extern Tryd.func121 (by kernel_rfl) (by kernel_rfl) (by kernel_rfl) (e := Extern.BytealgCount.count) (by kernel_rfl), Lib.run_countString]
      rfl
    · cases hg
  · obtain rfl := Option.some.inj hx
    dsimp only at hg
    split at hg
    · rename_i a c
      obtain ⟨rfl, rfl⟩ := Prod.mk.inj (Option.some.inj hg)
      refine callOK_flat rfl rfl rfl (fun F w vals bl h _ _ => ?_)
      obtain ⟨u, v, hv, hu, hv'⟩ := xvs_two h
      obtain rfl := arr_two hv
      cases hu; cases hv'
      refine ⟨_, .int _ _, .inl ?_⟩
      rw [run_callFunc_extern Tryd.func130 (by kernel_rfl) (by kernel_rfl) (by kernel_rfl) (e := Extern.BytealgIndexByte.indexByte) (by kernel_rfl), Lib.run_indexByteString]
      rfl
    · cases hg
  · obtain rfl := Option.some.inj hx
    dsimp only at hg
    split at hg
    · rename_i n
      split at hg
      · rename_i hn
        obtain ⟨rfl, rfl⟩ := Prod.mk.inj (Option.some.inj hg)
        refine callOK_flat rfl rfl rfl (fun F w vals bl h _ hL => ?_)
        obtain ⟨u, hv, hu⟩ := xvs_one h
        obtain rfl := arr_one hv
        cases hu
        refine ⟨_, .str _, .inr ⟨Go.Proofs.enters_of Tryd.func49 (by kernel_rfl) rfl _ _, (Any.strconv_Itoa Tryd.laysM171 n hn.1 hn.2 w (pow_tab hG hL (by kernel_rfl))).mono ?_⟩⟩
        rintro e w' ⟨rfl, k, os, rfl⟩
        exact ⟨rfl, below_gr w k os⟩
      · cases hg
    · cases hg
  · obtain rfl := Option.some.inj hx
    dsimp only at hg
    split at hg
    · rename_i xs sep
      split at hg
      · rename_i l hl
        split at hg
        · rename_i hn
          obtain ⟨rfl, rfl⟩ := Prod.mk.inj (Option.some.inj hg)
          obtain rfl := strsOf_map hl
          refine callOK_flat rfl rfl rfl (fun F w vals bl h hF _ => ?_)
          obtain ⟨u, v, hv, hu, hv'⟩ := xvs_two h
          obtain rfl := arr_two hv
          obtain ⟨A, c, rfl, hc, hcell⟩ := strs_cells hu
          cases hv'
          refine ⟨_, .str _, .inr ⟨Go.Proofs.enters_of Tryd.func50 (by kernel_rfl) rfl _ _, ?_⟩⟩
          cases l with
          | nil =>
            refine (Tryd.strings_Join_none A c ⟨⟨sep⟩⟩ w).mono ?_
            rintro e w' ⟨rfl, rfl⟩
            exact ⟨rfl, Below.refl _ _⟩
          | cons x r =>
            obtain ⟨g, o, rfl, hg2, hcells⟩ := hcell (by simp)
            have e : ((x :: r).map (fun s => (⟨⟨s⟩⟩ : ByteArray))).map (·.data.toList) = x :: r := by
              rw [List.map_map]
              exact List.map_id _
            have hj := Tryd.strings_Join g o c ((x :: r).map (fun s => (⟨⟨s⟩⟩ : ByteArray))) ⟨⟨sep⟩⟩ w (fun j y hy => by
              rw [List.getElem?_map, Option.map_eq_some_iff] at hy
              obtain ⟨s, hs, rfl⟩ := hy
              exact hcells j s hs) (hF g hg2) (by simpa using hn.1) (by simpa using hc) (by rw [e]; exact hn.2)
            rw [e] at hj
            have hlen : ((x :: r).map (fun s => (⟨⟨s⟩⟩ : ByteArray))).length = (x :: r).length := List.length_map ..
            rw [hlen] at hj
            exact hj
        · cases hg
      · cases hg
    · cases hg
  · cases hx
set_option maxRecDepth 100000 in
theorem E_sok : SOK E Tryd.prog := envG_sok (glob := globOf) mixed names_ok (fun f g args rs bs h1 h2 => ext_ok globOf rfl f g args rs bs h1 h2)
end Go.Ud
/- What comes in, as plain data: the parameters' types read off. -/
set_option linter.unusedSimpArgs false
set_option linter.unusedVariables false
namespace Go.Ud
open Go.Ev Go.Proofs Go.Pu
set_option maxRecDepth 100000
set_option maxHeartbeats 4000000
theorem list_choose {α β : Type} {enc : α → β} {P : α → Prop} : ∀ {xs : List β}, (∀ x ∈ xs, ∃ a, x = enc a ∧ P a) → ∃ l : List α, xs = l.map enc ∧ ∀ a ∈ l, P a
  | [], _ => ⟨[], rfl, by simp⟩
  | x :: xs, h => by
    obtain ⟨a, h1, h2⟩ := h x (by simp)
    obtain ⟨l, h3, h4⟩ := list_choose (fun y hy => h y (List.mem_cons_of_mem _ hy))
    refine ⟨a :: l, by simp [h1, h3], fun b hb => ?_⟩
    rcases List.mem_cons.1 hb with rfl | hb
    · exact h2
    · exact h4 b hb
theorem typed_int {n : Nat} {ts : List T} (h : typed E (n + 1) 3 ts) : ∃ m, ts = [.int .i64 m] := by
  unfold typed at h
  rw [E_ty3] at h
  simp only at h
  split at h <;> first | exact h.elim | skip
  all_goals rename_i hk
  all_goals first | cases hk | skip
  all_goals first | (obtain ⟨rfl, _⟩ := h; exact ⟨_, rfl⟩) | skip
theorem typed_str {n : Nat} {ts : List T} (h : typed E (n + 1) 9 ts) : ∃ s, ts = [.str s] ∧ W s.length := by
  unfold typed at h
  rw [E_ty9] at h
  simp only at h
  split at h <;> first | exact h.elim | skip
  all_goals rename_i hk
  all_goals first | cases hk | skip
  all_goals first | exact ⟨_, rfl, by unfold W; omega⟩ | skip
theorem typed_bool {n : Nat} {ts : List T} (h : typed E (n + 1) 4 ts) : ∃ b, ts = [.bool b] := by
  unfold typed at h
  rw [E_ty4] at h
  simp only at h
  split at h <;> first | exact h.elim | skip
  all_goals rename_i hk
  all_goals first | cases hk | skip
  all_goals first | exact ⟨_, rfl⟩ | skip
theorem typed_slice {n t : Nat} {ts : List T} (hk : (E.ty t).k = .slice) (hb : 1 ≤ (E.ty (E.ty t).elem).bytes) (h : typed E (n + 1) t ts) : ∃ xs, ts = [.list xs] ∧ W xs.length ∧ ∀ x ∈ xs, ∃ cs, x = (if (E.ty (E.ty t).elem).agg then T.agg cs else (cs.headD (.bool false))) ∧ cs.length = (E.ty (E.ty t).elem).size ∧ typed E n (E.ty t).elem cs := by
  unfold typed at h
  rw [hk] at h
  try simp only at h
  split at h <;> first | exact h.elim | skip
  all_goals rename_i hk'
  all_goals first | cases hk' | skip
  rename_i xs
  refine ⟨xs, rfl, ?_, h.2⟩
  have := Nat.le_mul_of_pos_right xs.length hb
  unfold W
  have := h.1
  omega
theorem typed_struct {n t : Nat} {ts : List T} (hk : (E.ty t).k = .struct) (h : typed E (n + 1) t ts) : ts.length = (E.ty t).size ∧ ∀ p ∈ (E.ty t).fields, typed E n p.2 ((ts.drop p.1).take (E.ty p.2).size) := by
  unfold typed at h
  rw [hk] at h
  exact h
theorem dec32 {n : Nat} {ts : List T} (h : typed E (n + 2) 32 ts) : ∃ v : Val, ts = [.int .i64 v.k, .int .i64 v.n, .str v.t] ∧ W v.t.length := by
  obtain ⟨h1, h2⟩ := typed_struct (by simp) h
  simp at h1 h2
  obtain ⟨g1, g2, g3⟩ := h2
  match ts, h1 with
  | [a, b, c], _ =>
    obtain ⟨x, hx⟩ := typed_int g1
    obtain ⟨y, hy⟩ := typed_int g2
    obtain ⟨z, hz, hz2⟩ := typed_str g3
    simp at hx hy hz
    exact ⟨⟨x, y, z⟩, by simp [hx, hy, hz], hz2⟩
theorem dec50 {n : Nat} {ts : List T} (h : typed E (n + 2) 50 ts) : ∃ c : List Bytes, ts = [.list (c.map strT)] ∧ txtsWd c := by
  obtain ⟨xs, rfl, h1, h2⟩ := typed_slice (by simp) (by simp) h
  obtain ⟨l, rfl, h4⟩ := list_choose (enc := strT) (P := fun p => W p.length) (fun x hx => by
    obtain ⟨cs, e, _, h⟩ := h2 x hx
    simp at e h
    obtain ⟨t, h3, h4⟩ := typed_str h
    subst h3
    exact ⟨t, by simpa using e, h4⟩)
  exact ⟨l, rfl, by simpa using h1, h4⟩
theorem dec34 {n : Nat} {ts : List T} (h : typed E (n + 3) 34 ts) : ∃ t : Trm, T.agg ts = trmT t ∧ t.wd := by
  obtain ⟨h1, h2⟩ := typed_struct (by simp) h
  simp at h1 h2
  obtain ⟨g1, g2, g3⟩ := h2
  match ts, h1 with
  | [a, b, c, d, e], _ =>
    obtain ⟨x, hx⟩ := typed_int g1
    obtain ⟨y, hy, hy2⟩ := typed_str g2
    obtain ⟨v, hv, hv2⟩ := dec32 g3
    simp at hx hy hv
    exact ⟨⟨x, y, v⟩, by simp [hx, hy, hv], hy2, hv2⟩
end Go.Ud
/- Fields by name: spec's l02Field; impl's findField, field; ids. -/
set_option linter.unusedSimpArgs false
set_option linter.unusedVariables false
namespace Go.Ud
open Go.Ev Go.Proofs Go.Pu
set_option maxRecDepth 100000
set_option maxHeartbeats 16000000
theorem compareBytes_lt : ∀ (a b : Bytes), (Lib.compareBytes a b < 0) = (Op.bytesLess a b = true)
  | [], [] => by simp [Lib.compareBytes, Op.bytesLess]
  | [], _ :: _ => by simp [Lib.compareBytes, Op.bytesLess]
  | _ :: _, [] => by simp [Lib.compareBytes, Op.bytesLess]
  | x :: a, y :: b => by
    have ih := compareBytes_lt a b
    unfold Lib.compareBytes Op.bytesLess
    by_cases h1 : x < y
    · simp [h1]
    · by_cases h2 : y < x
      · have : ¬ x = y := fun e => by subst e; exact h1 h2
        simp [h1, h2, this]
      · have e : x = y := UInt8.le_antisymm (UInt8.not_lt.1 h2) (UInt8.not_lt.1 h1)
        subst e
        simp [h1, ih]
theorem compareBytes_eq : ∀ (a b : Bytes), (Lib.compareBytes a b = 0) = (a = b)
  | [], [] => by simp [Lib.compareBytes]
  | [], _ :: _ => by simp [Lib.compareBytes]
  | _ :: _, [] => by simp [Lib.compareBytes]
  | x :: a, y :: b => by
    have ih := compareBytes_eq a b
    unfold Lib.compareBytes
    by_cases h1 : x < y
    · have : ¬ x = y := fun e => by subst e; exact absurd h1 (UInt8.lt_irrefl x)
      simp [h1, this]
    · by_cases h2 : y < x
      · have : ¬ x = y := fun e => by subst e; exact h1 h2
        simp [h1, h2, this]
      · have e : x = y := UInt8.le_antisymm (UInt8.not_lt.1 h2) (UInt8.not_lt.1 h1)
        subst e
        simp [h1, ih]
theorem compare (a b : Bytes) : run E (.call 42 [xS a, xS b]) = some (.res [xI (Lib.compareBytes a b)] []) := by
  have h : run E (.call 65 [xS a, xS b]) = some (.res [xI (Lib.compareBytes a b)] []) := by
    rw [run_ext E 65 _ (g := _) rfl]
    simp
  rw [run_call E 42 _ rfl Tryd.func42 rfl rfl rfl (by simp)]
  simp [h]
/-- Where a search by halves ends. -/
def seekI (fs : List Fld) (name : Bytes) : Nat := halves (fun k => match fs[k]? with
  | some f => Op.bytesLess f.name name
  | none => false) (fs.length + 1) 0 fs.length
def thereI (fs : List Fld) (name : Bytes) : Bool := match fs[seekI fs name]? with
  | some f => f.name == name
  | none => false
theorem wrap_u64 {n : Nat} (h : n < 18446744073709551616) : IntKind.u64.wrap (n : Int) = n := by
  simp [IntKind.wrap, IntKind.bits, IntKind.signed]
  omega
theorem pow_u64 : (2 : Int) ^ min 1 IntKind.u64.bits = 2 := by rfl
def fieldI (v : Val) (name : Bytes) : Option Val := match (fieldsI v.t).1[seekI (fieldsI v.t).1 name]? with
  | some f => if f.name == name then some f.v else none
  | none => none
def optX : Option Val → List X
  | some v => [valX v, xB true]
  | none => [valX ⟨0, 0, []⟩, xB false]
end Go.Ud
/- Ids of documents; versions' documents. -/
set_option linter.unusedSimpArgs false
set_option linter.unusedVariables false
namespace Go.Ud
open Go.Ev Go.Proofs Go.Pu
set_option maxRecDepth 100000
set_option maxHeartbeats 16000000
abbrev idB : Bytes := [105, 100]
theorem fieldI_eq {v : Val} {fs : List Fld} (name : Bytes) (hf : fieldsP v.t = some fs) (hr : rising fs = true) : fieldI v name = fieldP v name := by
  have hs : seekI fs name = placeP fs name := by
    unfold seekI
    refine halves_ok (p := placeP fs name) (m := fs.length) ?_ ?_ _ _ _ (Nat.zero_le _) (place_le fs name) (Nat.le_refl _) (by omega)
    · intro k hk
      have hlt : k < fs.length := Nat.lt_of_lt_of_le hk (place_le fs name)
      have hg : fs[k]? = some fs[k] := List.getElem?_eq_getElem hlt
      simp only [hg]
      exact (rising_place name hr k _ hg).2 hk
    · intro k hk hkl
      have hg : fs[k]? = some fs[k] := List.getElem?_eq_getElem hkl
      simp only [hg]
      cases hb : Op.bytesLess fs[k].name name with
      | false => rfl
      | true =>
        have := (rising_place name hr k _ hg).1 hb
        omega
  unfold fieldI
  rw [fieldsI_some hf]
  simp only [hs]
  rw [field_place name hf hr]
  cases fs[placeP fs name]? with
  | none => rfl
  | some f => simp
def okId (x : Val) : Bool := decide (x.k = 2) && (decide (0 ≤ x.n) && decide (x.n ≤ 99))
def idI (v : Val) : Int × Bool := match fieldI v idB with
  | some x => (x.n, okId x)
  | none => (0, false)
def specId (v : Val) : Int := match fieldP v idB with
  | some x => if okId x then x.n else -1
  | none => -1
def isDocP (v : Val) : Bool := valueOK v && decide (v.k = 5)
def nullB (v : Val) : Bool := (v.k == 0) && ((v.n == 0) && (v.t == []))
def verDoc (id : Int) (gone : Bool) (v : Val) : Bool := if gone then nullB v else isDocP v && (specId v == id)
def verDocI (gone : Bool) (v : Val) (id : Int) : Bool := if gone then nullB v else isDocP v && (idI v).2 && ((idI v).1 == id)
theorem verDocI_eq (gone : Bool) (v : Val) (id : Int) (h0 : 0 ≤ id) : verDocI gone v id = verDoc id gone v := by
  unfold verDocI verDoc
  cases gone with
  | true => rfl
  | false =>
    simp only [Bool.false_eq_true, if_false]
    cases hd : isDocP v with
    | false => rfl
    | true =>
      have hok : okP 5 v = true ∧ v.k = 5 := by simpa [isDocP, valueOK] using hd
      obtain ⟨e, fs, _, _, hf, hr, _⟩ := okP_doc hok.1 hok.2
      simp only [Bool.true_and]
      unfold idI specId
      rw [fieldI_eq idB hf hr]
      cases fieldP v idB with
      | none =>
        have : ((-1 : Int) == id) = false := by simp; omega
        simp [this]
      | some x =>
        cases hx : okId x with
        | false =>
          have : ((-1 : Int) == id) = false := by simp; omega
          simp [hx, this]
        | true => simp [hx]
end Go.Ud
/- Definitions of indexes: both. -/
set_option linter.unusedSimpArgs false
set_option linter.unusedVariables false
namespace Go.Ud
open Go.Ev Go.Proofs Go.Pu
set_option maxRecDepth 100000
set_option maxHeartbeats 16000000
structure Dfn where
  name : Bytes
  parts : List Prt
abbrev dfnT (d : Dfn) : T := .agg [.str d.name, .list (d.parts.map prtT)]
structure Ver where
  at_ : Int
  gone : Bool
  v : Val
abbrev verT (x : Ver) : T := .agg [.int .i64 x.at_, .bool x.gone, .int .i64 x.v.k, .int .i64 x.v.n, .str x.v.t]
abbrev verX (x : Ver) : X := .agg [.t (.int .i64 x.at_), .t (.bool x.gone), .t (.int .i64 x.v.k), .t (.int .i64 x.v.n), .t (.str x.v.t)]
structure Chn where
  id : Int
  vs : List Ver
abbrev chnT (c : Chn) : T := .agg [.int .i64 c.id, .list (c.vs.map verT)]
structure Col where
  name : Bytes
  chains : List Chn
  defs : List Dfn
abbrev colT (c : Col) : T := .agg [.str c.name, .list (c.chains.map chnT), .list (c.defs.map dfnT)]
def Dfn.Sm (d : Dfn) : Prop := d.name.length < 4294967296 ∧ partsSm d.parts
def Ver.Sm (x : Ver) : Prop := x.v.t.length < 4294967296
def Chn.Sm (c : Chn) : Prop := c.vs.length < 4294967296 ∧ ∀ x ∈ c.vs, x.Sm
structure Col.Sm (c : Col) : Prop where
  name : c.name.length < 4294967296
  chains : c.chains.length < 4294967296 ∧ ∀ x ∈ c.chains, x.Sm
  defs : c.defs.length < 4294967296 ∧ ∀ x ∈ c.defs, x.Sm
def twoOK : List Prt → Bool
  | [p, q] => !(p.path == q.path)
  | _ => true
def in12 (n : Nat) : Bool := decide (1 ≤ n) && decide (n ≤ 2)
def defOK (d : Dfn) : Bool := nameP d.name && in12 d.parts.length && d.parts.all (fun p => pathOK p.path) && twoOK d.parts
theorem in12_cast (n : Nat) : (decide ((1 : Int) ≤ (n : Int)) && decide ((n : Int) ≤ 2)) = in12 n := by
  unfold in12
  congr 1 <;> (congr 1; simp; omega)
theorem in12_cases {α : Type} {l : List α} (h : in12 l.length = true) : (∃ p, l = [p]) ∨ ∃ p q, l = [p, q] := by
  simp [in12] at h
  match l, h with
  | [p], _ => exact .inl ⟨p, rfl⟩
  | [p, q], _ => exact .inr ⟨p, q, rfl⟩
  | [], h => simp at h
  | _ :: _ :: _ :: _, h => simp at h
end Go.Ud
/- Chains of versions: impl's chainOK, CollOK. -/
set_option linter.unusedSimpArgs false
set_option linter.unusedVariables false
namespace Go.Ud
open Go.Ev Go.Proofs Go.Pu
set_option maxRecDepth 100000
set_option maxHeartbeats 16000000
def in1 (lo hi n : Int) : Bool := decide (lo ≤ n) && decide (n ≤ hi)
def versGo (D : Bool → Val → Bool) : Option Int → List Ver → Bool
  | _, [] => true
  | p, x :: r => in1 1 10000 x.at_ && (match p with
      | none => true
      | some q => !decide (x.at_ ≤ q)) && D x.gone x.v && versGo D (some x.at_) r
def chainOK (c : Chn) : Bool := in1 0 19 c.id && in1 1 12 c.vs.length && versGo (fun g v => verDoc c.id g v) none c.vs
def chainsGo : Option Int → List Chn → Bool
  | _, [] => true
  | p, c :: r => chainOK c && (match p with
      | none => true
      | some q => !decide (c.id ≤ q)) && chainsGo (some c.id) r
def defsGo : List Dfn → List Dfn → Bool
  | _, [] => true
  | pre, d :: r => defOK d && !(pre.any (fun x => x.name == d.name)) && defsGo (pre ++ [d]) r
def collOK (c : Col) : Bool := nameP c.name && decide (c.chains.length ≤ 20) && decide (c.defs.length ≤ 3) && defsGo [] c.defs && chainsGo none c.chains
theorem chainOK_eq (c : Chn) : (versGo (fun g v => verDocI g v c.id) none c.vs && (in1 0 19 c.id && in1 1 12 c.vs.length)) = chainOK c := by
  unfold chainOK
  cases h : in1 0 19 c.id with
  | false => simp
  | true =>
    have h0 : 0 ≤ c.id := by simp [in1] at h; exact h.1
    have e : (fun g v => verDocI g v c.id) = (fun g v => verDoc c.id g v) := by
      funext g v; exact verDocI_eq g v c.id h0
    rw [e]
    cases in1 1 12 (c.vs.length : Int) <;> cases versGo (fun g v => verDoc c.id g v) none c.vs <;> rfl
end Go.Ud
/- impl's CollOK. -/
set_option linter.unusedSimpArgs false
set_option linter.unusedVariables false
namespace Go.Ud
open Go.Ev Go.Proofs Go.Pu
set_option maxRecDepth 100000
set_option maxHeartbeats 16000000
/-- Where the first one stands, ahead of a place that fits. -/
theorem idxP_take {α : Type} (p : α → Bool) : ∀ (l : List α) (i : Nat) (hi : i < l.length), p l[i] = true → ((idxP p l < (i : Int)) = ((l.take i).any p = true))
  | [], i, hi, _ => by simp at hi
  | x :: r, 0, hi, h => by
    simp at h
    simp [idxP, h]
  | x :: r, i + 1, hi, h => by
    have ih := idxP_take p r i (by simpa using hi) (by simpa using h)
    have hne : ¬ idxP p r < 0 := by
      rw [idxP_neg]
      have : r.any p = true := List.any_eq_true.2 ⟨r[i]'(by simpa using hi), List.getElem_mem _, by simpa using h⟩
      simp [this]
    unfold idxP
    cases hx : p x with
    | true => simp [hx]
    | false =>
      simp only [hx, Bool.false_eq_true, if_false, hne, List.take_succ_cons, List.any_cons, Bool.false_or]
      rw [← ih]
      simp
/-- Ids that rise are few. -/
theorem chains_few : ∀ (l : List Chn) (p : Option Int), chainsGo p l = true → (match p with
    | none => (l.length : Int) ≤ 20
    | some q => l ≠ [] → -1 ≤ q → (l.length : Int) ≤ 19 - q)
  | [], p, _ => by cases p <;> simp
  | c :: r, p, h => by
    simp only [chainsGo, Bool.and_eq_true] at h
    obtain ⟨⟨h1, h2⟩, h3⟩ := h
    have ih := chains_few r (some c.id) h3
    have hid : 0 ≤ c.id ∧ c.id ≤ 19 := by
      unfold chainOK in1 at h1
      simp at h1
      omega
    simp only at ih
    cases p with
    | none =>
      simp only
      by_cases hr : r = []
      · subst hr; simp
      · have := ih hr (by omega); simp; omega
    | some q =>
      simp at h2
      intro _ hq
      by_cases hr : r = []
      · subst hr; simp; omega
      · have := ih hr (by omega); simp; omega
end Go.Ud
/- spec's CollOK. -/
set_option linter.unusedSimpArgs false
set_option linter.unusedVariables false
namespace Go.Ud
open Go.Ev Go.Proofs Go.Pu
set_option maxRecDepth 100000
set_option maxHeartbeats 16000000
theorem l01In1 (a b c : Int) : run E (.call 53 [xI a, xI b, xI c]) = some (.res [xB (in1 b c a)] []) := l01In a b c
end Go.Ud
/- The laws' own functions over lists of versions, chains and definitions. -/
set_option linter.unusedSimpArgs false
set_option linter.unusedVariables false
namespace Go.Ud
open Go.Ev Go.Proofs Go.Pu
set_option maxRecDepth 100000
set_option maxHeartbeats 16000000
end Go.Ud
/- spec's CollOK: the chains, and the whole. -/
set_option linter.unusedSimpArgs false
set_option linter.unusedVariables false
namespace Go.Ud
open Go.Ev Go.Proofs Go.Pu
set_option maxRecDepth 100000
set_option maxHeartbeats 16000000
end Go.Ud
/- The last version of a document, by spec and by impl. -/
set_option linter.unusedSimpArgs false
set_option linter.unusedVariables false
namespace Go.Ud
open Go.Ev Go.Proofs Go.Pu
set_option maxRecDepth 100000
set_option maxHeartbeats 16000000
abbrev zeroV : Ver := ⟨0, false, ⟨0, 0, []⟩⟩
abbrev goneV : Ver := ⟨0, true, ⟨0, 0, []⟩⟩
def lastLe (t : Int) : Ver → List Ver → Ver
  | d, [] => d
  | d, x :: r => lastLe t (if x.at_ ≤ t then x else d) r
def findC (cs : List Chn) (id : Int) : Option Chn := cs.find? (fun x => x.id == id)
end Go.Ud
/- impl's search by halves over chains. -/
set_option linter.unusedSimpArgs false
set_option linter.unusedVariables false
namespace Go.Ud
open Go.Ev Go.Proofs Go.Pu
set_option maxRecDepth 100000
set_option maxHeartbeats 16000000
def cmpI (a b : Int) : Int := if a < b then -1 else if b < a then 1 else 0
theorem cmpI_lt (a b : Int) : (cmpI a b < 0) = (a < b) := by
  unfold cmpI
  by_cases h : a < b
  · simp [h]
  · by_cases h2 : b < a <;> simp [h, h2]
theorem cmpI_eq (a b : Int) : (cmpI a b = 0) = (a = b) := by
  unfold cmpI
  by_cases h : a < b
  · have : a ≠ b := by omega
    simp [h, this]
  · by_cases h2 : b < a
    · have : a ≠ b := by omega
      simp [h, h2, this]
    · have : a = b := by omega
      simp [h, h2, this]
theorem isNaNInt (a : Int) : run E (.call 61 [xI a]) = some (.res [xB false] []) := by
  rw [run_call E 61 _ rfl Tryd.func61 rfl rfl rfl (by simp)]
  simp
theorem compareInt (a b : Int) : run E (.call 36 [xI a, xI b]) = some (.res [xI (cmpI a b)] []) := by
  rw [run_call E 36 _ rfl Tryd.func36 rfl rfl rfl (by simp)]
  have h1 := isNaNInt a
  have h2 := isNaNInt b
  unfold cmpI
  by_cases h : a < b
  · simp [h1, h2, h]
  · by_cases h' : b < a <;> simp [h1, h2, h, h']
def seekC (fs : List Chn) (id : Int) : Nat := halves (fun k => match fs[k]? with
  | some f => decide (f.id < id)
  | none => false) (fs.length + 1) 0 fs.length
def thereC (fs : List Chn) (id : Int) : Bool := match fs[seekC fs id]? with
  | some f => f.id == id
  | none => false
theorem chains_rise : ∀ (l : List Chn) (p : Option Int), chainsGo p l = true → (∀ q, p = some q → ∀ c ∈ l, q < c.id) ∧ l.Pairwise (fun a b => a.id < b.id)
  | [], p, _ => by simp
  | c :: r, p, h => by
    simp only [chainsGo, Bool.and_eq_true] at h
    obtain ⟨⟨_, h2⟩, h3⟩ := h
    obtain ⟨i1, i2⟩ := chains_rise r _ h3
    have i1' := i1 c.id rfl
    refine ⟨?_, List.pairwise_cons.2 ⟨i1', i2⟩⟩
    rintro q rfl d hd
    simp at h2
    rcases List.mem_cons.1 hd with rfl | hd
    · omega
    · have := i1' d hd; omega
def placeC (fs : List Chn) (id : Int) : Nat := (fs.takeWhile (fun f => decide (f.id < id))).length
theorem placeC_le (fs : List Chn) (id : Int) : placeC fs id ≤ fs.length := (List.takeWhile_sublist _).length_le
theorem place_there : ∀ (l : List Chn) (id : Int), l.Pairwise (fun a b => a.id < b.id) → (match l[placeC l id]? with
    | some c => if c.id == id then some c else none
    | none => none) = findC l id
  | [], id, _ => rfl
  | x :: r, id, h => by
    obtain ⟨h1, h2⟩ := List.pairwise_cons.1 h
    have ih := place_there r id h2
    unfold placeC findC at *
    by_cases hlt : x.id < id
    · have hne : (x.id == id) = false := by simp; omega
      simp only [List.takeWhile_cons, hlt, decide_true, if_true, List.length_cons, List.getElem?_cons_succ, List.find?_cons, hne]
      exact ih
    · simp only [List.takeWhile_cons, hlt, decide_false, Bool.false_eq_true, if_false, List.length_nil, List.getElem?_cons_zero, List.find?_cons]
      by_cases he : x.id = id
      · simp [he]
      · have hne : (x.id == id) = false := by simp [he]
        simp only [hne, Bool.false_eq_true, if_false]
        symm
        rw [List.find?_eq_none]
        intro y hy
        have := h1 y hy
        simp; omega
theorem place_lt : ∀ (l : List Chn) (id : Int), l.Pairwise (fun a b => a.id < b.id) → ∀ k c, l[k]? = some c → (c.id < id ↔ k < placeC l id)
  | [], id, _, k, c, h => by simp at h
  | x :: r, id, h, k, c, hk => by
    obtain ⟨h1, h2⟩ := List.pairwise_cons.1 h
    unfold placeC
    by_cases hlt : x.id < id
    · cases k with
      | zero => simp at hk; subst hk; simp [hlt]
      | succ k =>
        have ih := place_lt r id h2 k c (by simpa using hk)
        unfold placeC at ih
        simp [hlt, ih]
    · cases k with
      | zero => simp at hk; subst hk; simp [hlt]
      | succ k =>
        have := h1 c (List.mem_of_getElem? (by simpa using hk))
        simp [hlt]; omega
theorem seekC_eq (l : List Chn) (id : Int) (h : l.Pairwise (fun a b => a.id < b.id)) : seekC l id = placeC l id := by
  unfold seekC
  refine halves_ok (p := placeC l id) (m := l.length) ?_ ?_ _ _ _ (Nat.zero_le _) (placeC_le l id) (Nat.le_refl _) (by omega)
  · intro k hk
    have hlt : k < l.length := Nat.lt_of_lt_of_le hk (placeC_le l id)
    have hg : l[k]? = some l[k] := List.getElem?_eq_getElem hlt
    simp only [hg]
    exact decide_eq_true ((place_lt l id h k _ hg).2 hk)
  · intro k hk hkl
    have hg : l[k]? = some l[k] := List.getElem?_eq_getElem hkl
    simp only [hg]
    refine decide_eq_false fun hb => ?_
    have := (place_lt l id h k _ hg).1 hb
    omega
/-- What a search by halves finds is what a plain search finds. -/
theorem seek_find (l : List Chn) (id : Int) (h : l.Pairwise (fun a b => a.id < b.id)) : (thereC l id = true → l[seekC l id]? = findC l id ∧ seekC l id < l.length) ∧ (thereC l id = false → findC l id = none) := by
  have hp := place_there l id h
  unfold thereC
  rw [seekC_eq l id h]
  cases hg : l[placeC l id]? with
  | none => rw [hg] at hp; simp at hp; simp [← hp]
  | some c =>
    rw [hg] at hp
    simp only at hp
    by_cases he : c.id = id
    · simp [he] at hp
      have := (List.getElem?_eq_some_iff.1 hg).1
      simp [he, ← hp, this]
    · simp [he] at hp
      simp [he, ← hp]
end Go.Ud
/- Orders of lists: slices.CompareFunc, cmp.Or. -/
set_option linter.unusedSimpArgs false
set_option linter.unusedVariables false
namespace Go.Ud
open Go.Ev Go.Proofs Go.Pu
set_option maxRecDepth 100000
set_option maxHeartbeats 16000000
/-- Lists in order, item by item. -/
def ordL {α : Type} (f : α → α → Int) : List α → List α → Int
  | [], [] => 0
  | [], _ :: _ => -1
  | _ :: _, [] => 1
  | x :: xs, y :: ys => if f x y = 0 then ordL f xs ys else f x y
/-- The first list is gone through with nothing told apart. -/
def thru {α : Type} (f : α → α → Int) : List α → List α → Bool
  | [], _ => true
  | _ :: _, [] => false
  | x :: xs, y :: ys => decide (f x y = 0) && thru f xs ys
theorem thru_ord {α : Type} {f : α → α → Int} : ∀ {xs ys : List α}, thru f xs ys = true → ordL f xs ys = if xs.length < ys.length then -1 else 0
  | [], [], _ => by simp [ordL]
  | [], _ :: _, _ => by simp [ordL]
  | _ :: _, [], h => by simp [thru] at h
  | x :: xs, y :: ys, h => by
    simp [thru] at h
    have := thru_ord h.2
    simp [ordL, h.1, this]
def orI (a b : Int) : Int := if a = 0 then b else a
theorem cmpOr (a b : Int) : run E (.call 35 [.t (.list [.int .i64 a, .int .i64 b])]) = some (.res [xI (orI a b)] []) := by
  rw [run_call E 35 _ rfl Tryd.func35 rfl rfl rfl (by simp)]
  have lp := sk (fun s o q hI => loop_for (c := loopAt Tryd.f35 0) (N := 18)
    (fun i s o q => s 3 = .t (.int .i64 0) ∧ s 6 = .t (.list [.int .i64 a, .int .i64 b]) ∧ s 7 = .t (.int .i64 2) ∧ s 8 = .t (.int .i64 i) ∧ (i = 1 → a = 0) ∧ (i = 2 → a = 0 ∧ b = 0))
    (fun e s' o' q' => e = (if orI a b = 0 then .exit 0 else .ret) ∧ s' 3 = .t (.int .i64 0) ∧ (¬ orI a b = 0 → s' 2 = .t (.int .i64 (orI a b)))) 2
    (by
      rintro i s o q hi ⟨h3, h6, h7, h8, hp, hp2⟩
      have hw := wrap_succ (n := i) (by omega)
      match i, hi with
      | 0, _ =>
        by_cases ha : a = 0
        · subst ha
          simp [loopAt, loopsOf, Tryd.f35, h3, h6, h7, h8]
        · have hb : orI a b = a := by simp [orI, ha]
          simp [loopAt, loopsOf, Tryd.f35, h3, h6, h7, h8, ha, hb]
      | 1, _ =>
        have ha := hp rfl
        subst ha
        have hb : orI 0 b = b := by simp [orI]
        simp at hw
        by_cases h : b = 0
        · subst h
          simp [loopAt, loopsOf, Tryd.f35, h3, h6, h7, h8, hw]
        · simp [loopAt, loopsOf, Tryd.f35, h3, h6, h7, h8, hb, h, hw])
    (by
      rintro s o q ⟨h3, h6, h7, h8, hp, hp2⟩
      obtain ⟨ha, hb⟩ := hp2 rfl
      subst ha hb
      simp [loopAt, loopsOf, Tryd.f35, h3, h6, h7, h8, orI])
    2 0 s o q (by omega) hI)
  simp only [loopAt, loopsOf, Tryd.f35] at lp
  obtain ⟨X, A, B, C, hx⟩ := lp
  generalize orI a b = r at *
  by_cases h : r = 0
  · subst h
    simp at hx
    simp [hx]
  · simp [h] at hx
    simp [hx]
theorem compareFunc_195 (xs ys : List Val) (g : Nat) (f : Val → Val → Int) (hl : xs.length < 4294967296) (hl2 : ys.length < 4294967296) (hm : E.md g = []) (hf : E.flat g = true) (hp : ∀ x ∈ xs, ∀ y ∈ ys, run E (.call g [.t (valT x), .t (valT y)]) = some (.res [xI (f x y)] [])) :
    run E (.call 38 [.t (.list (xs.map valT)), .t (.list (ys.map valT)), .fn g []]) = some (.res [xI (ordL f xs ys)] []) := by
  rw [run_call E 38 _ rfl Tryd.func38 rfl rfl rfl (by simp)]
  rw [E_md] at hm
  have lp := fun (r : Int) (w : Bool) (hr : r = ordL f xs ys) (hw : w = thru f xs ys) => sk (fun s o q hI => loop_for (c := loopAt Tryd.f38 0) (N := 39)
    (fun i s o q => s 0 = .t (.list (xs.map valT)) ∧ s 1 = .t (.list (ys.map valT)) ∧ s 2 = .fn g [] ∧ s 11 = .t (.list (xs.map valT)) ∧ s 12 = .t (.int .i64 xs.length) ∧ s 13 = .t (.int .i64 i) ∧ i ≤ ys.length ∧ r = ordL f (xs.drop i) (ys.drop i) ∧ w = thru f (xs.drop i) (ys.drop i))
    (fun e s' o' q' => e = (if w then .exit 0 else .ret) ∧ s' 0 = .t (.list (xs.map valT)) ∧ s' 1 = .t (.list (ys.map valT)) ∧ (w = false → s' 6 = .t (.int .i64 r))) xs.length
    (by
      rintro i s o q hi ⟨h0, h1, h2, h11, h12, h13, hiy, hr, hwr⟩
      have hi' : (i : Int) < (xs.length : Int) := by omega
      have hw := wrap_succ (n := i) (by omega)
      have hxi : xs[i]? = some xs[i] := List.getElem?_eq_getElem hi
      have hqq : q ≠ q + 1 := by omega
      have hqq2 : q + 1 ≠ q := by omega
      rw [List.drop_eq_getElem_cons hi] at hr hwr
      by_cases hy : i < ys.length
      · have hy' : ¬ (ys.length : Int) ≤ (i : Int) := by omega
        have hyi : ys[i]? = some ys[i] := List.getElem?_eq_getElem hy
        have hx := hp xs[i] (List.getElem_mem hi) ys[i] (List.getElem_mem hy)
        rw [List.drop_eq_getElem_cons hy] at hr hwr
        rw [ordL] at hr
        rw [thru] at hwr
        by_cases hz : f xs[i] ys[i] = 0
        · rw [hz] at hx
          simp [hz] at hr hwr
          simp [-mdOf, loopAt, loopsOf, Tryd.f38, h0, h1, h2, h11, h12, h13, hi', hxi, hyi, hx, hw, hm, hf, hy, hy', hqq, hqq2]
          exact ⟨by omega, hr, hwr⟩
        · simp [hz] at hr hwr
          simp [-mdOf, loopAt, loopsOf, Tryd.f38, h0, h1, h2, h11, h12, h13, hi', hxi, hyi, hx, hw, hm, hf, hy, hy', hqq, hqq2, hz, hr, hwr]
      · have hy' : (ys.length : Int) ≤ (i : Int) := by omega
        have he : ys.drop i = [] := List.drop_eq_nil_of_le (by omega)
        rw [he] at hr hwr
        rw [ordL] at hr
        rw [thru] at hwr
        simp [-mdOf, loopAt, loopsOf, Tryd.f38, h0, h1, h2, h11, h12, h13, hi', hxi, hw, hm, hf, hy, hy', hqq, hqq2, hr, hwr])
    (by
      rintro s o q ⟨h0, h1, h2, h11, h12, h13, hiy, hr, hwr⟩
      rw [List.drop_length, thru] at hwr
      simp [loopAt, loopsOf, Tryd.f38, h0, h1, h2, h11, h12, h13, hwr])
    xs.length 0 s o q (by omega) hI)
  simp only [loopAt, loopsOf, Tryd.f38] at lp
  obtain ⟨w, hw⟩ : ∃ w, w = thru f xs ys := ⟨_, rfl⟩
  obtain ⟨r, hr⟩ : ∃ r, r = ordL f xs ys := ⟨_, rfl⟩
  obtain ⟨X, A, B, C, hx⟩ := lp r w hr hw
  have hx' := fun s o q a0 a1 a2 a11 a12 a13 => hx s o q ⟨a0, a1, a2, a11, a12, a13, Nat.zero_le _, by simpa using hr, by simpa using hw⟩
  clear hx lp
  rw [← hr]
  cases w with
  | true =>
    have ho := thru_ord hw.symm
    rw [← hr] at ho
    have hlt : ((xs.length : Int) < (ys.length : Int)) = (xs.length < ys.length) := by simp
    by_cases h : xs.length < ys.length
    · simp [h] at ho
      simp at hx'
      simp [hx', h, ho]
    · simp [h] at ho
      simp at hx'
      simp [hx', h, ho]
  | false =>
    simp at hx'
    simp [hx']
theorem compareFunc_196 (xs ys : List Fld) (g : Nat) (f : Fld → Fld → Int) (hl : xs.length < 4294967296) (hl2 : ys.length < 4294967296) (hm : E.md g = []) (hf : E.flat g = true) (hp : ∀ x ∈ xs, ∀ y ∈ ys, run E (.call g [.t (fldT x), .t (fldT y)]) = some (.res [xI (f x y)] [])) :
    run E (.call 40 [.t (.list (xs.map fldT)), .t (.list (ys.map fldT)), .fn g []]) = some (.res [xI (ordL f xs ys)] []) := by
  rw [run_call E 40 _ rfl Tryd.func40 rfl rfl rfl (by simp)]
  rw [E_md] at hm
  have lp := fun (r : Int) (w : Bool) (hr : r = ordL f xs ys) (hw : w = thru f xs ys) => sk (fun s o q hI => loop_for (c := loopAt Tryd.f40 0) (N := 39)
    (fun i s o q => s 0 = .t (.list (xs.map fldT)) ∧ s 1 = .t (.list (ys.map fldT)) ∧ s 2 = .fn g [] ∧ s 11 = .t (.list (xs.map fldT)) ∧ s 12 = .t (.int .i64 xs.length) ∧ s 13 = .t (.int .i64 i) ∧ i ≤ ys.length ∧ r = ordL f (xs.drop i) (ys.drop i) ∧ w = thru f (xs.drop i) (ys.drop i))
    (fun e s' o' q' => e = (if w then .exit 0 else .ret) ∧ s' 0 = .t (.list (xs.map fldT)) ∧ s' 1 = .t (.list (ys.map fldT)) ∧ (w = false → s' 6 = .t (.int .i64 r))) xs.length
    (by
      rintro i s o q hi ⟨h0, h1, h2, h11, h12, h13, hiy, hr, hwr⟩
      have hi' : (i : Int) < (xs.length : Int) := by omega
      have hw := wrap_succ (n := i) (by omega)
      have hxi : xs[i]? = some xs[i] := List.getElem?_eq_getElem hi
      have hqq : q ≠ q + 1 := by omega
      have hqq2 : q + 1 ≠ q := by omega
      rw [List.drop_eq_getElem_cons hi] at hr hwr
      by_cases hy : i < ys.length
      · have hy' : ¬ (ys.length : Int) ≤ (i : Int) := by omega
        have hyi : ys[i]? = some ys[i] := List.getElem?_eq_getElem hy
        have hx := hp xs[i] (List.getElem_mem hi) ys[i] (List.getElem_mem hy)
        rw [List.drop_eq_getElem_cons hy] at hr hwr
        rw [ordL] at hr
        rw [thru] at hwr
        by_cases hz : f xs[i] ys[i] = 0
        · rw [hz] at hx
          simp [hz] at hr hwr
          simp [-mdOf, loopAt, loopsOf, Tryd.f40, h0, h1, h2, h11, h12, h13, hi', hxi, hyi, hx, hw, hm, hf, hy, hy', hqq, hqq2]
          exact ⟨by omega, hr, hwr⟩
        · simp [hz] at hr hwr
          simp [-mdOf, loopAt, loopsOf, Tryd.f40, h0, h1, h2, h11, h12, h13, hi', hxi, hyi, hx, hw, hm, hf, hy, hy', hqq, hqq2, hz, hr, hwr]
      · have hy' : (ys.length : Int) ≤ (i : Int) := by omega
        have he : ys.drop i = [] := List.drop_eq_nil_of_le (by omega)
        rw [he] at hr hwr
        rw [ordL] at hr
        rw [thru] at hwr
        simp [-mdOf, loopAt, loopsOf, Tryd.f40, h0, h1, h2, h11, h12, h13, hi', hxi, hw, hm, hf, hy, hy', hqq, hqq2, hr, hwr])
    (by
      rintro s o q ⟨h0, h1, h2, h11, h12, h13, hiy, hr, hwr⟩
      rw [List.drop_length, thru] at hwr
      simp [loopAt, loopsOf, Tryd.f40, h0, h1, h2, h11, h12, h13, hwr])
    xs.length 0 s o q (by omega) hI)
  simp only [loopAt, loopsOf, Tryd.f40] at lp
  obtain ⟨w, hw⟩ : ∃ w, w = thru f xs ys := ⟨_, rfl⟩
  obtain ⟨r, hr⟩ : ∃ r, r = ordL f xs ys := ⟨_, rfl⟩
  obtain ⟨X, A, B, C, hx⟩ := lp r w hr hw
  have hx' := fun s o q a0 a1 a2 a11 a12 a13 => hx s o q ⟨a0, a1, a2, a11, a12, a13, Nat.zero_le _, by simpa using hr, by simpa using hw⟩
  clear hx lp
  rw [← hr]
  cases w with
  | true =>
    have ho := thru_ord hw.symm
    rw [← hr] at ho
    have hlt : ((xs.length : Int) < (ys.length : Int)) = (xs.length < ys.length) := by simp
    by_cases h : xs.length < ys.length
    · simp [h] at ho
      simp at hx'
      simp [hx', h, ho]
    · simp [h] at ho
      simp at hx'
      simp [hx', h, ho]
  | false =>
    simp at hx'
    simp [hx']
end Go.Ud
/- impl's order of values. -/
set_option linter.unusedSimpArgs false
set_option linter.unusedVariables false
namespace Go.Ud
open Go.Ev Go.Proofs Go.Pu
set_option maxRecDepth 100000
set_option maxHeartbeats 16000000
/-- Values in order. -/
def ordD : Nat → Val → Val → Int
  | d, a, b =>
    if orI (cmpI a.k b.k) (cmpI a.n b.n) = 0 then
      (if a.k = 4 then (match d with
        | 0 => 0
        | d + 1 => ordL (ordD d) (itemsL a.t) (itemsL b.t))
      else if a.k = 5 then (match d with
        | 0 => 0
        | d + 1 => ordL (fun f g => orI (Lib.compareBytes f.name g.name) (ordD d f.v g.v)) (fieldsL a.t) (fieldsL b.t))
      else Lib.compareBytes a.t b.t)
    else orI (cmpI a.k b.k) (cmpI a.n b.n)
theorem orI_zero {a b : Int} (h : orI a b = 0) : a = 0 ∧ b = 0 := by
  unfold orI at h
  split at h
  · exact ⟨by assumption, h⟩
  · contradiction
theorem orderFields (f g : Fld) (n : Int) (h : run E (.call 17 [xV f.v, xV g.v]) = some (.res [xI n] [])) : run E (.call 41 [.t (fldT f), .t (fldT g)]) = some (.res [xI (orI (Lib.compareBytes f.name g.name) n)] []) := by
  rw [run_call E 41 _ rfl Tryd.func41 rfl rfl rfl (by simp)]
  have d1 := d41_1
  simp [regionOf, findR, pick, Tryd.f41] at d1
  have dd := fun st => run_region_draw E st 1 _ d1
  clear d1
  have hr2 : List.range 2 = [0, 1] := rfl
  simp [dd, compare f.name g.name, h, cmpOr, hr2]
theorem implOrder : ∀ (d : Nat) (a b : Val), okP d a = true → okP d b = true → a.t.length < 4294967296 → b.t.length < 4294967296 → run E (.call 17 [xV a, xV b]) = some (.res [xI (ordD d a b)] []) := by
  intro d
  induction d with
  | zero =>
    intro a b ha hb hal hbl
    rw [run_call E 17 _ rfl Tryd.func17 rfl rfl rfl (by simp)]
    have d1 := d17_1
    simp [regionOf, findR, pick, Tryd.f17] at d1
    have dd := fun st => run_region_draw E st 1 _ d1
    clear d1
    have hr2 : List.range 2 = [0, 1] := rfl
    have e4 : (a.k = 4) = False := by
      simp; intro h; obtain ⟨e, _, hd, _⟩ := okP_list ha h; omega
    have e5 : (a.k = 5) = False := by
      simp; intro h; obtain ⟨e, _, hd, _⟩ := okP_doc ha h; omega
    have c1 := compareInt a.k b.k
    have c2 := compareInt a.n b.n
    have c3 := cmpOr (cmpI a.k b.k) (cmpI a.n b.n)
    have c4 := compare a.t b.t
    unfold ordD
    generalize orI (cmpI a.k b.k) (cmpI a.n b.n) = z at *
    by_cases hz : z = 0
    · subst hz
      simp [dd, hr2, c1, c2, c3, c4, e4, e5]
    · simp [dd, hr2, c1, c2, c3, c4, e4, e5, hz]
  | succ d ih =>
    intro a b ha hb hal hbl
    rw [run_call E 17 _ rfl Tryd.func17 rfl rfl rfl (by simp)]
    have d1 := d17_1
    simp [regionOf, findR, pick, Tryd.f17] at d1
    have dd := fun st => run_region_draw E st 1 _ d1
    clear d1
    have hr2 : List.range 2 = [0, 1] := rfl
    have c1 := compareInt a.k b.k
    have c2 := compareInt a.n b.n
    have c3 := cmpOr (cmpI a.k b.k) (cmpI a.n b.n)
    have c4 := compare a.t b.t
    have hkk : orI (cmpI a.k b.k) (cmpI a.n b.n) = 0 → b.k = a.k := by
      intro h
      have := (orI_zero h).1
      rw [cmpI_eq] at this
      exact this.symm
    unfold ordD
    generalize orI (cmpI a.k b.k) (cmpI a.n b.n) = z at *
    by_cases hz : z = 0
    · subst hz
      have hk := hkk rfl
      clear hkk
      by_cases h4 : a.k = 4
      · obtain ⟨e, xs, hd, _, hi, hx⟩ := okP_list ha h4
        obtain ⟨e', ys, hd', _, hi', hy⟩ := okP_list hb (by omega)
        obtain rfl : d = e := by omega
        obtain rfl : d = e' := by omega
        obtain ⟨s1, s2⟩ := items_small hi
        obtain ⟨t1, t2⟩ := items_small hi'
        have i1 := implItems a hal
        have i2 := implItems b hbl
        rw [itemsI_some hi] at i1
        rw [itemsI_some hi'] at i2
        have hc := compareFunc_195 xs ys 17 (ordD d) (by omega) (by omega) (by simp) (by simp) (fun x hx' y hy' => ih x y (hx x hx') (hy y hy') (by have := s2 x hx'; omega) (by have := t2 y hy'; omega))
        have e4 : (a.k = 4) = True := eq_true h4
        have eL : itemsL a.t = xs := by simp [itemsL, hi]
        have eL' : itemsL b.t = ys := by simp [itemsL, hi']
        clear h4
        simp at i1 i2
        simp [dd, hr2, c1, c2, c3, c4, e4, i1, i2, hc, eL, eL']
      · have e4 : (a.k = 4) = False := eq_false h4
        by_cases h5 : a.k = 5
        · obtain ⟨e, xs, hd, _, hi, _, hx⟩ := okP_doc ha h5
          obtain ⟨e', ys, hd', _, hi', _, hy⟩ := okP_doc hb (by omega)
          obtain rfl : d = e := by omega
          obtain rfl : d = e' := by omega
          obtain ⟨s1, s2⟩ := fields_small hi
          obtain ⟨t1, t2⟩ := fields_small hi'
          have i1 := implFields a hal
          have i2 := implFields b hbl
          rw [fieldsI_some hi] at i1
          rw [fieldsI_some hi'] at i2
          have hc := compareFunc_196 xs ys 41 (fun f g => orI (Lib.compareBytes f.name g.name) (ordD d f.v g.v)) (by omega) (by omega) (by simp) (by simp) (fun x hx' y hy' => orderFields x y _ (ih x.v y.v (hx x hx').2 (hy y hy').2 (by have := s2 x hx'; omega) (by have := t2 y hy'; omega)))
          have e5 : (a.k = 5) = True := eq_true h5
          have eL : fieldsL a.t = xs := by simp [fieldsL, hi]
          have eL' : fieldsL b.t = ys := by simp [fieldsL, hi']
          clear h5
          simp at i1 i2
          simp [dd, hr2, c1, c2, c3, c4, e4, e5, i1, i2, hc, eL, eL']
        · have e5 : (a.k = 5) = False := eq_false h5
          simp [dd, hr2, c1, c2, c3, c4, e4, e5]
    · simp [dd, hr2, c1, c2, c3, c4, hz]
end Go.Ud
/- spec's order of values. -/
set_option linter.unusedSimpArgs false
set_option linter.unusedVariables false
namespace Go.Ud
open Go.Ev Go.Proofs Go.Pu
set_option maxRecDepth 100000
set_option maxHeartbeats 16000000
theorem ordL_zero {α : Type} {f : α → α → Int} : ∀ {xs ys : List α}, (∀ x ∈ xs, ∀ y ∈ ys, f x y = 0 → x = y) → ordL f xs ys = 0 → xs = ys
  | [], [], _, _ => rfl
  | [], _ :: _, _, h => by simp [ordL] at h
  | _ :: _, [], _, h => by simp [ordL] at h
  | x :: xs, y :: ys, hf, h => by
    unfold ordL at h
    split at h
    · rename_i hz
      rw [hf x (by simp) y (by simp) hz, ordL_zero (fun a ha b hb => hf a (by simp [ha]) b (by simp [hb])) h]
    · contradiction
theorem ordL_refl {α : Type} {f : α → α → Int} : ∀ {xs : List α}, (∀ x ∈ xs, f x x = 0) → ordL f xs xs = 0
  | [], _ => rfl
  | x :: xs, h => by
    unfold ordL
    rw [if_pos (h x (by simp))]
    exact ordL_refl (fun y hy => h y (by simp [hy]))
theorem val_eq {a b : Val} (h1 : a.k = b.k) (h2 : a.n = b.n) (h3 : a.t = b.t) : a = b := by
  cases a; cases b; simp_all
theorem fld_eq {a b : Fld} (h1 : a.name = b.name) (h2 : a.v = b.v) : a = b := by
  cases a; cases b; simp_all
theorem ordD_zero : ∀ (d : Nat) (a b : Val), okP d a = true → okP d b = true → ordD d a b = 0 → a = b := by
  intro d
  induction d with
  | zero =>
    intro a b ha hb h
    unfold ordD at h
    split at h
    · rename_i hz
      obtain ⟨h1, h2⟩ := orI_zero hz
      rw [cmpI_eq] at h1 h2
      refine val_eq h1 h2 ?_
      split at h
      · rename_i h4; obtain ⟨e, _, hd, _⟩ := okP_list ha h4; omega
      · split at h
        · rename_i h5; obtain ⟨e, _, hd, _⟩ := okP_doc ha h5; omega
        · rwa [compareBytes_eq] at h
    · contradiction
  | succ d ih =>
    intro a b ha hb h
    unfold ordD at h
    split at h
    · rename_i hz
      obtain ⟨h1, h2⟩ := orI_zero hz
      rw [cmpI_eq] at h1 h2
      refine val_eq h1 h2 ?_
      split at h
      · rename_i h4
        obtain ⟨e, xs, hd, _, hi, hx⟩ := okP_list ha h4
        obtain ⟨e', ys, hd', _, hi', hy⟩ := okP_list hb (by omega)
        obtain rfl : d = e := by omega
        obtain rfl : d = e' := by omega
        simp [itemsL, hi, hi'] at h
        have := ordL_zero (fun x hx' y hy' hz => ih x y (hx x hx') (hy y hy') hz) h
        subst this
        exact items_inj hi hi'
      · split at h
        · rename_i h5
          obtain ⟨e, xs, hd, _, hi, _, hx⟩ := okP_doc ha h5
          obtain ⟨e', ys, hd', _, hi', _, hy⟩ := okP_doc hb (by omega)
          obtain rfl : d = e := by omega
          obtain rfl : d = e' := by omega
          simp [fieldsL, hi, hi'] at h
          have := ordL_zero (fun x hx' y hy' hz => by
            obtain ⟨z1, z2⟩ := orI_zero hz
            rw [compareBytes_eq] at z1
            exact fld_eq z1 (ih x.v y.v (hx x hx').2 (hy y hy').2 z2)) h
          subst this
          exact fields_inj hi hi'
        · rwa [compareBytes_eq] at h
    · contradiction
theorem cmpI_refl (a : Int) : cmpI a a = 0 := by simp [cmpI]
theorem cmpB_refl (a : Bytes) : Lib.compareBytes a a = 0 := by rw [compareBytes_eq]
theorem ordD_refl : ∀ (d : Nat) (a : Val), okP d a = true → ordD d a a = 0 := by
  intro d
  induction d with
  | zero =>
    intro a ha
    unfold ordD
    simp [cmpI_refl, orI, cmpB_refl]
  | succ d ih =>
    intro a ha
    unfold ordD
    simp only [cmpI_refl, orI, if_true]
    by_cases h4 : a.k = 4
    · obtain ⟨e, xs, hd, _, hi, hx⟩ := okP_list ha h4
      obtain rfl : d = e := by omega
      simp [h4, itemsL, hi]
      exact ordL_refl (fun x hx' => ih x (hx x hx'))
    · by_cases h5 : a.k = 5
      · obtain ⟨e, xs, hd, _, hi, _, hx⟩ := okP_doc ha h5
        obtain rfl : d = e := by omega
        simp [h5, fieldsL, hi]
        exact ordL_refl (fun x hx' => by simp [cmpB_refl, ih x.v (hx x hx').2])
      · simp [h4, h5, cmpB_refl]
end Go.Ud
/- spec's order of values is impl's. -/
set_option linter.unusedSimpArgs false
set_option linter.unusedVariables false
namespace Go.Ud
open Go.Ev Go.Proofs Go.Pu
set_option maxRecDepth 100000
set_option maxHeartbeats 16000000
theorem cmpB_sign : ∀ (a b : Bytes), a ≠ b → Lib.compareBytes a b = if Op.bytesLess a b = true then -1 else 1
  | [], [], h => absurd rfl h
  | [], _ :: _, _ => by simp [Lib.compareBytes, Op.bytesLess]
  | _ :: _, [], _ => by simp [Lib.compareBytes, Op.bytesLess]
  | x :: a, y :: b, h => by
    unfold Lib.compareBytes Op.bytesLess
    by_cases h1 : x < y
    · simp [h1]
    · by_cases h2 : y < x
      · have : ¬ x = y := fun e => by subst e; exact absurd h2 (UInt8.lt_irrefl x)
        simp [h1, h2, this]
      · have e : x = y := UInt8.le_antisymm (UInt8.not_lt.1 h2) (UInt8.not_lt.1 h1)
        subst e
        have hab : a ≠ b := fun e => h (by rw [e])
        simp [h1, cmpB_sign a b hab]
/-- One of the two is gone through with nothing told apart. -/
def cutB {α : Type} (f : α → α → Int) : List α → List α → Bool
  | [], _ => true
  | _ :: _, [] => true
  | x :: xs, y :: ys => decide (f x y = 0) && cutB f xs ys
theorem cutB_ord {α : Type} {f : α → α → Int} : ∀ {xs ys : List α}, cutB f xs ys = true → ordL f xs ys = if xs.length < ys.length then -1 else if ys.length < xs.length then 1 else 0
  | [], [], _ => by simp [ordL]
  | [], _ :: _, _ => by simp [ordL]
  | _ :: _, [], h => by simp [ordL]
  | x :: xs, y :: ys, h => by
    simp [cutB] at h
    have := cutB_ord h.2
    simp [ordL, h.1, this]
theorem specItems_loop (d : Nat) (xs ys : List Val) (hl : xs.length < 4294967296) (hl2 : ys.length < 4294967296) (hp : ∀ x ∈ xs, ∀ y ∈ ys, run E (.call 19 [xV x, xV y]) = some (.res [xI (ordD d x y)] []))
    (r : Int) (w : Bool) (hr : r = ordL (ordD d) xs ys) (hw : w = cutB (ordD d) xs ys) : ∀ s o q, (s 5 = .row 2 ∧ s 7 = .row 3 ∧ s 9 = .t (.int .i64 0) ∧ o 2 = .row 26 (xs.map valT) true ∧ o 3 = .row 26 (ys.map valT) true) →
    ∃ e s' o' q', run E (.code (.loop (loopAt Tryd.f19 0)) ⟨s, o, q, 182⟩) = some (.st e ⟨s', o', q', 182⟩) ∧ e = (if w then .exit 1 else .ret) ∧ s' 5 = .row 2 ∧ s' 7 = .row 3 ∧ o' 2 = .row 26 (xs.map valT) true ∧ o' 3 = .row 26 (ys.map valT) true ∧ (w = false → s' 4 = .t (.int .i64 r)) := by
  intro s o q hI
  have d15 := d19_15
  simp [regionOf, findR, pick, Tryd.f19] at d15
  have dd := fun st => run_region_draw E st 15 _ d15
  clear d15
  refine loop_wf (c := loopAt Tryd.f19 0) (N := 182)
    (fun k s o q => ∃ i : Nat, k = xs.length - i ∧ s 5 = .row 2 ∧ s 7 = .row 3 ∧ s 9 = .t (.int .i64 i) ∧ o 2 = .row 26 (xs.map valT) true ∧ o 3 = .row 26 (ys.map valT) true ∧ i ≤ xs.length ∧ i ≤ ys.length ∧ r = ordL (ordD d) (xs.drop i) (ys.drop i) ∧ w = cutB (ordD d) (xs.drop i) (ys.drop i))
    (fun e s' o' q' => e = (if w then .exit 1 else .ret) ∧ s' 5 = .row 2 ∧ s' 7 = .row 3 ∧ o' 2 = .row 26 (xs.map valT) true ∧ o' 3 = .row 26 (ys.map valT) true ∧ (w = false → s' 4 = .t (.int .i64 r)))
    ?_ xs.length s o q ⟨0, by omega, hI.1, hI.2.1, hI.2.2.1, hI.2.2.2.1, hI.2.2.2.2, Nat.zero_le _, Nat.zero_le _, by simpa using hr, by simpa using hw⟩
  rintro k s o q ⟨i, hk, h5, h7, h9, ho, ho2, hix, hiy, hr, hwr⟩
  have hwi := wrap_succ (n := i) (by omega)
  by_cases hx : i < xs.length
  · have hx' : (i : Int) < (xs.length : Int) := by omega
    have hxi : xs[i]? = some xs[i] := List.getElem?_eq_getElem hx
    rw [List.drop_eq_getElem_cons hx] at hr hwr
    by_cases hy : i < ys.length
    · have hy' : (i : Int) < (ys.length : Int) := by omega
      have hyi : ys[i]? = some ys[i] := List.getElem?_eq_getElem hy
      have hc := hp xs[i] (List.getElem_mem hx) ys[i] (List.getElem_mem hy)
      rw [List.drop_eq_getElem_cons hy] at hr hwr
      rw [ordL] at hr
      rw [cutB] at hwr
      by_cases hz : ordD d xs[i] ys[i] = 0
      · rw [hz] at hc
        simp [hz] at hr hwr
        simp [loopAt, loopsOf, Tryd.f19, dd, h5, h7, h9, ho, ho2, hx, hy, hx', hy', hxi, hyi, hc, hwi]
        exact ⟨xs.length - (i + 1), by omega, i + 1, rfl, by simp, by omega, by omega, hr, hwr⟩
      · simp [hz] at hr hwr
        simp [loopAt, loopsOf, Tryd.f19, dd, h5, h7, h9, ho, ho2, hx, hy, hx', hy', hxi, hyi, hc, hwi, hz, hr, hwr]
    · have hy' : ¬ (i : Int) < (ys.length : Int) := by omega
      have he : ys.drop i = [] := List.drop_eq_nil_of_le (by omega)
      rw [he, cutB] at hwr
      simp [loopAt, loopsOf, Tryd.f19, dd, h5, h7, h9, ho, ho2, hx, hy, hx', hy', hxi, hwi, hwr]
  · have hx' : ¬ (i : Int) < (xs.length : Int) := by omega
    have he : xs.drop i = [] := List.drop_eq_nil_of_le (by omega)
    rw [he, cutB] at hwr
    simp [loopAt, loopsOf, Tryd.f19, dd, h5, h7, h9, ho, ho2, hx, hx', hwi, hwr]
end Go.Ud
