/- spec's values: l01Of, l01Next. -/
import Derived.Test.YtjbeigebbnonoaaGreatDoorPartQF
import Derived.Shelf.Small.Strs
import Derived.Shelf.Strings.Repeat
import Derived.Test.YtjbeigebbnonoaaGreatDoorProg
import Derived.Test.YtjbeigebbnonoaaGreatDoorPartQE
import Derived.Below
import Derived.Shelf.SlicesE.Clone
namespace Go.Md
open Go.Ev Go.Proofs Go.Pu
set_option linter.unusedSimpArgs false
set_option linter.unusedVariables false
set_option maxRecDepth 100000
set_option maxHeartbeats 8000000
theorem l01Of_loop (t : List UInt8) (ht : t.length < 9223372036854775807) (o : Nat → Ob) (q : Nat) : ∀ (k i : Nat) (n : Int) (s : Nat → SV), i + k = t.length → s 0 = .t (.str t) → s 4 = .t (.int .i64 i) → s 3 = .t (.int .i64 n) →
    ∃ s', run E (.code (.loop (loopAt Tryz.f301 0)) ⟨s, o, q, 19⟩) = some (.st (.exit 0) ⟨s', o, q, 19⟩) ∧ s' 3 = .t (.int .i64 (ofBytes n (t.drop i)))
  | 0, i, n, s, hk, h0, h4, h3 => by
    have hi : ¬ ((i : Int) < (t.length : Int)) := by omega
    rw [run_loop]
    have hd : t.drop i = [] := by simp; omega
    simp [loopAt, loopsOf, Tryz.f301, h0, h4, h3, hi, hd, ofBytes]
  | k + 1, i, n, s, hk, h0, h4, h3 => by
    have hi : ((i : Int) < (t.length : Int)) := by omega
    have hil : i < t.length := by omega
    have hd : t.drop i = t[i] :: t.drop (i + 1) := by rw [List.drop_eq_getElem_cons hil]
    have hb := t[i].toNat_lt
    have hw : IntKind.i64.wrap (t[i].toNat : Int) = t[i].toNat := wrap_of (by omega) (by omega)
    have hw2 : IntKind.i64.wrap ((i : Int) + 1) = ((i + 1 : Nat) : Int) := by rw [wrap_of (by omega) (by omega)]; rfl
    have ih := l01Of_loop t ht o q k (i + 1) (IntKind.i64.wrap (IntKind.i64.wrap (n * 256) + t[i].toNat))
    rw [run_loop]
    simp [loopAt, loopsOf, Tryz.f301] at ih
    simp [loopAt, loopsOf, Tryz.f301, h0, h4, h3, hi, hil, hw, hw2]
    rw [hd, ofBytes]
    refine ih _ (by omega) ?_ ?_ ?_ <;> simp [h0]
theorem l01Of (t : List UInt8) (ht : t.length < 9223372036854775807) : run E (.call 301 [.t (.str t)]) = some (.res [.t (.int .i64 (ofBytes 0 t))] []) := by
  rw [run_call E 301 _ rfl Tryz.func301 rfl rfl rfl (by simp)]
  have hl := l01Of_loop t ht (fun _ => .dead) 0 t.length 0 0
  simp [loopAt, loopsOf, Tryz.f301] at hl
  simp
  obtain ⟨s', h1, h2⟩ := hl (upd (upd (upd (fun i => [SV.t (T.str t)][i]?.getD SV.undef) 2 (SV.t (T.int IntKind.i64 0))) 3 (SV.t (T.int IntKind.i64 0))) 4 (SV.t (T.int IntKind.i64 0))) (by simp) (by simp) (by simp)
  simp [h1, h2]
theorem l01Next_null (b : UInt8) (r : List UInt8) (hb : b.toNat = 0) : run E (.call 278 [.t (.str (b :: r))]) = some (.res [valX ⟨0, 0, []⟩, .t (.str r), .t (.bool true)] []) := by
  rw [run_call E 278 _ rfl Tryz.func278 rfl rfl rfl (by simp)]
  have d := d278_8
  simp [regionOf, findR, pick, Tryz.f278] at d
  have dd := fun st => run_region_draw E st 8 _ d
  clear d
  simp [dd, wrap_of, succ_ne, hb]
theorem l01Next_other (b : UInt8) (r : List UInt8) (h0 : ¬ b.toNat = 0) (h1 : ¬ b.toNat = 1) (h2 : ¬ b.toNat = 2) (h3 : ¬ b.toNat = 3) (h4 : ¬ b.toNat = 4) (h5 : ¬ b.toNat = 5) : run E (.call 278 [.t (.str (b :: r))]) = some (.res [valX ⟨0, 0, []⟩, .t (.str []), .t (.bool false)] []) := by
  rw [run_call E 278 _ rfl Tryz.func278 rfl rfl rfl (by simp)]
  have hw : IntKind.i64.wrap (b.toNat : Int) = b.toNat := wrap_of (by omega) (by have := b.toNat_lt; omega)
  have e0 : ¬ ((b.toNat : Int) = 0) := by omega
  have e1 : ¬ ((b.toNat : Int) = 1) := by omega
  have e2 : ¬ ((b.toNat : Int) = 2) := by omega
  have e3 : ¬ ((b.toNat : Int) = 3) := by omega
  have e4 : ¬ ((b.toNat : Int) = 4) := by omega
  have e5 : ¬ ((b.toNat : Int) = 5) := by omega
  simp [succ_ne, hw, e0, e1, e2, e3, e4, e5, h0, h1, h2, h3, h4, h5]
theorem l01Next_bool (b x : UInt8) (r : List UInt8) (h1 : b.toNat = 1) : run E (.call 278 [.t (.str (b :: x :: r))]) = some (.res [valX ⟨1, x.toNat, []⟩, .t (.str r), .t (.bool true)] []) := by
  rw [run_call E 278 _ rfl Tryz.func278 rfl rfl rfl (by simp)]
  have d := d278_30
  simp [regionOf, findR, pick, Tryz.f278] at d
  have dd := fun st => run_region_draw E st 30 _ d
  clear d
  have hx : IntKind.i64.wrap (x.toNat : Int) = x.toNat := wrap_of (by omega) (by have := x.toNat_lt; omega)
  have hl : ¬ ((r.length : Int) + 1 + 1 < 2) := by omega
  have hs : ∀ n : Nat, ((n : Int) + 1 + 1 = 0) = False := fun n => by simp; omega
  simp [dd, wrap_of, succ_ne, h1, hx, hl, hs]
theorem l01Next_bool_short (b : UInt8) (h1 : b.toNat = 1) : run E (.call 278 [.t (.str [b])]) = some (.res [valX ⟨0, 0, []⟩, .t (.str []), .t (.bool false)] []) := by
  rw [run_call E 278 _ rfl Tryz.func278 rfl rfl rfl (by simp)]
  simp [wrap_of, succ_ne, h1]
theorem l01Of_two (x y : UInt8) : run E (.call 301 [.t (.str [x, y])]) = some (.res [.t (.int .i64 (two x y : Nat))] []) := by
  rw [l01Of [x, y] (by simp), ofBytes_two]
theorem l01Next_text (b x y : UInt8) (r : List UInt8) (hb : b.toNat = 3 ∨ b.toNat = 4 ∨ b.toNat = 5) (hr : two x y ≤ r.length) : run E (.call 278 [.t (.str (b :: x :: y :: r))]) = some (.res [valX ⟨b.toNat, 0, r.take (two x y)⟩, .t (.str (r.drop (two x y))), .t (.bool true)] []) := by
  rw [run_call E 278 _ rfl Tryz.func278 rfl rfl rfl (by simp)]
  have d := d278_22
  simp [regionOf, findR, pick, Tryz.f278] at d
  have dd := fun st => run_region_draw E st 22 _ d
  clear d
  have hk := two_lt x y
  have hw : IntKind.i64.wrap (3 + (two x y : Int)) = 3 + (two x y : Int) := wrap_of (by omega) (by omega)
  have hl : ¬ ((r.length : Int) + 1 + 1 + 1 < 3) := by omega
  have hl2 : ¬ ((r.length : Int) + 1 + 1 + 1 < 3 + (two x y : Int)) := by omega
  have hs : ∀ n : Nat, ((n : Int) + 1 + 1 + 1 = 0) = False := fun n => by simp; omega
  have hn : (0 : Int) ≤ 3 + (two x y : Int) := by omega
  have ht : (3 + (two x y : Int)).toNat = 3 + two x y := by omega
  have hc : 3 + two x y ≤ r.length + 1 + 1 + 1 := by omega
  have e : 3 + two x y = two x y + 1 + 1 + 1 := by omega
  rcases hb with hb | hb | hb <;> simp [dd, wrap_of, succ_ne, hb, hl, hl2, hs, hw, l01Of_two, hn, ht, hc] <;> simp [e]
theorem l01Next_long (b x y : UInt8) (r : List UInt8) (hb : b.toNat = 3 ∨ b.toNat = 4 ∨ b.toNat = 5) (hr : r.length < two x y) : run E (.call 278 [.t (.str (b :: x :: y :: r))]) = some (.res [valX ⟨0, 0, []⟩, .t (.str []), .t (.bool false)] []) := by
  rw [run_call E 278 _ rfl Tryz.func278 rfl rfl rfl (by simp)]
  have hk := two_lt x y
  have hw : IntKind.i64.wrap (3 + (two x y : Int)) = 3 + (two x y : Int) := wrap_of (by omega) (by omega)
  have hl : ¬ ((r.length : Int) + 1 + 1 + 1 < 3) := by omega
  have hl2 : ((r.length : Int) + 1 + 1 + 1 < 3 + (two x y : Int)) := by omega
  have hs : ∀ n : Nat, ((n : Int) + 1 + 1 + 1 = 0) = False := fun n => by simp; omega
  rcases hb with hb | hb | hb <;> simp [wrap_of, succ_ne, hb, hl, hl2, hs, hw, l01Of_two]
theorem l01Next_short (b : UInt8) (r : List UInt8) (hb : b.toNat = 3 ∨ b.toNat = 4 ∨ b.toNat = 5) (hr : r.length < 2) : run E (.call 278 [.t (.str (b :: r))]) = some (.res [valX ⟨0, 0, []⟩, .t (.str []), .t (.bool false)] []) := by
  rw [run_call E 278 _ rfl Tryz.func278 rfl rfl rfl (by simp)]
  have hl : ((r.length : Int) + 1 < 3) := by omega
  rcases hb with hb | hb | hb <;> simp [wrap_of, succ_ne, hb, hl]
theorem l01Next_int_short (b : UInt8) (r : List UInt8) (hb : b.toNat = 2) (hr : r.length < 8) : run E (.call 278 [.t (.str (b :: r))]) = some (.res [valX ⟨0, 0, []⟩, .t (.str []), .t (.bool false)] []) := by
  rw [run_call E 278 _ rfl Tryz.func278 rfl rfl rfl (by simp)]
  have hl : ((r.length : Int) + 1 < 9) := by omega
  simp [wrap_of, succ_ne, hb, hl]
theorem l01Next_int_big (b x : UInt8) (r : List UInt8) (hb : b.toNat = 2) (hr : 7 ≤ r.length) (hx : 127 < x.toNat) : run E (.call 278 [.t (.str (b :: x :: r))]) = some (.res [valX ⟨0, 0, []⟩, .t (.str []), .t (.bool false)] []) := by
  rw [run_call E 278 _ rfl Tryz.func278 rfl rfl rfl (by simp)]
  have hl : ¬ ((r.length : Int) + 1 + 1 < 9) := by omega
  have hs : ∀ n : Nat, ((n : Int) + 1 + 1 = 0) = False := fun n => by simp; omega
  have hx' : (127 : Int) < (x.toNat : Int) := by omega
  simp [wrap_of, succ_ne, hb, hl, hs, hx']
theorem l01Next_int (b x : UInt8) (r : List UInt8) (hb : b.toNat = 2) (hr : 7 ≤ r.length) (hx : ¬ 127 < x.toNat) : run E (.call 278 [.t (.str (b :: x :: r))]) = some (.res [valX ⟨2, (IntKind.i64.wrap (ofBytes 0 (x :: r.take 7) - 4611686018427387904)), []⟩, .t (.str (r.drop 7)), .t (.bool true)] []) := by
  rw [run_call E 278 _ rfl Tryz.func278 rfl rfl rfl (by simp)]
  have d := d278_30
  simp [regionOf, findR, pick, Tryz.f278] at d
  have dd := fun st => run_region_draw E st 30 _ d
  clear d
  have hl : ¬ ((r.length : Int) + 1 + 1 < 9) := by omega
  have hs : ∀ n : Nat, ((n : Int) + 1 + 1 = 0) = False := fun n => by simp; omega
  have hx' : ¬ (127 : Int) < (x.toNat : Int) := by omega
  have hc : 9 ≤ r.length + 1 + 1 := by omega
  have ho := l01Of (x :: r.take 7) (by simp; omega)
  simp [dd, wrap_of, succ_ne, hb, hl, hs, hx', hc, ho]
/-- As l01Next answers. -/
def nextX : Option (Val × Bytes) → List X
  | some (v, r) => [valX v, xS r, xB true]
  | none => [valX ⟨0, 0, []⟩, xS [], xB false]
theorem l01Next (t : Bytes) (ht : t.length < 9223372036854775807) : run E (.call 278 [xS t]) = some (.res (nextX (nextP t)) []) := by
  cases t with
  | nil =>
    rw [run_call E 278 _ rfl Tryz.func278 rfl rfl rfl (by simp)]
    simp [nextP, nextX]
  | cons b r =>
    unfold nextP
    by_cases h0 : b.toNat = 0
    · simp only [h0, if_true, nextX]
      exact l01Next_null b r h0
    · by_cases h1 : b.toNat = 1
      · simp only [h1, Nat.one_ne_zero, if_false, if_true]
        cases r with
        | nil => exact l01Next_bool_short b h1
        | cons x r => exact l01Next_bool b x r h1
      · by_cases h2 : b.toNat = 2
        · simp only [h0, h1, h2, if_false, if_true]
          by_cases hl : r.length < 8
          · simp only [hl, if_true, nextX]
            exact l01Next_int_short b r h2 hl
          · cases r with
            | nil => simp at hl
            | cons x r =>
              simp only [List.length_cons] at hl
              by_cases hx : 127 < x.toNat
              · have h8 : ¬ (x :: r).length < 8 := by simp; omega
                simp only [h8, List.headD_cons, hx, if_true, if_false, nextX]
                exact l01Next_int_big b x r h2 (by omega) hx
              · have h8 : ¬ (x :: r).length < 8 := by simp; omega
                simp only [h8, List.headD_cons, hx, if_true, if_false, nextX, List.take_succ_cons, List.drop_succ_cons]
                exact l01Next_int b x r h2 (by omega) hx
        · by_cases h3 : b.toNat = 3 ∨ b.toNat = 4 ∨ b.toNat = 5
          · simp only [h0, h1, h2, h3, if_false, if_true]
            match r with
            | [] => exact l01Next_short b [] h3 (by simp)
            | [x] => exact l01Next_short b [x] h3 (by simp)
            | x :: y :: r' =>
              simp only
              by_cases hl : r'.length < two x y
              · simp only [hl, if_true, nextX]
                exact l01Next_long b x y r' h3 hl
              · simp only [hl, if_false, nextX]
                exact l01Next_text b x y r' h3 (by omega)
          · simp only [h0, h1, h2, h3, if_false, nextX]
            exact l01Next_other b r h0 h1 h2 (by omega) (by omega) (by omega)
def itemsX : Option (List Val) → List X
  | some xs => [.row 38 (xs.map valT), xB true]
  | none => [.row 38 [], xB false]
theorem l01Items (t : Bytes) (ht : t.length < 4294967296) : run E (.call 279 [xS t]) = some (.res (itemsX (itemsP t)) []) := by
  rw [run_call E 279 _ rfl Tryz.func279 rfl rfl rfl (by simp)]
  have lp := fun (res : Option (List Val)) (hres : itemsP t = res) => sk1 (fun s o q hI => loop_wf (c := loopAt Tryz.f279 0) (N := 27)
    (fun k s o q => ∃ r body xs, s 0 = .t (.str body) ∧ s 4 = .row r ∧ o r = .row 38 (xs.map valT) true ∧ r < q ∧ body.length = k ∧ itemsP t = (itemsP body).map (xs ++ ·) ∧ xs.length + body.length ≤ t.length)
    (fun e s' o' q' => ∃ r, match (generalizing := false) res with
      | some L => e = .exit 0 ∧ s' 4 = .row r ∧ o' r = .row 38 (L.map valT) true
      | none => e = .ret ∧ s' 2 = .row r ∧ s' 3 = .t (.bool false) ∧ o' r = .row 38 [] true)
    (by
      rintro k s o q ⟨r, body, xs, h0, h4, ho, hrq, hk, hit, hl⟩
      cases body with
      | nil =>
        rw [hres] at hit
        simp [itemsP_nil] at hit
        subst hit
        simp [loopAt, loopsOf, Tryz.f279, h0, h4, ho]
      | cons b u =>
        have hn := l01Next (b :: u) (by simp at hl ⊢; omega)
        have hpos : (0 : Int) < (u.length : Int) + 1 := by omega
        have hrn : r ≠ q := by omega
        have hrn1 : r ≠ q + 1 := by omega
        have hqn : q ≠ r := by omega
        cases hnx : nextP (b :: u) with
        | none =>
          rw [itemsP_none hnx, Option.map_none] at hit
          rw [hres] at hit
          subst hit
          simp [hnx, nextX] at hn
          simp [loopAt, loopsOf, Tryz.f279, h0, h4, ho, hn, hpos]
        | some p =>
          obtain ⟨v, rest⟩ := p
          have hlen := (nextP_len hnx).1
          rw [itemsP_some hnx] at hit
          simp [hnx, nextX] at hn
          have hx1 : xs.length + 1 ≤ 140737488355328 := by simp at hl; omega
          have hx2 : (xs.length + 1) * 32 ≤ 140737488355328 := by simp at hl; omega
          simp [loopAt, loopsOf, Tryz.f279, h0, h4, ho, hn, hpos, hrn, hrn1, hqn, hx1, hx2]
          refine ⟨rest.length, by simp at hk hlen; omega, xs ++ [v], by simp, rfl, ?_, by simp at hl hlen ⊢; omega⟩
          rw [hit, Option.map_map]
          congr 1
          funext l
          simp)
    t.length s o q hI)
  simp only [loopAt, loopsOf, Tryz.f279] at lp
  cases hres : itemsP t with
  | some L =>
    obtain ⟨X, A, B, C, M, hx⟩ := lp _ hres
    have hx' := fun s o q r a0 a4 a5 a6 => hx s o q ⟨r, t, [], a0, a4, a5, a6, rfl, by simp, by simp⟩
    clear hx
    simp at hx'
    simp [hx', itemsX]
  | none =>
    obtain ⟨X, A, B, C, M, hx⟩ := lp _ hres
    have hx' := fun s o q r a0 a4 a5 a6 => hx s o q ⟨r, t, [], a0, a4, a5, a6, rfl, by simp [hres], by simp⟩
    clear hx
    simp at hx'
    simp [hx', itemsX]
def fieldsX : Option (List Fld) → List X
  | some xs => [.row 237 (xs.map fldT), xB true]
  | none => [.row 237 [], xB false]
theorem l01Fields (t : Bytes) (ht : t.length < 4294967296) : run E (.call 246 [xS t]) = some (.res (fieldsX (fieldsP t)) []) := by
  rw [run_call E 246 _ rfl Tryz.func246 rfl rfl rfl (by simp)]
  have lp := fun (res : Option (List Fld)) (hres : fieldsP t = res) => sk1 (fun s o q hI => loop_wf (c := loopAt Tryz.f246 0) (N := 47)
    (fun k s o q => ∃ r body xs, s 0 = .t (.str body) ∧ s 4 = .row r ∧ o r = .row 237 (xs.map fldT) true ∧ r < q ∧ body.length = k ∧ fieldsP t = (fieldsP body).map (xs ++ ·) ∧ xs.length + body.length ≤ t.length)
    (fun e s' o' q' => ∃ r, match (generalizing := false) res with
      | some L => e = .exit 0 ∧ s' 4 = .row r ∧ o' r = .row 237 (L.map fldT) true
      | none => e = .ret ∧ s' 2 = .row r ∧ s' 3 = .t (.bool false) ∧ o' r = .row 237 [] true)
    (by
      rintro k s o q ⟨r, body, xs, h0, h4, ho, hrq, hk, hit, hl⟩
      cases body with
      | nil =>
        rw [hres] at hit
        simp [fieldsP_nil] at hit
        subst hit
        simp [loopAt, loopsOf, Tryz.f246, h0, h4, ho]
      | cons b u =>
        have hb := b.toNat_lt
        have hpos : (0 : Int) < (u.length : Int) + 1 := by omega
        have hrn : r ≠ q := by omega
        have hrn1 : r ≠ q + 1 := by omega
        have hqn : q ≠ r := by omega
        have hwb := wrap_byte b
        have hw1 : IntKind.i64.wrap (1 + (b.toNat : Int)) = 1 + (b.toNat : Int) := wrap_of (by omega) (by omega)
        by_cases hs : u.length < b.toNat
        · have hs' : (u.length : Int) + 1 < 1 + (b.toNat : Int) := by omega
          rw [fieldsP_short hs, Option.map_none] at hit
          rw [hres] at hit
          subst hit
          simp [loopAt, loopsOf, Tryz.f246, h0, h4, ho, hpos, succ_ne, hwb, hw1, hs']
        · have hs' : ¬ (u.length : Int) + 1 < 1 + (b.toNat : Int) := by omega
          have hn := l01Next (u.drop b.toNat) (by simp at hl ⊢; omega)
          have hn0 : (0 : Int) ≤ 1 + (b.toNat : Int) := by omega
          have hn1 : (1 + (b.toNat : Int)).toNat = b.toNat + 1 := by omega
          have hn2 : b.toNat ≤ u.length := by omega
          cases hnx : nextP (u.drop b.toNat) with
          | none =>
            rw [fieldsP_none hs hnx, Option.map_none] at hit
            rw [hres] at hit
            subst hit
            simp [hnx, nextX] at hn
            simp [loopAt, loopsOf, Tryz.f246, h0, h4, ho, hn, hpos, succ_ne, hwb, hw1, hs', hn0, hn1, hn2]
          | some p =>
            obtain ⟨v, rest⟩ := p
            have hlen := (nextP_len hnx).1
            rw [fieldsP_some hs hnx] at hit
            simp [hnx, nextX] at hn
            have hx1 : xs.length + 1 ≤ 140737488355328 := by simp at hl; omega
            have hx2 : (xs.length + 1) * 48 ≤ 140737488355328 := by simp at hl; omega
            simp [loopAt, loopsOf, Tryz.f246, h0, h4, ho, hn, hpos, hrn, hrn1, hqn, hx1, hx2, succ_ne, hwb, hw1, hs', hn0, hn1, hn2]
            refine ⟨rest.length, by simp at hk hlen; omega, xs ++ [⟨u.take b.toNat, v⟩], by simp, rfl, ?_, by simp at hl hlen ⊢; omega⟩
            rw [hit, Option.map_map]
            congr 1
            funext l
            simp)
    t.length s o q hI)
  simp only [loopAt, loopsOf, Tryz.f246] at lp
  cases hres : fieldsP t with
  | some L =>
    obtain ⟨X, A, B, C, M, hx⟩ := lp _ hres
    have hx' := fun s o q r a0 a4 a5 a6 => hx s o q ⟨r, t, [], a0, a4, a5, a6, rfl, by simp, by simp⟩
    clear hx
    simp at hx'
    simp [hx', fieldsX]
  | none =>
    obtain ⟨X, A, B, C, M, hx⟩ := lp _ hres
    have hx' := fun s o q r a0 a4 a5 a6 => hx s o q ⟨r, t, [], a0, a4, a5, a6, rfl, by simp [hres], by simp⟩
    clear hx
    simp at hx'
    simp [hx', fieldsX]
set_option maxHeartbeats 16000000
theorem items_small : ∀ {xs : List Val} {t : Bytes}, itemsP t = some xs → xs.length ≤ t.length ∧ ∀ x ∈ xs, x.t.length < t.length
  | [], t, h => by simp
  | x :: xs, t, h => by
    rcases items_cases h with ⟨_, e⟩ | ⟨v, r, ys, h1, h2, e⟩
    · cases e
    · cases e
      have := nextP_len h1
      obtain ⟨i1, i2⟩ := items_small h2
      refine ⟨by simp; omega, fun y hy => ?_⟩
      rcases List.mem_cons.1 hy with rfl | hy
      · omega
      · have := i2 y hy; omega
theorem fields_small {xs : List Fld} : ∀ {t : Bytes}, fieldsP t = some xs → xs.length ≤ t.length ∧ ∀ x ∈ xs, x.v.t.length < t.length ∧ x.name.length ≤ t.length := by
  induction xs with
  | nil => intro t h; simp
  | cons x xs ih =>
    intro t h
    rcases fields_cases h with ⟨_, e⟩ | ⟨b, q, v, r, ys, rfl, hl, h1, h2, e⟩
    · cases e
    · cases e
      have := nextP_len h1
      simp only [List.length_drop] at this
      obtain ⟨i1, i2⟩ := ih h2
      refine ⟨by simp; omega, fun y hy => ?_⟩
      rcases List.mem_cons.1 hy with rfl | hy
      · simp; omega
      · have := i2 y hy; simp; omega
/-- Fields, one after another. -/
def docGo (d : Nat) : Option Bytes → List Fld → Bool
  | _, [] => true
  | p, f :: r => nameP f.name && (match p with
      | none => true
      | some q => Op.bytesLess q f.name) && okP d f.v && docGo d (some f.name) r
theorem docGo_eq (d : Nat) : ∀ (fs : List Fld), docGo d none fs = (rising fs && fs.all (fun f => nameP f.name && okP d f.v))
  | [] => rfl
  | [f] => by simp [docGo, rising]
  | f :: g :: r => by
    have ih := docGo_eq d (g :: r)
    simp only [docGo, rising, List.all_cons, Bool.and_true] at ih ⊢
    generalize hX : (nameP f.name && okP d f.v) = X at *
    have e1 : ∀ (a b c e q : Bool), (a && b && (c && e && q)) = (e && (a && b) && (c && q)) := by decide
    generalize docGo d (some g.name) r = D at *
    cases h1 : nameP f.name <;> cases h2 : okP d f.v <;> cases h3 : Op.bytesLess f.name g.name <;> simp_all
theorem zcase (n m : Int) : ∃ z : Bool, (n == m) = z ∧ (n != m) = (!z) ∧ decide (n = m) = z := ⟨n == m, rfl, rfl, by rw [Bool.eq_iff_iff]; simp⟩
theorem l01OK : ∀ (d : Nat) (v : Val), d ≤ 1000 → v.t.length < 4294967296 → run E (.call 247 [xV v, xI d]) = some (.res [xB (okP d v)] []) := by
  intro d
  induction d with
  | zero =>
    intro v _ hv
    rw [run_call E 247 _ rfl Tryz.func247 rfl rfl rfl (by simp)]
    have hi := l01Items v.t hv
    have hf := l01Fields v.t hv
    have h300 : ((v.t.length : Int) ≤ 300) = (v.t.length ≤ 300) := by simp; omega
    have h300' : ((300 : Int) < (v.t.length : Int)) = (300 < v.t.length) := by simp; omega
    have he : (v.t == []) = v.t.isEmpty := by cases v.t <;> rfl
    obtain ⟨z, z1, z2, z3⟩ := zcase v.n 0
    unfold okP
    by_cases h0 : v.k = 0
    · cases z <;> simp [h0, z1, z2, z3, he]
    · by_cases h1 : v.k = 1
      · by_cases hn : 0 ≤ v.n <;> by_cases hn' : v.n ≤ 1 <;> simp [h1, hn, hn', l01In, he]
      · by_cases h2 : v.k = 2
        · by_cases hn : -1000000000000 ≤ v.n <;> by_cases hn' : v.n ≤ 1000000000000 <;> simp [h2, hn, hn', l01In, he]
        · by_cases h3 : v.k = 3
          · cases z <;> simp [h3, z1, z2, z3, h300]
          · by_cases h4 : v.k = 4
            · cases hit : itemsP v.t with
              | none => rw [hit] at hi; simp only [itemsX] at hi; cases z <;> simp [h4, hi, z1, z2, z3]
              | some xs => rw [hit] at hi; simp only [itemsX] at hi; cases z <;> by_cases hl : 300 < v.t.length <;> simp [h4, hi, z1, z2, z3, h300', hl]
            · by_cases h5 : v.k = 5
              · cases hit : fieldsP v.t with
                | none => rw [hit] at hf; simp only [fieldsX] at hf; cases z <;> simp [h5, hf, z1, z2, z3]
                | some xs => rw [hit] at hf; simp only [fieldsX] at hf; cases z <;> by_cases hl : 300 < v.t.length <;> simp [h5, hf, z1, z2, z3, h300', hl]
              · simp [h0, h1, h2, h3, h4, h5]
  | succ d ih =>
    intro v hd hv
    rw [run_call E 247 _ rfl Tryz.func247 rfl rfl rfl (by simp)]
    have hi := l01Items v.t hv
    have hf := l01Fields v.t hv
    have h300 : ((v.t.length : Int) ≤ 300) = (v.t.length ≤ 300) := by simp; omega
    have h300' : ((300 : Int) < (v.t.length : Int)) = (300 < v.t.length) := by simp; omega
    have he : (v.t == []) = v.t.isEmpty := by cases v.t <;> rfl
    have hdz : ((d : Int) + 1 == 0) = false := by simp; omega
    have hwd2 := wrap_nat (n := d) (by omega)
    have hwd : IntKind.i64.wrap ((d : Int) + 1 - 1) = (d : Int) := by rw [wrap_of (by omega) (by omega)]; omega
    obtain ⟨z, z1, z2, z3⟩ := zcase v.n 0
    unfold okP
    by_cases h0 : v.k = 0
    · cases z <;> simp [h0, z1, z2, z3, he]
    · by_cases h1 : v.k = 1
      · by_cases hn : 0 ≤ v.n <;> by_cases hn' : v.n ≤ 1 <;> simp [h1, hn, hn', l01In, he]
      · by_cases h2 : v.k = 2
        · by_cases hn : -1000000000000 ≤ v.n <;> by_cases hn' : v.n ≤ 1000000000000 <;> simp [h2, hn, hn', l01In, he]
        · by_cases h3 : v.k = 3
          · cases z <;> simp [h3, z1, z2, z3, h300]
          · by_cases h4 : v.k = 4
            · cases hit : itemsP v.t with
              | none => rw [hit] at hi; simp only [itemsX] at hi; cases z <;> simp [h4, hi, z1, z2, z3]
              | some xs =>
                rw [hit] at hi
                simp only [itemsX] at hi
                obtain ⟨hs1, hs2⟩ := items_small hit
                by_cases hl : 300 < v.t.length
                · have hl' : ¬ v.t.length ≤ 300 := by omega
                  cases z <;> simp [h4, hi, z1, z2, z3, h300', hl, hl']
                · have hl' : v.t.length ≤ 300 := by omega
                  cases z with
                  | false => simp [h4, hi, z1, z2, z3]
                  | true =>
                    have lp := fun b (hb : b = xs.all (okP d)) => sk (fun s o q hI => loop_for (c := loopAt Tryz.f247 0) (N := 160)
                      (fun i s o q => s 1 = .t (.int .i64 ((d : Int) + 1)) ∧ s 5 = .row 1 ∧ s 7 = .t (.int .i64 i) ∧ o 1 = .row 38 (xs.map valT) true ∧ b = (xs.drop i).all (okP d))
                      (fun e s' o' q' => e = (if b then .exit 1 else .ret) ∧ (b = false → s' 4 = .t (.bool false))) xs.length
                      (by
                        rintro i s o q hi ⟨h1, h5, h7, ho, hp⟩
                        have hdr : xs.drop i = xs[i] :: xs.drop (i + 1) := by rw [List.drop_eq_getElem_cons hi]
                        have hi' : (i : Int) < (xs.length : Int) := by omega
                        have hw := wrap_succ (n := i) (by omega)
                        have hx := ih xs[i] (by omega) (by have := hs2 _ (List.getElem_mem hi); omega)
                        rw [hdr, List.all_cons] at hp
                        cases hok : okP d xs[i] <;> simp [hok] at hp hx <;> simp [loopAt, loopsOf, Tryz.f247, h1, h5, h7, ho, hi, hi', hwd, hwd2, hx, hw, hp])
                      (by
                        rintro s o q ⟨h1, h5, h7, ho, hp⟩
                        simp at hp
                        simp [loopAt, loopsOf, Tryz.f247, h1, h5, h7, ho, hp])
                      xs.length 0 s o q (by omega) hI)
                    simp only [loopAt, loopsOf, Tryz.f247] at lp
                    cases hb : xs.all (okP d) with
                    | true =>
                      obtain ⟨X, A, B, C, hx⟩ := lp true hb.symm
                      simp [hb, -List.all_eq_true] at hx
                      simp [h4, hi, z1, z2, z3, h300', hl, hl', hdz, hx, hb, -List.all_eq_true]
                    | false =>
                      obtain ⟨X, A, B, C, hx⟩ := lp false hb.symm
                      simp [hb, -List.all_eq_true, -List.all_eq_false] at hx
                      simp [h4, hi, z1, z2, z3, h300', hl, hl', hdz, hx, hb, -List.all_eq_true, -List.all_eq_false]
            · by_cases h5 : v.k = 5
              · cases hit : fieldsP v.t with
                | none => rw [hit] at hf; simp only [fieldsX] at hf; cases z <;> simp [h5, hf, z1, z2, z3]
                | some xs =>
                  rw [hit] at hf
                  simp only [fieldsX] at hf
                  obtain ⟨hs1, hs2⟩ := fields_small hit
                  by_cases hl : 300 < v.t.length
                  · have hl' : ¬ v.t.length ≤ 300 := by omega
                    cases z <;> simp [h5, hf, z1, z2, z3, h300', hl, hl']
                  · have hl' : v.t.length ≤ 300 := by omega
                    cases z with
                    | false => simp [h5, hf, z1, z2, z3]
                    | true =>
                      have d27 := d247_27
                      simp [regionOf, findR, pick, Tryz.f247] at d27
                      have dd := fun st => run_region_draw E st 27 _ d27
                      clear d27
                      have lp := fun b (hb : b = docGo d none xs) => sk (fun s o q hI => loop_for (c := loopAt Tryz.f247 1) (N := 160)
                        (fun i s o q => s 1 = .t (.int .i64 ((d : Int) + 1)) ∧ s 8 = .row 1 ∧ s 10 = .t (.int .i64 i) ∧ o 1 = .row 237 (xs.map fldT) true ∧ b = docGo d (match i with | 0 => none | j + 1 => (xs[j]?).map (·.name)) (xs.drop i))
                        (fun e s' o' q' => e = (if b then .exit 3 else .ret) ∧ (b = false → s' 4 = .t (.bool false))) xs.length
                        (by
                          rintro i s o q hi ⟨h1, h8, h10, ho, hp⟩
                          have hdr : xs.drop i = xs[i] :: xs.drop (i + 1) := by rw [List.drop_eq_getElem_cons hi]
                          have hi' : (i : Int) < (xs.length : Int) := by omega
                          have hw := wrap_succ (n := i) (by omega)
                          have hsm := hs2 _ (List.getElem_mem hi)
                          have hx := ih xs[i].v (by omega) (by omega)
                          have hnm := l01Name xs[i].name (by omega)
                          have hxi : xs[i]? = some xs[i] := List.getElem?_eq_getElem hi
                          rw [hdr] at hp
                          cases i with
                          | zero =>
                            simp only [docGo] at hp
                            cases hok : okP d xs[0].v <;> cases hn : nameP xs[0].name <;> simp [hok, hn] at hp hx hnm <;> simp [loopAt, loopsOf, Tryz.f247, dd, h1, h8, h10, ho, hi, hi', hwd, hwd2, hx, hnm, hw, hp, hxi]
                          | succ j =>
                            have hj : j < xs.length := by omega
                            have hxj : xs[j]? = some xs[j] := List.getElem?_eq_getElem hj
                            have hpos : (0 : Int) < (j : Int) + 1 := by omega
                            have hnn : (0 : Int) ≤ (j : Int) + 1 := by omega
                            have hwj2 := wrap_nat (n := j) (by omega)
                            have hwj : IntKind.i64.wrap ((j : Int) + 1 - 1) = (j : Int) := by rw [wrap_of (by omega) (by omega)]; omega
                            simp only [hxj, Option.map_some, docGo] at hp
                            simp at h10 hi' hw
                            cases hok : okP d xs[j + 1].v <;> cases hn : nameP xs[j + 1].name <;> cases hbl : Op.bytesLess xs[j].name xs[j + 1].name <;> simp [hok, hn, hbl] at hp hx hnm <;> simp [loopAt, loopsOf, Tryz.f247, dd, h1, h8, h10, ho, hi, hi', hwd, hwd2, hx, hnm, hw, hp, hxi, hxj, hpos, hnn, hwj, hwj2, hj, hbl])
                        (by
                          rintro s o q ⟨h1, h8, h10, ho, hp⟩
                          simp [docGo] at hp
                          simp [loopAt, loopsOf, Tryz.f247, h1, h8, h10, ho, hp])
                        xs.length 0 s o q (by omega) hI)
                      simp only [loopAt, loopsOf, Tryz.f247] at lp
                      have heq := docGo_eq d xs
                      cases hb : docGo d none xs with
                      | true =>
                        obtain ⟨X, A, B, C, hx⟩ := lp true hb.symm
                        simp [hb] at hx
                        rw [hb] at heq
                        simp [h5, hf, z1, z2, z3, h300', hl, hl', hdz, hx, ← heq, -List.all_eq_true]
                      | false =>
                        obtain ⟨X, A, B, C, hx⟩ := lp false hb.symm
                        simp [hb] at hx
                        rw [hb] at heq
                        simp [h5, hf, z1, z2, z3, h300', hl, hl', hdz, hx, ← heq, -List.all_eq_true, -List.all_eq_false]
              · simp [h0, h1, h2, h3, h4, h5]
theorem specValueOK (v : Val) (hv : v.t.length < 4294967296) : run E (.call 206 [xV v]) = some (.res [xB (valueOK v)] []) := by
  rw [run_call E 206 _ rfl Tryz.func206 rfl rfl rfl (by simp)]
  have h := l01OK 5 v (by omega) hv
  simp at h
  by_cases hl : (v.t.length : Int) ≤ 65536
  · simp [hl, h, valueOK]
  · have hr : okP 5 v = false := by
      cases ho : okP 5 v with
      | false => rfl
      | true => have := okP_range ho; omega
    simp [hl, valueOK, hr]
theorem or_byte (n : Int) (b : UInt8) : IntKind.i64.wrap (((BitVec.ofInt 64 (IntKind.i64.wrap (n * 256)) ||| BitVec.ofInt 64 (b.toNat : Int)).toNat : Nat) : Int) = IntKind.i64.wrap (IntKind.i64.wrap (n * 256) + b.toNat) := by
  have hb := b.toNat_lt
  rw [BitVec.toNat_or]
  have h1 : (BitVec.ofInt 64 (b.toNat : Int)).toNat = b.toNat := by
    rw [BitVec.toNat_ofInt]; omega
  obtain ⟨m, hm⟩ : ∃ m : Nat, (BitVec.ofInt 64 (IntKind.i64.wrap (n * 256))).toNat = 2 ^ 8 * m := by
    rw [BitVec.toNat_ofInt, IntKind.wrap_i64]
    exact ⟨((n * 256 % 18446744073709551616) / 256).toNat, by omega⟩
  have h2 : ((2 ^ 8 * m : Nat) : Int) % 18446744073709551616 = (IntKind.i64.wrap (n * 256)) % 18446744073709551616 := by
    rw [← hm, BitVec.toNat_ofInt]; omega
  rw [h1, hm, ← Nat.two_pow_add_eq_or_of_lt (by omega : b.toNat < 2 ^ 8) m]
  simp only [IntKind.wrap_i64] at h2 ⊢
  omega
abbrev byteT (b : UInt8) : T := .int .u8 b.toNat
theorem big (l : Bytes) (hl : l.length < 4294967296) : run E (.call 311 [.t (.list (l.map byteT))]) = some (.res [xI (ofBytes 0 l)] []) := by
  rw [run_call E 311 _ rfl Tryz.func311 rfl rfl rfl (by simp)]
  have lp := sk (fun s o q hI => loop_for (c := loopAt Tryz.f311 0) (N := 19)
    (fun i s o q => ∃ n : Int, s 6 = .t (.list (l.map byteT)) ∧ s 7 = .t (.int .i64 l.length) ∧ s 8 = .t (.int .i64 i) ∧ s 3 = .t (.int .i64 n) ∧ ofBytes n (l.drop i) = ofBytes 0 l)
    (fun e s' o' q' => e = .exit 0 ∧ s' 3 = .t (.int .i64 (ofBytes 0 l))) l.length
    (by
      rintro i s o q hi ⟨n, h6, h7, h8, h3, hp⟩
      have hd : l.drop i = l[i] :: l.drop (i + 1) := by rw [List.drop_eq_getElem_cons hi]
      have hi' : (i : Int) < (l.length : Int) := by omega
      have hw := wrap_succ (n := i) (by omega)
      have hwb := wrap_byte l[i]
      have hor := or_byte n l[i]
      rw [BitVec.ofInt_natCast] at hor
      rw [hd, ofBytes] at hp
      simp [IntKind.bits, loopAt, loopsOf, Tryz.f311, h6, h7, h8, h3, hi, hi', hw, hwb]
      exact (congrArg (fun z => ofBytes z (List.drop (i + 1) l)) hor).trans hp)
    (by
      rintro s o q ⟨n, h6, h7, h8, h3, hp⟩
      simp [ofBytes] at hp
      simp [loopAt, loopsOf, Tryz.f311, h6, h7, h8, h3, hp])
    l.length 0 s o q (by omega) hI)
  simp only [loopAt, loopsOf, Tryz.f311] at lp
  obtain ⟨X, A, B, C, hx⟩ := lp
  have hx' := fun s o q a6 a7 a8 a3 => hx s o q ⟨0, a6, a7, a8, a3, by simp⟩
  clear hx
  simp at hx'
  simp [hx']
/-- A reader, as a box. -/
abbrev rdr (p : Bytes × Bool) : X := .ref 288 [.t (.str p.1), .t (.bool p.2)]
theorem ext262 (m : Nat) (h : m ≤ 4294967296) : run E (.call 310 [xS [0], xI m]) = some (.res [xS (List.replicate m 0)] []) := by
  rw [run_ext E 310 _ (g := _) rfl]
  have h1 : (m : Int) ≤ 9223372036854775807 := by omega
  have h2 : m ≤ 140737488355328 := by omega
  have h3 : Lib.repeatL [0] m = List.replicate m 0 := by
    have := Lib.repeatL_replicate 0 1 m
    simpa using this
  simp [h1, h2, h3]
theorem rTake (p : Bytes × Bool) (m : Nat) (hm : m ≤ 4294967296) (hp : p.1.length ≤ 4294967296) : run E (.call 286 [rdr p, xI m]) = some (.res [xS (rtake m p).1] [some (rdr (rtake m p).2)]) := by
  rw [run_call E 286 _ rfl Tryz.func286 rfl rfl rfl (by simp)]
  obtain ⟨t, f⟩ := p
  by_cases h : t.length < m
  · have h' : (t.length : Int) < (m : Int) := by omega
    simp [rtake, h, h', ext262 m hm]
  · have h' : ¬ (t.length : Int) < (m : Int) := by omega
    have hle : m ≤ t.length := by omega
    simp [rtake, h, h', hle]
theorem rtake_length (m : Nat) (p : Bytes × Bool) : (rtake m p).1.length = m := by
  unfold rtake; split <;> simp; omega
theorem rNum (p : Bytes × Bool) (m : Nat) (hm : m ≤ 65536) (hp : p.1.length ≤ 4294967296) : run E (.call 287 [rdr p, xI m]) = some (.res [xI (rnum m p).1] [some (rdr (rnum m p).2)]) := by
  rw [run_call E 287 _ rfl Tryz.func287 rfl rfl rfl (by simp)]
  have h1 := rTake p m (by omega) hp
  have hl := rtake_length m p
  have h2 := big (rtake m p).1 (by omega)
  have hle : (rtake m p).1.length ≤ 140737488355328 := by omega
  simp [h1, h2, hle, rnum]
theorem rnum1_nat (p : Bytes × Bool) : ∃ k : Nat, (rnum 1 p).1 = k ∧ k < 256 := by
  have hl := rtake_length 1 p
  unfold rnum
  match hq : (rtake 1 p).1, hl with
  | [x], _ => exact ⟨x.toNat, by rw [ofBytes_one], x.toNat_lt⟩
theorem rnum2_nat (p : Bytes × Bool) : ∃ k : Nat, (rnum 2 p).1 = k ∧ k < 65536 := by
  have hl := rtake_length 2 p
  unfold rnum
  match hq : (rtake 2 p).1, hl with
  | [x, y], _ => exact ⟨two x y, by rw [ofBytes_two], two_lt x y⟩
theorem rValue (p : Bytes × Bool) (hp : p.1.length ≤ 4294967296) : run E (.call 261 [rdr p]) = some (.res [valX (rvalue p).1] [some (rdr (rvalue p).2)]) := by
  rw [run_call E 261 _ rfl Tryz.func261 rfl rfl rfl (by simp)]
  have h1 := rNum p 1 (by omega) hp
  have l1 := rnum_len 1 p
  have h11 := rNum (rnum 1 p).2 1 (by omega) (by omega)
  have h18 := rNum (rnum 1 p).2 8 (by omega) (by omega)
  have h12 := rNum (rnum 1 p).2 2 (by omega) (by omega)
  have l2 := rnum_len 2 (rnum 1 p).2
  obtain ⟨k, hk, hk2⟩ := rnum2_nat (rnum 1 p).2
  have ht := rTake (rnum 2 (rnum 1 p).2).2 k (by omega) (by omega)
  simp at h1 h11 h18 h12
  unfold rvalue
  by_cases e1 : (rnum 1 p).1 = 1
  · simp [h1, h11, e1]
  · by_cases e2 : (rnum 1 p).1 = 2
    · simp [h1, h18, e2]
    · by_cases e3 : (rnum 1 p).1 = 3
      · simp [h1, h12, e3, hk, ht]
      · by_cases e4 : (rnum 1 p).1 = 4
        · simp [h1, h12, e4, hk, ht]
        · by_cases e5 : (rnum 1 p).1 = 5
          · simp [h1, h12, e5, hk, ht]
          · have b1 : ((rnum 1 p).1 == 1) = false := by simpa using e1
            have b2 : ((rnum 1 p).1 == 2) = false := by simpa using e2
            have b3 : ((rnum 1 p).1 == 3) = false := by simpa using e3
            have b4 : ((rnum 1 p).1 == 4) = false := by simpa using e4
            have b5 : ((rnum 1 p).1 == 5) = false := by simpa using e5
            simp [h1, e1, e2, e3, e4, e5, b1, b2, b3, b4, b5]
def restI {α : Type} (f : Bytes × Bool → α × (Bytes × Bool)) : Nat → Bytes × Bool → Bytes
  | 0, p => p.1
  | n + 1, p => if p.1 = [] ∨ p.2 = true then p.1 else restI f n (f p).2
theorem rfield_len' (p : Bytes × Bool) (h : p.1 ≠ []) : (rfield p).2.1.length < p.1.length := by
  obtain ⟨t, f⟩ := p
  cases t with
  | nil => exact absurd rfl h
  | cons x r => have := rfield_len x r f; simp; omega
theorem rvalue_len' (p : Bytes × Bool) (h : p.1 ≠ []) : (rvalue p).2.1.length < p.1.length := by
  obtain ⟨t, f⟩ := p
  cases t with
  | nil => exact absurd rfl h
  | cons x r => have := rvalue_len x r f; simp; omega
theorem implItems (v : Val) (hv : v.t.length < 4294967296) : run E (.call 220 [xV v]) = some (.res [.row 38 ((itemsI v.t).1.map valT), xB (!(itemsI v.t).2)] []) := by
  rw [run_call E 220 _ rfl Tryz.func220 rfl rfl rfl (by simp)]
  have lp := sk1 (fun s o q hI => loop_wf (c := loopAt Tryz.f220 0) (N := 34)
    (fun k s o q => ∃ r p xs n, s 4 = .ptr 1 0 ∧ o 1 = .box 288 [.t (.str p.1), .t (.bool p.2)] ∧ s 5 = .row r ∧ o r = .row 38 (xs.map valT) true ∧ 1 < r ∧ r < q ∧ p.1.length = k ∧ k < n ∧ loopI rvalue (v.t.length + 1) (v.t, false) = (xs ++ (loopI rvalue n p).1, (loopI rvalue n p).2) ∧ restI rvalue (v.t.length + 1) (v.t, false) = restI rvalue n p ∧ xs.length + p.1.length ≤ v.t.length)
    (fun e s' o' q' => ∃ r, e = .exit 0 ∧ s' 4 = .ptr 1 0 ∧ o' 1 = .box 288 [.t (.str (restI rvalue (v.t.length + 1) (v.t, false))), .t (.bool (itemsI v.t).2)] ∧ s' 5 = .row r ∧ o' r = .row 38 ((itemsI v.t).1.map valT) true)
    (by
      rintro k s o q ⟨r, p, xs, n, h4, ho1, h5, hor, h1r, hrq, hk, hkn, hlo, hre, hl⟩
      have hr1 : r ≠ 1 := by omega
      have h1r' : 1 ≠ r := by omega
      have hrn : r ≠ q := by omega
      have hrn1 : r ≠ q + 1 := by omega
      have hqn : q ≠ r := by omega
      have hq1 : q ≠ 1 := by omega
      have h1q : 1 ≠ q := by omega
      have h1q1 : 1 ≠ q + 1 := by omega
      have hq0 : q ≠ 0 := by omega
      cases n with
      | zero => omega
      | succ n =>
        rcases p with ⟨_ | ⟨x0, r0⟩, pf⟩
        · have hI : (itemsI v.t) = (xs, pf) := by
            unfold itemsI; rw [hlo]; simp [loopI]
          have hR : restI rvalue (v.t.length + 1) (v.t, false) = [] := by rw [hre]; simp [restI]
          simp [loopAt, loopsOf, Tryz.f220, h4, ho1, h5, hor, hI, hR]
        · cases pf with
          | true =>
            have hI : (itemsI v.t) = (xs, true) := by
              unfold itemsI; rw [hlo]; simp [loopI]
            have hR : restI rvalue (v.t.length + 1) (v.t, false) = x0 :: r0 := by rw [hre]; simp [restI]
            simp [loopAt, loopsOf, Tryz.f220, h4, ho1, h5, hor, hI, hR]
          | false =>
            have hlen := rvalue_len' (x0 :: r0, false) (by simp)
            have hl0 : (x0 :: r0).length ≤ 4294967296 := by simp at hl ⊢; omega
            have hc := rValue (x0 :: r0, false) hl0
            have hx1 : xs.length + 1 ≤ 140737488355328 := by omega
            have hx2 : (xs.length + 1) * 32 ≤ 140737488355328 := by omega
            have hlo2 : loopI rvalue (n + 1) (x0 :: r0, false) = ((rvalue (x0 :: r0, false)).1 :: (loopI rvalue n (rvalue (x0 :: r0, false)).2).1, (loopI rvalue n (rvalue (x0 :: r0, false)).2).2) := by simp [loopI]
            have hre2 : restI rvalue (n + 1) (x0 :: r0, false) = restI rvalue n (rvalue (x0 :: r0, false)).2 := by simp [restI]
            simp [-Prod.exists, -Bool.exists_bool, loopAt, loopsOf, Tryz.f220, h4, ho1, h5, hor, hc, hr1, h1r', hrn, hrn1, hqn, hq1, h1q, h1q1, hq0, hx1, hx2]
            refine ⟨(rvalue (x0 :: r0, false)).2.1.length, by simp at hlen hk; omega, q + 1, (rvalue (x0 :: r0, false)).2, ⟨rfl, rfl⟩, rfl, xs ++ [(rvalue (x0 :: r0, false)).1], by simp, by omega, by omega, rfl, n, by simp at hlen hk; omega, ?_, ?_, by simp at hlen hl ⊢; omega⟩
            · rw [hlo, hlo2]; simp
            · rw [hre, hre2])
    v.t.length s o q hI)
  simp only [loopAt, loopsOf, Tryz.f220] at lp
  obtain ⟨X, A, B, C, M, hx⟩ := lp
  have hx' := fun s o q r a1 a2 a3 a4 a5 a6 => hx s o q ⟨r, (v.t, false), [], v.t.length + 1, a1, a2, a3, a4, a5, a6, rfl, by omega, by simp, rfl, by simp⟩
  clear hx
  simp at hx'
  have d := d220_4
  simp [regionOf, findR, pick, Tryz.f220] at d
  have dd := fun st => run_region_draw E st 4 _ d
  clear d
  simp [hx', dd]
theorem implFields (v : Val) (hv : v.t.length < 4294967296) : run E (.call 254 [xV v]) = some (.res [.row 237 ((fieldsI v.t).1.map fldT), xB (!(fieldsI v.t).2)] []) := by
  rw [run_call E 254 _ rfl Tryz.func254 rfl rfl rfl (by simp)]
  have lp := sk1 (fun s o q hI => loop_wf (c := loopAt Tryz.f254 0) (N := 39)
    (fun k s o q => ∃ r p xs n, s 4 = .ptr 1 0 ∧ o 1 = .box 288 [.t (.str p.1), .t (.bool p.2)] ∧ s 5 = .row r ∧ o r = .row 237 (xs.map fldT) true ∧ 1 < r ∧ r < q ∧ p.1.length = k ∧ k < n ∧ loopI rfield (v.t.length + 1) (v.t, false) = (xs ++ (loopI rfield n p).1, (loopI rfield n p).2) ∧ restI rfield (v.t.length + 1) (v.t, false) = restI rfield n p ∧ xs.length + p.1.length ≤ v.t.length)
    (fun e s' o' q' => ∃ r, e = .exit 0 ∧ s' 4 = .ptr 1 0 ∧ o' 1 = .box 288 [.t (.str (restI rfield (v.t.length + 1) (v.t, false))), .t (.bool (fieldsI v.t).2)] ∧ s' 5 = .row r ∧ o' r = .row 237 ((fieldsI v.t).1.map fldT) true)
    (by
      rintro k s o q ⟨r, p, xs, n, h4, ho1, h5, hor, h1r, hrq, hk, hkn, hlo, hre, hl⟩
      have hr1 : r ≠ 1 := by omega
      have h1r' : 1 ≠ r := by omega
      have hrn : r ≠ q := by omega
      have hrn1 : r ≠ q + 1 := by omega
      have hqn : q ≠ r := by omega
      have hq1 : q ≠ 1 := by omega
      have h1q : 1 ≠ q := by omega
      have h1q1 : 1 ≠ q + 1 := by omega
      have hq0 : q ≠ 0 := by omega
      cases n with
      | zero => omega
      | succ n =>
        rcases p with ⟨_ | ⟨x0, r0⟩, pf⟩
        · have hI : (fieldsI v.t) = (xs, pf) := by
            unfold fieldsI; rw [hlo]; simp [loopI]
          have hR : restI rfield (v.t.length + 1) (v.t, false) = [] := by rw [hre]; simp [restI]
          simp [loopAt, loopsOf, Tryz.f254, h4, ho1, h5, hor, hI, hR]
        · cases pf with
          | true =>
            have hI : (fieldsI v.t) = (xs, true) := by
              unfold fieldsI; rw [hlo]; simp [loopI]
            have hR : restI rfield (v.t.length + 1) (v.t, false) = x0 :: r0 := by rw [hre]; simp [restI]
            simp [loopAt, loopsOf, Tryz.f254, h4, ho1, h5, hor, hI, hR]
          | false =>
            have hlen := rfield_len' (x0 :: r0, false) (by simp)
            have hl0 : (x0 :: r0).length ≤ 4294967296 := by simp at hl ⊢; omega
            obtain ⟨k1, hk1, hk1l⟩ := rnum1_nat (x0 :: r0, false)
            have l1 := rnum_len 1 (x0 :: r0, false)
            have l2 := rtake_len k1 (rnum 1 (x0 :: r0, false)).2
            have hc1 := rNum (x0 :: r0, false) 1 (by omega) hl0
            have hc2 := rTake (rnum 1 (x0 :: r0, false)).2 k1 (by omega) (by simp at l1 hl0 ⊢; omega)
            have hc3 := rValue (rtake k1 (rnum 1 (x0 :: r0, false)).2).2 (by simp at l1 l2 hl0 ⊢; omega)
            simp [hk1] at hc1
            have hrf : rfield (x0 :: r0, false) = (⟨(rtake k1 (rnum 1 (x0 :: r0, false)).2).1, (rvalue (rtake k1 (rnum 1 (x0 :: r0, false)).2).2).1⟩, (rvalue (rtake k1 (rnum 1 (x0 :: r0, false)).2).2).2) := by unfold rfield; rw [hk1]; rfl
            have hx1 : xs.length + 1 ≤ 140737488355328 := by omega
            have hx2 : (xs.length + 1) * 48 ≤ 140737488355328 := by omega
            have hlo2 : loopI rfield (n + 1) (x0 :: r0, false) = ((rfield (x0 :: r0, false)).1 :: (loopI rfield n (rfield (x0 :: r0, false)).2).1, (loopI rfield n (rfield (x0 :: r0, false)).2).2) := by simp [loopI]
            have hre2 : restI rfield (n + 1) (x0 :: r0, false) = restI rfield n (rfield (x0 :: r0, false)).2 := by simp [restI]
            simp [-Prod.exists, -Bool.exists_bool, loopAt, loopsOf, Tryz.f254, h4, ho1, h5, hor, hc1, hc2, hc3, hr1, h1r', hrn, hrn1, hqn, hq1, h1q, h1q1, hq0, hx1, hx2]
            refine ⟨(rfield (x0 :: r0, false)).2.1.length, by simp at hlen hk; omega, q + 1, (rfield (x0 :: r0, false)).2, ⟨by rw [hrf], by rw [hrf]⟩, rfl, xs ++ [(rfield (x0 :: r0, false)).1], by simp [hrf], by omega, by omega, rfl, n, by simp at hlen hk; omega, ?_, ?_, by simp at hlen hl ⊢; omega⟩
            · rw [hlo, hlo2]; simp
            · rw [hre, hre2])
    v.t.length s o q hI)
  simp only [loopAt, loopsOf, Tryz.f254] at lp
  obtain ⟨X, A, B, C, M, hx⟩ := lp
  have hx' := fun s o q r a1 a2 a3 a4 a5 a6 => hx s o q ⟨r, (v.t, false), [], v.t.length + 1, a1, a2, a3, a4, a5, a6, rfl, by omega, by simp, rfl, by simp⟩
  clear hx
  simp at hx'
  have d := d254_4
  simp [regionOf, findR, pick, Tryz.f254] at d
  have dd := fun st => run_region_draw E st 4 _ d
  clear d
  simp [hx', dd]
def nameGo : Option Bytes → List Fld → Bool
  | _, [] => true
  | p, f :: r => nameP f.name && (match p with
      | none => true
      | some q => Op.bytesLess q f.name) && nameGo (some f.name) r
theorem nameGo_eq : ∀ (fs : List Fld), nameGo none fs = (fs.all (fun f => nameP f.name) && rising fs)
  | [] => rfl
  | [f] => by simp [nameGo, rising]
  | f :: g :: r => by
    have ih := nameGo_eq (g :: r)
    simp only [nameGo, rising, List.all_cons, Bool.and_true] at ih ⊢
    generalize nameGo (some g.name) r = D at *
    cases h1 : nameP f.name <;> cases h3 : Op.bytesLess f.name g.name <;> simp_all
theorem loopI_small {α : Type} (f : Bytes × Bool → α × (Bytes × Bool)) (hf : ∀ p : Bytes × Bool, p.1 ≠ [] → (f p).2.1.length < p.1.length) : ∀ (n : Nat) (p : Bytes × Bool), (loopI f n p).1.length ≤ p.1.length
  | 0, p => by simp [loopI]
  | n + 1, p => by
    unfold loopI
    split
    · simp
    · rename_i h
      have h1 : p.1 ≠ [] := fun e => h (.inl e)
      have := hf p h1
      have := loopI_small f hf n (f p).2
      simp; omega
theorem rvalue_small (p : Bytes × Bool) : (rvalue p).1.t.length ≤ 65536 := by
  unfold rvalue
  obtain ⟨k, hk, hk2⟩ := rnum2_nat (rnum 1 p).2
  split
  · simp
  · split
    · simp
    · split
      · simp only [hk]; rw [rtake_length]; omega
      · simp
theorem rfield_small (p : Bytes × Bool) : (rfield p).1.v.t.length ≤ 65536 ∧ (rfield p).1.name.length ≤ 256 := by
  unfold rfield
  obtain ⟨k, hk, hk2⟩ := rnum1_nat p
  exact ⟨rvalue_small _, by simp only [hk]; rw [rtake_length]; omega⟩
theorem loopI_all {α : Type} (f : Bytes × Bool → α × (Bytes × Bool)) (P : α → Prop) (hf : ∀ p, P (f p).1) : ∀ (n : Nat) (p : Bytes × Bool), ∀ x ∈ (loopI f n p).1, P x
  | 0, p, x, hx => by simp [loopI] at hx
  | n + 1, p, x, hx => by
    unfold loopI at hx
    split at hx
    · simp at hx
    · rcases List.mem_cons.1 hx with rfl | hx
      · exact hf p
      · exact loopI_all f P hf n _ x hx
theorem itemsI_small (t : Bytes) : (itemsI t).1.length ≤ t.length ∧ ∀ x ∈ (itemsI t).1, x.t.length ≤ 65536 := ⟨loopI_small _ rvalue_len' _ _, loopI_all _ _ rvalue_small _ _⟩
theorem fieldsI_small (t : Bytes) : (fieldsI t).1.length ≤ t.length ∧ ∀ x ∈ (fieldsI t).1, x.v.t.length ≤ 65536 ∧ x.name.length ≤ 256 := ⟨loopI_small _ rfield_len' _ _, loopI_all _ _ rfield_small _ _⟩
theorem implInner (v : Val) (hv : v.t.length < 4294967296) : run E (.call 215 [xV v]) = some (.res [.row 38 ((innerI v).1.map valT), xB (innerI v).2] []) := by
  rw [run_call E 215 _ rfl Tryz.func215 rfl rfl rfl (by simp)]
  by_cases h4 : v.k = 4
  · obtain ⟨k, n, t⟩ := v
    simp only at h4 hv
    subst h4
    have h := implItems ⟨4, n, t⟩ hv
    simp [h, innerI]
  · have h := implFields v hv
    obtain ⟨hs1, hs2⟩ := fieldsI_small v.t
    generalize hfs : (fieldsI v.t).1 = fs at *
    generalize hff : (fieldsI v.t).2 = ff at *
    have d8 := d215_8
    simp [regionOf, findR, pick, Tryz.f215] at d8
    have dd := fun st => run_region_draw E st 8 _ d8
    clear d8
    have lp := fun b (hb : b = (!ff && nameGo none fs)) => sk1 (fun s o q hI => loop_for (c := loopAt Tryz.f215 0) (N := 58)
      (fun i s o q => ∃ r z, s 4 = .row 1 ∧ s 5 = .t (.bool z) ∧ s 6 = .row r ∧ s 22 = .row 1 ∧ s 23 = .t (.int .i64 fs.length) ∧ s 24 = .t (.int .i64 i) ∧ o 1 = .row 237 (fs.map fldT) true ∧ 1 < r ∧ r < q ∧ o r = .row 38 ((fs.map (fun f => valT f.v)).take i) true ∧ b = (z && nameGo (match i with | 0 => none | j + 1 => (fs[j]?).map (·.name)) (fs.drop i)))
      (fun e s' o' q' => ∃ r, e = .exit 0 ∧ s' 6 = .row r ∧ s' 5 = .t (.bool b) ∧ o' r = .row 38 (fs.map (fun f => valT f.v)) true) fs.length
      (by
        rintro i s o q hi ⟨r, z, h4, h5, h6, h22, h23, h24, ho1, h1r, hrq, hor, hp⟩
        have hr1 : r ≠ 1 := by omega
        have h1r' : 1 ≠ r := by omega
        have hrn : r ≠ q := by omega
        have hrn1 : r ≠ q + 1 := by omega
        have hqn : q ≠ r := by omega
        have hq1 : q ≠ 1 := by omega
        have h1q : 1 ≠ q := by omega
        have h1q1 : 1 ≠ q + 1 := by omega
        have hq0 : q ≠ 0 := by omega
        have hdr : fs.drop i = fs[i] :: fs.drop (i + 1) := by rw [List.drop_eq_getElem_cons hi]
        have htk : (fs.map (fun f => valT f.v)).take (i + 1) = (fs.map (fun f => valT f.v)).take i ++ [valT fs[i].v] := by rw [List.take_add_one]; simp [hi]
        have hi' : (i : Int) < (fs.length : Int) := by omega
        have hw := wrap_succ (n := i) (by omega)
        have hsm := hs2 _ (List.getElem_mem hi)
        have hnm := isShort fs[i].name (by omega)
        have hxi : fs[i]? = some fs[i] := List.getElem?_eq_getElem hi
        have hx1 : i + 1 ≤ 140737488355328 := by omega
        have hx2 : (i + 1) * 32 ≤ 140737488355328 := by omega
        have hmin : min i fs.length = i := by omega
        rw [hdr] at hp
        simp only [htk]
        cases i with
        | zero =>
          simp only [nameGo] at hp
          cases z <;> cases hn : nameP fs[0].name <;> simp [hn] at hp hnm hor <;> simp [loopAt, loopsOf, Tryz.f215, dd, h4, h5, h6, h22, h23, h24, ho1, hor, hi, hi', hnm, hw, hp, hxi, hr1, h1r', hrn, hrn1, hqn, hq1, h1q, h1q1, hq0, hx1, hx2, hmin]
        | succ j =>
          have hj : j < fs.length := by omega
          have hxj : fs[j]? = some fs[j] := List.getElem?_eq_getElem hj
          have hpos : (0 : Int) < (j : Int) + 1 := by omega
          have hnn : (0 : Int) ≤ (j : Int) + 1 := by omega
          have hwj2 := wrap_nat (n := j) (by omega)
          have hjz : ((j : Int) + 1 == 0) = false := by simp; omega
          simp only [hxj, Option.map_some, nameGo] at hp
          simp at h24 hi' hw
          cases z <;> cases hn : nameP fs[j + 1].name <;> cases hbl : Op.bytesLess fs[j].name fs[j + 1].name <;> simp [hn, hbl] at hp hnm <;> simp [loopAt, loopsOf, Tryz.f215, dd, h4, h5, h6, h22, h23, h24, ho1, hor, hi, hi', hnm, hw, hp, hxi, hxj, hj, hpos, hnn, hwj2, hjz, succ_ne, hbl, hr1, h1r', hrn, hrn1, hqn, hq1, h1q, h1q1, hq0, hx1, hx2, hmin])
      (by
        rintro s o q ⟨r, z, h4, h5, h6, h22, h23, h24, ho1, h1r, hrq, hor, hp⟩
        simp [nameGo] at hp
        have hfull : (fs.map (fun f => valT f.v)).take fs.length = fs.map (fun f => valT f.v) := List.take_of_length_le (by simp)
        simp [loopAt, loopsOf, Tryz.f215, h4, h5, h6, h22, h23, h24, hor, hp, hfull])
      fs.length 0 s o q (by omega) hI)
    simp only [loopAt, loopsOf, Tryz.f215] at lp
    obtain ⟨X, A, B, C, M, hx⟩ := lp _ rfl
    have hx' := fun s o q r a1 a2 a3 a4 a5 a6 a7 a8 a9 a10 => hx s o q ⟨r, !ff, a1, a2, a3, a4, a5, a6, a7, a8, a9, a10, by simp⟩
    clear hx
    simp at hx'
    have heq := nameGo_eq fs
    simp [h4, h, hx', innerI, hfs, hff, heq, Function.comp_def, Bool.and_assoc, -List.all_eq_true]
theorem innerI_small (v : Val) : (innerI v).1.length ≤ v.t.length ∧ ∀ x ∈ (innerI v).1, x.t.length ≤ 65536 := by
  unfold innerI
  split
  · exact itemsI_small v.t
  · obtain ⟨h1, h2⟩ := fieldsI_small v.t
    refine ⟨by simpa using h1, fun x hx => ?_⟩
    simp only [List.mem_map] at hx
    obtain ⟨f, hf, rfl⟩ := hx
    exact (h2 f hf).1
theorem isNumber (n : Int) : run E (.call 214 [xI n]) = some (.res [xB (decide (-1000000000000 ≤ n) && decide (n ≤ 1000000000000))] []) := by
  rw [run_call E 214 _ rfl Tryz.func214 rfl rfl rfl (by simp)]
  simp [inRange]
theorem isRight : ∀ (d : Nat) (v : Val), d ≤ 1000 → v.t.length < 4294967296 → run E (.call 170 [xV v, xI d]) = some (.res [xB (rightI d v)] []) := by
  intro d
  induction d with
  | zero =>
    intro v _ hv
    rw [run_call E 170 _ rfl Tryz.func170 rfl rfl rfl (by simp)]
    obtain ⟨k, n, t⟩ := v
    simp only at hv
    have h300 : ((t.length : Int) ≤ 300) = (t.length ≤ 300) := by simp; omega
    have he : (t == []) = t.isEmpty := by cases t <;> rfl
    have hin := implInner ⟨k, n, t⟩ hv
    obtain ⟨z, z1, z2, z3⟩ := zcase n 0
    unfold rightI
    by_cases h0 : k = 0
    · subst h0; cases z <;> simp [z1, z2, z3, he]
    · by_cases h1 : k = 1
      · subst h1; by_cases hn : 0 ≤ n <;> by_cases hn' : n ≤ 1 <;> simp [hn, hn', inRange, he]
      · by_cases h2 : k = 2
        · subst h2; by_cases hn : -1000000000000 ≤ n <;> by_cases hn' : n ≤ 1000000000000 <;> simp [hn, hn', isNumber, he]
        · by_cases h3 : k = 3
          · subst h3; cases z <;> simp [z1, z2, z3, h300]
          · by_cases h4 : k = 4
            · subst h4
              cases z <;> by_cases hl : t.length ≤ 300 <;> simp [hin, z1, z2, z3, h300, hl]
            · by_cases h5 : k = 5
              · subst h5
                cases z <;> by_cases hl : t.length ≤ 300 <;> simp [hin, z1, z2, z3, h300, hl]
              · simp [h0, h1, h2, h3, h4, h5]
  | succ d ih =>
    intro v hd hv
    have hcl : ∀ x : Val, x.t.length < 4294967296 → run E (.call 216 [xV x, .dref [.int .i64 ((d : Int) + 1)]]) = some (.res [xB (!rightI d x)] []) := by
      intro x hx
      rw [run_call E 216 _ rfl Tryz.func216 rfl rfl rfl (by simp)]
      have hw1 : IntKind.i64.wrap ((d : Int) + 1 - 1) = (d : Int) := by rw [wrap_of (by omega) (by omega)]; omega
      have hw2 := wrap_nat (n := d) (by omega)
      have := ih x (by omega) hx
      simp [hw1, hw2, this]
    rw [run_call E 170 _ rfl Tryz.func170 rfl rfl rfl (by simp)]
    obtain ⟨k, n, t⟩ := v
    simp only at hv
    have h300 : ((t.length : Int) ≤ 300) = (t.length ≤ 300) := by simp; omega
    have he : (t == []) = t.isEmpty := by cases t <;> rfl
    have hin := implInner ⟨k, n, t⟩ hv
    obtain ⟨hs1, hs2⟩ := innerI_small ⟨k, n, t⟩
    have hd0 : (0 : Int) < (d : Int) + 1 := by omega
    have hcf := containsFunc_143_1 (innerI ⟨k, n, t⟩).1 216 [.int .i64 ((d : Int) + 1)] (fun x => !rightI d x) (by simp at hs1; omega) rfl (by simp) (fun x hx => hcl x (by have := hs2 x hx; omega))
    have hall : (!(innerI ⟨k, n, t⟩).1.any (fun x => !rightI d x)) = (innerI ⟨k, n, t⟩).1.all (rightI d) := by simp [List.any_eq_not_all_not]
    obtain ⟨z, z1, z2, z3⟩ := zcase n 0
    unfold rightI
    by_cases h0 : k = 0
    · subst h0; cases z <;> simp [z1, z2, z3, he]
    · by_cases h1 : k = 1
      · subst h1; by_cases hn : 0 ≤ n <;> by_cases hn' : n ≤ 1 <;> simp [hn, hn', inRange, he]
      · by_cases h2 : k = 2
        · subst h2; by_cases hn : -1000000000000 ≤ n <;> by_cases hn' : n ≤ 1000000000000 <;> simp [hn, hn', isNumber, he]
        · by_cases h3 : k = 3
          · subst h3; cases z <;> simp [z1, z2, z3, h300]
          · by_cases h4 : k = 4
            · subst h4
              cases hio : (innerI ⟨4, n, t⟩).2 <;> cases z <;> by_cases hl : t.length ≤ 300 <;> simp [hio] at hin <;> simp [hin, z1, z2, z3, h300, hl, hd0, hcf, hio, ← hall]
            · by_cases h5 : k = 5
              · subst h5
                cases hio : (innerI ⟨5, n, t⟩).2 <;> cases z <;> by_cases hl : t.length ≤ 300 <;> simp [hio] at hin <;> simp [hin, z1, z2, z3, h300, hl, hd0, hcf, hio, ← hall]
              · simp [h0, h1, h2, h3, h4, h5]
theorem implValueOK (v : Val) (hv : v.t.length < 4294967296) : run E (.call 110 [xV v]) = some (.res [xB (valueOK v)] []) := by
  rw [run_call E 110 _ rfl Tryz.func110 rfl rfl rfl (by simp)]
  have h := isRight 5 v (by omega) hv
  simp at h
  simp [h, valueOK, rightI_eq]
theorem beqd (a b : Int) : (a == b) = decide (a = b) := by rw [Bool.eq_iff_iff]; simp
def opOK (op : Int) (v : Val) : Bool :=
  if op = 7 then decide (v.k = 4)
  else if op = 8 then decide (v.k = 1)
  else if op = 9 then decide (v.k = 2) && (decide (0 ≤ v.n) && decide (v.n ≤ 5))
  else if op = 10 then decide (v.k = 2) && decide (0 ≤ v.n)
  else decide (1 ≤ op) && decide (op ≤ 6)
def termOK (t : Trm) : Bool := pathOK t.path && valueOK t.v && opOK t.op t.v
/-- Its parts are no longer than memory allows. -/
def Trm.sm (t : Trm) : Prop := t.path.length < 4294967296 ∧ t.v.t.length < 4294967296
theorem implTermOK (t : Trm) (h : t.sm) : run E (.call 109 [.t (trmT t)]) = some (.res [xB (termOK t)] []) := by
  rw [run_call E 109 _ rfl Tryz.func109 rfl rfl rfl (by simp)]
  obtain ⟨hp, hv⟩ := h
  have h1 := implPathOK t.path hp
  have h2 := implValueOK t.v hv
  obtain ⟨a, a1, a2, a3⟩ := zcase t.op 7
  obtain ⟨b, b1, b2, b3⟩ := zcase t.op 8
  obtain ⟨c, c1, c2, c3⟩ := zcase t.op 9
  obtain ⟨e, e1, e2, e3⟩ := zcase t.op 10
  obtain ⟨z, z1, z2, z3⟩ := zcase t.v.k 2
  unfold termOK opOK
  cases hP : pathOK t.path with
  | false => simp [hP] at h1; simp [h1]
  | true =>
    simp [hP] at h1
    cases hV : valueOK t.v with
    | false => simp [hV] at h2; simp [h1, h2]
    | true =>
      simp [hV] at h2
      cases a with
      | true => simp at a3; simp [h1, h2, a3, beqd]
      | false =>
        simp at a3
        cases b with
        | true => simp at b3; simp [h1, h2, b3, beqd]
        | false =>
          simp at b3
          cases c with
          | true => simp at c3; cases z <;> simp [h1, h2, c3, z1, z2, z3, inRange]
          | false =>
            simp at c3
            cases e with
            | true => simp at e3; cases z <;> simp [h1, h2, e3, z1, z2, z3]
            | false => simp at e3; simp [h1, h2, a3, b3, c3, e3, a1, b1, c1, e1, inRange]
theorem specTermOK (t : Trm) (h : t.sm) : run E (.call 179 [.t (trmT t)]) = some (.res [xB (termOK t)] []) := by
  rw [run_call E 179 _ rfl Tryz.func179 rfl rfl rfl (by simp)]
  obtain ⟨hp, hv⟩ := h
  have h1 := specPathOK t.path hp
  have h2 := specValueOK t.v hv
  have hl : ((65536 : Int) < (t.path.length : Int)) = (65536 < t.path.length) := by simp; omega
  obtain ⟨z, z1, z2, z3⟩ := zcase t.v.k 2
  unfold termOK
  by_cases hL : 65536 < t.path.length
  · have : pathOK t.path = false := by
      have h50 : ¬ t.path.length ≤ 50 := by omega
      simp [pathOK, h50]
    simp [hl, hL, this]
  · cases hP : pathOK t.path with
    | false => simp [hP] at h1; simp [hl, hL, h1]
    | true =>
      simp [hP] at h1
      cases hV : valueOK t.v with
      | false => simp [hV] at h2; simp [hl, hL, h1, h2]
      | true =>
        simp [hV] at h2
        unfold opOK
        by_cases o1 : t.op = 1
        · simp [hl, hL, h1, h2, o1]
        · by_cases o2 : t.op = 2
          · simp [hl, hL, h1, h2, o2]
          · by_cases o3 : t.op = 3
            · simp [hl, hL, h1, h2, o3]
            · by_cases o4 : t.op = 4
              · simp [hl, hL, h1, h2, o4]
              · by_cases o5 : t.op = 5
                · simp [hl, hL, h1, h2, o5]
                · by_cases o6 : t.op = 6
                  · simp [hl, hL, h1, h2, o6]
                  · by_cases o7 : t.op = 7
                    · simp [hl, hL, h1, h2, o7, beqd]
                    · by_cases o8 : t.op = 8
                      · simp [hl, hL, h1, h2, o8, beqd]
                      · by_cases o9 : t.op = 9
                        · cases z <;> simp [hl, hL, h1, h2, o9, l01In, z1, z2, z3]
                        · by_cases o10 : t.op = 10
                          · cases z <;> simp [hl, hL, h1, h2, o10, z1, z2, z3]
                          · have hr : ¬ (1 ≤ t.op ∧ t.op ≤ 6) := by omega
                            simp [hl, hL, h1, h2, o1, o2, o3, o4, o5, o6, o7, o8, o9, o10]
                            omega
def clauseOK (c : List Trm) : Bool := decide (c.length ≤ 4) && c.all termOK
def filterOK (f : List (List Trm)) : Bool := (decide (1 ≤ f.length) && decide (f.length ≤ 3)) && f.all clauseOK
def clauseSm (c : List Trm) : Prop := c.length < 4294967296 ∧ ∀ t ∈ c, t.sm
def filterSm (f : List (List Trm)) : Prop := f.length < 4294967296 ∧ ∀ c ∈ f, clauseSm c
theorem implTermClosure (t : Trm) (h : t.sm) : run E (.call 108 [.t (trmT t)]) = some (.res [xB (!termOK t)] []) := by
  rw [run_call E 108 _ rfl Tryz.func108 rfl rfl rfl (by simp)]
  simp [implTermOK t h]
theorem any_not_all {α : Type} (p : α → Bool) (l : List α) : (l.any (fun x => !p x)) = !l.all p := by simp [List.any_eq_not_all_not]
theorem implClauseClosure (c : List Trm) (h : clauseSm c) : run E (.call 106 [.t (clsT c)]) = some (.res [xB (!clauseOK c)] []) := by
  rw [run_call E 106 _ rfl Tryz.func106 rfl rfl rfl (by simp)]
  have hc := containsFunc_134_0 c 108 (fun t => !termOK t) (by have := h.1; omega) rfl (by simp) (fun t ht => implTermClosure t (h.2 t ht))
  rw [any_not_all] at hc
  have h4 : ((4 : Int) < (c.length : Int)) = (4 < c.length) := by simp; omega
  by_cases hl : 4 < c.length
  · have : ¬ c.length ≤ 4 := by omega
    simp [h4, hl, clauseOK, this]
  · have : c.length ≤ 4 := by omega
    simp [h4, hl, clauseOK, this, hc]
theorem implFilterOK (f : List (List Trm)) (h : filterSm f) : run E (.call 47 [.t (filT f)]) = some (.res [xB (filterOK f)] []) := by
  rw [run_call E 47 _ rfl Tryz.func47 rfl rfl rfl (by simp)]
  have hc := containsFunc_132_0 f 106 (fun c => !clauseOK c) (by have := h.1; omega) rfl (by simp) (fun c hc => implClauseClosure c (h.2 c hc))
  rw [any_not_all] at hc
  have hr := inRange (f.length : Int) 1 3
  have h1 : decide ((1 : Int) ≤ (f.length : Int)) = decide (1 ≤ f.length) := by congr 1; simp; omega
  have h3 : decide ((f.length : Int) ≤ 3) = decide (f.length ≤ 3) := by congr 1; simp; omega
  rw [h1, h3] at hr
  unfold filterOK
  cases hb : (decide (1 ≤ f.length) && decide (f.length ≤ 3)) with
  | false => rw [hb] at hr; simp [hr]
  | true => rw [hb] at hr; simp [hr, hc, -List.all_eq_true]
theorem filterOK_inner (f : List (List Trm)) (h : filterSm f) (i : Nat) (hi : i < f.length) (b : Bool) (hb : b = f[i].all termOK) : ∀ s o q, (s 1 = .ptr 0 0 ∧ s 3 = .t (.int .i64 i) ∧ s 4 = .t (.int .i64 0) ∧ o 0 = .box 34 [.t (.list (f.map clsT))]) →
    ∃ e s' o' q', run E (.code (.loop (loopAt Tryz.f130 1)) ⟨s, o, q, 47⟩) = some (.st e ⟨s', o', q', 47⟩) ∧ e = (if b then .exit 2 else .ret) ∧ s' 1 = .ptr 0 0 ∧ s' 3 = .t (.int .i64 i) ∧ o' 0 = .box 34 [.t (.list (f.map clsT))] ∧ (b = false → s' 2 = .t (.bool false)) := by
  have hc := h.2 _ (List.getElem_mem hi)
  have hfi : f[i]? = some f[i] := List.getElem?_eq_getElem hi
  intro s o q hI
  refine loop_for (c := loopAt Tryz.f130 1) (N := 47)
    (fun j s o q => s 1 = .ptr 0 0 ∧ s 3 = .t (.int .i64 i) ∧ s 4 = .t (.int .i64 j) ∧ o 0 = .box 34 [.t (.list (f.map clsT))] ∧ b = (f[i].drop j).all termOK)
    (fun e s' o' q' => e = (if b then .exit 2 else .ret) ∧ s' 1 = .ptr 0 0 ∧ s' 3 = .t (.int .i64 i) ∧ o' 0 = .box 34 [.t (.list (f.map clsT))] ∧ (b = false → s' 2 = .t (.bool false))) f[i].length ?_ ?_
    f[i].length 0 s o q (by omega) ⟨hI.1, hI.2.1, hI.2.2.1, hI.2.2.2, by simpa using hb⟩
  · rintro j s o q hj ⟨h1, h3, h4, ho, hp⟩
    have hcj := hc.2 _ (List.getElem_mem hj)
    have hci : f[i][j]? = some f[i][j] := List.getElem?_eq_getElem hj
    have hj' : (j : Int) < (f[i].length : Int) := by omega
    have hw := wrap_succ (n := j) (by have := hc.1; omega)
    have ht := specTermOK f[i][j] hcj
    rw [List.drop_eq_getElem_cons hj, List.all_cons] at hp
    cases hok : termOK f[i][j] <;> simp [hok] at hp ht <;> simp [loopAt, loopsOf, Tryz.f130, h1, h3, h4, ho, hj', hfi, hci, hw, ht, hp]
  · rintro s o q ⟨h1, h3, h4, ho, hp⟩
    simp at hp
    simp [loopAt, loopsOf, Tryz.f130, h1, h3, h4, ho, hp, hfi]
theorem specFilterOK (f : List (List Trm)) (h : filterSm f) : run E (.call 130 [.t (filT f)]) = some (.res [xB (filterOK f)] []) := by
  rw [run_call E 130 _ rfl Tryz.func130 rfl rfl rfl (by simp)]
  have hr := l01In (f.length : Int) 1 3
  have h1 : decide ((1 : Int) ≤ (f.length : Int)) = decide (1 ≤ f.length) := by congr 1; simp; omega
  have h3 : decide ((f.length : Int) ≤ 3) = decide (f.length ≤ 3) := by congr 1; simp; omega
  rw [h1, h3] at hr
  unfold filterOK
  cases hb : (decide (1 ≤ f.length) && decide (f.length ≤ 3)) with
  | false => rw [hb] at hr; simp [hr]
  | true =>
    rw [hb] at hr
    have lp := fun b (hb : b = f.all clauseOK) => sk (fun s o q hI => loop_for (c := loopAt Tryz.f130 0) (N := 47)
      (fun i s o q => s 1 = .ptr 0 0 ∧ s 3 = .t (.int .i64 i) ∧ o 0 = .box 34 [.t (.list (f.map clsT))] ∧ b = (f.drop i).all clauseOK)
      (fun e s' o' q' => e = (if b then .exit 0 else .ret) ∧ (b = false → s' 2 = .t (.bool false))) f.length
      (by
        rintro i s o q hi ⟨h1, h3, ho, hp⟩
        have hc := h.2 _ (List.getElem_mem hi)
        have hfi : f[i]? = some f[i] := List.getElem?_eq_getElem hi
        have hi' : (i : Int) < (f.length : Int) := by omega
        have hw := wrap_succ (n := i) (by have := h.1; omega)
        have h4 : ((4 : Int) < (f[i].length : Int)) = (4 < f[i].length) := by simp; omega
        rw [List.drop_eq_getElem_cons hi, List.all_cons] at hp
        by_cases hl : 4 < f[i].length
        · have hl' : ¬ f[i].length ≤ 4 := by omega
          simp [clauseOK, hl'] at hp
          simp [loopAt, loopsOf, Tryz.f130, h1, h3, ho, hi', hfi, hw, h4, hl, hp]
        · have hl' : f[i].length ≤ 4 := by omega
          cases hq : f[i].all termOK with
          | true =>
            obtain ⟨X, A, B, C, hx⟩ := sk (filterOK_inner f h i hi true hq.symm)
            simp [loopAt, loopsOf, Tryz.f130] at hx
            simp [clauseOK, hl', hq, -List.all_eq_true] at hp
            simp [loopAt, loopsOf, Tryz.f130, h1, h3, ho, hi', hfi, hw, h4, hl, hx, hp, -List.all_eq_true]
          | false =>
            obtain ⟨X, A, B, C, hx⟩ := sk (filterOK_inner f h i hi false hq.symm)
            simp [loopAt, loopsOf, Tryz.f130] at hx
            simp [clauseOK, hl', hq, -List.all_eq_true, -List.all_eq_false] at hp
            simp [loopAt, loopsOf, Tryz.f130, h1, h3, ho, hi', hfi, hw, h4, hl, hx, hp, -List.all_eq_true, -List.all_eq_false])
      (by
        rintro s o q ⟨h1, h3, ho, hp⟩
        simp at hp
        simp [loopAt, loopsOf, Tryz.f130, h1, h3, ho, hp])
      f.length 0 s o q (by omega) hI)
    simp only [loopAt, loopsOf, Tryz.f130] at lp
    cases hq : f.all clauseOK with
    | true =>
      obtain ⟨X, A, B, C, hx⟩ := lp true hq.symm
      simp [hq, -List.all_eq_true] at hx
      simp [hr, hx, hq, -List.all_eq_true]
    | false =>
      obtain ⟨X, A, B, C, hx⟩ := lp false hq.symm
      simp [hq, -List.all_eq_true, -List.all_eq_false] at hx
      simp [hr, hx, hq, -List.all_eq_true, -List.all_eq_false]
structure Qry where
  filter : List (List Trm)
  sort : List Prt
  skip : Int
  limit : Int
  keep : List Bytes
  hint : Bytes
abbrev qryT (q : Qry) : T := .agg [.list (q.filter.map clsT), .list (q.sort.map prtT), .int .i64 q.skip, .int .i64 q.limit, .list (q.keep.map strT), .str q.hint]
def partsOK (l : List Prt) : Bool := decide (l.length ≤ 2) && l.all (fun p => pathOK p.path)
def keepOK (l : List Bytes) : Bool := decide (l.length ≤ 4) && l.all nameP
def in100 (n : Int) : Bool := decide (0 ≤ n) && decide (n ≤ 100)
def hintOK (t : Bytes) : Bool := t.isEmpty || nameP t
def queryOK (q : Qry) : Bool := filterOK q.filter && partsOK q.sort && in100 q.skip && in100 q.limit && keepOK q.keep && hintOK q.hint
def partsSm (l : List Prt) : Prop := l.length < 4294967296 ∧ ∀ p ∈ l, p.path.length < 4294967296
def textsSm (l : List Bytes) : Prop := l.length < 4294967296 ∧ ∀ p ∈ l, p.length < 4294967296
structure Qry.Sm (q : Qry) : Prop where
  filter : filterSm q.filter
  sort : partsSm q.sort
  keep : textsSm q.keep
  hint : q.hint.length < 4294967296
theorem partOK (p : Prt) (h : p.path.length < 4294967296) : run E (.call 190 [.t (prtT p)]) = some (.res [xB (pathOK p.path)] []) := by
  rw [run_call E 190 _ rfl Tryz.func190 rfl rfl rfl (by simp)]
  simp [implPathOK p.path h]
theorem sortClosure (p : Prt) (h : p.path.length < 4294967296) : run E (.call 189 [.t (prtT p)]) = some (.res [xB (!pathOK p.path)] []) := by
  rw [run_call E 189 _ rfl Tryz.func189 rfl rfl rfl (by simp)]
  simp [partOK p h]
theorem sortOK (l : List Prt) (h : partsSm l) : run E (.call 141 [.t (.list (l.map prtT))]) = some (.res [xB (partsOK l)] []) := by
  rw [run_call E 141 _ rfl Tryz.func141 rfl rfl rfl (by simp)]
  have hc := containsFunc_136_0 l 189 (fun p => !pathOK p.path) (by have := h.1; omega) rfl (by simp) (fun p hp => sortClosure p (h.2 p hp))
  rw [any_not_all] at hc
  have h2 : ((l.length : Int) ≤ 2) = (l.length ≤ 2) := by simp; omega
  by_cases hl : l.length ≤ 2 <;> simp [h2, hl, partsOK, hc, -List.all_eq_true]
theorem shortClosure (t : Bytes) (h : t.length < 4294967296) : run E (.call 192 [xS t]) = some (.res [xB (!nameP t)] []) := by
  rw [run_call E 192 _ rfl Tryz.func192 rfl rfl rfl (by simp)]
  simp [isShort t (by omega)]
theorem areShort (l : List Bytes) (h : textsSm l) : run E (.call 142 [.t (.list (l.map strT))]) = some (.res [xB (l.all nameP)] []) := by
  rw [run_call E 142 _ rfl Tryz.func142 rfl rfl rfl (by simp)]
  have hc := containsFunc_138_0 l 192 (fun p => !nameP p) (by have := h.1; omega) rfl (by simp) (fun p hp => shortClosure p (h.2 p hp))
  rw [any_not_all] at hc
  simp [hc, -List.all_eq_true]
theorem implQueryOK (q : Qry) (h : q.Sm) : run E (.call 79 [.t (qryT q)]) = some (.res [xB (queryOK q)] []) := by
  rw [run_call E 79 _ rfl Tryz.func79 rfl rfl rfl (by simp)]
  have h1 := implFilterOK q.filter h.filter
  have h2 := sortOK q.sort h.sort
  have h3 := inRange q.skip 0 100
  have h4 := inRange q.limit 0 100
  have h5 := areShort q.keep h.keep
  have h6 := isShort q.hint (by have := h.hint; omega)
  have h4l : ((q.keep.length : Int) ≤ 4) = (q.keep.length ≤ 4) := by simp; omega
  have he : (q.hint == []) = q.hint.isEmpty := by cases q.hint <;> rfl
  rw [show (decide (0 ≤ q.skip) && decide (q.skip ≤ 100)) = in100 q.skip from rfl] at h3
  rw [show (decide (0 ≤ q.limit) && decide (q.limit ≤ 100)) = in100 q.limit from rfl] at h4
  unfold queryOK keepOK hintOK
  cases hF : filterOK q.filter with
  | false => rw [hF] at h1; simp [h1]
  | true =>
    rw [hF] at h1
    cases hS : partsOK q.sort with
    | false => rw [hS] at h2; simp [h1, h2]
    | true =>
      rw [hS] at h2
      cases hK : in100 q.skip with
      | false => rw [hK] at h3; simp [h1, h2, h3]
      | true =>
        rw [hK] at h3
        cases hL : in100 q.limit with
        | false => rw [hL] at h4; simp [h1, h2, h3, h4]
        | true =>
          rw [hL] at h4
          by_cases hk : q.keep.length ≤ 4
          · cases hA : q.keep.all nameP with
            | false => rw [hA] at h5; simp [h1, h2, h3, h4, h4l, hk, h5, -List.all_eq_true]
            | true =>
              rw [hA] at h5
              cases hE : q.hint.isEmpty with
              | true =>
                have : q.hint = [] := by simpa using hE
                simp [h1, h2, h3, h4, h4l, hk, h5, this, -List.all_eq_true]
              | false =>
                have : ¬ q.hint = [] := by simpa using hE
                have hb : (q.hint == []) = false := by simpa using this
                simp [h1, h2, h3, h4, h4l, hk, h5, hb, this, h6, hE, -List.all_eq_true]
          · simp [h1, h2, h3, h4, h4l, hk]
abbrev qBox (q : Qry) : Ob := .box 75 [.t (.list (q.filter.map clsT)), .t (.list (q.sort.map prtT)), .t (.int .i64 q.skip), .t (.int .i64 q.limit), .t (.list (q.keep.map strT)), .t (.str q.hint)]
theorem specQuery_sort (q : Qry) (h : q.Sm) (b : Bool) (hb : b = q.sort.all (fun p => pathOK p.path)) : ∀ s o n, (s 1 = .ptr 0 0 ∧ s 3 = .t (.int .i64 0) ∧ o 0 = qBox q) →
    ∃ e s' o' n', run E (.code (.loop (loopAt Tryz.f72 0)) ⟨s, o, n, 73⟩) = some (.st e ⟨s', o', n', 73⟩) ∧ e = (if b then .exit 0 else .ret) ∧ s' 1 = .ptr 0 0 ∧ o' 0 = qBox q ∧ (b = false → s' 2 = .t (.bool false)) := by
  intro s o n hI
  refine loop_for (c := loopAt Tryz.f72 0) (N := 73)
    (fun i s o n => s 1 = .ptr 0 0 ∧ s 3 = .t (.int .i64 i) ∧ o 0 = qBox q ∧ b = (q.sort.drop i).all (fun p => pathOK p.path))
    (fun e s' o' n' => e = (if b then .exit 0 else .ret) ∧ s' 1 = .ptr 0 0 ∧ o' 0 = qBox q ∧ (b = false → s' 2 = .t (.bool false))) q.sort.length ?_ ?_
    q.sort.length 0 s o n (by omega) ⟨hI.1, hI.2.1, hI.2.2, by simpa using hb⟩
  · rintro i s o n hi ⟨h1, h3, ho, hp⟩
    have hfi : q.sort[i]? = some q.sort[i] := List.getElem?_eq_getElem hi
    have hi' : (i : Int) < (q.sort.length : Int) := by omega
    have hw := wrap_succ (n := i) (by have := h.sort.1; omega)
    have ht := specPathOK q.sort[i].path (h.sort.2 _ (List.getElem_mem hi))
    rw [List.drop_eq_getElem_cons hi, List.all_cons] at hp
    cases hok : pathOK q.sort[i].path <;> simp [hok] at hp ht <;> simp [loopAt, loopsOf, Tryz.f72, h1, h3, ho, hi', hfi, hw, ht, hp]
  · rintro s o n ⟨h1, h3, ho, hp⟩
    simp at hp
    simp [loopAt, loopsOf, Tryz.f72, h1, h3, ho, hp]
theorem specQuery_keep (q : Qry) (h : q.Sm) (b : Bool) (hb : b = q.keep.all nameP) : ∀ s o n, (s 1 = .ptr 0 0 ∧ s 4 = .t (.int .i64 0) ∧ o 0 = qBox q) →
    ∃ e s' o' n', run E (.code (.loop (loopAt Tryz.f72 1)) ⟨s, o, n, 73⟩) = some (.st e ⟨s', o', n', 73⟩) ∧ e = (if b then .exit 2 else .ret) ∧ (b = false → s' 2 = .t (.bool false)) := by
  intro s o n hI
  refine loop_for (c := loopAt Tryz.f72 1) (N := 73)
    (fun i s o n => s 1 = .ptr 0 0 ∧ s 4 = .t (.int .i64 i) ∧ o 0 = qBox q ∧ b = (q.keep.drop i).all nameP)
    (fun e s' o' n' => e = (if b then .exit 2 else .ret) ∧ (b = false → s' 2 = .t (.bool false))) q.keep.length ?_ ?_
    q.keep.length 0 s o n (by omega) ⟨hI.1, hI.2.1, hI.2.2, by simpa using hb⟩
  · rintro i s o n hi ⟨h1, h3, ho, hp⟩
    have hfi : q.keep[i]? = some q.keep[i] := List.getElem?_eq_getElem hi
    have hi' : (i : Int) < (q.keep.length : Int) := by omega
    have hw := wrap_succ (n := i) (by have := h.keep.1; omega)
    have ht := l01Name q.keep[i] (by have := h.keep.2 _ (List.getElem_mem hi); omega)
    rw [List.drop_eq_getElem_cons hi, List.all_cons] at hp
    cases hok : nameP q.keep[i] <;> simp [hok] at hp ht <;> simp [loopAt, loopsOf, Tryz.f72, h1, h3, ho, hi', hfi, hw, ht, hp]
  · rintro s o n ⟨h1, h3, ho, hp⟩
    simp at hp
    simp [loopAt, loopsOf, Tryz.f72, h1, h3, ho, hp]
theorem specQueryOK (q : Qry) (h : q.Sm) : run E (.call 72 [.t (qryT q)]) = some (.res [xB (queryOK q)] []) := by
  rw [run_call E 72 _ rfl Tryz.func72 rfl rfl rfl (by simp)]
  have h1 := specFilterOK q.filter h.filter
  have h3 := l01In q.skip 0 100
  have h4 := l01In q.limit 0 100
  have h6 := l01Name q.hint (by have := h.hint; omega)
  have h2l : ((2 : Int) < (q.sort.length : Int)) = (2 < q.sort.length) := by simp; omega
  have h4l : ((4 : Int) < (q.keep.length : Int)) = (4 < q.keep.length) := by simp; omega
  rw [show (decide (0 ≤ q.skip) && decide (q.skip ≤ 100)) = in100 q.skip from rfl] at h3
  rw [show (decide (0 ≤ q.limit) && decide (q.limit ≤ 100)) = in100 q.limit from rfl] at h4
  have hQ : queryOK q = (filterOK q.filter && decide (q.sort.length ≤ 2) && in100 q.skip && in100 q.limit && decide (q.keep.length ≤ 4) && hintOK q.hint && q.sort.all (fun p => pathOK p.path) && q.keep.all nameP) := by
    unfold queryOK partsOK keepOK
    generalize filterOK q.filter = a1; generalize decide (q.sort.length ≤ 2) = a2; generalize in100 q.skip = a3; generalize in100 q.limit = a4; generalize decide (q.keep.length ≤ 4) = a5; generalize hintOK q.hint = a6; generalize q.sort.all (fun p => pathOK p.path) = a7; generalize q.keep.all nameP = a8
    revert a1 a2 a3 a4 a5 a6 a7 a8
    decide
  rw [hQ]
  cases hF : filterOK q.filter with
  | false => rw [hF] at h1; simp [h1]
  | true =>
    rw [hF] at h1
    by_cases hS : 2 < q.sort.length
    · have hS' : ¬ q.sort.length ≤ 2 := by omega
      simp [h1, h2l, hS, hS']
    · have hS' : q.sort.length ≤ 2 := by omega
      cases hK : in100 q.skip with
      | false => rw [hK] at h3; simp [h1, h2l, hS, h3]
      | true =>
        rw [hK] at h3
        cases hL : in100 q.limit with
        | false => rw [hL] at h4; simp [h1, h2l, hS, h3, h4]
        | true =>
          rw [hL] at h4
          by_cases hk : 4 < q.keep.length
          · have hk' : ¬ q.keep.length ≤ 4 := by omega
            simp [h1, h2l, hS, h3, h4, h4l, hk, hk']
          · have hk' : q.keep.length ≤ 4 := by omega
            have fin : ∀ (z : Bool), q.hint.isEmpty = (!z) → (z = true → nameP q.hint = true) → run E (.call 72 [.t (qryT q)]) = some (.res [xB (q.sort.all (fun p => pathOK p.path) && q.keep.all nameP)] []) := by
              intro z hz hzn
              rw [run_call E 72 _ rfl Tryz.func72 rfl rfl rfl (by simp)]
              cases hb : q.sort.all (fun p => pathOK p.path) with
              | false =>
                obtain ⟨X, A, B, C, hx⟩ := sk (specQuery_sort q h false hb.symm)
                simp [loopAt, loopsOf, Tryz.f72] at hx
                cases z with
                | false => simp [h1, h2l, hS, h3, h4, h4l, hk, hz, hx, -List.all_eq_true, -List.all_eq_false]
                | true =>
                  rw [hzn rfl] at h6
                  simp [h1, h2l, hS, h3, h4, h4l, hk, hz, h6, hx, -List.all_eq_true, -List.all_eq_false]
              | true =>
                obtain ⟨X, A, B, C, hx⟩ := sk (specQuery_sort q h true hb.symm)
                simp [loopAt, loopsOf, Tryz.f72] at hx
                cases hb2 : q.keep.all nameP with
                | false =>
                  obtain ⟨X2, A2, B2, C2, hx2⟩ := sk (specQuery_keep q h false hb2.symm)
                  simp [loopAt, loopsOf, Tryz.f72] at hx2
                  cases z with
                  | false => simp [h1, h2l, hS, h3, h4, h4l, hk, hz, hx, hx2, -List.all_eq_true, -List.all_eq_false]
                  | true =>
                    rw [hzn rfl] at h6
                    simp [h1, h2l, hS, h3, h4, h4l, hk, hz, h6, hx, hx2, -List.all_eq_true, -List.all_eq_false]
                | true =>
                  obtain ⟨X2, A2, B2, C2, hx2⟩ := sk (specQuery_keep q h true hb2.symm)
                  simp [loopAt, loopsOf, Tryz.f72] at hx2
                  cases z with
                  | false => simp [h1, h2l, hS, h3, h4, h4l, hk, hz, hx, hx2, -List.all_eq_true]
                  | true =>
                    rw [hzn rfl] at h6
                    simp [h1, h2l, hS, h3, h4, h4l, hk, hz, h6, hx, hx2, -List.all_eq_true]
            rw [run_call E 72 _ rfl Tryz.func72 rfl rfl rfl (by simp)] at fin
            unfold hintOK
            cases hE : q.hint.isEmpty with
            | true =>
              rw [fin false hE (by simp)]
              simp [hk', hS', -List.all_eq_true]
            | false =>
              cases hN : nameP q.hint with
              | true =>
                rw [fin true hE (fun _ => hN)]
                simp [hk', hS', -List.all_eq_true]
              | false =>
                rw [hN] at h6
                simp [h1, h2l, hS, h3, h4, h4l, hk, hE, h6]
def szB (n : Nat) (l : Int) : Int := if l - n < 0 then -1 else l - n
def goSz {α : Type} (f : α → Int → Int) : List α → Int → Int
  | [], l => l
  | x :: r, l => if f x l < 0 then -1 else goSz f r (f x l)
def lstSz {α : Type} (f : α → Int → Int) (xs : List α) (l : Int) : Int := if szB xs.length l < 0 then -1 else goSz f xs (szB xs.length l)
def thenSz (f g : Int → Int) (l : Int) : Int := if f l < 0 then -1 else g (f l)
theorem szB_le {n : Nat} {l : Int} (h : 0 ≤ l) : szB n l ≤ l := by unfold szB; split <;> omega
theorem szB_bound {n : Nat} {l : Int} (h : ¬ szB n l < 0) : (n : Int) ≤ l := by unfold szB at h; split at h <;> omega
theorem goSz_le {α : Type} {f : α → Int → Int} : ∀ {xs : List α} {l : Int}, 0 ≤ l → (∀ x ∈ xs, ∀ k, 0 ≤ k → f x k ≤ k) → goSz f xs l ≤ l
  | [], l, _, _ => Int.le_refl _
  | x :: r, l, h0, h => by
    unfold goSz
    have hx := h x (by simp) l h0
    split
    · omega
    · have := goSz_le (xs := r) (l := f x l) (by omega) (fun y hy => h y (by simp [hy]))
      omega
theorem lstSz_le {α : Type} {f : α → Int → Int} {xs : List α} {l : Int} (h0 : 0 ≤ l) (h : ∀ x ∈ xs, ∀ k, 0 ≤ k → f x k ≤ k) : lstSz f xs l ≤ l := by
  unfold lstSz
  have := szB_le (n := xs.length) h0
  split
  · omega
  · have := goSz_le (f := f) (xs := xs) (l := szB xs.length l) (by omega) h
    omega
theorem thenSz_le {f g : Int → Int} {l : Int} (h0 : 0 ≤ l) (hf : ∀ k, 0 ≤ k → f k ≤ k) (hg : ∀ k, 0 ≤ k → g k ≤ k) : thenSz f g l ≤ l := by
  unfold thenSz
  have := hf l h0
  split
  · omega
  · have := hg (f l) (by omega); omega
theorem goSz_all {α : Type} {f : α → Int → Int} {P : α → Prop} {m : Int} : ∀ {xs : List α} {l : Int}, 0 ≤ l → l ≤ m → (∀ x ∈ xs, ∀ k, 0 ≤ k → f x k ≤ k) → (∀ x ∈ xs, ∀ k, 0 ≤ k → k ≤ m → ¬ f x k < 0 → P x) → ¬ goSz f xs l < 0 → ∀ x ∈ xs, P x
  | [], _, _, _, _, _, _, x, hx => by simp at hx
  | y :: r, l, h0, hm, hle, hp, h, x, hx => by
    unfold goSz at h
    split at h
    · omega
    · rename_i hf
      have hy := hle y (by simp) l h0
      rcases List.mem_cons.1 hx with rfl | hx
      · exact hp _ (by simp) l h0 hm hf
      · exact goSz_all (by omega) (by omega) (fun z hz => hle z (by simp [hz])) (fun z hz => hp z (by simp [hz])) h x hx
theorem lstSz_all {α : Type} {f : α → Int → Int} {P : α → Prop} {m : Int} {xs : List α} {l : Int} (h0 : 0 ≤ l) (hm : l ≤ m) (hle : ∀ x ∈ xs, ∀ k, 0 ≤ k → f x k ≤ k) (hp : ∀ x ∈ xs, ∀ k, 0 ≤ k → k ≤ m → ¬ f x k < 0 → P x) (h : ¬ lstSz f xs l < 0) : (xs.length : Int) ≤ m ∧ ∀ x ∈ xs, P x := by
  unfold lstSz at h
  split at h
  · omega
  · rename_i hb
    have h1 := szB_bound hb
    have h2 := szB_le (n := xs.length) h0
    exact ⟨by omega, goSz_all (m := m) (by omega) (by omega) hle hp h⟩
theorem mid_get {α : Type} (ys : List α) (z : α) (i n : Nat) (hi : i < n) (hy : i ≤ ys.length) : (ys.take i ++ List.replicate (n - i) z)[i]? = some z := by
  rw [List.getElem?_append_right (by simp; omega)]
  have h : min i ys.length = i := by omega
  have hp : 0 < n - i := by omega
  simp only [List.length_take, h, Nat.sub_self, List.getElem?_replicate, hp, if_true]
theorem mid_set {α : Type} (ys : List α) (z x : α) (i n : Nat) (hi : i < n) (hx : ys[i]? = some x) : (ys.take i ++ List.replicate (n - i) z).set i x = ys.take (i + 1) ++ List.replicate (n - (i + 1)) z := by
  have hy : i < ys.length := by
    by_cases h : i < ys.length
    · exact h
    · rw [List.getElem?_eq_none (by omega)] at hx; cases hx
  have hl : (ys.take i).length = i := by simp; omega
  have e : n - i = (n - (i + 1)) + 1 := by omega
  have h1 := set_mid (ys.take i) x z (n - (i + 1))
  rw [hl] at h1
  rw [e, h1, List.take_add_one, hx]
  rfl
theorem sz_223 (xs : List Trm) (f : Trm → Int → Int) (hl : xs.length < 9223372036854775807) (hf : ∀ x ∈ xs, ∀ l, 0 ≤ l → l ≤ 1048576 → run E (.call 264 [.t (trmT x), xI l]) = some (.res [xI (f x l)] [])) (hle : ∀ x ∈ xs, ∀ k, 0 ≤ k → f x k ≤ k) (l : Int) (h0 : 0 ≤ l) (hm : l ≤ 1048576) :
    run E (.call 223 [.t (.list (xs.map trmT)), xI l]) = some (.res [xI (lstSz f xs l)] []) := by
  rw [run_call E 223 _ rfl Tryz.func223 rfl rfl rfl (by simp)]
  have hw : IntKind.i64.wrap (l - (xs.length : Int)) = l - xs.length := wrap_of (by omega) (by omega)
  unfold lstSz szB
  by_cases hb : l - (xs.length : Int) < 0
  · simp [hw, hb]
  · have hb0 : ¬ l < (xs.length : Int) := by omega
    have lp := fun (r : Int) (hr : r = goSz f xs (l - xs.length)) => sk (fun s o q hI => loop_for (c := loopAt Tryz.f223 0) (N := 27)
      (fun i s o q => ∃ k : Int, s 0 = .t (.list (xs.map trmT)) ∧ s 1 = .t (.int .i64 k) ∧ s 5 = .t (.int .i64 i) ∧ 0 ≤ k ∧ k ≤ 1048576 ∧ r = goSz f (xs.drop i) k)
      (fun e s' o' q' => e = (if r < 0 then .ret else .exit 0) ∧ (r < 0 → s' 4 = .t (.int .i64 r)) ∧ (0 ≤ r → s' 1 = .t (.int .i64 r))) xs.length
      (by
        rintro i s o q hi ⟨k, g0, g1, g5, hk0, hkm, hp⟩
        have hi' : (i : Int) < (xs.length : Int) := by omega
        have hwi := wrap_succ (n := i) (by omega)
        have hxi : xs[i]? = some xs[i] := List.getElem?_eq_getElem hi
        have hx := hf _ (List.getElem_mem hi) k hk0 hkm
        have hxl := hle _ (List.getElem_mem hi) k hk0
        rw [List.drop_eq_getElem_cons hi, goSz] at hp
        by_cases hn : f xs[i] k < 0
        · simp [hn] at hp
          simp [loopAt, loopsOf, Tryz.f223, g0, g1, g5, hi', hxi, hwi, hx, hn, hp]
        · simp [hn] at hp
          simp [loopAt, loopsOf, Tryz.f223, g0, g1, g5, hi', hxi, hwi, hx, hn]
          exact ⟨by omega, by omega, hp⟩)
      (by
        rintro s o q ⟨k, g0, g1, g5, hk0, hkm, hp⟩
        simp [goSz] at hp
        have hn : ¬ r < 0 := by omega
        have hn' : 0 ≤ r := by omega
        have hk1 : ¬ k < 0 := by omega
        simp [loopAt, loopsOf, Tryz.f223, g0, g1, g5, hp, hk1]
        try omega)
      xs.length 0 s o q (by omega) hI)
    simp only [loopAt, loopsOf, Tryz.f223] at lp
    obtain ⟨r, hr⟩ : ∃ r, r = goSz f xs (l - xs.length) := ⟨_, rfl⟩
    obtain ⟨X, A, B, C, hx⟩ := lp r hr
    have hx' := fun s o q a0 a1 a5 => hx s o q ⟨l - xs.length, a0, a1, a5, by omega, by omega, by simpa using hr⟩
    clear hx
    by_cases hn : r < 0
    · have hn' : ¬ 0 ≤ r := by omega
      simp [hn, hn'] at hx'
      simp [hw, hb, hb0, hx', hn, ← hr]
    · have hn' : 0 ≤ r := by omega
      simp [hn, hn'] at hx'
      simp [hw, hb, hb0, hx', hn, ← hr]
theorem sz_112 (xs : List (List Trm)) (f : (List Trm) → Int → Int) (hl : xs.length < 9223372036854775807) (hf : ∀ x ∈ xs, ∀ l, 0 ≤ l → l ≤ 1048576 → run E (.call 177 [.t (clsT x), xI l]) = some (.res [xI (f x l)] [])) (hle : ∀ x ∈ xs, ∀ k, 0 ≤ k → f x k ≤ k) (l : Int) (h0 : 0 ≤ l) (hm : l ≤ 1048576) :
    run E (.call 126 [.t (.list (xs.map clsT)), xI l]) = some (.res [xI (lstSz f xs l)] []) := by
  rw [run_call E 126 _ rfl Tryz.func126 rfl rfl rfl (by simp)]
  have hw : IntKind.i64.wrap (l - (xs.length : Int)) = l - xs.length := wrap_of (by omega) (by omega)
  unfold lstSz szB
  by_cases hb : l - (xs.length : Int) < 0
  · simp [hw, hb]
  · have hb0 : ¬ l < (xs.length : Int) := by omega
    have lp := fun (r : Int) (hr : r = goSz f xs (l - xs.length)) => sk (fun s o q hI => loop_for (c := loopAt Tryz.f126 0) (N := 27)
      (fun i s o q => ∃ k : Int, s 0 = .t (.list (xs.map clsT)) ∧ s 1 = .t (.int .i64 k) ∧ s 5 = .t (.int .i64 i) ∧ 0 ≤ k ∧ k ≤ 1048576 ∧ r = goSz f (xs.drop i) k)
      (fun e s' o' q' => e = (if r < 0 then .ret else .exit 0) ∧ (r < 0 → s' 4 = .t (.int .i64 r)) ∧ (0 ≤ r → s' 1 = .t (.int .i64 r))) xs.length
      (by
        rintro i s o q hi ⟨k, g0, g1, g5, hk0, hkm, hp⟩
        have hi' : (i : Int) < (xs.length : Int) := by omega
        have hwi := wrap_succ (n := i) (by omega)
        have hxi : xs[i]? = some xs[i] := List.getElem?_eq_getElem hi
        have hx := hf _ (List.getElem_mem hi) k hk0 hkm
        have hxl := hle _ (List.getElem_mem hi) k hk0
        rw [List.drop_eq_getElem_cons hi, goSz] at hp
        by_cases hn : f xs[i] k < 0
        · simp [hn] at hp
          simp [loopAt, loopsOf, Tryz.f126, g0, g1, g5, hi', hxi, hwi, hx, hn, hp]
        · simp [hn] at hp
          simp [loopAt, loopsOf, Tryz.f126, g0, g1, g5, hi', hxi, hwi, hx, hn]
          exact ⟨by omega, by omega, hp⟩)
      (by
        rintro s o q ⟨k, g0, g1, g5, hk0, hkm, hp⟩
        simp [goSz] at hp
        have hn : ¬ r < 0 := by omega
        have hn' : 0 ≤ r := by omega
        have hk1 : ¬ k < 0 := by omega
        simp [loopAt, loopsOf, Tryz.f126, g0, g1, g5, hp, hk1]
        try omega)
      xs.length 0 s o q (by omega) hI)
    simp only [loopAt, loopsOf, Tryz.f126] at lp
    obtain ⟨r, hr⟩ : ∃ r, r = goSz f xs (l - xs.length) := ⟨_, rfl⟩
    obtain ⟨X, A, B, C, hx⟩ := lp r hr
    have hx' := fun s o q a0 a1 a5 => hx s o q ⟨l - xs.length, a0, a1, a5, by omega, by omega, by simpa using hr⟩
    clear hx
    by_cases hn : r < 0
    · have hn' : ¬ 0 ≤ r := by omega
      simp [hn, hn'] at hx'
      simp [hw, hb, hb0, hx', hn, ← hr]
    · have hn' : 0 ≤ r := by omega
      simp [hn, hn'] at hx'
      simp [hw, hb, hb0, hx', hn, ← hr]
theorem sz_68 (xs : List Prt) (f : Prt → Int → Int) (hl : xs.length < 9223372036854775807) (hf : ∀ x ∈ xs, ∀ l, 0 ≤ l → l ≤ 1048576 → run E (.call 127 [.t (prtT x), xI l]) = some (.res [xI (f x l)] [])) (hle : ∀ x ∈ xs, ∀ k, 0 ≤ k → f x k ≤ k) (l : Int) (h0 : 0 ≤ l) (hm : l ≤ 1048576) :
    run E (.call 69 [.t (.list (xs.map prtT)), xI l]) = some (.res [xI (lstSz f xs l)] []) := by
  rw [run_call E 69 _ rfl Tryz.func69 rfl rfl rfl (by simp)]
  have hw : IntKind.i64.wrap (l - (xs.length : Int)) = l - xs.length := wrap_of (by omega) (by omega)
  unfold lstSz szB
  by_cases hb : l - (xs.length : Int) < 0
  · simp [hw, hb]
  · have hb0 : ¬ l < (xs.length : Int) := by omega
    have lp := fun (r : Int) (hr : r = goSz f xs (l - xs.length)) => sk (fun s o q hI => loop_for (c := loopAt Tryz.f69 0) (N := 27)
      (fun i s o q => ∃ k : Int, s 0 = .t (.list (xs.map prtT)) ∧ s 1 = .t (.int .i64 k) ∧ s 5 = .t (.int .i64 i) ∧ 0 ≤ k ∧ k ≤ 1048576 ∧ r = goSz f (xs.drop i) k)
      (fun e s' o' q' => e = (if r < 0 then .ret else .exit 0) ∧ (r < 0 → s' 4 = .t (.int .i64 r)) ∧ (0 ≤ r → s' 1 = .t (.int .i64 r))) xs.length
      (by
        rintro i s o q hi ⟨k, g0, g1, g5, hk0, hkm, hp⟩
        have hi' : (i : Int) < (xs.length : Int) := by omega
        have hwi := wrap_succ (n := i) (by omega)
        have hxi : xs[i]? = some xs[i] := List.getElem?_eq_getElem hi
        have hx := hf _ (List.getElem_mem hi) k hk0 hkm
        have hxl := hle _ (List.getElem_mem hi) k hk0
        rw [List.drop_eq_getElem_cons hi, goSz] at hp
        by_cases hn : f xs[i] k < 0
        · simp [hn] at hp
          simp [loopAt, loopsOf, Tryz.f69, g0, g1, g5, hi', hxi, hwi, hx, hn, hp]
        · simp [hn] at hp
          simp [loopAt, loopsOf, Tryz.f69, g0, g1, g5, hi', hxi, hwi, hx, hn]
          exact ⟨by omega, by omega, hp⟩)
      (by
        rintro s o q ⟨k, g0, g1, g5, hk0, hkm, hp⟩
        simp [goSz] at hp
        have hn : ¬ r < 0 := by omega
        have hn' : 0 ≤ r := by omega
        have hk1 : ¬ k < 0 := by omega
        simp [loopAt, loopsOf, Tryz.f69, g0, g1, g5, hp, hk1]
        try omega)
      xs.length 0 s o q (by omega) hI)
    simp only [loopAt, loopsOf, Tryz.f69] at lp
    obtain ⟨r, hr⟩ : ∃ r, r = goSz f xs (l - xs.length) := ⟨_, rfl⟩
    obtain ⟨X, A, B, C, hx⟩ := lp r hr
    have hx' := fun s o q a0 a1 a5 => hx s o q ⟨l - xs.length, a0, a1, a5, by omega, by omega, by simpa using hr⟩
    clear hx
    by_cases hn : r < 0
    · have hn' : ¬ 0 ≤ r := by omega
      simp [hn, hn'] at hx'
      simp [hw, hb, hb0, hx', hn, ← hr]
    · have hn' : 0 ≤ r := by omega
      simp [hn, hn'] at hx'
      simp [hw, hb, hb0, hx', hn, ← hr]
theorem to_225 (xs : List Trm) (hl : xs.length < 4294967296) (hf : ∀ x ∈ xs, run E (.call 269 [.t (trmT x)]) = some (.res [trmX x] [])) :
    run E (.call 231 [.t (.list (xs.map trmT))]) = some (.res [.row 154 (xs.map trmT)] []) := by
  rw [run_call E 231 _ rfl Tryz.func231 rfl rfl rfl (by simp)]
  have lp := sk (fun s o q hI => loop_for (c := loopAt Tryz.f231 0) (N := 23)
    (fun i s o q => s 0 = .t (.list (xs.map trmT)) ∧ s 3 = .row 0 ∧ s 4 = .t (.int .i64 i) ∧ 0 < q ∧ o 0 = .row 154 ((xs.map trmT).take i ++ List.replicate (xs.length - i) (.agg [.int .i64 0, .str [], .int .i64 0, .int .i64 0, .str []])) true)
    (fun e s' o' q' => e = .exit 0 ∧ s' 3 = .row 0 ∧ o' 0 = .row 154 (xs.map trmT) true) xs.length
    (by
      rintro i s o q hi ⟨g0, g3, g4, hq, ho⟩
      have hi' : (i : Int) < (xs.length : Int) := by omega
      have hwi := wrap_succ (n := i) (by omega)
      have hxi : xs[i]? = some xs[i] := List.getElem?_eq_getElem hi
      have hx := hf _ (List.getElem_mem hi)
      have hq0 : q ≠ 0 := by omega
      have h0q : 0 ≠ q := by omega
      have hget := mid_get (xs.map trmT) (.agg [.int .i64 0, .str [], .int .i64 0, .int .i64 0, .str []]) i xs.length hi (by simp; omega)
      have hset := mid_set (xs.map trmT) (.agg [.int .i64 0, .str [], .int .i64 0, .int .i64 0, .str []]) (trmT xs[i]) i xs.length hi (by simp [hxi])
      simp [loopAt, loopsOf, Tryz.f231, g0, g3, g4, hi', hxi, hwi, hx, ho, hget, hset, hq0, h0q]
      try omega)
    (by
      rintro s o q ⟨g0, g3, g4, hq, ho⟩
      have hfull : (xs.map trmT).take xs.length = xs.map trmT := List.take_of_length_le (by simp)
      simp [hfull] at ho
      simp [loopAt, loopsOf, Tryz.f231, g0, g3, g4, ho])
    xs.length 0 s o q (by omega) hI)
  simp only [loopAt, loopsOf, Tryz.f231] at lp
  obtain ⟨X, A, B, C, hx⟩ := lp
  simp at hx
  have h1 : xs.length ≤ 140737488355328 := by omega
  have h2 : xs.length * 56 ≤ 140737488355328 := by omega
  simp [h1, h2, hx]
theorem to_74 (xs : List Prt) (hl : xs.length < 4294967296) (hf : ∀ x ∈ xs, run E (.call 138 [.t (prtT x)]) = some (.res [prtX x] [])) :
    run E (.call 76 [.t (.list (xs.map prtT))]) = some (.res [.row 170 (xs.map prtT)] []) := by
  rw [run_call E 76 _ rfl Tryz.func76 rfl rfl rfl (by simp)]
  have lp := sk (fun s o q hI => loop_for (c := loopAt Tryz.f76 0) (N := 23)
    (fun i s o q => s 0 = .t (.list (xs.map prtT)) ∧ s 3 = .row 0 ∧ s 4 = .t (.int .i64 i) ∧ 0 < q ∧ o 0 = .row 170 ((xs.map prtT).take i ++ List.replicate (xs.length - i) (.agg [.str [], .bool false])) true)
    (fun e s' o' q' => e = .exit 0 ∧ s' 3 = .row 0 ∧ o' 0 = .row 170 (xs.map prtT) true) xs.length
    (by
      rintro i s o q hi ⟨g0, g3, g4, hq, ho⟩
      have hi' : (i : Int) < (xs.length : Int) := by omega
      have hwi := wrap_succ (n := i) (by omega)
      have hxi : xs[i]? = some xs[i] := List.getElem?_eq_getElem hi
      have hx := hf _ (List.getElem_mem hi)
      have hq0 : q ≠ 0 := by omega
      have h0q : 0 ≠ q := by omega
      have hget := mid_get (xs.map prtT) (.agg [.str [], .bool false]) i xs.length hi (by simp; omega)
      have hset := mid_set (xs.map prtT) (.agg [.str [], .bool false]) (prtT xs[i]) i xs.length hi (by simp [hxi])
      simp [loopAt, loopsOf, Tryz.f76, g0, g3, g4, hi', hxi, hwi, hx, ho, hget, hset, hq0, h0q]
      try omega)
    (by
      rintro s o q ⟨g0, g3, g4, hq, ho⟩
      have hfull : (xs.map prtT).take xs.length = xs.map prtT := List.take_of_length_le (by simp)
      simp [hfull] at ho
      simp [loopAt, loopsOf, Tryz.f76, g0, g3, g4, ho])
    xs.length 0 s o q (by omega) hI)
  simp only [loopAt, loopsOf, Tryz.f76] at lp
  obtain ⟨X, A, B, C, hx⟩ := lp
  simp at hx
  have h1 : xs.length ≤ 140737488355328 := by omega
  have h2 : xs.length * 24 ≤ 140737488355328 := by omega
  simp [h1, h2, hx]
theorem eq_228 (xs : List Trm) (hl : xs.length < 9223372036854775807) (hf : ∀ x ∈ xs, run E (.call 275 [.t (trmT x), .t (trmT x)]) = some (.res [xB true] [])) :
    run E (.call 242 [.t (.list (xs.map trmT)), .t (.list (xs.map trmT))]) = some (.res [xB true] []) := by
  rw [run_call E 242 _ rfl Tryz.func242 rfl rfl rfl (by simp)]
  have d6 := d242_6
  simp [regionOf, findR, pick, Tryz.f242] at d6
  have dd := fun st => run_region_draw E st 6 _ d6
  clear d6
  have lp := sk (fun s o q hI => loop_for (c := loopAt Tryz.f242 0) (N := 27)
    (fun i s o q => s 0 = .t (.list (xs.map trmT)) ∧ s 1 = .t (.list (xs.map trmT)) ∧ s 5 = .t (.int .i64 i))
    (fun e s' o' q' => e = .exit 0) xs.length
    (by
      rintro i s o q hi ⟨g0, g1, g5⟩
      have hi' : (i : Int) < (xs.length : Int) := by omega
      have hwi := wrap_succ (n := i) (by omega)
      have hxi : xs[i]? = some xs[i] := List.getElem?_eq_getElem hi
      have hx := hf _ (List.getElem_mem hi)
      simp [loopAt, loopsOf, Tryz.f242, dd, g0, g1, g5, hi', hxi, hwi, hx])
    (by
      rintro s o q ⟨g0, g1, g5⟩
      simp [loopAt, loopsOf, Tryz.f242, g0, g1, g5])
    xs.length 0 s o q (by omega) hI)
  simp only [loopAt, loopsOf, Tryz.f242] at lp
  obtain ⟨X, A, B, C, hx⟩ := lp
  simp at hx
  simp [hx]
theorem eq_117 (xs : List (List Trm)) (hl : xs.length < 9223372036854775807) (hf : ∀ x ∈ xs, run E (.call 200 [.t (clsT x), .t (clsT x)]) = some (.res [xB true] [])) :
    run E (.call 148 [.t (.list (xs.map clsT)), .t (.list (xs.map clsT))]) = some (.res [xB true] []) := by
  rw [run_call E 148 _ rfl Tryz.func148 rfl rfl rfl (by simp)]
  have d6 := d148_6
  simp [regionOf, findR, pick, Tryz.f148] at d6
  have dd := fun st => run_region_draw E st 6 _ d6
  clear d6
  have lp := sk (fun s o q hI => loop_for (c := loopAt Tryz.f148 0) (N := 27)
    (fun i s o q => s 0 = .t (.list (xs.map clsT)) ∧ s 1 = .t (.list (xs.map clsT)) ∧ s 5 = .t (.int .i64 i))
    (fun e s' o' q' => e = .exit 0) xs.length
    (by
      rintro i s o q hi ⟨g0, g1, g5⟩
      have hi' : (i : Int) < (xs.length : Int) := by omega
      have hwi := wrap_succ (n := i) (by omega)
      have hxi : xs[i]? = some xs[i] := List.getElem?_eq_getElem hi
      have hx := hf _ (List.getElem_mem hi)
      simp [loopAt, loopsOf, Tryz.f148, dd, g0, g1, g5, hi', hxi, hwi, hx])
    (by
      rintro s o q ⟨g0, g1, g5⟩
      simp [loopAt, loopsOf, Tryz.f148, g0, g1, g5])
    xs.length 0 s o q (by omega) hI)
  simp only [loopAt, loopsOf, Tryz.f148] at lp
  obtain ⟨X, A, B, C, hx⟩ := lp
  simp at hx
  simp [hx]
theorem eq_81 (xs : List Prt) (hl : xs.length < 9223372036854775807) (hf : ∀ x ∈ xs, run E (.call 149 [.t (prtT x), .t (prtT x)]) = some (.res [xB true] [])) :
    run E (.call 86 [.t (.list (xs.map prtT)), .t (.list (xs.map prtT))]) = some (.res [xB true] []) := by
  rw [run_call E 86 _ rfl Tryz.func86 rfl rfl rfl (by simp)]
  have d6 := d86_6
  simp [regionOf, findR, pick, Tryz.f86] at d6
  have dd := fun st => run_region_draw E st 6 _ d6
  clear d6
  have lp := sk (fun s o q hI => loop_for (c := loopAt Tryz.f86 0) (N := 27)
    (fun i s o q => s 0 = .t (.list (xs.map prtT)) ∧ s 1 = .t (.list (xs.map prtT)) ∧ s 5 = .t (.int .i64 i))
    (fun e s' o' q' => e = .exit 0) xs.length
    (by
      rintro i s o q hi ⟨g0, g1, g5⟩
      have hi' : (i : Int) < (xs.length : Int) := by omega
      have hwi := wrap_succ (n := i) (by omega)
      have hxi : xs[i]? = some xs[i] := List.getElem?_eq_getElem hi
      have hx := hf _ (List.getElem_mem hi)
      simp [loopAt, loopsOf, Tryz.f86, dd, g0, g1, g5, hi', hxi, hwi, hx])
    (by
      rintro s o q ⟨g0, g1, g5⟩
      simp [loopAt, loopsOf, Tryz.f86, g0, g1, g5])
    xs.length 0 s o q (by omega) hI)
  simp only [loopAt, loopsOf, Tryz.f86] at lp
  obtain ⟨X, A, B, C, hx⟩ := lp
  simp at hx
  simp [hx]
def szVal (v : Val) (l : Int) : Int := szB v.t.length l
def szTrm (t : Trm) (l : Int) : Int := thenSz (szB t.path.length) (thenSz (szVal t.v) (fun k => k)) l
def szPrt (p : Prt) (l : Int) : Int := szB p.path.length l
def szCls (c : List Trm) (l : Int) : Int := thenSz (lstSz szTrm c) (fun k => k) l
def szFil (f : List (List Trm)) (l : Int) : Int := thenSz (lstSz szCls f) (fun k => k) l
def szTxt (t : Bytes) (l : Int) : Int := szB t.length l
theorem szTrm_le (t : Trm) (k : Int) (h : 0 ≤ k) : szTrm t k ≤ k := thenSz_le h (fun k hk => szB_le hk) (fun k hk => thenSz_le hk (fun k hk => szB_le hk) (fun k _ => Int.le_refl k))
theorem szPrt_le (p : Prt) (k : Int) (h : 0 ≤ k) : szPrt p k ≤ k := szB_le h
theorem szCls_le (c : List Trm) (k : Int) (h : 0 ≤ k) : szCls c k ≤ k := thenSz_le h (fun k hk => lstSz_le hk (fun x _ k hk => szTrm_le x k hk)) (fun k _ => Int.le_refl k)
theorem szFil_le (c : List (List Trm)) (k : Int) (h : 0 ≤ k) : szFil c k ≤ k := thenSz_le h (fun k hk => lstSz_le hk (fun x _ k hk => szCls_le x k hk)) (fun k _ => Int.le_refl k)
/-- No longer than what memory holds. -/
def W (n : Nat) : Prop := n < 4611686018427387904
def Trm.wd (t : Trm) : Prop := W t.path.length ∧ W t.v.t.length
def clsWd (c : List Trm) : Prop := W c.length ∧ ∀ t ∈ c, t.wd
def filWd (f : List (List Trm)) : Prop := W f.length ∧ ∀ c ∈ f, clsWd c
def prtsWd (l : List Prt) : Prop := W l.length ∧ ∀ p ∈ l, W p.path.length
def txtsWd (l : List Bytes) : Prop := W l.length ∧ ∀ p ∈ l, W p.length
theorem wrap_sz {n : Nat} {l : Int} (h : W n) (h0 : 0 ≤ l) (hm : l ≤ 1048576) : IntKind.i64.wrap (l - (n : Int)) = l - n := by unfold W at h; exact wrap_of (by omega) (by omega)
theorem szValue (v : Val) (h : W v.t.length) (l : Int) (h0 : 0 ≤ l) (hm : l ≤ 1048576) : run E (.call 290 [xV v, xI l]) = some (.res [xI (szVal v l)] []) := by
  rw [run_call E 290 _ rfl Tryz.func290 rfl rfl rfl (by simp)]
  have hw := wrap_sz h h0 hm
  unfold szVal szB
  by_cases hb : l - (v.t.length : Int) < 0 <;> simp [hw, hb]
theorem szPart (p : Prt) (h : W p.path.length) (l : Int) (h0 : 0 ≤ l) (hm : l ≤ 1048576) : run E (.call 127 [.t (prtT p), xI l]) = some (.res [xI (szPrt p l)] []) := by
  rw [run_call E 127 _ rfl Tryz.func127 rfl rfl rfl (by simp)]
  have hw := wrap_sz h h0 hm
  unfold szPrt szB
  by_cases hb : l - (p.path.length : Int) < 0 <;> simp [hw, hb]
theorem szTerm (t : Trm) (h : t.wd) (l : Int) (h0 : 0 ≤ l) (hm : l ≤ 1048576) : run E (.call 264 [.t (trmT t), xI l]) = some (.res [xI (szTrm t l)] []) := by
  rw [run_call E 264 _ rfl Tryz.func264 rfl rfl rfl (by simp)]
  have hw := wrap_sz h.1 h0 hm
  unfold szTrm thenSz
  by_cases hb : l - (t.path.length : Int) < 0
  · simp [hw, hb, szB]
  · have hv := szValue t.v h.2 (l - t.path.length) (by omega) (by omega)
    have e : szB t.path.length l = l - t.path.length := by simp [szB, hb]
    by_cases hn : szVal t.v (l - t.path.length) < 0 <;> simp [hw, hb, e, hv, hn]
theorem szTermS (c : List Trm) (h : clsWd c) (l : Int) (h0 : 0 ≤ l) (hm : l ≤ 1048576) : run E (.call 223 [.t (.list (c.map trmT)), xI l]) = some (.res [xI (lstSz szTrm c l)] []) :=
  sz_223 c szTrm (by have := h.1; unfold W at this; omega) (fun x hx l h0 hm => szTerm x (h.2 x hx) l h0 hm) (fun x _ k hk => szTrm_le x k hk) l h0 hm
theorem szClause (c : List Trm) (h : clsWd c) (l : Int) (h0 : 0 ≤ l) (hm : l ≤ 1048576) : run E (.call 177 [.t (clsT c), xI l]) = some (.res [xI (szCls c l)] []) := by
  rw [run_call E 177 _ rfl Tryz.func177 rfl rfl rfl (by simp)]
  have hs := szTermS c h l h0 hm
  unfold szCls thenSz
  by_cases hn : lstSz szTrm c l < 0 <;> simp [hs, hn]
theorem szFilter (f : List (List Trm)) (h : filWd f) (l : Int) (h0 : 0 ≤ l) (hm : l ≤ 1048576) : run E (.call 68 [.t (filT f), xI l]) = some (.res [xI (szFil f l)] []) := by
  rw [run_call E 68 _ rfl Tryz.func68 rfl rfl rfl (by simp)]
  have hs := sz_112 f szCls (by have := h.1; unfold W at this; omega) (fun x hx l h0 hm => szClause x (h.2 x hx) l h0 hm) (fun x _ k hk => szCls_le x k hk) l h0 hm
  unfold szFil thenSz
  by_cases hn : lstSz szCls f l < 0 <;> simp [hs, hn]
theorem szPartS (c : List Prt) (h : prtsWd c) (l : Int) (h0 : 0 ≤ l) (hm : l ≤ 1048576) : run E (.call 69 [.t (.list (c.map prtT)), xI l]) = some (.res [xI (lstSz szPrt c l)] []) :=
  sz_68 c szPrt (by have := h.1; unfold W at this; omega) (fun x hx l h0 hm => szPart x (h.2 x hx) l h0 hm) (fun x _ k hk => szPrt_le x k hk) l h0 hm
theorem szStringS (xs : List Bytes) (h : txtsWd xs) (l : Int) (h0 : 0 ≤ l) (hm : l ≤ 1048576) : run E (.call 70 [.t (.list (xs.map strT)), xI l]) = some (.res [xI (lstSz szTxt xs l)] []) := by
  rw [run_call E 70 _ rfl Tryz.func70 rfl rfl rfl (by simp)]
  have hl : W xs.length := h.1
  have hw := wrap_sz hl h0 hm
  unfold lstSz szB
  by_cases hb : l - (xs.length : Int) < 0
  · simp [hw, hb]
  · have hb0 : ¬ l < (xs.length : Int) := by omega
    have lp := fun (r : Int) (hr : r = goSz szTxt xs (l - xs.length)) => sk (fun s o q hI => loop_for (c := loopAt Tryz.f70 0) (N := 28)
      (fun i s o q => ∃ k : Int, s 0 = .t (.list (xs.map strT)) ∧ s 1 = .t (.int .i64 k) ∧ s 5 = .t (.int .i64 i) ∧ 0 ≤ k ∧ k ≤ 1048576 ∧ r = goSz szTxt (xs.drop i) k)
      (fun e s' o' q' => e = (if r < 0 then .ret else .exit 0) ∧ (r < 0 → s' 4 = .t (.int .i64 r)) ∧ (0 ≤ r → s' 1 = .t (.int .i64 r))) xs.length
      (by
        rintro i s o q hi ⟨k, g0, g1, g5, hk0, hkm, hp⟩
        have hi' : (i : Int) < (xs.length : Int) := by omega
        have hwi := wrap_succ (n := i) (by unfold W at hl; omega)
        have hxi : xs[i]? = some xs[i] := List.getElem?_eq_getElem hi
        have hx := wrap_sz (h.2 _ (List.getElem_mem hi)) hk0 hkm
        rw [List.drop_eq_getElem_cons hi, goSz] at hp
        by_cases hn : k - (xs[i].length : Int) < 0
        · simp [szTxt, szB, hn] at hp
          simp [loopAt, loopsOf, Tryz.f70, g0, g1, g5, hi', hxi, hwi, hx, hn, hp]
        · have e : szTxt xs[i] k = k - xs[i].length := by simp [szTxt, szB, hn]
          rw [e, if_neg hn] at hp
          simp [loopAt, loopsOf, Tryz.f70, g0, g1, g5, hi', hxi, hwi, hx, hn]
          exact ⟨by omega, by omega, hp⟩)
      (by
        rintro s o q ⟨k, g0, g1, g5, hk0, hkm, hp⟩
        simp [goSz] at hp
        have hk1 : ¬ k < 0 := by omega
        simp [loopAt, loopsOf, Tryz.f70, g0, g1, g5, hp, hk1]
        try omega)
      xs.length 0 s o q (by omega) hI)
    simp only [loopAt, loopsOf, Tryz.f70] at lp
    obtain ⟨r, hr⟩ : ∃ r, r = goSz szTxt xs (l - xs.length) := ⟨_, rfl⟩
    obtain ⟨X, A, B, C, hx⟩ := lp r hr
    have hx' := fun s o q a0 a1 a5 => hx s o q ⟨l - xs.length, a0, a1, a5, by omega, by omega, by simpa using hr⟩
    clear hx
    by_cases hn : r < 0
    · have hn' : ¬ 0 ≤ r := by omega
      simp [hn, hn'] at hx'
      simp [hw, hb, hb0, hx', hn, ← hr]
    · have hn' : 0 ≤ r := by omega
      simp [hn, hn'] at hx'
      simp [hw, hb, hb0, hx', hn, ← hr]
/-! Copies. -/
theorem toValue (v : Val) : run E (.call 296 [xV v]) = some (.res [valX v] []) := by
  rw [run_call E 296 _ rfl Tryz.func296 rfl rfl rfl (by simp)]
  simp
theorem toTerm (t : Trm) : run E (.call 269 [.t (trmT t)]) = some (.res [trmX t] []) := by
  rw [run_call E 269 _ rfl Tryz.func269 rfl rfl rfl (by simp)]
  simp [toValue t.v]
theorem toPart (p : Prt) : run E (.call 138 [.t (prtT p)]) = some (.res [prtX p] []) := by
  rw [run_call E 138 _ rfl Tryz.func138 rfl rfl rfl (by simp)]
  simp
theorem toClause (c : List Trm) (h : c.length < 4294967296) : run E (.call 186 [.t (clsT c)]) = some (.res [.agg [.row 154 (c.map trmT)]] []) := by
  rw [run_call E 186 _ rfl Tryz.func186 rfl rfl rfl (by simp)]
  have hs := to_225 c h (fun x _ => toTerm x)
  simp [hs]
theorem toPartS (l : List Prt) (h : l.length < 4294967296) : run E (.call 76 [.t (.list (l.map prtT))]) = some (.res [.row 170 (l.map prtT)] []) := to_74 l h (fun x _ => toPart x)
theorem toStringS (xs : List Bytes) (hl : xs.length < 4294967296) : run E (.call 77 [.t (.list (xs.map strT))]) = some (.res [.row 9 (xs.map strT)] []) := by
  rw [run_call E 77 _ rfl Tryz.func77 rfl rfl rfl (by simp)]
  have lp := sk (fun s o q hI => loop_for (c := loopAt Tryz.f77 0) (N := 22)
    (fun i s o q => s 0 = .t (.list (xs.map strT)) ∧ s 3 = .row 0 ∧ s 4 = .t (.int .i64 i) ∧ o 0 = .row 9 ((xs.map strT).take i ++ List.replicate (xs.length - i) (.str [])) true)
    (fun e s' o' q' => e = .exit 0 ∧ s' 3 = .row 0 ∧ o' 0 = .row 9 (xs.map strT) true) xs.length
    (by
      rintro i s o q hi ⟨g0, g3, g4, ho⟩
      have hi' : (i : Int) < (xs.length : Int) := by omega
      have hwi := wrap_succ (n := i) (by omega)
      have hxi : xs[i]? = some xs[i] := List.getElem?_eq_getElem hi
      have hget := mid_get (xs.map strT) (T.str []) i xs.length hi (by simp; omega)
      have hset := mid_set (xs.map strT) (T.str []) (strT xs[i]) i xs.length hi (by simp [hxi])
      simp [loopAt, loopsOf, Tryz.f77, g0, g3, g4, hi', hxi, hwi, ho, hget, hset])
    (by
      rintro s o q ⟨g0, g3, g4, ho⟩
      have hfull : (xs.map strT).take xs.length = xs.map strT := List.take_of_length_le (by simp)
      simp [hfull] at ho
      simp [loopAt, loopsOf, Tryz.f77, g0, g3, g4, ho])
    xs.length 0 s o q (by omega) hI)
  simp only [loopAt, loopsOf, Tryz.f77] at lp
  obtain ⟨X, A, B, C, hx⟩ := lp
  simp at hx
  have h1 : xs.length ≤ 140737488355328 := by omega
  have h2 : xs.length * 16 ≤ 140737488355328 := by omega
  simp [h1, h2, hx]
/-! Equality: of what is alike. -/
theorem eqValue (v : Val) : run E (.call 299 [xV v, xV v]) = some (.res [xB true] []) := by
  rw [run_call E 299 _ rfl Tryz.func299 rfl rfl rfl (by simp)]
  simp
theorem eqTerm (t : Trm) : run E (.call 275 [.t (trmT t), .t (trmT t)]) = some (.res [xB true] []) := by
  rw [run_call E 275 _ rfl Tryz.func275 rfl rfl rfl (by simp)]
  simp [eqValue t.v]
theorem eqPart (p : Prt) : run E (.call 149 [.t (prtT p), .t (prtT p)]) = some (.res [xB true] []) := by
  rw [run_call E 149 _ rfl Tryz.func149 rfl rfl rfl (by simp)]
  simp
theorem eqClause (c : List Trm) (h : c.length < 4294967296) : run E (.call 200 [.t (clsT c), .t (clsT c)]) = some (.res [xB true] []) := by
  rw [run_call E 200 _ rfl Tryz.func200 rfl rfl rfl (by simp)]
  have hs := eq_228 c (by omega) (fun x _ => eqTerm x)
  simp [hs]
theorem eqFilter (f : List (List Trm)) (h : f.length < 4294967296) (hc : ∀ c ∈ f, c.length < 4294967296) : run E (.call 85 [.t (filT f), .t (filT f)]) = some (.res [xB true] []) := by
  rw [run_call E 85 _ rfl Tryz.func85 rfl rfl rfl (by simp)]
  have hs := eq_117 f (by omega) (fun x hx => eqClause x (hc x hx))
  simp [hs]
theorem eqPartS (l : List Prt) (h : l.length < 4294967296) : run E (.call 86 [.t (.list (l.map prtT)), .t (.list (l.map prtT))]) = some (.res [xB true] []) := eq_81 l (by omega) (fun x _ => eqPart x)
theorem eqStringS (xs : List Bytes) (hl : xs.length < 4294967296) : run E (.call 87 [.t (.list (xs.map strT)), .t (.list (xs.map strT))]) = some (.res [xB true] []) := by
  rw [run_call E 87 _ rfl Tryz.func87 rfl rfl rfl (by simp)]
  have d6 := d87_6
  simp [regionOf, findR, pick, Tryz.f87] at d6
  have dd := fun st => run_region_draw E st 6 _ d6
  clear d6
  have lp := sk (fun s o q hI => loop_for (c := loopAt Tryz.f87 0) (N := 26)
    (fun i s o q => s 0 = .t (.list (xs.map strT)) ∧ s 1 = .t (.list (xs.map strT)) ∧ s 5 = .t (.int .i64 i))
    (fun e s' o' q' => e = .exit 0) xs.length
    (by
      rintro i s o q hi ⟨g0, g1, g5⟩
      have hi' : (i : Int) < (xs.length : Int) := by omega
      have hwi := wrap_succ (n := i) (by omega)
      have hxi : xs[i]? = some xs[i] := List.getElem?_eq_getElem hi
      simp [loopAt, loopsOf, Tryz.f87, dd, g0, g1, g5, hi', hxi, hwi])
    (by
      rintro s o q ⟨g0, g1, g5⟩
      simp [loopAt, loopsOf, Tryz.f87, g0, g1, g5])
    xs.length 0 s o q (by omega) hI)
  simp only [loopAt, loopsOf, Tryz.f87] at lp
  obtain ⟨X, A, B, C, hx⟩ := lp
  simp at hx
  simp [hx]
structure Qry.Wd (q : Qry) : Prop where
  filter : filWd q.filter
  sort : prtsWd q.sort
  keep : txtsWd q.keep
  hint : W q.hint.length
def szQry (q : Qry) (l : Int) : Int := thenSz (szFil q.filter) (thenSz (lstSz szPrt q.sort) (thenSz (lstSz szTxt q.keep) (thenSz (szB q.hint.length) (fun k => k)))) l
theorem szTxt_le (t : Bytes) (k : Int) (h : 0 ≤ k) : szTxt t k ≤ k := szB_le h
theorem lstPrt_le (l : List Prt) (k : Int) (h : 0 ≤ k) : lstSz szPrt l k ≤ k := lstSz_le h (fun x _ k hk => szPrt_le x k hk)
theorem lstTxt_le (l : List Bytes) (k : Int) (h : 0 ≤ k) : lstSz szTxt l k ≤ k := lstSz_le h (fun x _ k hk => szTxt_le x k hk)
theorem szQuery (q : Qry) (h : q.Wd) (l : Int) (h0 : 0 ≤ l) (hm : l ≤ 1048576) : run E (.call 25 [.t (qryT q), xI l]) = some (.res [xI (szQry q l)] []) := by
  rw [run_call E 25 _ rfl Tryz.func25 rfl rfl rfl (by simp)]
  have h1 := szFilter q.filter h.filter l h0 hm
  have l1 := szFil_le q.filter l h0
  unfold szQry thenSz
  by_cases n1 : szFil q.filter l < 0
  · simp [h1, n1]
  · have h2 := szPartS q.sort h.sort (szFil q.filter l) (by omega) (by omega)
    have l2 := lstPrt_le q.sort (szFil q.filter l) (by omega)
    by_cases n2 : lstSz szPrt q.sort (szFil q.filter l) < 0
    · simp [h1, n1, h2, n2]
    · have h3 := szStringS q.keep h.keep (lstSz szPrt q.sort (szFil q.filter l)) (by omega) (by omega)
      have l3 := lstTxt_le q.keep (lstSz szPrt q.sort (szFil q.filter l)) (by omega)
      by_cases n3 : lstSz szTxt q.keep (lstSz szPrt q.sort (szFil q.filter l)) < 0
      · simp [h1, n1, h2, n2, h3, n3]
      · have hw := wrap_sz (n := q.hint.length) (l := lstSz szTxt q.keep (lstSz szPrt q.sort (szFil q.filter l))) h.hint (by omega) (by omega)
        generalize lstSz szTxt q.keep (lstSz szPrt q.sort (szFil q.filter l)) = k at *
        by_cases hb : k - (q.hint.length : Int) < 0
        · have e : szB q.hint.length k = -1 := by simp [szB, hb]
          simp [h1, n1, h2, n2, h3, n3, hw, hb, e]
        · have e : szB q.hint.length k = k - q.hint.length := by simp [szB, hb]
          simp [h1, n1, h2, n2, h3, n3, hw, hb, e]
theorem thenSz_neg {f g : Int → Int} {l : Int} (h : ¬ thenSz f g l < 0) : ¬ f l < 0 ∧ ¬ g (f l) < 0 := by
  unfold thenSz at h
  split at h
  · omega
  · rename_i hf; exact ⟨hf, h⟩
theorem szTrm_sm {t : Trm} {k : Int} (h0 : 0 ≤ k) (hm : k ≤ 1048576) (h : ¬ szTrm t k < 0) : t.sm := by
  obtain ⟨h1, h2⟩ := thenSz_neg h
  obtain ⟨h3, _⟩ := thenSz_neg h2
  have b1 := szB_bound h1
  have b2 := szB_bound h3
  have := szB_le (n := t.path.length) h0
  exact ⟨by omega, by omega⟩
theorem szCls_sm {c : List Trm} {k : Int} (h0 : 0 ≤ k) (hm : k ≤ 1048576) (h : ¬ szCls c k < 0) : clauseSm c := by
  obtain ⟨h1, h2⟩ := thenSz_neg h
  obtain ⟨b1, b2⟩ := lstSz_all (P := Trm.sm) (m := 1048576) h0 hm (fun x _ k hk => szTrm_le x k hk) (fun x _ k hk hm h => szTrm_sm hk hm h) h1
  exact ⟨by omega, b2⟩
theorem szFil_sm {c : List (List Trm)} {k : Int} (h0 : 0 ≤ k) (hm : k ≤ 1048576) (h : ¬ szFil c k < 0) : filterSm c := by
  obtain ⟨h1, h2⟩ := thenSz_neg h
  obtain ⟨b1, b2⟩ := lstSz_all (P := clauseSm) (m := 1048576) h0 hm (fun x _ k hk => szCls_le x k hk) (fun x _ k hk hm h => szCls_sm hk hm h) h1
  exact ⟨by omega, b2⟩
theorem lstPrt_sm {c : List Prt} {k : Int} (h0 : 0 ≤ k) (hm : k ≤ 1048576) (h : ¬ lstSz szPrt c k < 0) : partsSm c := by
  obtain ⟨b1, b2⟩ := lstSz_all (P := fun p => p.path.length < 4294967296) (m := 1048576) h0 hm (fun x _ k hk => szPrt_le x k hk) (fun x _ k hk hm h => by have := szB_bound h; omega) h
  exact ⟨by omega, b2⟩
theorem lstTxt_sm {c : List Bytes} {k : Int} (h0 : 0 ≤ k) (hm : k ≤ 1048576) (h : ¬ lstSz szTxt c k < 0) : textsSm c := by
  obtain ⟨b1, b2⟩ := lstSz_all (P := fun p => p.length < 4294967296) (m := 1048576) h0 hm (fun x _ k hk => szTxt_le x k hk) (fun x _ k hk hm h => by have := szB_bound h; omega) h
  exact ⟨by omega, b2⟩
theorem szQry_sm {q : Qry} (h : ¬ szQry q 1048576 < 0) : q.Sm := by
  obtain ⟨h1, h2⟩ := thenSz_neg h
  obtain ⟨h3, h4⟩ := thenSz_neg h2
  obtain ⟨h5, h6⟩ := thenSz_neg h4
  obtain ⟨h7, _⟩ := thenSz_neg h6
  have l1 := szFil_le q.filter 1048576 (by omega)
  have l2 := lstPrt_le q.sort (szFil q.filter 1048576) (by omega)
  have l3 := lstTxt_le q.keep (lstSz szPrt q.sort (szFil q.filter 1048576)) (by omega)
  have b := szB_bound h7
  exact ⟨szFil_sm (by omega) (by omega) h1, lstPrt_sm (by omega) (by omega) h3, lstTxt_sm (by omega) (by omega) h5, by omega⟩
theorem eqQuery (q : Qry) (h : q.Sm) : run E (.call 32 [.t (qryT q), .t (qryT q)]) = some (.res [xB true] []) := by
  rw [run_call E 32 _ rfl Tryz.func32 rfl rfl rfl (by simp)]
  have h1 := eqFilter q.filter h.filter.1 (fun c hc => (h.filter.2 c hc).1)
  have h2 := eqPartS q.sort h.sort.1
  have h3 := eqStringS q.keep h.keep.1
  simp [h1, h2, h3]
end Go.Md
namespace Go.Proofs
open Go.Shelf
def Tryz.lays213_ren : Go.Shelf.Ren := ⟨fun | 213 => 289 | 265 => 312 | n => n, fun | 9 => 9 | 3 => 3 | n => n, fun | n => n⟩
theorem Tryz.lays213 : Go.Proofs.Lays.n213 Tryz.prog Tryz.lays213_ren := {
  mixed := by kernel_rfl
  f213 := Tryz.func289.trans (congrArg some (by kernel_rfl))
  f265 := Tryz.func312.trans (congrArg some (by kernel_rfl))
  t3 := Tryz.underlying3
  a3 := Tryz.isAgg3
  z3 := Tryz.sizeOf3
  v3 := Tryz.zeroValue3
  t9 := Tryz.underlying9
  a9 := Tryz.isAgg9
  z9 := Tryz.sizeOf9
  v9 := Tryz.zeroValue9 }
open Go.RowKit in
/-- internal/bytealg.CompareString (what strings.Compare calls): IT RETURNS 'Lib.compareBytes a b'; the world is as it was. (LAID: no walk: one application.) -/
theorem Tryz.bytealg_CompareString (a b : ByteArray) (w : World) :
    Calls Tryz.prog 289 #[.string a, .string b] w fun e w' => e = .returned (.int .i64 (Lib.compareBytes a.data.toList b.data.toList)) ∧ w' = w := Any.bytealg_CompareString Tryz.lays213 a b w
def Tryz.lays105_ren : Go.Shelf.Ren := ⟨fun | 105 => 310 | 212 => 324 | 99 => 325 | 165 => 326 | 166 => 327 | 170 => 328 | 169 => 329 | 263 => 333 | 264 => 334 | 206 => 335 | 240 => 336 | 241 => 337 | 276 => 338 | 277 => 339 | n => n, fun | 9 => 9 | 3 => 3 | 4 => 4 | 20 => 20 | 0 => 0 | 46 => 310 | 109 => 337 | 5 => 5 | 72 => 342 | 76 => 346 | 51 => 353 | 146 => 354 | 53 => 357 | 148 => 358 | 70 => 340 | 37 => 22 | 75 => 345 | 127 => 360 | 164 => 361 | 80 => 348 | n => n, fun | n => n⟩
theorem Tryz.lays105 : Go.Proofs.Lays.n105 Tryz.prog Tryz.lays105_ren := {
  mixed := by kernel_rfl
  f99 := Tryz.func325.trans (congrArg some (by kernel_rfl))
  f105 := Tryz.func310.trans (congrArg some (by kernel_rfl))
  f165 := Tryz.func326.trans (congrArg some (by kernel_rfl))
  f166 := Tryz.func327.trans (congrArg some (by kernel_rfl))
  f169 := Tryz.func329.trans (congrArg some (by kernel_rfl))
  f170 := Tryz.func328.trans (congrArg some (by kernel_rfl))
  f206 := Tryz.func335.trans (congrArg some (by kernel_rfl))
  f212 := Tryz.func324.trans (congrArg some (by kernel_rfl))
  f240 := Tryz.func336.trans (congrArg some (by kernel_rfl))
  f241 := Tryz.func337.trans (congrArg some (by kernel_rfl))
  f263 := Tryz.func333.trans (congrArg some (by kernel_rfl))
  f264 := Tryz.func334.trans (congrArg some (by kernel_rfl))
  f276 := Tryz.func338.trans (congrArg some (by kernel_rfl))
  f277 := Tryz.func339.trans (congrArg some (by kernel_rfl))
  t0 := Tryz.underlying0
  a0 := Tryz.isAgg0
  z0 := Tryz.sizeOf0
  v0 := Tryz.zeroValue0
  t3 := Tryz.underlying3
  a3 := Tryz.isAgg3
  z3 := Tryz.sizeOf3
  v3 := Tryz.zeroValue3
  t4 := Tryz.underlying4
  a4 := Tryz.isAgg4
  z4 := Tryz.sizeOf4
  v4 := Tryz.zeroValue4
  t5 := Tryz.underlying5
  a5 := Tryz.isAgg5
  z5 := Tryz.sizeOf5
  v5 := Tryz.zeroValue5
  t9 := Tryz.underlying9
  a9 := Tryz.isAgg9
  z9 := Tryz.sizeOf9
  v9 := Tryz.zeroValue9
  t20 := Tryz.underlying20
  a20 := Tryz.isAgg20
  z20 := Tryz.sizeOf20
  v20 := Tryz.zeroValue20
  t37 := Tryz.underlying22
  a37 := Tryz.isAgg22
  z37 := Tryz.sizeOf22
  v37 := Tryz.zeroValue22
  t46 := Tryz.underlying310
  a46 := Tryz.isAgg310
  z46 := Tryz.sizeOf310
  v46 := Tryz.zeroValue310
  t51 := Tryz.underlying353
  a51 := Tryz.isAgg353
  z51 := Tryz.sizeOf353
  v51 := Tryz.zeroValue353
  t53 := Tryz.underlying357
  a53 := Tryz.isAgg357
  z53 := Tryz.sizeOf357
  v53 := Tryz.zeroValue357
  t70 := Tryz.underlying340
  a70 := Tryz.isAgg340
  z70 := Tryz.sizeOf340
  v70 := Tryz.zeroValue340
  t72 := Tryz.underlying342
  a72 := Tryz.isAgg342
  z72 := Tryz.sizeOf342
  v72 := Tryz.zeroValue342
  t75 := Tryz.underlying345
  a75 := Tryz.isAgg345
  z75 := Tryz.sizeOf345
  v75 := Tryz.zeroValue345
  t76 := Tryz.underlying346
  a76 := Tryz.isAgg346
  z76 := Tryz.sizeOf346
  v76 := Tryz.zeroValue346
  t109 := Tryz.underlying337
  a109 := Tryz.isAgg337
  z109 := Tryz.sizeOf337
  v109 := Tryz.zeroValue337
  t127 := Tryz.underlying360
  a127 := Tryz.isAgg360
  z127 := Tryz.sizeOf360
  v127 := Tryz.zeroValue360
  t146 := Tryz.underlying354
  a146 := Tryz.isAgg354
  z146 := Tryz.sizeOf354
  v146 := Tryz.zeroValue354
  t148 := Tryz.underlying358
  a148 := Tryz.isAgg358
  z148 := Tryz.sizeOf358
  v148 := Tryz.zeroValue358
  t164 := Tryz.underlying361
  a164 := Tryz.isAgg361
  z164 := Tryz.sizeOf361
  v164 := Tryz.zeroValue361 }
theorem Tryz.Builder_Extra_105 : Builder.Extra Tryz.prog Tryz.lays105_ren := {
  sizeBuilder := by kernel_rfl
  liesBuilder := by kernel_rfl
  t5 := Tryz.underlying5
  a5 := Tryz.isAgg5
  z5 := Tryz.sizeOf5
  v5 := Tryz.zeroValue5
  infoByte := by kernel_rfl
  cellsByte := by kernel_rfl
  sizeByte := by kernel_rfl
  neB5 := by decide }
open Go.RowKit Go.Lib in
/-- **strings.Repeat: count ≥ 0, the result within one allocation: count copies of s.** (LAID: no walk: one application.) -/
theorem Tryz.strings_Repeat (s : ByteArray) (c : Nat) (w : World) (hc : c ≤ 9223372036854775807) (hlen : s.size * c ≤ 140737488355328) :
    Calls Tryz.prog 310 #[.string s, .int .i64 c] w fun e w' => e = .returned (.string ⟨(Lib.repeatL s.data.toList c).toArray⟩) ∧ Below w.heap.size w w' := Any.strings_Repeat Tryz.lays105 Tryz.Builder_Extra_105 s c w hc hlen
end Go.Proofs
set_option linter.unusedSimpArgs false
set_option linter.unusedVariables false
namespace Go.Proofs
open Go.Shelf Go.RowKit Go.Lib
variable {P : Program} {ρ : Ren}
set_option maxHeartbeats 2000000 in
set_option maxRecDepth 100000 in
/-- The shelf's contract of slices.Clone, at whatever address. -/
theorem cloneAt (L : SlLaysE0.n41 P ρ) (i0 : TypeInfo) (z : Value) (size bytes : Nat) (hi : P.info? (ρ.t 23) = some i0) (hz0 : i0.zero = some z) (hz1 : i0.size = size) (hz2 : i0.bytes = bytes) (hzs : z.cells.size = size) (hsz : 0 < size)
    (z23 : ∀ w, (Go.sizeOf (ρ.t 23)).run P w = .ok size w) (a : Addr) (n c : Nat) (news : List Value) (w : World) (hl : news.length = n * size) (hn : n ≤ maxLen) (hbig : n * bytes ≤ 140737488355328)
    (hc : ∀ j u, news[j]? = some u → w.cell? (a.add j) = some u) (h1 : ∀ u ∈ news, u.oneCell' = true) :
    Calls P (ρ.f 41) #[.slice (some a) n c] w fun e w' => ∃ v', e = .returned v' ∧ w'.ownsRow w.heap.size (ρ.t 23) size v' n news ∧ v' ≠ .slice none 0 0 ∧ Below w.heap.size w w' := by
  have mixed := L.mixed; have t4 := L.t4; have a4 := L.a4; have z4 := L.z4; have v4 := L.v4; have t22 := L.t22; have a22 := L.a22; have z22 := L.z22; have v22 := L.v22
  have q22 : ∀ (w : World) (a : Option Addr) (n c n' c' : Nat), (binOp .eql (ρ.t 22) (.slice a n c) (.slice none n' c')).run P w = .ok (.bool a.isNone) w := fun w a n c n' c' => Lib.run_eql_slice_nil w _ _ a n c n' c' L.t22
  have u22 : ∀ w, Sem.run P (underlying (ρ.t 22)) w = .ok (TypeDesc.slice (ρ.t 23)) w := run_underlying t22
  have A : Aside (∀ j u, news[j]? = some u → w.cell? (a.add j) = some u) := hc
  clear hc
  obtain ⟨_, _, FG⟩ := L.f41
  go_enter FG, SlBodyN.n41_ntmps ρ
  go_wp2_with (at_builtin; refine wpList_append_own _ rfl _ _ (ρ.t 22) rfl w.heap.size (ρ.t 23) i0 z size bytes t22 hi hz0 hz1 hz2 hzs hsz _ _ _ rfl (World.ownsRow_made w #[] 0 (Nat.le_refl _) (Nat.zero_le _) (by simp)) a n c news rfl ?qc1 ?qc2 ?qc3 ?qc4 ?qc5 ?qc6 ?_)
  case qc1 => exact hl
  case qc2 =>
    intro j u hj
    exact Lib.cell?_alloc_some _ (A.out j u hj)
  case qc3 => exact h1
  case qc4 => rw [Nat.zero_add]; exact hn
  case qc5 => rw [Nat.zero_add]; exact hbig
  case qc6 => simp
  intro v' w1 hown hgrow hnil
  go_wp2
  go_ret
  refine ⟨v', rfl, by simpa using hown, ?_, ?_⟩
  · exact hnil
  · exact ((Below.refl _ w).alloc (Nat.le_refl _) _).grown hgrow (by simp) (by intro k hk; simp [Value.ownBlock] at hk; omega)
end Go.Proofs
namespace Go.Ev
open Go.Proofs Go.RowKit Go.Lib Go.Shelf
theorem oneCell_of {v : Value} (h : oneV v = true) : v.oneCell' = true := by cases v <;> first | rfl | (simp [oneV] at h)
theorem sameBelow {w w' : World} (h : Below w.heap.size w w') : Same w w' (fun _ => False) := ⟨h.size, fun k hk _ => h.block k hk, h.tape, h.os, h.output⟩
theorem Goes.of_calls {P : Program} {f : Nat} {vals : Array Value} {w : World} {R : Ending → World → Prop} (he : Enters P f) (h : Calls P f vals w R) : Goes P f vals w R := .inl ⟨he vals w, h⟩
/-- slices.Clone hands over a row that holds the same. -/
theorem clone_ok {E : Env} {P : Program} {ρ : Ren} (L : SlLaysE0.n41 P ρ) (he : Enters P (ρ.f 41)) (hm : E.md (ρ.f 41) = []) (hfl : E.flat (ρ.f 41) = false) (i0 : TypeInfo) (z : Value) (hi : P.info? (ρ.t 23) = some i0) (hz0 : i0.zero = some z) (hzs : z.cells.size = i0.size) (hsz : 0 < i0.size) (hty : (E.ty (ρ.t 23)).size = i0.size)
    (xs : List T) (hw : ∀ x ∈ xs, x.cells.length = i0.size) (hn : xs.length ≤ maxLen) (hbig : xs.length * i0.bytes ≤ 140737488355328) :
    CallOK E P (ρ.f 41) [.t (.list xs)] [.row (ρ.t 23) xs] [] := by
  refine ⟨fun h => (by rw [hfl] at h; cases h), fun F w vals bl hx hnd hb hF hL => ?_⟩
  obtain ⟨v, hvs, hv, rfl⟩ : ∃ v, vals.toList = [v] ∧ RD F w (.list xs) v ∧ bl = [] := by
    generalize vals.toList = l at hx
    cases hx with
    | cons h r =>
      cases r with
      | nil =>
        cases h with
        | t h => exact ⟨_, rfl, h, rfl⟩
  have hva : vals = #[v] := by cases vals; simpa using hvs
  subst hva
  rw [hm]
  cases hv with
  | list xs A c sz cell hc hmx hz hwd h1 ha h =>
    cases A with
    | none =>
      have hnil : xs = [] := by
        cases xs with
        | nil => rfl
        | cons x r => obtain ⟨g, o, e, _⟩ := ha (by simp); cases e
      subst hnil
      refine Goes.of_calls he ((AnyE.slices_Clone_nil L 0 c w).mono ?_)
      rintro e w' ⟨rfl, rfl⟩
      refine ⟨[.slice none 0 0], rfl, F, [], [], Same.refl _ _, fun _ h => h, fun _ h => .inl h, hF, ?_, by rw [muts_nil]; exact .nil, by simp, by simp⟩
      refine .cons (b := []) (bs := []) ?_ .nil
      exact .row (l := 0) ⟨by rw [hty]; exact hsz, ⟨none, 0, rfl, Nat.le_refl _, Nat.zero_le _⟩, by simp, by simp, fun A n k e hk => by cases e; exact absurd rfl hk⟩
    | some a =>
      have hsize : xs ≠ [] → sz = i0.size := fun hne => by
        obtain ⟨x, hx⟩ := List.exists_mem_of_ne_nil xs hne
        rw [← hwd x hx, hw x hx]
      obtain ⟨news, hnews⟩ : ∃ news, news = (List.range (xs.length * i0.size)).map (fun k => cell (k / i0.size) (k % i0.size)) := ⟨_, rfl⟩
      have hnl : news.length = xs.length * i0.size := by rw [hnews]; simp
      have hget : ∀ k u, news[k]? = some u → k < xs.length * i0.size ∧ u = cell (k / i0.size) (k % i0.size) := by
        intro k u hk
        have hlt := (List.getElem?_eq_some_iff.1 hk).1
        rw [hnl] at hlt
        rw [hnews, List.getElem?_map, List.getElem?_range hlt] at hk
        simp at hk
        exact ⟨hlt, hk.symm⟩
      have hjt : ∀ k, k < xs.length * i0.size → k / i0.size < xs.length ∧ k % i0.size < i0.size := fun k hk => ⟨Nat.div_lt_of_lt_mul (by rw [Nat.mul_comm]; exact hk), Nat.mod_lt _ hsz⟩
      have hone : ∀ u ∈ news, u.oneCell' = true := by
        intro u hu
        obtain ⟨k, hk, hE⟩ := List.getElem_of_mem hu
        obtain ⟨hlt, rfl⟩ := hget k u (by rw [← hE]; exact List.getElem?_eq_getElem hk)
        obtain ⟨hj, ht⟩ := hjt k hlt
        have hx1 : xs[k / i0.size]? = some xs[k / i0.size] := List.getElem?_eq_getElem hj
        have hlt2 : k % i0.size < xs[k / i0.size].cells.length := by rw [hw _ (List.getElem_mem hj)]; exact ht
        exact oneCell_of ((h _ _ _ _ hx1 (List.getElem?_eq_getElem hlt2)).one (h1 _ (List.getElem_mem hj) _ (List.getElem_mem hlt2)))
      have hcell : ∀ k u, news[k]? = some u → w.cell? (a.add k) = some u := by
        intro k u hk
        obtain ⟨hlt, rfl⟩ := hget k u hk
        obtain ⟨hj, ht⟩ := hjt k hlt
        have hne : xs ≠ [] := fun e => by subst e; simp at hj
        obtain ⟨g, o, e, _, hcl⟩ := ha hne
        cases e
        have := hcl _ _ hj (by rw [hsize hne]; exact ht)
        rw [hsize hne, Nat.div_add_mod'] at this
        rw [Addr.add_lit]
        exact this
      refine Goes.of_calls he ((cloneAt L i0 z i0.size i0.bytes hi hz0 rfl rfl hzs hsz (fun w => by simp [Go.sizeOf, typeInfo, hi]) a xs.length c news w hnl hn hbig hcell hone).mono ?_)
      rintro e w' ⟨v', rfl, ⟨_, hown⟩, hnz, hbel⟩
      rcases hown with ⟨rfl, _⟩ | ⟨g, cap, cur, rfl, hg, hblk, hle, hcap, hcs, htk⟩
      · exact absurd rfl hnz
      have hsm := sameBelow hbel
      have hlt : g < w'.heap.size := by
        rcases Nat.lt_or_ge g w'.heap.size with h | h
        · exact h
        · rw [Array.getElem?_eq_none h] at hblk; cases hblk
      have hrow : RowV E F w' (ρ.t 23) xs (.slice (some ⟨g, 0, none⟩) xs.length cap) g := by
        refine ⟨by rw [hty]; exact hsz, ⟨_, cap, rfl, hle, hcap⟩, fun x hx => by rw [hty]; exact hw x hx, h1, fun A n k e hk => ?_⟩
        cases e
        refine ⟨0, cur, 0, 0, rfl, hblk, by rw [hty, hcs]; omega, fun j _ _ h => by omega, fun j x t y hx hy => ?_⟩
        rw [hty]
        have hj := (List.getElem?_eq_some_iff.1 hx).1
        have hxm : x ∈ xs := List.mem_of_getElem? hx
        have ht := (List.getElem?_eq_some_iff.1 hy).1
        rw [hw x hxm] at ht
        have hk2 : j * i0.size + t < xs.length * i0.size := by
          have : (j + 1) * i0.size ≤ xs.length * i0.size := Nat.mul_le_mul_right _ hj
          rw [Nat.add_mul, Nat.one_mul] at this
          omega
        have hdv : (j * i0.size + t) / i0.size = j := by rw [Nat.mul_comm, Nat.mul_add_div hsz, Nat.div_eq_of_lt ht, Nat.add_zero]
        have hmd : (j * i0.size + t) % i0.size = t := by rw [Nat.mul_comm, Nat.mul_add_mod, Nat.mod_eq_of_lt ht]
        refine ⟨cell j t, ?_, (h j x t y hx hy).mono (fun _ h => h) (fun k hk => hsm.blk k (hF k hk) (fun h => h))⟩
        have hn1 : news[j * i0.size + t]? = some (cell j t) := by
          rw [hnews, List.getElem?_map, List.getElem?_range hk2]
          simp [hdv, hmd]
        rw [← htk, List.getElem?_take, if_pos hk2, Array.getElem?_toList] at hn1
        rw [Nat.zero_add]
        exact hn1
      refine ⟨[_], rfl, F, ownL (.slice (some ⟨g, 0, none⟩) xs.length cap) g, [], hsm.mono (fun _ _ h => h.elim), fun _ h => h, fun _ h => .inl h, fun k hk => Nat.lt_of_lt_of_le (hF k hk) hsm.size, ?_, by rw [muts_nil]; exact .nil, ?_, ?_⟩
      · have := XVs.cons (XV.row hrow) (.nil (E := E) (F := F) (w := w'))
        simpa using this
      · unfold ownL; split <;> simp
      · intro k hk
        have hkg : k = g := by
          unfold ownL at hk
          split at hk <;> simp at hk
          exact hk
        subst hkg
        exact ⟨hlt, fun h => by have := hF _ h; omega, .inr hg⟩
end Go.Ev
namespace Go.Md
open Go.Ev Go.Proofs Go.RowKit
set_option linter.unusedSimpArgs false
set_option linter.unusedVariables false
theorem same_of_below {w w' : World} (h : Below w.heap.size w w') : Same w w' (fun _ => False) := ⟨h.size, fun k hk _ => h.block k hk, h.tape, h.os, h.output⟩
theorem callOK_flat {E : Env} {P : Program} {f : Nat} {args : List X} {r : T} (hr : r.flat = true) (h1 : r.one = true) (hm : E.md f = [])
    (h : ∀ (F : Nat → Prop) (w : World) (vals : Array Value) (bl : List Nat), XVs E F w args vals.toList bl → (∀ k, F k → k < w.heap.size) → Laid E F w → ∃ v, RD F w r v ∧ ((callFunc f vals).run P w = .ok (.value v) w ∨ ((callFunc f vals).run P w = .ok (.enter f vals) w ∧ Calls P f vals w (fun e w' => e = .returned v ∧ Below w.heap.size w w')))) :
    CallOK E P f args [.t r] [] := by
  refine ⟨fun _ => ⟨by simp [X.flats, X.flat, hr], rfl, rfl⟩, fun F w vals bl hx hn hb hF hL => ?_⟩
  obtain ⟨v, hv, hc⟩ := h F w vals bl hx hF hL
  have key : ∀ w', Below w.heap.size w w' → Go.Ev.Leaves E F w bl (muts (E.md f) vals.toList) [.t r] [] [v] w' := by
    intro w' hw
    refine ⟨F, [], [], (same_of_below hw).mono (fun _ _ h => h.elim), fun _ h => h, fun _ h => .inl h, fun k hk => Nat.lt_of_lt_of_le (hF k hk) hw.size, .cons (b := []) (.t (hv.flat hr)) .nil, ?_, by simp, by simp⟩
    rw [hm, show muts [] vals.toList = [] from muts_nil _]
    exact .nil
  rcases hc with hc | ⟨hc, hC⟩
  · exact .inr ⟨v, w, hc, [v], rfl, key w (Below.refl _ _)⟩
  · refine .inl ⟨hc, hC.mono ?_⟩
    rintro e w' ⟨rfl, hw⟩
    exact ⟨[v], rfl, key w' hw⟩
theorem xvs_two {E : Env} {F : Nat → Prop} {w : World} {a b : T} {vs : List Value} {bl : List Nat} (h : XVs E F w [.t a, .t b] vs bl) : ∃ u v, vs = [u, v] ∧ RD F w a u ∧ RD F w b v := by
  cases h with
  | cons h r =>
    cases r with
    | cons h' r' =>
      cases r' with
      | nil =>
        cases h with
        | t h => cases h' with
          | t h' => exact ⟨_, _, rfl, h, h'⟩
theorem arr_two {vals : Array Value} {u v : Value} (h : vals.toList = [u, v]) : vals = #[u, v] := by
  cases vals; simpa using h
/-- The layings of slices.Clone. -/
def cloneRen (f t e : Nat) : Go.Shelf.Ren := ⟨fun | 41 => f | n => n, fun | 22 => t | 23 => e | n => n, fun n => n⟩
theorem lay60 : Go.Proofs.SlLaysE0.n41 Tryz.prog (cloneRen 60 45 26) := {
  mixed := by kernel_rfl
  f41 := ⟨Tryz.f60.name, by kernel_rfl, Tryz.func60.trans (congrArg some (by kernel_rfl))⟩
  t4 := Tryz.underlying4
  a4 := Tryz.isAgg4
  z4 := Tryz.sizeOf4
  v4 := Tryz.zeroValue4
  t22 := Tryz.underlying45
  a22 := Tryz.isAgg45
  z22 := Tryz.sizeOf45
  v22 := Tryz.zeroValue45 }
theorem lay175 : Go.Proofs.SlLaysE0.n41 Tryz.prog (cloneRen 175 24 42) := {
  mixed := by kernel_rfl
  f41 := ⟨Tryz.f175.name, by kernel_rfl, Tryz.func175.trans (congrArg some (by kernel_rfl))⟩
  t4 := Tryz.underlying4
  a4 := Tryz.isAgg4
  z4 := Tryz.sizeOf4
  v4 := Tryz.zeroValue4
  t22 := Tryz.underlying24
  a22 := Tryz.isAgg24
  z22 := Tryz.sizeOf24
  v22 := Tryz.zeroValue24 }
theorem lay263 : Go.Proofs.SlLaysE0.n41 Tryz.prog (cloneRen 263 149 154) := {
  mixed := by kernel_rfl
  f41 := ⟨Tryz.f263.name, by kernel_rfl, Tryz.func263.trans (congrArg some (by kernel_rfl))⟩
  t4 := Tryz.underlying4
  a4 := Tryz.isAgg4
  z4 := Tryz.sizeOf4
  v4 := Tryz.zeroValue4
  t22 := Tryz.underlying149
  a22 := Tryz.isAgg149
  z22 := Tryz.sizeOf149
  v22 := Tryz.zeroValue149 }
theorem ext_ok : ∀ f g args rs bs, extOf f = some g → g args = some (rs, bs) → CallOK E Tryz.prog f args rs bs := by
  intro f g args rs bs hx hg
  unfold extOf at hx
  split at hx
  · obtain rfl := Option.some.inj hx
    dsimp only at hg
    split at hg
    · rename_i a b
      obtain ⟨rfl, rfl⟩ := Prod.mk.inj (Option.some.inj hg)
      refine callOK_flat rfl rfl rfl (fun F w vals bl h _ _ => ?_)
      obtain ⟨u, v, hv, hu, hv'⟩ := xvs_two h
      obtain rfl := arr_two hv
      cases hu; cases hv'
      refine ⟨_, .int _ _, .inr ⟨Go.Proofs.enters_of Tryz.func289 (by kernel_rfl) rfl _ _, (Tryz.bytealg_CompareString ⟨⟨a⟩⟩ ⟨⟨b⟩⟩ w).mono ?_⟩⟩
      rintro e w' ⟨rfl, rfl⟩
      exact ⟨rfl, Below.refl _ _⟩
    · cases hg
  · obtain rfl := Option.some.inj hx
    dsimp only at hg
    split at hg
    · rename_i a n
      split at hg
      · rename_i hn
        obtain ⟨rfl, rfl⟩ := Prod.mk.inj (Option.some.inj hg)
        refine callOK_flat rfl rfl rfl (fun F w vals bl h _ _ => ?_)
        obtain ⟨u, v, hv, hu, hv'⟩ := xvs_two h
        obtain rfl := arr_two hv
        cases hu; cases hv'
        obtain ⟨h0, h1, h2⟩ := hn
        have hc := Tryz.strings_Repeat ⟨⟨a⟩⟩ n.toNat w (by omega) (by simpa [ByteArray.size] using h2)
        rw [Int.toNat_of_nonneg h0] at hc
        refine ⟨_, .str _, .inr ⟨Go.Proofs.enters_of Tryz.func310 (by kernel_rfl) rfl _ _, hc⟩⟩
      · cases hg
    · cases hg
  · obtain rfl := Option.some.inj hx
    dsimp only at hg
    split at hg
    · rename_i a c
      obtain ⟨rfl, rfl⟩ := Prod.mk.inj (Option.some.inj hg)
      refine callOK_flat rfl rfl rfl (fun F w vals bl h _ _ => ?_)
      obtain ⟨u, v, hv, hu, hv'⟩ := xvs_two h
      obtain rfl := arr_two hv
      cases hu; cases hv'
      refine ⟨_, .int _ _, .inl ?_⟩
      rw [run_callFunc_extern Tryz.func308 (by kernel_rfl) (by kernel_rfl) (by kernel_rfl) (e := Extern.BytealgCount.count) (by kernel_rfl), Lib.run_countString]
      rfl
    · cases hg
  · obtain rfl := Option.some.inj hx
    dsimp only at hg
    split at hg
    · rename_i a c
      obtain ⟨rfl, rfl⟩ := Prod.mk.inj (Option.some.inj hg)
      refine callOK_flat rfl rfl rfl (fun F w vals bl h _ _ => ?_)
      obtain ⟨u, v, hv, hu, hv'⟩ := xvs_two h
      obtain rfl := arr_two hv
      cases hu; cases hv'
      refine ⟨_, .int _ _, .inl ?_⟩
      rw [run_callFunc_extern Tryz.func331 (by kernel_rfl) (by kernel_rfl) (by kernel_rfl) (e := Extern.BytealgIndexByte.indexByte) (by kernel_rfl), Lib.run_indexByteString]
      rfl
    · cases hg
  · obtain rfl := Option.some.inj hx
    dsimp only at hg
    split at hg
    · rename_i xs
      split at hg
      · rename_i hc
        obtain ⟨rfl, rfl⟩ := Prod.mk.inj (Option.some.inj hg)
        have hz : Tryz.t26.size = 6 := by kernel_rfl
        have hw : ∀ x ∈ xs, x.cells.length = Tryz.t26.size := fun x hx => by rw [hz]; simpa using List.all_eq_true.1 hc.1 x hx
        have hb : Tryz.t26.bytes = 72 := by kernel_rfl
        exact clone_ok lay60 (Go.Proofs.enters_of Tryz.func60 (by kernel_rfl) rfl) rfl fl60 Tryz.t26 (Tryz.t26.zero.getD .nilFunc) (by kernel_rfl) (by kernel_rfl) (by kernel_rfl) (by rw [hz]; decide) (by kernel_rfl) xs hw (by have := hc.2; unfold maxLen; omega) (by rw [hb]; have := hc.2; omega)
      · cases hg
    · cases hg
  · obtain rfl := Option.some.inj hx
    dsimp only at hg
    split at hg
    · rename_i xs
      split at hg
      · rename_i hc
        obtain ⟨rfl, rfl⟩ := Prod.mk.inj (Option.some.inj hg)
        have hz : Tryz.t42.size = 10 := by kernel_rfl
        have hw : ∀ x ∈ xs, x.cells.length = Tryz.t42.size := fun x hx => by rw [hz]; simpa using List.all_eq_true.1 hc.1 x hx
        have hb : Tryz.t42.bytes = 104 := by kernel_rfl
        exact clone_ok lay175 (Go.Proofs.enters_of Tryz.func175 (by kernel_rfl) rfl) rfl fl175 Tryz.t42 (Tryz.t42.zero.getD .nilFunc) (by kernel_rfl) (by kernel_rfl) (by kernel_rfl) (by rw [hz]; decide) (by kernel_rfl) xs hw (by have := hc.2; unfold maxLen; omega) (by rw [hb]; have := hc.2; omega)
      · cases hg
    · cases hg
  · obtain rfl := Option.some.inj hx
    dsimp only at hg
    split at hg
    · rename_i xs
      split at hg
      · rename_i hc
        obtain ⟨rfl, rfl⟩ := Prod.mk.inj (Option.some.inj hg)
        have hz : Tryz.t154.size = 5 := by kernel_rfl
        have hw : ∀ x ∈ xs, x.cells.length = Tryz.t154.size := fun x hx => by rw [hz]; simpa using List.all_eq_true.1 hc.1 x hx
        have hb : Tryz.t154.bytes = 56 := by kernel_rfl
        exact clone_ok lay263 (Go.Proofs.enters_of Tryz.func263 (by kernel_rfl) rfl) rfl fl263 Tryz.t154 (Tryz.t154.zero.getD .nilFunc) (by kernel_rfl) (by kernel_rfl) (by kernel_rfl) (by rw [hz]; decide) (by kernel_rfl) xs hw (by have := hc.2; unfold maxLen; omega) (by rw [hb]; have := hc.2; omega)
      · cases hg
    · cases hg
  · cases hx
theorem E_sok : SOK E Tryz.prog := envE_sok mixed names_ok ext_ok
end Go.Md
namespace Go.Md
open Go.Ev Go.Proofs Go.Pu
set_option linter.unusedSimpArgs false
set_option linter.unusedVariables false
set_option maxRecDepth 100000
set_option maxHeartbeats 4000000
theorem list_choose {α β : Type} {enc : α → β} {P : α → Prop} : ∀ {xs : List β}, (∀ x ∈ xs, ∃ a, x = enc a ∧ P a) → ∃ l : List α, xs = l.map enc ∧ ∀ a ∈ l, P a
  | [], _ => ⟨[], rfl, by simp⟩
  | x :: xs, h => by
    obtain ⟨a, h1, h2⟩ := h x (by simp)
    obtain ⟨l, h3, h4⟩ := list_choose (fun y hy => h y (List.mem_cons_of_mem _ hy))
    refine ⟨a :: l, by simp [h1, h3], fun b hb => ?_⟩
    rcases List.mem_cons.1 hb with rfl | hb
    · exact h2
    · exact h4 b hb
theorem typed_int {n : Nat} {ts : List T} (h : typed E (n + 1) 3 ts) : ∃ m, ts = [.int .i64 m] := by
  unfold typed at h
  rw [E_ty3] at h
  simp only at h
  split at h <;> first | exact h.elim | skip
  all_goals rename_i hk
  all_goals first | cases hk | skip
  all_goals first | (obtain ⟨rfl, _⟩ := h; exact ⟨_, rfl⟩) | skip
theorem typed_str {n : Nat} {ts : List T} (h : typed E (n + 1) 9 ts) : ∃ s, ts = [.str s] ∧ W s.length := by
  unfold typed at h
  rw [E_ty9] at h
  simp only at h
  split at h <;> first | exact h.elim | skip
  all_goals rename_i hk
  all_goals first | cases hk | skip
  all_goals first | exact ⟨_, rfl, by unfold W; omega⟩ | skip
theorem typed_bool {n : Nat} {ts : List T} (h : typed E (n + 1) 4 ts) : ∃ b, ts = [.bool b] := by
  unfold typed at h
  rw [E_ty4] at h
  simp only at h
  split at h <;> first | exact h.elim | skip
  all_goals rename_i hk
  all_goals first | cases hk | skip
  all_goals first | exact ⟨_, rfl⟩ | skip
theorem typed_slice {n t : Nat} {ts : List T} (hk : (E.ty t).k = .slice) (hb : 1 ≤ (E.ty (E.ty t).elem).bytes) (h : typed E (n + 1) t ts) : ∃ xs, ts = [.list xs] ∧ W xs.length ∧ ∀ x ∈ xs, ∃ cs, x = (if (E.ty (E.ty t).elem).agg then T.agg cs else (cs.headD (.bool false))) ∧ cs.length = (E.ty (E.ty t).elem).size ∧ typed E n (E.ty t).elem cs := by
  unfold typed at h
  rw [hk] at h
  try simp only at h
  split at h <;> first | exact h.elim | skip
  all_goals rename_i hk'
  all_goals first | cases hk' | skip
  rename_i xs
  refine ⟨xs, rfl, ?_, h.2⟩
  have := Nat.le_mul_of_pos_right xs.length hb
  unfold W
  have := h.1
  omega
theorem typed_struct {n t : Nat} {ts : List T} (hk : (E.ty t).k = .struct) (h : typed E (n + 1) t ts) : ts.length = (E.ty t).size ∧ ∀ p ∈ (E.ty t).fields, typed E n p.2 ((ts.drop p.1).take (E.ty p.2).size) := by
  unfold typed at h
  rw [hk] at h
  exact h
theorem dec293 {n : Nat} {ts : List T} (h : typed E (n + 2) 293 ts) : ∃ v : Val, ts = [.int .i64 v.k, .int .i64 v.n, .str v.t] ∧ W v.t.length := by
  obtain ⟨h1, h2⟩ := typed_struct (by simp) h
  simp at h1 h2
  obtain ⟨g1, g2, g3⟩ := h2
  match ts, h1 with
  | [a, b, c], _ =>
    obtain ⟨x, hx⟩ := typed_int g1
    obtain ⟨y, hy⟩ := typed_int g2
    obtain ⟨z, hz, hz2⟩ := typed_str g3
    simp at hx hy hz
    exact ⟨⟨x, y, z⟩, by simp [hx, hy, hz], hz2⟩
theorem dec295 {n : Nat} {ts : List T} (h : typed E (n + 3) 295 ts) : ∃ t : Trm, T.agg ts = trmT t ∧ t.wd := by
  obtain ⟨h1, h2⟩ := typed_struct (by simp) h
  simp at h1 h2
  obtain ⟨g1, g2, g3⟩ := h2
  match ts, h1 with
  | [a, b, c, d, e], _ =>
    obtain ⟨x, hx⟩ := typed_int g1
    obtain ⟨y, hy, hy2⟩ := typed_str g2
    obtain ⟨v, hv, hv2⟩ := dec293 g3
    simp at hx hy hv
    exact ⟨⟨x, y, v⟩, by simp [hx, hy, hv], hy2, hv2⟩
theorem dec211 {n : Nat} {ts : List T} (h : typed E (n + 4) 211 ts) : ∃ c : List Trm, ts = [.list (c.map trmT)] ∧ clsWd c := by
  obtain ⟨xs, rfl, h1, h2⟩ := typed_slice (by simp) (by simp) h
  obtain ⟨l, rfl, h4⟩ := list_choose (enc := trmT) (P := Trm.wd) (fun x hx => by
    obtain ⟨cs, e, _, h⟩ := h2 x hx
    simp at e h
    obtain ⟨t, h3, h4⟩ := dec295 h
    exact ⟨t, e.trans h3, h4⟩)
  exact ⟨l, rfl, by simpa using h1, h4⟩
theorem dec213 {n : Nat} {ts : List T} (h : typed E (n + 5) 213 ts) : ∃ c : List Trm, T.agg ts = clsT c ∧ clsWd c := by
  obtain ⟨h1, h2⟩ := typed_struct (by simp) h
  simp at h1 h2
  match ts, h1 with
  | [a], _ =>
    obtain ⟨c, hc, hw⟩ := dec211 h2
    simp at hc
    exact ⟨c, by simp [hc], hw⟩
theorem dec57 {n : Nat} {ts : List T} (h : typed E (n + 6) 57 ts) : ∃ f : List (List Trm), ts = [.list (f.map clsT)] ∧ filWd f := by
  obtain ⟨xs, rfl, h1, h2⟩ := typed_slice (by simp) (by simp) h
  obtain ⟨l, rfl, h4⟩ := list_choose (enc := clsT) (P := clsWd) (fun x hx => by
    obtain ⟨cs, e, _, h⟩ := h2 x hx
    simp at e h
    obtain ⟨t, h3, h4⟩ := dec213 h
    exact ⟨t, e.trans h3, h4⟩)
  exact ⟨l, rfl, by simpa using h1, h4⟩
theorem dec59 {n : Nat} {ts : List T} (h : typed E (n + 7) 59 ts) : ∃ f : List (List Trm), ts = [.list (f.map clsT)] ∧ filWd f := by
  obtain ⟨h1, h2⟩ := typed_struct (by simp) h
  simp at h1 h2
  match ts, h1 with
  | [a], _ => simpa using dec57 h2
theorem dec167 {n : Nat} {ts : List T} (h : typed E (n + 2) 167 ts) : ∃ p : Prt, T.agg ts = prtT p ∧ W p.path.length := by
  obtain ⟨h1, h2⟩ := typed_struct (by simp) h
  simp at h1 h2
  obtain ⟨g1, g2⟩ := h2
  match ts, h1 with
  | [a, b], _ =>
    obtain ⟨x, hx, hx2⟩ := typed_str g1
    obtain ⟨y, hy⟩ := typed_bool g2
    simp at hx hy
    exact ⟨⟨x, y⟩, by simp [hx, hy], hx2⟩
theorem dec60 {n : Nat} {ts : List T} (h : typed E (n + 3) 60 ts) : ∃ c : List Prt, ts = [.list (c.map prtT)] ∧ prtsWd c := by
  obtain ⟨xs, rfl, h1, h2⟩ := typed_slice (by simp) (by simp) h
  obtain ⟨l, rfl, h4⟩ := list_choose (enc := prtT) (P := fun p => W p.path.length) (fun x hx => by
    obtain ⟨cs, e, _, h⟩ := h2 x hx
    simp at e h
    obtain ⟨t, h3, h4⟩ := dec167 h
    exact ⟨t, e.trans h3, h4⟩)
  exact ⟨l, rfl, by simpa using h1, h4⟩
theorem dec61 {n : Nat} {ts : List T} (h : typed E (n + 2) 61 ts) : ∃ c : List Bytes, ts = [.list (c.map strT)] ∧ txtsWd c := by
  obtain ⟨xs, rfl, h1, h2⟩ := typed_slice (by simp) (by simp) h
  obtain ⟨l, rfl, h4⟩ := list_choose (enc := strT) (P := fun p => W p.length) (fun x hx => by
    obtain ⟨cs, e, _, h⟩ := h2 x hx
    simp at e h
    obtain ⟨t, h3, h4⟩ := typed_str h
    subst h3
    exact ⟨t, by simpa using e, h4⟩)
  exact ⟨l, rfl, by simpa using h1, h4⟩
theorem dec63 {n : Nat} {ts : List T} (h : typed E (n + 8) 63 ts) : ∃ q : Qry, T.agg ts = qryT q ∧ q.Wd := by
  obtain ⟨h1, h2⟩ := typed_struct (by simp) h
  simp at h1 h2
  obtain ⟨g1, g2, g3, g4, g5, g6⟩ := h2
  match ts, h1 with
  | [a, b, c, d, e, f], _ =>
    obtain ⟨fl, e1, w1⟩ := dec59 g1
    obtain ⟨so, e2, w2⟩ := dec60 g2
    obtain ⟨sk, e3⟩ := typed_int g3
    obtain ⟨li, e4⟩ := typed_int g4
    obtain ⟨ke, e5, w5⟩ := dec61 g5
    obtain ⟨hi, e6, w6⟩ := typed_str g6
    simp at e1 e2 e3 e4 e5 e6
    exact ⟨⟨fl, so, sk, li, ke, hi⟩, by simp [e1, e2, e3, e4, e5, e6], w1, w2, w5, w6⟩
end Go.Md
