/- Plain data of the store of documents: values, how bytes tell them, which are right, how they are ordered. No program in sight. -/
import Derived.Test.YtjbnpbcihofmgaaGreatDoorEvTwo
set_option linter.unusedSimpArgs false
set_option linter.unusedVariables false
namespace Go.Pu
open Go.Ev

abbrev Bytes := List UInt8
/-- A value: kind, number, text. -/
structure Val where
  k : Int
  n : Int
  t : Bytes
  deriving DecidableEq, Inhabited
structure Fld where
  name : Bytes
  v : Val
  deriving DecidableEq, Inhabited
def nullV : Val := ⟨0, 0, []⟩

theorem wrap_of {n : Int} (h1 : -9223372036854775808 ≤ n) (h2 : n < 9223372036854775808) : IntKind.i64.wrap n = n := by rw [IntKind.wrap_i64]; omega
/-- The number that bytes tell, after one. -/
def ofBytes (n : Int) : Bytes → Int
  | [] => n
  | b :: r => ofBytes (IntKind.i64.wrap (IntKind.i64.wrap (n * 256) + b.toNat)) r
def two (x y : UInt8) : Nat := x.toNat * 256 + y.toNat
theorem ofBytes_two (x y : UInt8) : ofBytes 0 [x, y] = (two x y : Nat) := by
  have hx := x.toNat_lt
  have hy := y.toNat_lt
  have h0 : IntKind.i64.wrap ((0 : Int) * 256) = 0 := wrap_of (by omega) (by omega)
  have h1 : IntKind.i64.wrap ((0 : Int) + x.toNat) = x.toNat := by rw [wrap_of (by omega) (by omega)]; omega
  have h2 : IntKind.i64.wrap ((x.toNat : Int) * 256) = x.toNat * 256 := wrap_of (by omega) (by omega)
  have h3 : IntKind.i64.wrap ((x.toNat : Int) * 256 + y.toNat) = x.toNat * 256 + y.toNat := wrap_of (by omega) (by omega)
  simp only [ofBytes, h0, h1, h2, h3, two]
  omega
theorem two_lt (x y : UInt8) : two x y < 65536 := by
  have hx := x.toNat_lt
  have hy := y.toNat_lt
  simp only [two]; omega
theorem two_inj {x y x' y' : UInt8} (h : two x y = two x' y') : x = x' ∧ y = y' := by
  have := x.toNat_lt; have := y.toNat_lt; have := x'.toNat_lt; have := y'.toNat_lt
  simp only [two] at h
  exact ⟨UInt8.toNat_inj.1 (by omega), UInt8.toNat_inj.1 (by omega)⟩

def natOf (n : Nat) : Bytes → Nat
  | [] => n
  | b :: r => natOf (n * 256 + b.toNat) r
theorem natOf_lt : ∀ (l : Bytes) (n k : Nat), n < k → natOf n l < k * 256 ^ l.length
  | [], n, k, h => by simpa [natOf] using h
  | b :: r, n, k, h => by
    have hb := b.toNat_lt
    have := natOf_lt r (n * 256 + b.toNat) (k * 256) (by omega)
    simp only [natOf, List.length_cons, Nat.pow_succ]
    rw [Nat.mul_assoc, Nat.mul_comm 256] at this
    exact this
theorem natOf_inj : ∀ (l l' : Bytes) (n n' : Nat), l.length = l'.length → natOf n l = natOf n' l' → n = n' ∧ l = l'
  | [], [], n, n', _, h => ⟨h, rfl⟩
  | b :: r, b' :: r', n, n', hl, h => by
    have hb := b.toNat_lt
    have hb' := b'.toNat_lt
    obtain ⟨h1, h2⟩ := natOf_inj r r' _ _ (by simpa using hl) h
    have e1 : n = n' := by omega
    have e2 : b = b' := UInt8.toNat_inj.1 (by omega)
    exact ⟨e1, by rw [e2, h2]⟩
  | [], _ :: _, _, _, hl, _ => by simp at hl
  | _ :: _, [], _, _, hl, _ => by simp at hl
theorem ofBytes_nat : ∀ (l : Bytes) (n : Nat), (n + 1) * 256 ^ l.length ≤ 9223372036854775808 → ofBytes n l = natOf n l
  | [], n, _ => rfl
  | b :: r, n, h => by
    have hb := b.toNat_lt
    have hp : 1 ≤ 256 ^ r.length := Nat.one_le_pow _ _ (by omega)
    have h' : ((n + 1) * 256) * 256 ^ r.length ≤ 9223372036854775808 := by
      rw [Nat.mul_assoc, Nat.mul_comm 256, ← Nat.pow_succ]; simpa using h
    have h2 : (n + 1) * 256 ≤ 9223372036854775808 := Nat.le_trans (Nat.le_mul_of_pos_right _ hp) h'
    have h3 : (n * 256 + b.toNat + 1) * 256 ^ r.length ≤ 9223372036854775808 := Nat.le_trans (Nat.mul_le_mul_right _ (by omega)) h'
    simp only [ofBytes, natOf]
    rw [wrap_of (n := (n : Int) * 256) (by omega) (by omega), wrap_of (by omega) (by omega)]
    have := ofBytes_nat r (n * 256 + b.toNat) h3
    rw [← this]
    congr 1
/-- Eight bytes that begin low. -/
theorem ofBytes_eight (x : UInt8) (r : Bytes) (hr : r.length = 7) (hx : ¬ 127 < x.toNat) : ofBytes 0 (x :: r) = (natOf 0 (x :: r) : Nat) ∧ natOf 0 (x :: r) < 9223372036854775808 := by
  have h0 : ofBytes 0 (x :: r) = ofBytes ((x.toNat : Nat) : Int) r := by
    have hx' := x.toNat_lt
    simp only [ofBytes]
    rw [wrap_of (n := 0 * 256) (by omega) (by omega), wrap_of (by omega) (by omega)]
    try (congr 1; omega)
  have hp : 256 ^ r.length = 72057594037927936 := by rw [hr]
  have h1 := ofBytes_nat r x.toNat (by rw [hp]; first | done | omega)
  have h2 := natOf_lt r x.toNat 128 (by omega)
  rw [hp] at h2
  have h3 : natOf 0 (x :: r) = natOf x.toNat r := by simp [natOf]
  exact ⟨by rw [h0, h1, h3], by rw [h3]; first | done | omega⟩

/-- The value at the beginning of a text, and what stands behind it. -/
def nextP : Bytes → Option (Val × Bytes)
  | [] => none
  | b :: r =>
    if b.toNat = 0 then some (⟨0, 0, []⟩, r)
    else if b.toNat = 1 then (match r with
      | [] => none
      | x :: r' => some (⟨1, x.toNat, []⟩, r'))
    else if b.toNat = 2 then
      if r.length < 8 then none
      else if 127 < (r.headD 0).toNat then none
      else some (⟨2, IntKind.i64.wrap (ofBytes 0 (r.take 8) - 4611686018427387904), []⟩, r.drop 8)
    else if b.toNat = 3 ∨ b.toNat = 4 ∨ b.toNat = 5 then (match r with
      | x :: y :: r' => if r'.length < two x y then none else some (⟨b.toNat, 0, r'.take (two x y)⟩, r'.drop (two x y))
      | _ => none)
    else none
theorem nextP_len {t : Bytes} {v : Val} {r : Bytes} (h : nextP t = some (v, r)) : r.length < t.length ∧ v.t.length + r.length < t.length := by
  unfold nextP at h
  split at h
  · cases h
  · rename_i b r0
    split at h
    · cases h; simp
    · split at h
      · split at h
        · cases h
        · cases h; simp; try omega
      · split at h
        · split at h
          · cases h
          · split at h
            · cases h
            · cases h; simp; omega
        · split at h
          · split at h
            · split at h
              · cases h
              · cases h; simp; omega
            · cases h
          · cases h
/-- The items of a list's body. -/
def itemsN : Nat → Bytes → Option (List Val)
  | _, [] => some []
  | 0, _ => none
  | n + 1, t => match nextP t with
    | none => none
    | some (v, r) => (itemsN n r).map (v :: ·)
def itemsP (t : Bytes) : Option (List Val) := itemsN t.length t
theorem itemsN_big : ∀ (n m : Nat) (t : Bytes), t.length ≤ n → t.length ≤ m → itemsN n t = itemsN m t
  | _, _, [], _, _ => by simp [itemsN]
  | n + 1, m + 1, x :: t, h1, h2 => by
    simp only [itemsN]
    cases h : nextP (x :: t) with
    | none => rfl
    | some p =>
      obtain ⟨v, r⟩ := p
      have := (nextP_len h).1
      simp only [List.length_cons] at h1 h2 this
      simp only
      rw [itemsN_big n m r (by omega) (by omega)]
  | 0, _, x :: t, h1, _ => by simp at h1
  | _, 0, x :: t, _, h2 => by simp at h2
theorem itemsP_nil : itemsP [] = some [] := rfl
theorem itemsP_none {x : UInt8} {t : Bytes} (h : nextP (x :: t) = none) : itemsP (x :: t) = none := by
  simp [itemsP, itemsN, h]
theorem itemsP_some {t : Bytes} {v : Val} {r : Bytes} (h : nextP t = some (v, r)) : itemsP t = (itemsP r).map (v :: ·) := by
  cases t with
  | nil => simp [nextP] at h
  | cons x t =>
    have := (nextP_len h).1
    simp only [List.length_cons] at this
    simp only [itemsP, List.length_cons, itemsN, h]
    rw [itemsN_big t.length r.length r (by omega) (by omega)]
/-- The fields of a document's body. -/
def fieldsN : Nat → Bytes → Option (List Fld)
  | _, [] => some []
  | 0, _ => none
  | n + 1, b :: t => if t.length < b.toNat then none else match nextP (t.drop b.toNat) with
    | none => none
    | some (v, r) => (fieldsN n r).map (⟨t.take b.toNat, v⟩ :: ·)
def fieldsP (t : Bytes) : Option (List Fld) := fieldsN t.length t
theorem fieldsN_big : ∀ (n m : Nat) (t : Bytes), t.length ≤ n → t.length ≤ m → fieldsN n t = fieldsN m t
  | _, _, [], _, _ => by simp [fieldsN]
  | n + 1, m + 1, x :: t, h1, h2 => by
    simp only [fieldsN]
    split
    · rfl
    · cases h : nextP (t.drop x.toNat) with
      | none => rfl
      | some p =>
        obtain ⟨v, r⟩ := p
        have := (nextP_len h).1
        simp only [List.length_cons, List.length_drop] at h1 h2 this
        simp only
        rw [fieldsN_big n m r (by omega) (by omega)]
  | 0, _, x :: t, h1, _ => by simp at h1
  | _, 0, x :: t, _, h2 => by simp at h2
theorem fieldsP_nil : fieldsP [] = some [] := rfl
theorem fieldsP_short {b : UInt8} {t : Bytes} (h : t.length < b.toNat) : fieldsP (b :: t) = none := by
  simp [fieldsP, fieldsN, h]
theorem fieldsP_none {b : UInt8} {t : Bytes} (h : ¬ t.length < b.toNat) (hn : nextP (t.drop b.toNat) = none) : fieldsP (b :: t) = none := by
  simp [fieldsP, fieldsN, h, hn]
theorem fieldsP_some {b : UInt8} {t : Bytes} {v : Val} {r : Bytes} (h : ¬ t.length < b.toNat) (hn : nextP (t.drop b.toNat) = some (v, r)) : fieldsP (b :: t) = (fieldsP r).map (⟨t.take b.toNat, v⟩ :: ·) := by
  have := (nextP_len hn).1
  simp only [List.length_drop] at this
  simp only [fieldsP, List.length_cons, fieldsN, if_neg h, hn]
  rw [fieldsN_big t.length r.length r (by omega) (by omega)]

def letterP (c : UInt8) : Bool := (decide ((97 : Int) ≤ c.toNat) && decide ((c.toNat : Int) ≤ 122)) || (decide ((65 : Int) ≤ c.toNat) && decide ((c.toNat : Int) ≤ 90)) || decide ((c.toNat : Int) = 95)
def digitP (c : UInt8) : Bool := decide ((48 : Int) ≤ c.toNat) && decide ((c.toNat : Int) ≤ 57)
def wordP : Bytes → Bool
  | [] => false
  | c :: r => letterP c && r.all (fun c => letterP c || digitP c) && decide (r.length < 40)
/-- A short name. -/
def nameP (t : Bytes) : Bool := wordP t && decide (t.length ≤ 12)
def rising : List Fld → Bool
  | [] => true
  | [_] => true
  | f :: g :: r => Op.bytesLess f.name g.name && rising (g :: r)
/-- A value is right, at most so deep. -/
def okP : Nat → Val → Bool
  | d, v =>
    if v.k = 0 then decide (v.n = 0) && v.t.isEmpty
    else if v.k = 1 then decide (0 ≤ v.n) && decide (v.n ≤ 1) && v.t.isEmpty
    else if v.k = 2 then decide (-1000000000000 ≤ v.n) && decide (v.n ≤ 1000000000000) && v.t.isEmpty
    else if v.k = 3 then decide (v.n = 0) && decide (v.t.length ≤ 300)
    else match d with
      | 0 => false
      | d + 1 =>
        if v.k = 4 then decide (v.n = 0) && decide (v.t.length ≤ 300) && (match itemsP v.t with
          | none => false
          | some xs => xs.all (okP d))
        else if v.k = 5 then decide (v.n = 0) && decide (v.t.length ≤ 300) && (match fieldsP v.t with
          | none => false
          | some fs => rising fs && fs.all (fun f => nameP f.name && okP d f.v))
        else false
def valueOK (v : Val) : Bool := okP 5 v

/-- Parted at each of some byte. -/
def cutP (c : UInt8) : Bytes → List Bytes
  | [] => [[]]
  | b :: r => if b = c then [] :: cutP c r else match cutP c r with
    | [] => [[b]]
    | w :: ws => (b :: w) :: ws
def pathOK (t : Bytes) : Bool := decide (t.length ≤ 50) && decide ((cutP 46 t).length ≤ 4) && (cutP 46 t).all nameP

def itemsL (t : Bytes) : List Val := (itemsP t).getD []
def fieldsL (t : Bytes) : List Fld := (fieldsP t).getD []
def fieldP (v : Val) (name : Bytes) : Option Val := ((fieldsL v.t).find? (fun f => f.name == name)).map (·.v)
/-- What names come to in a value. -/
def getP : List Bytes → Val → List Val
  | [], v => v :: (if v.k = 4 then itemsL v.t else [])
  | w :: ws, v =>
    let one := fun x => match fieldP x w with
      | none => []
      | some y => getP ws y
    if v.k = 5 then one v
    else if v.k = 4 then (itemsL v.t).flatMap (fun x => if x.k = 5 then one x else [])
    else []
def sgn (a b : Int) : Int := if a < b then -1 else if b < a then 1 else 0
def sgnT (a b : Bytes) : Int := if Op.bytesLess a b then -1 else if Op.bytesLess b a then 1 else 0
def orI (a b : Int) : Int := if a ≠ 0 then a else b
def cmpL {α : Type} (f : α → α → Int) : List α → List α → Int
  | [], [] => 0
  | [], _ :: _ => -1
  | _ :: _, [] => 1
  | x :: xs, y :: ys => orI (f x y) (cmpL f xs ys)
/-- The order of right values. -/
def ordP : Nat → Val → Val → Int
  | d, a, b =>
    orI (orI (sgn a.k b.k) (sgn a.n b.n)) (match d with
      | 0 => sgnT a.t b.t
      | d + 1 =>
        if a.k = 4 then cmpL (ordP d) (itemsL a.t) (itemsL b.t)
        else if a.k = 5 then cmpL (fun f g => orI (sgnT f.name g.name) (ordP d f.v g.v)) (fieldsL a.t) (fieldsL b.t)
        else sgnT a.t b.t)
def leastP (v : Val) : List Val → Val
  | [] => v
  | x :: r => leastP (if ordP 5 x v < 0 then x else v) r
def firstP (doc : Val) (path : Bytes) : Val := match getP (cutP 46 path) doc with
  | [] => nullV
  | v :: r => leastP v r
end Go.Pu
/- Plain data: what bytes tell tells the bytes; the order of right values is no more than equality at 0. -/
set_option linter.unusedSimpArgs false
set_option linter.unusedVariables false
namespace Go.Pu
open Go.Ev

theorem nextP_kind {t : Bytes} {v : Val} {r : Bytes} (h : nextP t = some (v, r)) : ∃ b q, t = b :: q ∧ v.k = (b.toNat : Int) ∧
    ((b.toNat = 0 ∧ v = ⟨0, 0, []⟩ ∧ q = r) ∨ (b.toNat = 1 ∧ ∃ x : UInt8, q = x :: r ∧ v = ⟨1, x.toNat, []⟩) ∨
     (b.toNat = 2 ∧ ∃ x p, q = x :: p ++ r ∧ p.length = 7 ∧ v = ⟨2, (natOf 0 (x :: p) : Nat) - 4611686018427387904, []⟩ ∧ natOf 0 (x :: p) < 9223372036854775808) ∨
     ((b.toNat = 3 ∨ b.toNat = 4 ∨ b.toNat = 5) ∧ ∃ x y p, q = x :: y :: p ++ r ∧ p.length = two x y ∧ v = ⟨b.toNat, 0, p⟩)) := by
  unfold nextP at h
  split at h
  · cases h
  · rename_i b q
    refine ⟨b, q, rfl, ?_⟩
    split at h
    · rename_i h0
      cases h
      exact ⟨by simp [h0], .inl ⟨h0, rfl, rfl⟩⟩
    · split at h
      · rename_i h1
        split at h
        · cases h
        · rename_i x r'
          cases h
          exact ⟨by simp [h1], .inr (.inl ⟨h1, x, rfl, rfl⟩)⟩
      · split at h
        · rename_i h2
          split at h
          · cases h
          · rename_i hl
            split at h
            · cases h
            · rename_i hx
              cases q with
              | nil => simp at hl
              | cons x p =>
                simp only [List.headD_cons] at hx
                have hp : (p.take 7).length = 7 := by simp at hl ⊢; omega
                obtain ⟨e1, e2⟩ := ofBytes_eight x (p.take 7) hp hx
                simp only [Option.some.injEq, Prod.mk.injEq, List.take_succ_cons, List.drop_succ_cons] at h
                obtain ⟨rfl, rfl⟩ := h
                refine ⟨by simp [h2], .inr (.inr (.inl ⟨h2, x, p.take 7, by simp, hp, ?_, e2⟩))⟩
                rw [e1, wrap_of (by omega) (by omega)]
        · split at h
          · rename_i h3
            split at h
            · rename_i x y r'
              split at h
              · cases h
              · rename_i hl
                simp only [Option.some.injEq, Prod.mk.injEq] at h
                obtain ⟨rfl, rfl⟩ := h
                refine ⟨rfl, .inr (.inr (.inr ⟨h3, x, y, r'.take (two x y), by simp, by simp; omega, rfl⟩))⟩
            · cases h
          · cases h
theorem next_inj {t t' : Bytes} {v : Val} {r r' : Bytes} (h : nextP t = some (v, r)) (h' : nextP t' = some (v, r')) : ∃ p, t = p ++ r ∧ t' = p ++ r' := by
  obtain ⟨b, q, rfl, hk, hc⟩ := nextP_kind h
  obtain ⟨b', q', rfl, hk', hc'⟩ := nextP_kind h'
  have hb : b = b' := UInt8.toNat_inj.1 (by omega)
  subst hb
  rcases hc with ⟨h0, rfl, rfl⟩ | ⟨h1, x, rfl, rfl⟩ | ⟨h2, x, p, rfl, hp, rfl, hn⟩ | ⟨h3, x, y, p, rfl, hp, rfl⟩
  · rcases hc' with ⟨_, _, rfl⟩ | ⟨h1, _⟩ | ⟨h1, _⟩ | ⟨h1, _⟩
    · exact ⟨[b], rfl, rfl⟩
    · omega
    · omega
    · omega
  · rcases hc' with ⟨h0, _⟩ | ⟨_, x', rfl, e⟩ | ⟨h0, _⟩ | ⟨h0, _⟩
    · omega
    · simp only [Val.mk.injEq] at e
      have : x = x' := UInt8.toNat_inj.1 (by omega)
      subst this
      exact ⟨[b, x], rfl, rfl⟩
    · omega
    · omega
  · rcases hc' with ⟨h0, _⟩ | ⟨h0, _⟩ | ⟨_, x', p', rfl, hp', e, _⟩ | ⟨h0, _⟩
    · omega
    · omega
    · simp only [Val.mk.injEq] at e
      obtain ⟨_, e⟩ := natOf_inj (x :: p) (x' :: p') 0 0 (by simp [hp, hp']) (by omega)
      rw [← List.cons_append, ← List.cons_append, e]
      exact ⟨b :: x' :: p', rfl, rfl⟩
    · omega
  · rcases hc' with ⟨h0, _⟩ | ⟨h0, _⟩ | ⟨h0, _⟩ | ⟨_, x', y', p', rfl, hp', e⟩
    · omega
    · omega
    · omega
    · simp only [Val.mk.injEq] at e
      obtain ⟨_, _, rfl⟩ := e
      obtain ⟨rfl, rfl⟩ := two_inj (hp.symm.trans hp')
      exact ⟨b :: x :: y :: p, rfl, rfl⟩
theorem nextP_nil : nextP [] = none := rfl
theorem items_cases {t : Bytes} {xs : List Val} (h : itemsP t = some xs) : (t = [] ∧ xs = []) ∨ ∃ v r ys, nextP t = some (v, r) ∧ itemsP r = some ys ∧ xs = v :: ys := by
  cases t with
  | nil => exact .inl ⟨rfl, by simpa [itemsP, itemsN] using h.symm⟩
  | cons b t =>
    cases hn : nextP (b :: t) with
    | none => rw [itemsP_none hn] at h; cases h
    | some p =>
      obtain ⟨v, r⟩ := p
      rw [itemsP_some hn] at h
      cases hr : itemsP r with
      | none => rw [hr] at h; cases h
      | some ys =>
        rw [hr] at h
        exact .inr ⟨v, r, ys, rfl, hr, (Option.some.inj h).symm⟩
theorem items_inj : ∀ {xs : List Val} {t t' : Bytes}, itemsP t = some xs → itemsP t' = some xs → t = t'
  | [], t, t', h, h' => by
    rcases items_cases h with ⟨rfl, _⟩ | ⟨_, _, _, _, _, e⟩
    · rcases items_cases h' with ⟨rfl, _⟩ | ⟨_, _, _, _, _, e⟩
      · rfl
      · cases e
    · cases e
  | x :: xs, t, t', h, h' => by
    rcases items_cases h with ⟨_, e⟩ | ⟨v, r, ys, h1, h2, e⟩
    · cases e
    · rcases items_cases h' with ⟨_, e'⟩ | ⟨v', r', ys', h1', h2', e'⟩
      · cases e'
      · cases e
        cases e'
        obtain ⟨p, rfl, rfl⟩ := next_inj h1 h1'
        rw [items_inj h2 h2']
theorem fields_cases {t : Bytes} {xs : List Fld} (h : fieldsP t = some xs) : (t = [] ∧ xs = []) ∨ ∃ (b : UInt8) (q : Bytes) (v : Val) (r : Bytes) (ys : List Fld), t = b :: q ∧ ¬ q.length < b.toNat ∧ nextP (q.drop b.toNat) = some (v, r) ∧ fieldsP r = some ys ∧ xs = ⟨q.take b.toNat, v⟩ :: ys := by
  cases t with
  | nil => exact .inl ⟨rfl, by simpa [fieldsP, fieldsN] using h.symm⟩
  | cons b t =>
    by_cases hl : t.length < b.toNat
    · rw [fieldsP_short hl] at h; cases h
    · cases hn : nextP (t.drop b.toNat) with
      | none => rw [fieldsP_none hl hn] at h; cases h
      | some p =>
        obtain ⟨v, r⟩ := p
        rw [fieldsP_some hl hn] at h
        cases hr : fieldsP r with
        | none => rw [hr] at h; cases h
        | some ys =>
          rw [hr] at h
          exact .inr ⟨b, t, v, r, ys, rfl, hl, hn, hr, (Option.some.inj h).symm⟩
theorem fields_inj {xs : List Fld} : ∀ {t t' : Bytes}, fieldsP t = some xs → fieldsP t' = some xs → t = t' := by
  induction xs with
  | nil =>
    intro t t' h h'
    rcases fields_cases h with ⟨rfl, _⟩ | ⟨_, _, _, _, _, _, _, _, _, e⟩
    · rcases fields_cases h' with ⟨rfl, _⟩ | ⟨_, _, _, _, _, _, _, _, _, e⟩
      · rfl
      · cases e
    · cases e
  | cons x xs ih =>
    intro t t' h h'
    rcases fields_cases h with ⟨_, e⟩ | ⟨b, q, v, r, ys, rfl, hl, h1, h2, e⟩
    · cases e
    · rcases fields_cases h' with ⟨_, e'⟩ | ⟨b', q', v', r', ys', rfl, hl', h1', h2', e'⟩
      · cases e'
      · simp only [List.cons.injEq] at e e'
        obtain ⟨e1, e3⟩ := e
        obtain ⟨e1', e3'⟩ := e'
        subst e3; subst e3'
        rw [e1] at e1'
        simp only [Fld.mk.injEq] at e1'
        obtain ⟨e4, e5⟩ := e1'
        subst e5
        have hlen : b.toNat = b'.toNat := by
          have := congrArg List.length e4
          simp only [List.length_take] at this
          omega
        have hb : b = b' := UInt8.toNat_inj.1 hlen
        subst hb
        obtain ⟨p, hp, hp'⟩ := next_inj h1 h1'
        have e6 : r = r' := ih h2 h2'
        subst e6
        congr 1
        rw [← List.take_append_drop b.toNat q, ← List.take_append_drop b.toNat q', e4, hp, hp']

theorem sgn_zero {a b : Int} (h : sgn a b = 0) : a = b := by
  unfold sgn at h
  split at h
  · omega
  · split at h
    · omega
    · omega
theorem bytesLess_iff : ∀ (a b : Bytes), Op.bytesLess a b = true ↔ a < b
  | [], [] => by simp [Op.bytesLess]
  | [], _ :: _ => by simp [Op.bytesLess]
  | _ :: _, [] => by simp [Op.bytesLess]
  | x :: a, y :: b => by
    simp only [Op.bytesLess, Bool.or_eq_true, Bool.and_eq_true, decide_eq_true_eq, beq_iff_eq, bytesLess_iff a b, List.cons_lt_cons_iff]
theorem sgnT_zero {a b : Bytes} (h : sgnT a b = 0) : a = b := by
  unfold sgnT at h
  split at h
  · omega
  · split at h
    · omega
    · rename_i h1 h2
      rw [bytesLess_iff] at h1 h2
      exact List.le_antisymm (by simpa using h2) (by simpa using h1)
theorem bytesLess_irrefl (a : Bytes) : Op.bytesLess a a = false := by
  cases h : Op.bytesLess a a with
  | false => rfl
  | true => rw [bytesLess_iff] at h; exact absurd h (List.lt_irrefl a)
theorem bytesLess_trans {a b c : Bytes} (h : Op.bytesLess a b = true) (h2 : Op.bytesLess b c = true) : Op.bytesLess a c = true := by
  rw [bytesLess_iff] at *
  exact List.lt_trans h h2
theorem bytesLess_asymm {a b : Bytes} (h : Op.bytesLess a b = true) : Op.bytesLess b a = false := by
  cases h2 : Op.bytesLess b a with
  | false => rfl
  | true =>
    have := bytesLess_trans h h2
    rw [bytesLess_irrefl] at this; cases this
theorem bytesLess_tri {a b : Bytes} (h : Op.bytesLess a b = false) (h2 : Op.bytesLess b a = false) : a = b := by
  refine sgnT_zero ?_
  simp [sgnT, h, h2]
theorem sgnT_self (a : Bytes) : sgnT a a = 0 := by simp [sgnT, bytesLess_irrefl]
theorem sgn_self (a : Int) : sgn a a = 0 := by simp [sgn]
theorem orI_zero {a b : Int} (h : orI a b = 0) : a = 0 ∧ b = 0 := by
  unfold orI at h
  split at h
  · rename_i h1; exact absurd h h1
  · rename_i h1; exact ⟨by omega, h⟩
theorem cmpL_zero {α : Type} {f : α → α → Int} : ∀ {xs ys : List α}, (∀ x ∈ xs, ∀ y ∈ ys, f x y = 0 → x = y) → cmpL f xs ys = 0 → xs = ys
  | [], [], _, _ => rfl
  | [], _ :: _, _, h => by simp [cmpL] at h
  | _ :: _, [], _, h => by simp [cmpL] at h
  | x :: xs, y :: ys, hf, h => by
    obtain ⟨h1, h2⟩ := orI_zero h
    rw [hf x (by simp) y (by simp) h1, cmpL_zero (fun x hx y hy => hf x (by simp [hx]) y (by simp [hy])) h2]

theorem okP_range {d : Nat} {v : Val} (h : okP d v = true) : 0 ≤ v.k ∧ v.k ≤ 5 ∧ -1000000000000 ≤ v.n ∧ v.n ≤ 1000000000000 ∧ v.t.length ≤ 300 := by
  unfold okP at h
  split at h
  · simp at h; refine ⟨by omega, by omega, by omega, by omega, ?_⟩; simp [h.2]
  · split at h
    · simp at h; refine ⟨by omega, by omega, by omega, by omega, ?_⟩; simp [h.2]
    · split at h
      · simp at h; refine ⟨by omega, by omega, by omega, by omega, ?_⟩; simp [h.2]
      · split at h
        · simp at h; refine ⟨by omega, by omega, by omega, by omega, by omega⟩
        · cases d with
          | zero => simp at h
          | succ d =>
            simp only at h
            split at h
            · simp at h; refine ⟨by omega, by omega, by omega, by omega, by omega⟩
            · split at h
              · simp at h; refine ⟨by omega, by omega, by omega, by omega, by omega⟩
              · cases h
theorem okP_list {d : Nat} {v : Val} (h : okP d v = true) (hk : v.k = 4) : ∃ e xs, d = e + 1 ∧ v.n = 0 ∧ itemsP v.t = some xs ∧ (∀ x ∈ xs, okP e x = true) := by
  unfold okP at h
  simp only [hk] at h
  cases d with
  | zero => simp at h
  | succ d =>
    cases hi : itemsP v.t with
    | none => simp [hi] at h
    | some xs =>
      simp [hi] at h
      exact ⟨d, xs, rfl, h.1.1, rfl, h.2⟩
theorem okP_doc {d : Nat} {v : Val} (h : okP d v = true) (hk : v.k = 5) : ∃ e fs, d = e + 1 ∧ v.n = 0 ∧ fieldsP v.t = some fs ∧ rising fs = true ∧ (∀ f ∈ fs, nameP f.name = true ∧ okP e f.v = true) := by
  unfold okP at h
  simp only [hk] at h
  cases d with
  | zero => simp at h
  | succ d =>
    cases hi : fieldsP v.t with
    | none => simp [hi] at h
    | some xs =>
      simp [hi] at h
      exact ⟨d, xs, rfl, h.1.1, rfl, h.2.1, fun f hf => h.2.2 f hf⟩
theorem okP_small {d : Nat} {v : Val} (h : okP d v = true) (h3 : v.k ≠ 3) (h4 : v.k ≠ 4) (h5 : v.k ≠ 5) : v.t = [] := by
  unfold okP at h
  split at h
  · simp at h; exact h.2
  · split at h
    · simp at h; exact h.2
    · split at h
      · simp at h; exact h.2
      · cases d <;> simp [h3, h4, h5] at h
theorem Val.eq {a b : Val} (h1 : a.k = b.k) (h2 : a.n = b.n) (h3 : a.t = b.t) : a = b := by
  cases a; cases b; simp_all
/-- At 0 they are alike. -/
theorem ordP_zero : ∀ {d : Nat} {a b : Val}, okP d a = true → okP d b = true → ordP d a b = 0 → a = b := by
  intro d
  induction d with
  | zero =>
    intro a b ha hb h
    unfold ordP at h
    obtain ⟨h1, h2⟩ := orI_zero h
    obtain ⟨h3, h4⟩ := orI_zero h1
    exact Val.eq (sgn_zero h3) (sgn_zero h4) (sgnT_zero h2)
  | succ d ih =>
    intro a b ha hb h
    unfold ordP at h
    obtain ⟨h1, h2⟩ := orI_zero h
    obtain ⟨h3, h4⟩ := orI_zero h1
    have e1 := sgn_zero h3
    have e2 := sgn_zero h4
    refine Val.eq e1 e2 ?_
    simp only at h2
    split at h2
    · rename_i hk
      obtain ⟨_, xs, e, _, hx, hxo⟩ := okP_list ha hk
      obtain ⟨_, ys, e', _, hy, hyo⟩ := okP_list hb (e1 ▸ hk)
      cases e; cases e'
      simp only [itemsL, hx, hy, Option.getD_some] at h2
      have := cmpL_zero (fun x hx y hy h => ih (hxo x hx) (hyo y hy) h) h2
      subst this
      exact items_inj hx hy
    · split at h2
      · rename_i hk
        obtain ⟨_, xs, e, _, hx, _, hxo⟩ := okP_doc ha hk
        obtain ⟨_, ys, e', _, hy, _, hyo⟩ := okP_doc hb (e1 ▸ hk)
        cases e; cases e'
        simp only [fieldsL, hx, hy, Option.getD_some] at h2
        have := cmpL_zero (fun x hx y hy h => by
          obtain ⟨g1, g2⟩ := orI_zero h
          have := ih (hxo x hx).2 (hyo y hy).2 g2
          have := sgnT_zero g1
          cases x; cases y; simp_all) h2
        subst this
        exact fields_inj hx hy
      · exact sgnT_zero h2
/-- As the reference compares lists that are not alike. -/
def cmpS {α : Type} (f : α → α → Int) : List α → List α → Int
  | x :: xs, y :: ys => orI (f x y) (cmpS f xs ys)
  | xs, ys => if ys.length < xs.length then 1 else -1
theorem cmpS_eq {α : Type} {f : α → α → Int} : ∀ {xs ys : List α}, (∀ x ∈ xs, ∀ y ∈ ys, f x y = 0 → x = y) → xs ≠ ys → cmpS f xs ys = cmpL f xs ys
  | [], [], _, h => absurd rfl h
  | [], _ :: _, _, _ => by simp [cmpS, cmpL]
  | _ :: _, [], _, _ => by simp [cmpS, cmpL]
  | x :: xs, y :: ys, hf, h => by
    simp only [cmpS, cmpL]
    by_cases he : f x y = 0
    · have := hf x (by simp) y (by simp) he
      subst this
      rw [cmpS_eq (fun x hx y hy => hf x (by simp [hx]) y (by simp [hy])) (fun e => h (by rw [e]))]
    · simp [orI, he]
end Go.Pu
/- Plain data: a reader that goes on where bytes are missing; what it holds for right is what is right. -/
set_option linter.unusedSimpArgs false
set_option linter.unusedVariables false
namespace Go.Pu
open Go.Ev

def rtake (m : Nat) (p : Bytes × Bool) : Bytes × (Bytes × Bool) := if p.1.length < m then (List.replicate m 0, (p.1, true)) else (p.1.take m, (p.1.drop m, p.2))
def rnum (m : Nat) (p : Bytes × Bool) : Int × (Bytes × Bool) := (ofBytes 0 (rtake m p).1, (rtake m p).2)
def rvalue (p : Bytes × Bool) : Val × (Bytes × Bool) :=
  if (rnum 1 p).1 = 1 then (⟨1, (rnum 1 (rnum 1 p).2).1, []⟩, (rnum 1 (rnum 1 p).2).2)
  else if (rnum 1 p).1 = 2 then (⟨2, IntKind.i64.wrap ((rnum 8 (rnum 1 p).2).1 - 4611686018427387904), []⟩, (rnum 8 (rnum 1 p).2).2)
  else if (rnum 1 p).1 = 3 ∨ (rnum 1 p).1 = 4 ∨ (rnum 1 p).1 = 5 then (⟨(rnum 1 p).1, 0, (rtake (rnum 2 (rnum 1 p).2).1.toNat (rnum 2 (rnum 1 p).2).2).1⟩, (rtake (rnum 2 (rnum 1 p).2).1.toNat (rnum 2 (rnum 1 p).2).2).2)
  else (⟨(rnum 1 p).1, 0, []⟩, (rnum 1 p).2)
def rfield (p : Bytes × Bool) : Fld × (Bytes × Bool) :=
  (⟨(rtake (rnum 1 p).1.toNat (rnum 1 p).2).1, (rvalue (rtake (rnum 1 p).1.toNat (rnum 1 p).2).2).1⟩, (rvalue (rtake (rnum 1 p).1.toNat (rnum 1 p).2).2).2)
/-- Taken one by one, while there is something and nothing failed. -/
def loopI {α : Type} (f : Bytes × Bool → α × (Bytes × Bool)) : Nat → Bytes × Bool → List α × Bool
  | 0, p => ([], p.2)
  | n + 1, p => if p.1 = [] ∨ p.2 = true then ([], p.2) else ((f p).1 :: (loopI f n (f p).2).1, (loopI f n (f p).2).2)
def itemsI (t : Bytes) : List Val × Bool := loopI rvalue (t.length + 1) (t, false)
def fieldsI (t : Bytes) : List Fld × Bool := loopI rfield (t.length + 1) (t, false)

theorem ofBytes_one (x : UInt8) : ofBytes 0 [x] = (x.toNat : Int) := by
  have hx := x.toNat_lt
  simp only [ofBytes]
  rw [wrap_of (n := 0 * 256) (by omega) (by omega), wrap_of (by omega) (by omega)]; omega
theorem rnum1_cons (x : UInt8) (r : Bytes) (f : Bool) : rnum 1 (x :: r, f) = ((x.toNat : Int), (r, f)) := by
  simp [rnum, rtake, ofBytes_one]
theorem rnum1_nil (f : Bool) : rnum 1 ([], f) = (0, ([], true)) := by
  simp [rnum, rtake, ofBytes_one]
theorem rtake_fail (m : Nat) (p : Bytes × Bool) (h : p.2 = true) : (rtake m p).2.2 = true := by
  unfold rtake; split <;> simp [h]
theorem rtake_len (m : Nat) (p : Bytes × Bool) : (rtake m p).2.1.length ≤ p.1.length := by
  unfold rtake; split <;> simp
theorem rnum_fail (m : Nat) (p : Bytes × Bool) (h : p.2 = true) : (rnum m p).2.2 = true := rtake_fail m p h
theorem rnum_len (m : Nat) (p : Bytes × Bool) : (rnum m p).2.1.length ≤ p.1.length := rtake_len m p
theorem rvalue_fail (p : Bytes × Bool) (h : p.2 = true) : (rvalue p).2.2 = true := by
  unfold rvalue
  split
  · exact rnum_fail _ _ (rnum_fail _ _ h)
  · split
    · exact rnum_fail _ _ (rnum_fail _ _ h)
    · split
      · exact rtake_fail _ _ (rnum_fail _ _ (rnum_fail _ _ h))
      · exact rnum_fail _ _ h
theorem rvalue_len1 (p : Bytes × Bool) : (rvalue p).2.1.length ≤ (rnum 1 p).2.1.length := by
  unfold rvalue
  split
  · exact rnum_len _ _
  · split
    · exact rnum_len _ _
    · split
      · exact Nat.le_trans (rtake_len _ _) (rnum_len _ _)
      · exact Nat.le_refl _
theorem rvalue_len (x : UInt8) (r : Bytes) (f : Bool) : (rvalue (x :: r, f)).2.1.length ≤ r.length := by
  have := rvalue_len1 (x :: r, f)
  rwa [rnum1_cons] at this
theorem rvalue_nil (f : Bool) : (rvalue ([], f)).2.2 = true := by
  unfold rvalue
  simp [rnum1_nil]
theorem rnum2_cons (x y : UInt8) (r : Bytes) (f : Bool) : rnum 2 (x :: y :: r, f) = (((two x y : Nat) : Int), (r, f)) := by
  have h : ¬ r.length + 1 + 1 < 2 := by omega
  simp [rnum, rtake, h, ofBytes_two]
theorem rnum2_short {r : Bytes} (h : r.length < 2) (f : Bool) : (rnum 2 (r, f)).2.2 = true := by
  simp [rnum, rtake, h]
theorem rnum8 {r : Bytes} (h : ¬ r.length < 8) (f : Bool) : rnum 8 (r, f) = (ofBytes 0 (r.take 8), (r.drop 8, f)) := by
  simp [rnum, rtake, h]
theorem rnum8_short {r : Bytes} (h : r.length < 8) (f : Bool) : (rnum 8 (r, f)).2.2 = true := by
  simp [rnum, rtake, h]
theorem cast_eq_lit (x : Nat) (n : Nat) : ((x : Int) = (n : Int)) ↔ x = n := by omega
theorem rvalue_next {t : Bytes} {v : Val} {r : Bytes} (f : Bool) (h : nextP t = some (v, r)) : rvalue (t, f) = (v, (r, f)) := by
  unfold nextP at h
  split at h
  · cases h
  · rename_i b q
    unfold rvalue
    simp only [rnum1_cons]
    split at h
    · rename_i h0
      cases h
      simp [h0]
    · split at h
      · rename_i h1
        split at h
        · cases h
        · cases h
          simp [h1, rnum1_cons]
      · split at h
        · rename_i h2
          split at h
          · cases h
          · rename_i hl
            split at h
            · cases h
            · cases h
              simp [h2, rnum8 hl]
        · split at h
          · rename_i h0 h1 h2 h3
            split at h
            · rename_i x y r'
              split at h
              · cases h
              · rename_i hl
                cases h
                rw [rnum2_cons]
                rw [if_neg (by omega), if_neg (by omega), if_pos (by omega)]
                simp [rtake, hl]
            · cases h
          · cases h
theorem okP_kind {d : Nat} {v : Val} (h : ¬ (0 ≤ v.k ∧ v.k ≤ 5)) : okP d v = false := by
  cases ho : okP d v with
  | false => rfl
  | true => have := okP_range ho; exact absurd ⟨this.1, this.2.1⟩ h
theorem wrap_big {z : Int} (h1 : -9223372036854775808 ≤ z) (h2 : z < 0) : ¬ (-1000000000000 ≤ IntKind.i64.wrap (z - 4611686018427387904) ∧ IntKind.i64.wrap (z - 4611686018427387904) ≤ 1000000000000) := by
  rw [IntKind.wrap_i64]; omega
/-- Eight bytes that begin high tell a number below 0. -/
theorem ofBytes_high (x : UInt8) (r : Bytes) (hr : r.length = 7) (hx : 127 < x.toNat) : -9223372036854775808 ≤ ofBytes 0 (x :: r) ∧ ofBytes 0 (x :: r) < 0 := by
  have key : ∀ (l : Bytes) (n : Int) (m : Nat), IntKind.i64.wrap n = IntKind.i64.wrap m → l ≠ [] → ofBytes n l = IntKind.i64.wrap (natOf m l : Nat) := by
    intro l
    induction l with
    | nil => intro n m h hl; exact absurd rfl hl
    | cons b l ih =>
      intro n m h _
      simp only [ofBytes, natOf]
      have e : IntKind.i64.wrap (IntKind.i64.wrap (n * 256) + b.toNat) = IntKind.i64.wrap ((m * 256 + b.toNat : Nat) : Int) := by
        rw [IntKind.wrap_i64, IntKind.wrap_i64] at h
        simp only [IntKind.wrap_i64]; omega
      cases l with
      | nil => simp only [ofBytes, natOf]; exact e
      | cons c l =>
        refine ih _ _ ?_ (by simp)
        rw [e]
        simp only [IntKind.wrap_i64]; omega
  rw [key (x :: r) 0 0 rfl (by simp)]
  have hx' := x.toNat_lt
  have h3 : natOf 0 (x :: r) = natOf x.toNat r := by simp [natOf]
  have hp : 256 ^ r.length = 72057594037927936 := by rw [hr]
  have h2 := natOf_lt r x.toNat 256 (by omega)
  rw [hp] at h2
  have lo : ∀ (l : Bytes) (n : Nat), n * 256 ^ l.length ≤ natOf n l := by
    intro l
    induction l with
    | nil => intro n; simp [natOf]
    | cons b l ih =>
      intro n
      simp only [natOf, List.length_cons, Nat.pow_succ]
      refine Nat.le_trans ?_ (ih (n * 256 + b.toNat))
      rw [Nat.mul_comm (256 ^ l.length), ← Nat.mul_assoc]
      exact Nat.mul_le_mul_right _ (by omega)
  have h4 := lo r x.toNat
  rw [hp] at h4
  rw [h3, IntKind.wrap_i64]
  omega
theorem rvalue_bad {b : UInt8} {q : Bytes} (f : Bool) (h : nextP (b :: q) = none) : (rvalue (b :: q, f)).2.2 = true ∨ ∀ d, okP d (rvalue (b :: q, f)).1 = false := by
  unfold nextP at h
  simp only at h
  unfold rvalue
  simp only [rnum1_cons]
  split at h
  · cases h
  · split at h
    · rename_i h1
      split at h
      · left; simp [h1, rnum1_nil]
      · cases h
    · split at h
      · rename_i h2
        split at h
        · rename_i hl
          left; simp [h2, rnum8_short hl]
        · rename_i hl
          split at h
          · rename_i hx
            right
            intro d
            rw [if_neg (by omega), if_pos (by omega)]
            simp only [rnum8 hl]
            cases q with
            | nil => simp at hl
            | cons x p =>
              simp only [List.headD_cons] at hx
              have hp : (p.take 7).length = 7 := by simp at hl ⊢; omega
              have hb := ofBytes_high x (p.take 7) hp hx
              simp only [List.take_succ_cons]
              cases ho : okP d ⟨2, IntKind.i64.wrap (ofBytes 0 (x :: p.take 7) - 4611686018427387904), []⟩ with
              | false => rfl
              | true =>
                have := okP_range ho
                exact absurd ⟨this.2.2.1, this.2.2.2.1⟩ (wrap_big hb.1 hb.2)
          · cases h
      · split at h
        · rename_i h0 h1 h2 h3
          left
          rw [if_neg (by omega), if_neg (by omega), if_pos (by omega)]
          split at h
          · rename_i x y r'
            split at h
            · rename_i hl
              rw [rnum2_cons]
              simp [rtake, hl]
            · cases h
          · rename_i hq
            have hs : q.length < 2 := by
              match q, hq with
              | [], _ => simp
              | [x], _ => simp
              | x :: y :: r', hq => exact absurd rfl (hq x y r')
            exact rtake_fail _ _ (rnum2_short hs f)
        · rename_i h0 h1 h2 h3
          right
          intro d
          rw [if_neg (by omega), if_neg (by omega), if_neg (by omega)]
          exact okP_kind (by simp only; omega)
theorem loopI_fail {α : Type} (f : Bytes × Bool → α × (Bytes × Bool)) (n : Nat) (p : Bytes × Bool) (h : p.2 = true) : loopI f n p = ([], true) := by
  cases n <;> simp [loopI, h]
theorem loopI_nil {α : Type} (f : Bytes × Bool → α × (Bytes × Bool)) (n : Nat) (b : Bool) : loopI f n ([], b) = ([], b) := by
  cases n <;> simp [loopI]
theorem items_I : ∀ (n : Nat) (t : Bytes), t.length < n → (∀ xs, itemsP t = some xs → loopI rvalue n (t, false) = (xs, false)) ∧
    (itemsP t = none → (loopI rvalue n (t, false)).2 = true ∨ ∃ x ∈ (loopI rvalue n (t, false)).1, ∀ d, okP d x = false)
  | 0, t, h => by omega
  | n + 1, [], _ => by
    refine ⟨fun xs hx => ?_, fun h => by simp [itemsP, itemsN] at h⟩
    have : xs = [] := by simpa [itemsP, itemsN] using hx.symm
    rw [loopI_nil, this]
  | n + 1, b :: q, hl => by
    have hstep : loopI rvalue (n + 1) (b :: q, false) = ((rvalue (b :: q, false)).1 :: (loopI rvalue n (rvalue (b :: q, false)).2).1, (loopI rvalue n (rvalue (b :: q, false)).2).2) := by simp [loopI]
    cases hn : nextP (b :: q) with
    | none =>
      refine ⟨fun xs hx => (by rw [itemsP_none hn] at hx; cases hx), fun _ => ?_⟩
      rw [hstep]
      rcases rvalue_bad false hn with h | h
      · left
        rw [loopI_fail _ _ _ h]
      · right
        exact ⟨_, List.mem_cons_self .., h⟩
    | some p =>
      obtain ⟨v, r⟩ := p
      have hr := (nextP_len hn).1
      simp only [List.length_cons] at hr hl
      obtain ⟨i1, i2⟩ := items_I n r (by omega)
      rw [hstep, rvalue_next false hn, itemsP_some hn]
      refine ⟨fun xs hx => ?_, fun hx => ?_⟩
      · cases hq : itemsP r with
        | none => rw [hq] at hx; cases hx
        | some ys =>
          rw [hq] at hx
          rw [i1 ys hq, ← Option.some.inj hx]
      · cases hq : itemsP r with
        | none =>
          rcases i2 hq with h | ⟨x, h1, h2⟩
          · exact .inl h
          · exact .inr ⟨x, List.mem_cons_of_mem _ h1, h2⟩
        | some ys => rw [hq] at hx; cases hx
theorem rfield_fail (p : Bytes × Bool) (h : p.2 = true) : (rfield p).2.2 = true := rvalue_fail _ (rtake_fail _ _ (rnum_fail _ _ h))
theorem rfield_len (x : UInt8) (r : Bytes) (f : Bool) : (rfield (x :: r, f)).2.1.length ≤ r.length := by
  unfold rfield
  rw [rnum1_cons]
  refine Nat.le_trans (rvalue_len1 _) (Nat.le_trans (rnum_len _ _) (rtake_len _ _))
theorem rfield_eq (b : UInt8) (q : Bytes) (f : Bool) : rfield (b :: q, f) = (⟨(rtake b.toNat (q, f)).1, (rvalue (rtake b.toNat (q, f)).2).1⟩, (rvalue (rtake b.toNat (q, f)).2).2) := by
  unfold rfield
  rw [rnum1_cons]
  simp
theorem fields_I : ∀ (n : Nat) (t : Bytes), t.length < n → (∀ xs, fieldsP t = some xs → loopI rfield n (t, false) = (xs, false)) ∧
    (fieldsP t = none → (loopI rfield n (t, false)).2 = true ∨ ∃ x ∈ (loopI rfield n (t, false)).1, ∀ d, okP d x.v = false)
  | 0, t, h => by omega
  | n + 1, [], _ => by
    refine ⟨fun xs hx => ?_, fun h => by simp [fieldsP, fieldsN] at h⟩
    have : xs = [] := by simpa [fieldsP, fieldsN] using hx.symm
    rw [loopI_nil, this]
  | n + 1, b :: q, hl => by
    have hstep : loopI rfield (n + 1) (b :: q, false) = ((rfield (b :: q, false)).1 :: (loopI rfield n (rfield (b :: q, false)).2).1, (loopI rfield n (rfield (b :: q, false)).2).2) := by simp [loopI]
    rw [hstep]
    by_cases hb : q.length < b.toNat
    · have hf : (rfield (b :: q, false)).2.2 = true := by
        rw [rfield_eq]
        refine rvalue_fail _ ?_
        simp [rtake, hb]
      refine ⟨fun xs hx => (by rw [fieldsP_short hb] at hx; cases hx), fun _ => .inl ?_⟩
      rw [loopI_fail _ _ _ hf]
    · have ht : rtake b.toNat (q, false) = (q.take b.toNat, (q.drop b.toNat, false)) := by simp [rtake, hb]
      rw [rfield_eq, ht]
      cases hn : nextP (q.drop b.toNat) with
      | none =>
        refine ⟨fun xs hx => (by rw [fieldsP_none hb hn] at hx; cases hx), fun _ => ?_⟩
        cases hd : q.drop b.toNat with
        | nil =>
          left
          rw [loopI_fail _ _ _ (rvalue_nil false)]
        | cons c q' =>
          rw [hd] at hn
          rcases rvalue_bad false hn with h | h
          · left
            rw [loopI_fail _ _ _ h]
          · right
            exact ⟨_, List.mem_cons_self .., h⟩
      | some p =>
        obtain ⟨v, r⟩ := p
        have hr := (nextP_len hn).1
        simp only [List.length_cons, List.length_drop] at hr hl
        obtain ⟨i1, i2⟩ := fields_I n r (by omega)
        rw [rvalue_next false hn, fieldsP_some hb hn]
        refine ⟨fun xs hx => ?_, fun hx => ?_⟩
        · cases hq : fieldsP r with
          | none => rw [hq] at hx; cases hx
          | some ys =>
            rw [hq] at hx
            rw [i1 ys hq, ← Option.some.inj hx]
        · cases hq : fieldsP r with
          | none =>
            rcases i2 hq with h | ⟨x, h1, h2⟩
            · exact .inl h
            · exact .inr ⟨x, List.mem_cons_of_mem _ h1, h2⟩
          | some ys => rw [hq] at hx; cases hx
theorem itemsI_some {t : Bytes} {xs : List Val} (h : itemsP t = some xs) : itemsI t = (xs, false) := (items_I _ t (by omega)).1 xs h
theorem fieldsI_some {t : Bytes} {xs : List Fld} (h : fieldsP t = some xs) : fieldsI t = (xs, false) := (fields_I _ t (by omega)).1 xs h
def innerI (v : Val) : List Val × Bool :=
  if v.k = 4 then ((itemsI v.t).1, !(itemsI v.t).2)
  else ((fieldsI v.t).1.map (·.v), !(fieldsI v.t).2 && (fieldsI v.t).1.all (fun f => nameP f.name) && rising (fieldsI v.t).1)
/-- As the program asks. -/
def rightI : Nat → Val → Bool
  | d, v =>
    if v.k = 0 then decide (v.n = 0) && v.t.isEmpty
    else if v.k = 1 then decide (0 ≤ v.n) && decide (v.n ≤ 1) && v.t.isEmpty
    else if v.k = 2 then decide (-1000000000000 ≤ v.n) && decide (v.n ≤ 1000000000000) && v.t.isEmpty
    else if v.k = 3 then decide (v.n = 0) && decide (v.t.length ≤ 300)
    else if v.k = 4 ∨ v.k = 5 then decide (v.n = 0) && decide (v.t.length ≤ 300) && (match d with
      | 0 => false
      | d + 1 => (innerI v).2 && (innerI v).1.all (rightI d))
    else false
theorem all_false {α : Type} {l : List α} {p : α → Bool} {x : α} (hx : x ∈ l) (h : p x = false) : l.all p = false := by
  rw [List.all_eq_false]; exact ⟨x, hx, by simp [h]⟩
theorem all_both {α : Type} {p q : α → Bool} : ∀ (l : List α), (l.all p && l.all q) = l.all (fun x => p x && q x)
  | [] => rfl
  | x :: l => by
    simp only [List.all_cons, ← all_both l]
    cases p x <;> cases q x <;> simp
theorem rightI_eq : ∀ (d : Nat) (v : Val), rightI d v = okP d v := by
  intro d
  induction d with
  | zero => intro v; unfold rightI okP; simp
  | succ d ih =>
    intro v
    have ih' : rightI d = okP d := funext ih
    unfold rightI okP
    simp only [ih']
    by_cases h0 : v.k = 0
    · simp [h0]
    · by_cases h1 : v.k = 1
      · simp [h1]
      · by_cases h2 : v.k = 2
        · simp [h2]
        · by_cases h3 : v.k = 3
          · simp [h3]
          · by_cases h4 : v.k = 4
            · simp only [h4]
              simp only [innerI, h4]
              cases hi : itemsP v.t with
              | some xs => simp [itemsI_some hi]
              | none =>
                have := (items_I _ v.t (Nat.lt_succ_self _)).2 hi
                rcases this with h | ⟨x, hx, hb⟩
                · simp [itemsI, h]
                · have ha : (itemsI v.t).1.all (okP d) = false := all_false hx (hb d)
                  simp [ha]
            · by_cases h5 : v.k = 5
              · simp only [h5]
                simp only [innerI, h5]
                cases hi : fieldsP v.t with
                | some xs =>
                  simp only [fieldsI_some hi]
                  have hmap : (xs.map (·.v)).all (okP d) = xs.all (fun f => okP d f.v) := by rw [List.all_map]; rfl
                  simp only [hmap, ← all_both]
                  cases rising xs <;> cases xs.all (fun f => nameP f.name) <;> simp [Function.comp_def]
                | none =>
                  have := (fields_I _ v.t (Nat.lt_succ_self _)).2 hi
                  rcases this with h | ⟨x, hx, hb⟩
                  · simp [fieldsI, h]
                  · have ha : ((fieldsI v.t).1.map (·.v)).all (okP d) = false := by
                      rw [List.all_map]
                      exact all_false hx (hb d)
                    simp [ha]
              · simp [h0, h1, h2, h3, h4, h5]
end Go.Pu
/- Plain data: a search by halves among names that rise. -/
set_option linter.unusedSimpArgs false
set_option linter.unusedVariables false
namespace Go.Pu
open Go.Ev

/-- A search by halves. -/
def halves (lt : Nat → Bool) : Nat → Nat → Nat → Nat
  | 0, i, _ => i
  | n + 1, i, j => if i < j then (if lt ((i + j) / 2) then halves lt n ((i + j) / 2 + 1) j else halves lt n i ((i + j) / 2)) else i
theorem halves_ok {lt : Nat → Bool} {p m : Nat} (h1 : ∀ k, k < p → lt k = true) (h2 : ∀ k, p ≤ k → k < m → lt k = false) : ∀ (n i j : Nat), i ≤ p → p ≤ j → j ≤ m → j - i < n → halves lt n i j = p
  | 0, i, j, _, _, _, hn => by omega
  | n + 1, i, j, hi, hj, hm, hn => by
    unfold halves
    split
    · rename_i hij
      split
      · rename_i hl
        have : (i + j) / 2 < p := by
          by_cases hp : (i + j) / 2 < p
          · exact hp
          · rw [h2 _ (by omega) (by omega)] at hl; cases hl
        exact halves_ok h1 h2 n _ _ (by omega) hj hm (by omega)
      · rename_i hl
        have : p ≤ (i + j) / 2 := by
          by_cases hp : p ≤ (i + j) / 2
          · exact hp
          · rw [h1 _ (by omega)] at hl; simp at hl
        exact halves_ok h1 h2 n _ _ hi this (by omega) (by omega)
    · omega
/-- Where a name stands or would stand. -/
def placeP (fs : List Fld) (name : Bytes) : Nat := (fs.takeWhile (fun f => Op.bytesLess f.name name)).length
def thereP (fs : List Fld) (name : Bytes) : Bool := match fs[placeP fs name]? with
  | some f => f.name == name
  | none => false
theorem rising_tail {f : Fld} {r : List Fld} (h : rising (f :: r) = true) : rising r = true := by
  cases r with
  | nil => rfl
  | cons g r => simp [rising] at h; exact h.2
theorem rising_all : ∀ {f : Fld} {r : List Fld}, rising (f :: r) = true → ∀ g ∈ r, Op.bytesLess f.name g.name = true
  | f, [], _, g, hg => by simp at hg
  | f, x :: r, h, g, hg => by
    have hx : Op.bytesLess f.name x.name = true := by simp [rising] at h; exact h.1
    rcases List.mem_cons.1 hg with rfl | hg
    · exact hx
    · exact bytesLess_trans hx (rising_all (rising_tail h) g hg)
theorem rising_place : ∀ {fs : List Fld} (name : Bytes), rising fs = true → ∀ k f, fs[k]? = some f → (Op.bytesLess f.name name = true ↔ k < placeP fs name)
  | [], name, _, k, f, h => by simp at h
  | x :: r, name, hr, k, f, h => by
    unfold placeP
    simp only [List.takeWhile_cons]
    cases hx : Op.bytesLess x.name name with
    | true =>
      cases k with
      | zero => simp at h; subst h; simp [hx]
      | succ k =>
        have := rising_place (fs := r) name (rising_tail hr) k f (by simpa using h)
        simp only [placeP] at this
        simp only [if_true, List.length_cons]
        rw [this]; omega
    | false =>
      simp only [Bool.false_eq_true, if_false, List.length_nil]
      cases k with
      | zero => simp at h; subst h; simp [hx]
      | succ k =>
        have hf : f ∈ r := List.mem_of_getElem? (by simpa using h)
        have h3 := rising_all hr f hf
        constructor
        · intro h4
          rw [bytesLess_trans h3 h4] at hx; cases hx
        · intro h4; omega
theorem place_le (fs : List Fld) (name : Bytes) : placeP fs name ≤ fs.length := by
  unfold placeP
  induction fs with
  | nil => simp
  | cons x r ih => simp only [List.takeWhile_cons]; split <;> simp; exact ih
theorem find_place : ∀ {fs : List Fld} (name : Bytes), rising fs = true → fs.find? (fun f => f.name == name) = (fs[placeP fs name]?).bind (fun f => if f.name == name then some f else none)
  | [], name, _ => by simp
  | x :: r, name, hr => by
    unfold placeP
    simp only [List.takeWhile_cons, List.find?_cons]
    cases hx : Op.bytesLess x.name name with
    | true =>
      have hne : (x.name == name) = false := by
        cases he : x.name == name with
        | false => rfl
        | true =>
          have e : x.name = name := by simpa using he
          rw [e, bytesLess_irrefl] at hx; cases hx
      rw [hne]
      have := find_place (fs := r) name (rising_tail hr)
      simp only [placeP] at this
      simp only [if_true, List.length_cons, List.getElem?_cons_succ]
      exact this
    | false =>
      simp only [Bool.false_eq_true, if_false, List.length_nil, List.getElem?_cons_zero, Option.bind_some]
      cases he : x.name == name with
      | true => simp
      | false =>
        simp only [Bool.false_eq_true, if_false]
        rw [List.find?_eq_none]
        intro g hg he2
        have e : g.name = name := by simpa using he2
        have h3 := rising_all hr g hg
        rw [e] at h3
        rw [h3] at hx; cases hx
theorem field_place {v : Val} {fs : List Fld} (name : Bytes) (hf : fieldsP v.t = some fs) (hr : rising fs = true) : fieldP v name = (fs[placeP fs name]?).bind (fun f => if f.name == name then some f.v else none) := by
  unfold fieldP fieldsL
  rw [hf, Option.getD_some, find_place name hr]
  cases fs[placeP fs name]? with
  | none => rfl
  | some f => simp only [Option.bind_some]; split <;> rfl
end Go.Pu
