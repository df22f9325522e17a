/- Loops, as the evaluator runs them; data as trees. -/
import Derived.Test.YtjbnpbcihofmgaaGreatDoorDraws
import Derived.Test.YtjbnpbcihofmgaaGreatDoorPu
set_option linter.unusedSimpArgs false
set_option linter.unusedVariables false
namespace Go.Zd
open Go.Ev Go.Proofs Go.Pu
def loopsOf : Code → List Code
  | .seq a b => loopsOf a ++ loopsOf b
  | .cond _ a b => loopsOf a ++ loopsOf b
  | .block _ a => loopsOf a
  | .loop a => a :: loopsOf a
  | _ => []
def loopAt (f : Func) (k : Nat) : Code := match f.body with
  | some c => (loopsOf c).getD k .skip
  | none => .skip
abbrev Ss := Nat → SV
abbrev Os := Nat → Ob
/-- What a piece of code comes to. -/
def After (N : Nat) (I : Ss → Os → Nat → Prop) (R : Ex → Ss → Os → Nat → Prop) : Option Out → Prop
  | some (.st .normal st) => st.N = N ∧ I st.s st.o st.n
  | some (.st e st) => st.N = N ∧ R e st.s st.o st.n
  | _ => False
theorem After_normal (N : Nat) (I : Ss → Os → Nat → Prop) (R : Ex → Ss → Os → Nat → Prop) (st : St) : After N I R (some (.st .normal st)) = (st.N = N ∧ I st.s st.o st.n) := rfl
theorem After_ret (N : Nat) (I : Ss → Os → Nat → Prop) (R : Ex → Ss → Os → Nat → Prop) (st : St) : After N I R (some (.st .ret st)) = (st.N = N ∧ R .ret st.s st.o st.n) := rfl
theorem After_exit (N : Nat) (I : Ss → Os → Nat → Prop) (R : Ex → Ss → Os → Nat → Prop) (id : Nat) (st : St) : After N I R (some (.st (.exit id) st)) = (st.N = N ∧ R (.exit id) st.s st.o st.n) := rfl
theorem After_ite (N : Nat) (I : Ss → Os → Nat → Prop) (R : Ex → Ss → Os → Nat → Prop) (p : Prop) [Decidable p] (x y : Option Out) : After N I R (if p then x else y) = if p then After N I R x else After N I R y := by split <;> rfl
attribute [simp] After_normal After_ret After_exit After_ite
/-- A loop: what holds ahead of each round, and what it comes to. -/
theorem loop_for {c : Code} {N : Nat} (I : Nat → Ss → Os → Nat → Prop) (R : Ex → Ss → Os → Nat → Prop) (n : Nat)
    (step : ∀ i s o q, i < n → I i s o q → After N (I (i + 1)) R (run E (.code c ⟨s, o, q, N⟩)))
    (last : ∀ s o q, I n s o q → After N (fun _ _ _ => False) R (run E (.code c ⟨s, o, q, N⟩))) :
    ∀ k i s o q, i + k = n → I i s o q → ∃ e s' o' q', run E (.code (.loop c) ⟨s, o, q, N⟩) = some (.st e ⟨s', o', q', N⟩) ∧ R e s' o' q' := by
  have out : ∀ {J : Ss → Os → Nat → Prop} {st : St}, After N J R (run E (.code c st)) → (∃ s o q, run E (.code c st) = some (.st .normal ⟨s, o, q, N⟩) ∧ J s o q) ∨ ∃ e s o q, run E (.code (.loop c) st) = some (.st e ⟨s, o, q, N⟩) ∧ R e s o q := by
    intro J st h
    rw [run_loop]
    cases hr : run E (.code c st) with
    | none => rw [hr] at h; exact h.elim
    | some x =>
      rw [hr] at h
      cases x with
      | res => exact h.elim
      | st e st' =>
        obtain ⟨s, o, q, M⟩ := st'
        cases e with
        | normal => obtain ⟨rfl, h⟩ := h; exact .inl ⟨s, o, q, rfl, h⟩
        | exit id => obtain ⟨rfl, h⟩ := h; exact .inr ⟨_, s, o, q, rfl, h⟩
        | ret => obtain ⟨rfl, h⟩ := h; exact .inr ⟨_, s, o, q, rfl, h⟩
  intro k
  induction k with
  | zero =>
    intro i s o q hi hI
    obtain rfl : i = n := by omega
    rcases out (last s o q hI) with ⟨_, _, _, _, h⟩ | h
    · exact h.elim
    · exact h
  | succ k ih =>
    intro i s o q hi hI
    rcases out (step i s o q (by omega) hI) with ⟨s', o', q', h1, h2⟩ | h
    · obtain ⟨e, s'', o'', q'', h4, h5⟩ := ih (i + 1) s' o' q' (by omega) h2
      refine ⟨e, s'', o'', q'', ?_, h5⟩
      rw [run_loop, h1]
      exact h4
    · exact h
/-- A loop with a measure. -/
theorem loop_wf {c : Code} {N : Nat} (I : Nat → Ss → Os → Nat → Prop) (R : Ex → Ss → Os → Nat → Prop)
    (step : ∀ k s o q, I k s o q → After N (fun s' o' q' => ∃ j, j < k ∧ I j s' o' q') R (run E (.code c ⟨s, o, q, N⟩))) :
    ∀ k s o q, I k s o q → ∃ e s' o' q', run E (.code (.loop c) ⟨s, o, q, N⟩) = some (.st e ⟨s', o', q', N⟩) ∧ R e s' o' q' := by
  intro k
  induction k using Nat.strongRecOn with
  | ind k ih =>
    intro s o q hI
    have h := step k s o q hI
    rw [run_loop]
    cases hr : run E (.code c ⟨s, o, q, N⟩) with
    | none => rw [hr] at h; exact h.elim
    | some x =>
      rw [hr] at h
      cases x with
      | res => exact h.elim
      | st e st' =>
        obtain ⟨s', o', q', M⟩ := st'
        cases e with
        | normal =>
          obtain ⟨rfl, j, hj, h⟩ := h
          exact ih j hj s' o' q' h
        | exit id => obtain ⟨rfl, h⟩ := h; exact ⟨_, s', o', q', rfl, h⟩
        | ret => obtain ⟨rfl, h⟩ := h; exact ⟨_, s', o', q', rfl, h⟩
/-- What is told of each start, told by functions of the start. -/
theorem sk {I : Ss → Os → Nat → Prop} {Q : Ss → Os → Nat → Ex → Ss → Os → Nat → Prop} (h : ∀ s o q, I s o q → ∃ e s' o' q', Q s o q e s' o' q') :
    ∃ (X : Ss → Os → Nat → Ex) (A : Ss → Os → Nat → Ss) (B : Ss → Os → Nat → Os) (C : Ss → Os → Nat → Nat), ∀ s o q, I s o q → Q s o q (X s o q) (A s o q) (B s o q) (C s o q) := by
  classical
  have h' : ∀ s o q, ∃ p : Ex × Ss × Os × Nat, I s o q → Q s o q p.1 p.2.1 p.2.2.1 p.2.2.2 := by
    intro s o q
    by_cases hI : I s o q
    · obtain ⟨e, s', o', q', hQ⟩ := h s o q hI
      exact ⟨(e, s', o', q'), fun _ => hQ⟩
    · exact ⟨(.normal, s, o, q), fun hI' => absurd hI' hI⟩
  exact ⟨fun s o q => (h' s o q).choose.1, fun s o q => (h' s o q).choose.2.1, fun s o q => (h' s o q).choose.2.2.1, fun s o q => (h' s o q).choose.2.2.2, fun s o q => (h' s o q).choose_spec⟩
/-- The same, with a number more. -/
theorem sk1 {I : Ss → Os → Nat → Prop} {Q : Ss → Os → Nat → Ex → Ss → Os → Nat → Prop} {R : Ss → Os → Nat → Ex → Ss → Os → Nat → Nat → Prop} (h : ∀ s o q, I s o q → ∃ e s' o' q', Q s o q e s' o' q' ∧ ∃ m, R s o q e s' o' q' m) :
    ∃ (X : Ss → Os → Nat → Ex) (A : Ss → Os → Nat → Ss) (B : Ss → Os → Nat → Os) (C M : Ss → Os → Nat → Nat), ∀ s o q, I s o q → Q s o q (X s o q) (A s o q) (B s o q) (C s o q) ∧ R s o q (X s o q) (A s o q) (B s o q) (C s o q) (M s o q) := by
  obtain ⟨X, A, B, C, hx⟩ := sk h
  classical
  have h' : ∀ s o q, ∃ m, I s o q → R s o q (X s o q) (A s o q) (B s o q) (C s o q) m := by
    intro s o q
    by_cases hI : I s o q
    · obtain ⟨m, hm⟩ := (hx s o q hI).2
      exact ⟨m, fun _ => hm⟩
    · exact ⟨0, fun hI' => absurd hI' hI⟩
  exact ⟨X, A, B, C, fun s o q => (h' s o q).choose, fun s o q hI => ⟨(hx s o q hI).1, (h' s o q).choose_spec hI⟩⟩
theorem wrap_nat {n : Nat} (h : n < 9223372036854775808) : IntKind.i64.wrap (n : Int) = n := wrap_of (by omega) (by omega)
theorem wrap_succ {n : Nat} (h : n < 9223372036854775807) : IntKind.i64.wrap ((n : Int) + 1) = ((n + 1 : Nat) : Int) := by rw [wrap_of (by omega) (by omega)]; rfl
theorem wrap_byte (b : UInt8) : IntKind.i64.wrap (b.toNat : Int) = (b.toNat : Int) := by have := b.toNat_lt; exact wrap_of (by omega) (by omega)
theorem wrap_0 : IntKind.i64.wrap 0 = 0 := wrap_of (by omega) (by omega)
theorem wrap_1 : IntKind.i64.wrap 1 = 1 := wrap_of (by omega) (by omega)
attribute [simp] wrap_0 wrap_1
theorem succ_ne (n : Nat) : ((n : Int) + 1 = 0) = False := by simp; omega
abbrev valT (v : Val) : T := .agg [.int .i64 v.k, .int .i64 v.n, .str v.t]
abbrev fldT (f : Fld) : T := .agg [.str f.name, .int .i64 f.v.k, .int .i64 f.v.n, .str f.v.t]
/-- A value's three cells, as a result. -/
abbrev valX (v : Val) : X := .agg [.t (.int .i64 v.k), .t (.int .i64 v.n), .t (.str v.t)]
abbrev xI (n : Int) : X := .t (.int .i64 n)
abbrev xB (b : Bool) : X := .t (.bool b)
abbrev xS (s : Bytes) : X := .t (.str s)
abbrev xU (c : UInt8) : X := .t (.int .u8 c.toNat)
abbrev xV (v : Val) : X := .t (valT v)
abbrev strT (s : Bytes) : T := .str s
structure Trm where
  op : Int
  path : Bytes
  v : Val
  deriving DecidableEq, Inhabited
abbrev trmT (t : Trm) : T := .agg [.int .i64 t.op, .str t.path, .int .i64 t.v.k, .int .i64 t.v.n, .str t.v.t]
abbrev trmX (t : Trm) : X := .agg [.t (.int .i64 t.op), .t (.str t.path), .t (.int .i64 t.v.k), .t (.int .i64 t.v.n), .t (.str t.v.t)]
abbrev clsT (c : List Trm) : T := .agg [.list (c.map trmT)]
abbrev filT (f : List (List Trm)) : T := .agg [.list (f.map clsT)]
structure Prt where
  path : Bytes
  desc : Bool
  deriving DecidableEq, Inhabited
abbrev prtT (p : Prt) : T := .agg [.str p.path, .bool p.desc]
abbrev prtX (p : Prt) : X := .agg [.t (.str p.path), .t (.bool p.desc)]
/-- The place of the first one, or -1. -/
def idxP {α : Type} (p : α → Bool) : List α → Int
  | [] => -1
  | x :: r => if p x then 0 else if idxP p r < 0 then -1 else idxP p r + 1
theorem idxP_neg {α : Type} (p : α → Bool) : ∀ (l : List α), idxP p l < 0 ↔ l.any p = false
  | [] => by simp [idxP]
  | x :: r => by
    have ih := idxP_neg p r
    unfold idxP
    cases hp : p x with
    | true => simp [hp]
    | false =>
      simp only [hp, Bool.false_eq_true, if_false, List.any_cons, Bool.false_or]
      split
      · rename_i h; simp [ih.1 h]
      · rename_i h
        rw [← ih]
        omega
theorem idxP_ge {α : Type} (p : α → Bool) (l : List α) : decide (0 ≤ idxP p l) = l.any p := by
  have h := idxP_neg p l
  cases ha : l.any p with
  | true => simp; rw [ha] at h; simp at h; omega
  | false => simp; exact h.2 ha
end Go.Zd
/- Bytes and names: spec's and impl's. -/
set_option linter.unusedSimpArgs false
set_option linter.unusedVariables false
namespace Go.Zd
open Go.Ev Go.Proofs Go.Pu
set_option maxRecDepth 100000
set_option maxHeartbeats 4000000
theorem l01In (a b c : Int) : run E (.call 71 [xI a, xI b, xI c]) = some (.res [xB (decide (b ≤ a) && decide (a ≤ c))] []) := by
  rw [run_call E 71 _ rfl Tryz.func71 rfl rfl rfl (by simp)]
  by_cases h : b ≤ a <;> simp [h]
theorem inRange (a b c : Int) : run E (.call 78 [xI a, xI b, xI c]) = some (.res [xB (decide (b ≤ a) && decide (a ≤ c))] []) := by
  rw [run_call E 78 _ rfl Tryz.func78 rfl rfl rfl (by simp)]
  by_cases h : b ≤ a <;> simp [h]
theorem l01Bit (b : Bool) : run E (.call 189 [xB b]) = some (.res [xI (if b then 1 else 0)] []) := by
  rw [run_call E 189 _ rfl Tryz.func189 rfl rfl rfl (by simp)]
  cases b <;> simp
theorem l00Letter (c : UInt8) : run E (.call 247 [xU c]) = some (.res [xB (letterP c)] []) := by
  rw [run_call E 247 _ rfl Tryz.func247 rfl rfl rfl (by simp)]
  by_cases h1 : (97 : Int) ≤ c.toNat <;> by_cases h2 : (c.toNat : Int) ≤ 122 <;> by_cases h3 : (65 : Int) ≤ c.toNat <;> by_cases h4 : (c.toNat : Int) ≤ 90 <;> by_cases h5 : (c.toNat : Int) = 95 <;> simp [letterP, h1, h2, h3, h4, h5]
theorem isLetter (c : UInt8) : run E (.call 204 [xU c]) = some (.res [xB (letterP c)] []) := by
  rw [run_call E 204 _ rfl Tryz.func204 rfl rfl rfl (by simp)]
  by_cases h1 : (97 : Int) ≤ c.toNat <;> by_cases h2 : (c.toNat : Int) ≤ 122 <;> by_cases h3 : (65 : Int) ≤ c.toNat <;> by_cases h4 : (c.toNat : Int) ≤ 90 <;> by_cases h5 : (c.toNat : Int) = 95 <;> simp [letterP, h1, h2, h3, h4, h5]
theorem l00Digit (c : UInt8) : run E (.call 248 [xU c]) = some (.res [xB (digitP c)] []) := by
  rw [run_call E 248 _ rfl Tryz.func248 rfl rfl rfl (by simp)]
  by_cases h1 : (48 : Int) ≤ c.toNat <;> by_cases h2 : (c.toNat : Int) ≤ 57 <;> simp [digitP, h1, h2]
theorem isDigit (c : UInt8) : run E (.call 205 [xU c]) = some (.res [xB (digitP c)] []) := by
  rw [run_call E 205 _ rfl Tryz.func205 rfl rfl rfl (by simp)]
  by_cases h1 : (48 : Int) ≤ c.toNat <;> by_cases h2 : (c.toNat : Int) ≤ 57 <;> simp [digitP, h1, h2]
end Go.Zd
/- Names: spec's and impl's. -/
set_option linter.unusedSimpArgs false
set_option linter.unusedVariables false
namespace Go.Zd
open Go.Ev Go.Proofs Go.Pu
set_option maxRecDepth 100000
set_option maxHeartbeats 4000000
def wordB (c : UInt8) : Bool := letterP c || digitP c
theorem l00Word_loop (t : Bytes) (ht : t.length < 9223372036854775807) (b : Bool) : ∀ k i s o q, i + k = t.length → (s 0 = .t (.str t) ∧ s 3 = .t (.int .i64 i) ∧ b = (t.drop i).all wordB) →
    ∃ e s' o' q', run E (.code (.loop (loopAt Tryz.f199 0)) ⟨s, o, q, 36⟩) = some (.st e ⟨s', o', q', 36⟩) ∧ (b = true → e = .exit 0) ∧ (b = false → e = .ret ∧ s' 2 = .t (.bool false)) := by
  refine loop_for (fun i s o q => s 0 = .t (.str t) ∧ s 3 = .t (.int .i64 i) ∧ b = (t.drop i).all wordB) (fun e s' o' q' => (b = true → e = .exit 0) ∧ (b = false → e = .ret ∧ s' 2 = .t (.bool false))) t.length ?_ ?_
  · rintro i s o q hi ⟨h0, h3, hp⟩
    have hd : t.drop i = t[i] :: t.drop (i + 1) := by rw [List.drop_eq_getElem_cons hi]
    have hi' : (i : Int) < (t.length : Int) := by omega
    have hw := wrap_succ (n := i) (by omega)
    rw [hd, List.all_cons, wordB] at hp
    cases hl : letterP t[i] <;> cases hg : digitP t[i] <;> simp [hl, hg] at hp <;> simp [loopAt, loopsOf, Tryz.f199, h0, h3, hi, hi', l00Letter, l00Digit, hl, hg, hw, hp]
  · rintro s o q ⟨h0, h3, hp⟩
    simp at hp
    simp [loopAt, loopsOf, Tryz.f199, h0, h3, hp]
theorem l00Word (t : Bytes) (ht : t.length < 9223372036854775807) : run E (.call 199 [xS t]) = some (.res [xB (wordP t)] []) := by
  rw [run_call E 199 _ rfl Tryz.func199 rfl rfl rfl (by simp)]
  cases t with
  | nil => simp [wordP]
  | cons c r =>
    have hc : ∀ n : Nat, ((n : Int) + 1 < 1) = False := fun n => by simp; omega
    cases hl : letterP c with
    | false =>
      by_cases h40 : (40 : Int) < (r.length : Int) + 1 <;> simp [wordP, h40, hc, l00Letter, hl]
    | true =>
      by_cases h40 : (40 : Int) < (r.length : Int) + 1
      · have h : ¬ r.length < 40 := by omega
        simp [wordP, h40, hc, h]
      · have h : r.length < 40 := by omega
        have e : r.all (fun c => letterP c || digitP c) = r.all wordB := rfl
        have lp := fun b (hb : b = r.all wordB) => sk (fun s o q hI => l00Word_loop (c :: r) ht b r.length 1 s o q (by simp; omega) hI)
        simp only [loopAt, loopsOf, Tryz.f199] at lp
        cases hb : r.all wordB with
        | true =>
          obtain ⟨X, A, B, C, hx⟩ := lp true hb.symm
          simp [hb, -List.all_eq_true] at hx
          simp [wordP, h40, hc, h, l00Letter, hl, hx, e, hb, -List.all_eq_true]
        | false =>
          obtain ⟨X, A, B, C, hx⟩ := lp false hb.symm
          simp [hb, -List.all_eq_true, -List.all_eq_false] at hx
          simp [wordP, h40, hc, h, l00Letter, hl, hx, e, hb, -List.all_eq_true, -List.all_eq_false]
theorem nameOK_spec (t : Bytes) (ht : t.length < 9223372036854775807) : run E (.call 130 [xS t]) = some (.res [xB (wordP t)] []) := by
  rw [run_call E 130 _ rfl Tryz.func130 rfl rfl rfl (by simp)]
  simp [l00Word t ht]
theorem l01Name (t : Bytes) (ht : t.length < 9223372036854775807) : run E (.call 72 [xS t]) = some (.res [xB (nameP t)] []) := by
  rw [run_call E 72 _ rfl Tryz.func72 rfl rfl rfl (by simp)]
  cases h : wordP t with
  | false => simp [nameOK_spec t ht, nameP, h]
  | true =>
    have hc : ((t.length : Int) ≤ 12) = (t.length ≤ 12) := by simp; omega
    simp [nameOK_spec t ht, nameP, h, hc]
def nameFrom : Bytes → Bool
  | [] => true
  | c :: r => letterP c && r.all wordB
theorem nameOK (t : Bytes) (ht : t.length < 9223372036854775807) : run E (.call 140 [xS t]) = some (.res [xB (wordP t)] []) := by
  rw [run_call E 140 _ rfl Tryz.func140 rfl rfl rfl (by simp)]
  have lp := fun b (hb : b = nameFrom t) => sk (fun s o q hI => loop_for (c := loopAt Tryz.f140 0) (N := 29)
    (fun i s o q => s 0 = .t (.str t) ∧ s 5 = .t (.int .i64 t.length) ∧ s 6 = .t (.int .i64 i) ∧ b = if i = 0 then nameFrom t else (t.drop i).all wordB)
    (fun e s' o' q' => e = (if b then .exit 0 else .ret) ∧ s' 0 = .t (.str t) ∧ (b = false → s' 2 = .t (.bool false))) t.length
    (by
      rintro i s o q hi ⟨h0, h5, h6, hp⟩
      have hd : t.drop i = t[i] :: t.drop (i + 1) := by rw [List.drop_eq_getElem_cons hi]
      have hi' : (i : Int) < (t.length : Int) := by omega
      have hw := wrap_succ (n := i) (by omega)
      have hp' : b = ((letterP t[i] || (digitP t[i] && decide (i ≠ 0))) && (t.drop (i + 1)).all wordB) := by
        rw [hp]
        split
        · rename_i hz
          subst hz
          cases t with
          | nil => simp at hi
          | cons c r => simp [nameFrom]
        · rename_i hz
          rw [hd, List.all_cons, wordB]
          simp [hz]
      clear hp
      have hz : ((i : Int) = 0) = (i = 0) := by simp
      by_cases h0' : i = 0
      · subst h0'
        simp only [Int.ofNat_zero, Int.natCast_zero] at *
        cases hl : letterP t[0] <;> cases hg : digitP t[0] <;> simp [hl, hg] at hp' <;> simp [loopAt, loopsOf, Tryz.f140, h0, h5, h6, hi, hi', isLetter, isDigit, hl, hg, hw, hp']
      · cases hl : letterP t[i] <;> cases hg : digitP t[i] <;> simp [hl, hg, h0'] at hp' <;> simp [loopAt, loopsOf, Tryz.f140, h0, h5, h6, hi, hi', isLetter, isDigit, hl, hg, hw, hp', hz, h0'])
    (by
      rintro s o q ⟨h0, h5, h6, hp⟩
      have hb : b = true := by
        rw [hp]
        split
        · rename_i hz
          have : t = [] := List.eq_nil_of_length_eq_zero hz
          rw [this]; rfl
        · simp
      simp [loopAt, loopsOf, Tryz.f140, h0, h5, h6, hb])
    t.length 0 s o q (by omega) hI)
  simp only [loopAt, loopsOf, Tryz.f140] at lp
  have e : wordP t = (nameFrom t && (decide (1 ≤ (t.length : Int)) && decide ((t.length : Int) ≤ 40))) := by
    cases t with
    | nil => rfl
    | cons c r =>
      have h1 : (1 : Int) ≤ ((c :: r).length : Int) := by simp; omega
      have h2 : (((c :: r).length : Int) ≤ 40) = (r.length < 40) := by simp; omega
      simp only [h1, h2, wordP, nameFrom, decide_true, Bool.true_and]
      rfl
  cases hb : nameFrom t with
  | true =>
    obtain ⟨X, A, B, C, hx⟩ := lp true hb.symm
    simp [hb] at hx
    simp [hx, inRange, e, hb]
  | false =>
    obtain ⟨X, A, B, C, hx⟩ := lp false hb.symm
    simp [hb] at hx
    simp [hx, inRange, e, hb]
theorem isShort (t : Bytes) (ht : t.length < 9223372036854775807) : run E (.call 80 [xS t]) = some (.res [xB (nameP t)] []) := by
  rw [run_call E 80 _ rfl Tryz.func80 rfl rfl rfl (by simp)]
  by_cases h : t.length ≤ 12
  · have h' : (t.length : Int) ≤ 12 := by omega
    simp [nameOK t ht, nameP, h, h']
  · have h' : ¬ (t.length : Int) ≤ 12 := by omega
    simp [nameP, h, h']
end Go.Zd
/- slices.IndexFunc, slices.ContainsFunc. -/
set_option linter.unusedSimpArgs false
set_option linter.unusedVariables false
namespace Go.Zd
open Go.Ev Go.Proofs Go.Pu
set_option maxRecDepth 100000
set_option maxHeartbeats 4000000
theorem indexFunc_203_0 (xs : List Bytes) (g : Nat)  (p : Bytes → Bool) (hl : xs.length < 9223372036854775807) (hm : E.md g = []) (hf : E.flat g = true) (hp : ∀ x ∈ xs, run E (.call g [.t (strT x)]) = some (.res [xB (p x)] [])) :
    run E (.call 203 [.t (.list (xs.map strT)), .fn g []]) = some (.res [xI (idxP p xs)] []) := by
  rw [run_call E 203 _ rfl Tryz.func203 rfl rfl rfl (by simp)]
  rw [E_md] at hm
  have lp := fun (r : Int) (hr : r = idxP p xs) => sk (fun s o q hI => loop_for (c := loopAt Tryz.f203 0) (N := 19)
    (fun i s o q => s 0 = .t (.list (xs.map strT)) ∧ s 1 = .fn g [] ∧ s 7 = .t (.int .i64 xs.length) ∧ s 8 = .t (.int .i64 i) ∧ r = if idxP p (xs.drop i) < 0 then -1 else idxP p (xs.drop i) + i)
    (fun e s' o' q' => e = (if r < 0 then .exit 0 else .ret) ∧ (0 ≤ r → s' 4 = .t (.int .i64 r))) xs.length
    (by
      rintro i s o q hi ⟨h0, h1, h7, h8, hr⟩
      have hd : xs.drop i = xs[i] :: xs.drop (i + 1) := by rw [List.drop_eq_getElem_cons hi]
      have hi' : (i : Int) < (xs.length : Int) := by omega
      have hw := wrap_succ (n := i) (by omega)
      have hx := hp xs[i] (List.getElem_mem hi)
      rw [hd, idxP] at hr
      cases hpx : p xs[i] with
      | true =>
        simp [hpx] at hr hx
        have hr' : ¬ r < 0 := by omega
        simp [-mdOf, loopAt, loopsOf, Tryz.f203, h0, h1, h7, h8, hi, hi', hx, hw, hm, hf, hr', hr]
      | false =>
        simp [hpx] at hr hx
        have hr2 : r = if idxP p (xs.drop (i + 1)) < 0 then -1 else idxP p (xs.drop (i + 1)) + ((i : Int) + 1) := by
          rw [hr]
          by_cases hq : idxP p (xs.drop (i + 1)) < 0
          · simp [hq]
          · have : ¬ idxP p (xs.drop (i + 1)) + 1 < 0 := by omega
            simp [hq, this]; omega
        clear hr
        simp [-mdOf, loopAt, loopsOf, Tryz.f203, h0, h1, h7, h8, hi, hi', hx, hw, hm, hf]
        exact hr2)
    (by
      rintro s o q ⟨h0, h1, h7, h8, hr⟩
      simp [idxP] at hr
      simp [loopAt, loopsOf, Tryz.f203, h0, h1, h7, h8, hr])
    xs.length 0 s o q (by omega) hI)
  simp only [loopAt, loopsOf, Tryz.f203] at lp
  obtain ⟨X, A, B, C, hx⟩ := lp _ rfl
  have hz : idxP p xs = if idxP p xs < 0 then -1 else idxP p xs := by
    cases xs with
    | nil => simp [idxP]
    | cons x r =>
      unfold idxP
      split
      · simp
      · split
        · simp
        · have : ¬ idxP p r + 1 < 0 := by omega
          simp [this]
  simp [← hz] at hx
  by_cases h : idxP p xs < 0
  · have h1 : idxP p xs = -1 := by rw [hz]; simp [h]
    simp [h] at hx
    simp [hx, h1]
  · have h2 : 0 ≤ idxP p xs := by omega
    simp [h, h2] at hx
    simp [hx]
theorem containsFunc_138_0 (xs : List Bytes) (g : Nat)  (p : Bytes → Bool) (hl : xs.length < 9223372036854775807) (hm : E.md g = []) (hf : E.flat g = true) (hp : ∀ x ∈ xs, run E (.call g [.t (strT x)]) = some (.res [xB (p x)] [])) :
    run E (.call 138 [.t (.list (xs.map strT)), .fn g []]) = some (.res [xB (xs.any p)] []) := by
  rw [run_call E 138 _ rfl Tryz.func138 rfl rfl rfl (by simp)]
  have h := indexFunc_203_0 xs g  p hl hm hf hp
  simp [h, idxP_ge]
theorem indexFunc_206_1 (xs : List Val) (g : Nat) (c : List T) (p : Val → Bool) (hl : xs.length < 9223372036854775807) (hm : E.md g = []) (hf : E.flat g = true) (hp : ∀ x ∈ xs, run E (.call g [.t (valT x), .dref c]) = some (.res [xB (p x)] [])) :
    run E (.call 206 [.t (.list (xs.map valT)), .fn g [c]]) = some (.res [xI (idxP p xs)] []) := by
  rw [run_call E 206 _ rfl Tryz.func206 rfl rfl rfl (by simp)]
  rw [E_md] at hm
  have lp := fun (r : Int) (hr : r = idxP p xs) => sk (fun s o q hI => loop_for (c := loopAt Tryz.f206 0) (N := 19)
    (fun i s o q => s 0 = .t (.list (xs.map valT)) ∧ s 1 = .fn g [.dptr c] ∧ s 7 = .t (.int .i64 xs.length) ∧ s 8 = .t (.int .i64 i) ∧ r = if idxP p (xs.drop i) < 0 then -1 else idxP p (xs.drop i) + i)
    (fun e s' o' q' => e = (if r < 0 then .exit 0 else .ret) ∧ (0 ≤ r → s' 4 = .t (.int .i64 r))) xs.length
    (by
      rintro i s o q hi ⟨h0, h1, h7, h8, hr⟩
      have hd : xs.drop i = xs[i] :: xs.drop (i + 1) := by rw [List.drop_eq_getElem_cons hi]
      have hi' : (i : Int) < (xs.length : Int) := by omega
      have hw := wrap_succ (n := i) (by omega)
      have hx := hp xs[i] (List.getElem_mem hi)
      rw [hd, idxP] at hr
      cases hpx : p xs[i] with
      | true =>
        simp [hpx] at hr hx
        have hr' : ¬ r < 0 := by omega
        simp [-mdOf, loopAt, loopsOf, Tryz.f206, h0, h1, h7, h8, hi, hi', hx, hw, hm, hf, hr', hr]
      | false =>
        simp [hpx] at hr hx
        have hr2 : r = if idxP p (xs.drop (i + 1)) < 0 then -1 else idxP p (xs.drop (i + 1)) + ((i : Int) + 1) := by
          rw [hr]
          by_cases hq : idxP p (xs.drop (i + 1)) < 0
          · simp [hq]
          · have : ¬ idxP p (xs.drop (i + 1)) + 1 < 0 := by omega
            simp [hq, this]; omega
        clear hr
        simp [-mdOf, loopAt, loopsOf, Tryz.f206, h0, h1, h7, h8, hi, hi', hx, hw, hm, hf]
        exact hr2)
    (by
      rintro s o q ⟨h0, h1, h7, h8, hr⟩
      simp [idxP] at hr
      simp [loopAt, loopsOf, Tryz.f206, h0, h1, h7, h8, hr])
    xs.length 0 s o q (by omega) hI)
  simp only [loopAt, loopsOf, Tryz.f206] at lp
  obtain ⟨X, A, B, C, hx⟩ := lp _ rfl
  have hz : idxP p xs = if idxP p xs < 0 then -1 else idxP p xs := by
    cases xs with
    | nil => simp [idxP]
    | cons x r =>
      unfold idxP
      split
      · simp
      · split
        · simp
        · have : ¬ idxP p r + 1 < 0 := by omega
          simp [this]
  simp [← hz] at hx
  by_cases h : idxP p xs < 0
  · have h1 : idxP p xs = -1 := by rw [hz]; simp [h]
    simp [h] at hx
    simp [hx, h1]
  · have h2 : 0 ≤ idxP p xs := by omega
    simp [h, h2] at hx
    simp [hx]
theorem containsFunc_143_1 (xs : List Val) (g : Nat) (c : List T) (p : Val → Bool) (hl : xs.length < 9223372036854775807) (hm : E.md g = []) (hf : E.flat g = true) (hp : ∀ x ∈ xs, run E (.call g [.t (valT x), .dref c]) = some (.res [xB (p x)] [])) :
    run E (.call 143 [.t (.list (xs.map valT)), .fn g [c]]) = some (.res [xB (xs.any p)] []) := by
  rw [run_call E 143 _ rfl Tryz.func143 rfl rfl rfl (by simp)]
  have h := indexFunc_206_1 xs g c p hl hm hf hp
  simp [h, idxP_ge]
theorem indexFunc_201_0 (xs : List Trm) (g : Nat)  (p : Trm → Bool) (hl : xs.length < 9223372036854775807) (hm : E.md g = []) (hf : E.flat g = true) (hp : ∀ x ∈ xs, run E (.call g [.t (trmT x)]) = some (.res [xB (p x)] [])) :
    run E (.call 201 [.t (.list (xs.map trmT)), .fn g []]) = some (.res [xI (idxP p xs)] []) := by
  rw [run_call E 201 _ rfl Tryz.func201 rfl rfl rfl (by simp)]
  rw [E_md] at hm
  have lp := fun (r : Int) (hr : r = idxP p xs) => sk (fun s o q hI => loop_for (c := loopAt Tryz.f201 0) (N := 19)
    (fun i s o q => s 0 = .t (.list (xs.map trmT)) ∧ s 1 = .fn g [] ∧ s 7 = .t (.int .i64 xs.length) ∧ s 8 = .t (.int .i64 i) ∧ r = if idxP p (xs.drop i) < 0 then -1 else idxP p (xs.drop i) + i)
    (fun e s' o' q' => e = (if r < 0 then .exit 0 else .ret) ∧ (0 ≤ r → s' 4 = .t (.int .i64 r))) xs.length
    (by
      rintro i s o q hi ⟨h0, h1, h7, h8, hr⟩
      have hd : xs.drop i = xs[i] :: xs.drop (i + 1) := by rw [List.drop_eq_getElem_cons hi]
      have hi' : (i : Int) < (xs.length : Int) := by omega
      have hw := wrap_succ (n := i) (by omega)
      have hx := hp xs[i] (List.getElem_mem hi)
      rw [hd, idxP] at hr
      cases hpx : p xs[i] with
      | true =>
        simp [hpx] at hr hx
        have hr' : ¬ r < 0 := by omega
        simp [-mdOf, loopAt, loopsOf, Tryz.f201, h0, h1, h7, h8, hi, hi', hx, hw, hm, hf, hr', hr]
      | false =>
        simp [hpx] at hr hx
        have hr2 : r = if idxP p (xs.drop (i + 1)) < 0 then -1 else idxP p (xs.drop (i + 1)) + ((i : Int) + 1) := by
          rw [hr]
          by_cases hq : idxP p (xs.drop (i + 1)) < 0
          · simp [hq]
          · have : ¬ idxP p (xs.drop (i + 1)) + 1 < 0 := by omega
            simp [hq, this]; omega
        clear hr
        simp [-mdOf, loopAt, loopsOf, Tryz.f201, h0, h1, h7, h8, hi, hi', hx, hw, hm, hf]
        exact hr2)
    (by
      rintro s o q ⟨h0, h1, h7, h8, hr⟩
      simp [idxP] at hr
      simp [loopAt, loopsOf, Tryz.f201, h0, h1, h7, h8, hr])
    xs.length 0 s o q (by omega) hI)
  simp only [loopAt, loopsOf, Tryz.f201] at lp
  obtain ⟨X, A, B, C, hx⟩ := lp _ rfl
  have hz : idxP p xs = if idxP p xs < 0 then -1 else idxP p xs := by
    cases xs with
    | nil => simp [idxP]
    | cons x r =>
      unfold idxP
      split
      · simp
      · split
        · simp
        · have : ¬ idxP p r + 1 < 0 := by omega
          simp [this]
  simp [← hz] at hx
  by_cases h : idxP p xs < 0
  · have h1 : idxP p xs = -1 := by rw [hz]; simp [h]
    simp [h] at hx
    simp [hx, h1]
  · have h2 : 0 ≤ idxP p xs := by omega
    simp [h, h2] at hx
    simp [hx]
theorem containsFunc_134_0 (xs : List Trm) (g : Nat)  (p : Trm → Bool) (hl : xs.length < 9223372036854775807) (hm : E.md g = []) (hf : E.flat g = true) (hp : ∀ x ∈ xs, run E (.call g [.t (trmT x)]) = some (.res [xB (p x)] [])) :
    run E (.call 134 [.t (.list (xs.map trmT)), .fn g []]) = some (.res [xB (xs.any p)] []) := by
  rw [run_call E 134 _ rfl Tryz.func134 rfl rfl rfl (by simp)]
  have h := indexFunc_201_0 xs g  p hl hm hf hp
  simp [h, idxP_ge]
theorem indexFunc_200_0 (xs : List (List Trm)) (g : Nat)  (p : (List Trm) → Bool) (hl : xs.length < 9223372036854775807) (hm : E.md g = []) (hf : E.flat g = true) (hp : ∀ x ∈ xs, run E (.call g [.t (clsT x)]) = some (.res [xB (p x)] [])) :
    run E (.call 200 [.t (.list (xs.map clsT)), .fn g []]) = some (.res [xI (idxP p xs)] []) := by
  rw [run_call E 200 _ rfl Tryz.func200 rfl rfl rfl (by simp)]
  rw [E_md] at hm
  have lp := fun (r : Int) (hr : r = idxP p xs) => sk (fun s o q hI => loop_for (c := loopAt Tryz.f200 0) (N := 19)
    (fun i s o q => s 0 = .t (.list (xs.map clsT)) ∧ s 1 = .fn g [] ∧ s 7 = .t (.int .i64 xs.length) ∧ s 8 = .t (.int .i64 i) ∧ r = if idxP p (xs.drop i) < 0 then -1 else idxP p (xs.drop i) + i)
    (fun e s' o' q' => e = (if r < 0 then .exit 0 else .ret) ∧ (0 ≤ r → s' 4 = .t (.int .i64 r))) xs.length
    (by
      rintro i s o q hi ⟨h0, h1, h7, h8, hr⟩
      have hd : xs.drop i = xs[i] :: xs.drop (i + 1) := by rw [List.drop_eq_getElem_cons hi]
      have hi' : (i : Int) < (xs.length : Int) := by omega
      have hw := wrap_succ (n := i) (by omega)
      have hx := hp xs[i] (List.getElem_mem hi)
      rw [hd, idxP] at hr
      cases hpx : p xs[i] with
      | true =>
        simp [hpx] at hr hx
        have hr' : ¬ r < 0 := by omega
        simp [-mdOf, loopAt, loopsOf, Tryz.f200, h0, h1, h7, h8, hi, hi', hx, hw, hm, hf, hr', hr]
      | false =>
        simp [hpx] at hr hx
        have hr2 : r = if idxP p (xs.drop (i + 1)) < 0 then -1 else idxP p (xs.drop (i + 1)) + ((i : Int) + 1) := by
          rw [hr]
          by_cases hq : idxP p (xs.drop (i + 1)) < 0
          · simp [hq]
          · have : ¬ idxP p (xs.drop (i + 1)) + 1 < 0 := by omega
            simp [hq, this]; omega
        clear hr
        simp [-mdOf, loopAt, loopsOf, Tryz.f200, h0, h1, h7, h8, hi, hi', hx, hw, hm, hf]
        exact hr2)
    (by
      rintro s o q ⟨h0, h1, h7, h8, hr⟩
      simp [idxP] at hr
      simp [loopAt, loopsOf, Tryz.f200, h0, h1, h7, h8, hr])
    xs.length 0 s o q (by omega) hI)
  simp only [loopAt, loopsOf, Tryz.f200] at lp
  obtain ⟨X, A, B, C, hx⟩ := lp _ rfl
  have hz : idxP p xs = if idxP p xs < 0 then -1 else idxP p xs := by
    cases xs with
    | nil => simp [idxP]
    | cons x r =>
      unfold idxP
      split
      · simp
      · split
        · simp
        · have : ¬ idxP p r + 1 < 0 := by omega
          simp [this]
  simp [← hz] at hx
  by_cases h : idxP p xs < 0
  · have h1 : idxP p xs = -1 := by rw [hz]; simp [h]
    simp [h] at hx
    simp [hx, h1]
  · have h2 : 0 ≤ idxP p xs := by omega
    simp [h, h2] at hx
    simp [hx]
theorem containsFunc_132_0 (xs : List (List Trm)) (g : Nat)  (p : (List Trm) → Bool) (hl : xs.length < 9223372036854775807) (hm : E.md g = []) (hf : E.flat g = true) (hp : ∀ x ∈ xs, run E (.call g [.t (clsT x)]) = some (.res [xB (p x)] [])) :
    run E (.call 132 [.t (.list (xs.map clsT)), .fn g []]) = some (.res [xB (xs.any p)] []) := by
  rw [run_call E 132 _ rfl Tryz.func132 rfl rfl rfl (by simp)]
  have h := indexFunc_200_0 xs g  p hl hm hf hp
  simp [h, idxP_ge]
theorem indexFunc_202_0 (xs : List Prt) (g : Nat)  (p : Prt → Bool) (hl : xs.length < 9223372036854775807) (hm : E.md g = []) (hf : E.flat g = true) (hp : ∀ x ∈ xs, run E (.call g [.t (prtT x)]) = some (.res [xB (p x)] [])) :
    run E (.call 202 [.t (.list (xs.map prtT)), .fn g []]) = some (.res [xI (idxP p xs)] []) := by
  rw [run_call E 202 _ rfl Tryz.func202 rfl rfl rfl (by simp)]
  rw [E_md] at hm
  have lp := fun (r : Int) (hr : r = idxP p xs) => sk (fun s o q hI => loop_for (c := loopAt Tryz.f202 0) (N := 19)
    (fun i s o q => s 0 = .t (.list (xs.map prtT)) ∧ s 1 = .fn g [] ∧ s 7 = .t (.int .i64 xs.length) ∧ s 8 = .t (.int .i64 i) ∧ r = if idxP p (xs.drop i) < 0 then -1 else idxP p (xs.drop i) + i)
    (fun e s' o' q' => e = (if r < 0 then .exit 0 else .ret) ∧ (0 ≤ r → s' 4 = .t (.int .i64 r))) xs.length
    (by
      rintro i s o q hi ⟨h0, h1, h7, h8, hr⟩
      have hd : xs.drop i = xs[i] :: xs.drop (i + 1) := by rw [List.drop_eq_getElem_cons hi]
      have hi' : (i : Int) < (xs.length : Int) := by omega
      have hw := wrap_succ (n := i) (by omega)
      have hx := hp xs[i] (List.getElem_mem hi)
      rw [hd, idxP] at hr
      cases hpx : p xs[i] with
      | true =>
        simp [hpx] at hr hx
        have hr' : ¬ r < 0 := by omega
        simp [-mdOf, loopAt, loopsOf, Tryz.f202, h0, h1, h7, h8, hi, hi', hx, hw, hm, hf, hr', hr]
      | false =>
        simp [hpx] at hr hx
        have hr2 : r = if idxP p (xs.drop (i + 1)) < 0 then -1 else idxP p (xs.drop (i + 1)) + ((i : Int) + 1) := by
          rw [hr]
          by_cases hq : idxP p (xs.drop (i + 1)) < 0
          · simp [hq]
          · have : ¬ idxP p (xs.drop (i + 1)) + 1 < 0 := by omega
            simp [hq, this]; omega
        clear hr
        simp [-mdOf, loopAt, loopsOf, Tryz.f202, h0, h1, h7, h8, hi, hi', hx, hw, hm, hf]
        exact hr2)
    (by
      rintro s o q ⟨h0, h1, h7, h8, hr⟩
      simp [idxP] at hr
      simp [loopAt, loopsOf, Tryz.f202, h0, h1, h7, h8, hr])
    xs.length 0 s o q (by omega) hI)
  simp only [loopAt, loopsOf, Tryz.f202] at lp
  obtain ⟨X, A, B, C, hx⟩ := lp _ rfl
  have hz : idxP p xs = if idxP p xs < 0 then -1 else idxP p xs := by
    cases xs with
    | nil => simp [idxP]
    | cons x r =>
      unfold idxP
      split
      · simp
      · split
        · simp
        · have : ¬ idxP p r + 1 < 0 := by omega
          simp [this]
  simp [← hz] at hx
  by_cases h : idxP p xs < 0
  · have h1 : idxP p xs = -1 := by rw [hz]; simp [h]
    simp [h] at hx
    simp [hx, h1]
  · have h2 : 0 ≤ idxP p xs := by omega
    simp [h, h2] at hx
    simp [hx]
theorem containsFunc_136_0 (xs : List Prt) (g : Nat)  (p : Prt → Bool) (hl : xs.length < 9223372036854775807) (hm : E.md g = []) (hf : E.flat g = true) (hp : ∀ x ∈ xs, run E (.call g [.t (prtT x)]) = some (.res [xB (p x)] [])) :
    run E (.call 136 [.t (.list (xs.map prtT)), .fn g []]) = some (.res [xB (xs.any p)] []) := by
  rw [run_call E 136 _ rfl Tryz.func136 rfl rfl rfl (by simp)]
  have h := indexFunc_202_0 xs g  p hl hm hf hp
  simp [h, idxP_ge]
end Go.Zd
