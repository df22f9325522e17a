/- Operations that may change places: the swap. -/
import Derived.Test.YtdpkfljiipkhfaaGreatDoorPartRC
namespace Go.Ev
set_option linter.unusedSimpArgs false
set_option linter.unusedVariables false

def isReader (E : Env) : Op → Bool
  | .move _ | .assign _ | .pick .. | .load .. | .nilCheck _ | .binOp .. | .unOp .. | .slice .. | .fieldAddr .. | .indexAddr .. | .field .. | .index .. | .extract .. | .build .. | .makeFunc .. => true
  | .convert a b _ => match (E.ty a).k, (E.ty b).k with
    | .int _, .int _ => true
    | .str, .str => true
    | _, _ => false
  | .call c => match c.callee with
    | .builtin .len => true
    | .builtin .min => true
    | .builtin .max => true
    | _ => false
  | _ => false
def isPure (E : Env) : Op → Bool
  | .move _ | .assign _ | .pick .. | .nilCheck _ | .unOp .. | .fieldAddr .. | .field .. | .index .. | .extract .. | .build .. | .makeFunc .. => true
  | .convert a b _ => match (E.ty a).k, (E.ty b).k with
    | .int _, .int _ => true
    | .str, .str => true
    | _, _ => false
  | .binOp _ t _ _ _ => match (E.ty t).k with
    | .struct => false
    | _ => true
  | .slice t .. => match (E.ty t).k with
    | .str => true
    | _ => false
  | .call c => match c.callee with
    | .builtin .min => true
    | .builtin .max => true
    | _ => false
  | _ => false
def isGrow (E : Env) : Op → Bool
  | .alloc _ | .box .. | .makeSlice .. | .convert .. => true
  | .call c => match c.callee with
    | .value (.func g) => (E.md g).isEmpty
    | _ => false
  | _ => false
section
variable {E : Env} {st st1 st2 : St} {v : SV}
theorem val_same (hs : st2.s = st.s) (hN : st2.N = st.N) (x : Operand) : st2.val x = st.val x := by
  cases x <;> simp only [St.val, hs, hN]
theorem convert_same {a b : Nat} {x : SV} (hr : (match (E.ty a).k, (E.ty b).k with
    | .int _, .int _ => true
    | .str, .str => true
    | _, _ => false) = true) (h : st.convert E a b x = some (v, st1)) : st1 = st ∧ ∀ st2 : St, st2.convert E a b x = some (v, st2) := by
  unfold St.convert at h ⊢
  split at hr
  · rename_i k k' e1 e2
    simp only [e1, e2] at h ⊢
    cases x with
    | t x =>
      cases x with
      | int k n =>
        simp only [Option.some.injEq, Prod.mk.injEq] at h
        obtain ⟨rfl, rfl⟩ := h
        exact ⟨rfl, fun _ => rfl⟩
      | _ => cases h
    | _ => cases h
  · rename_i e1 e2
    simp only [e1, e2] at h ⊢
    cases x with
    | t x =>
      cases x with
      | str s =>
        simp only [Option.some.injEq, Prod.mk.injEq] at h
        obtain ⟨rfl, rfl⟩ := h
        exact ⟨rfl, fun _ => rfl⟩
      | _ => cases h
    | _ => cases h
  · cases hr
theorem makeFunc_same {f : Fn} {fst caps : Array Operand} (h : st.op E (.makeFunc f fst caps) = some (v, st1)) : st1 = st ∧ ∀ st2 : St, st2.s = st.s → st2.N = st.N → st2.op E (.makeFunc f fst caps) = some (v, st2) := by
  cases f <;> simp only [St.op] at h ⊢ <;> try (cases h; done)
  have hm : ∀ (st2 : St) (hs : st2.s = st.s) (hN : st2.N = st.N) (l : List Operand), l.map st2.val = l.map st.val := fun st2 hs hN l => List.map_congr_left (fun x _ => val_same hs hN x)
  split at h
  · rename_i h0
    simp only [Option.some.injEq, Prod.mk.injEq] at h
    obtain ⟨rfl, rfl⟩ := h
    exact ⟨rfl, fun st2 hs hN => by rw [if_pos h0, hm st2 hs hN]⟩
  · rename_i h0
    split at h
    · rename_i h1
      simp only [Option.map_eq_some_iff, Prod.mk.injEq] at h
      obtain ⟨ts, hts, rfl, rfl⟩ := h
      exact ⟨rfl, fun st2 hs hN => by rw [if_neg h0, if_pos h1, hm st2 hs hN, hts]; rfl⟩
    · cases h
theorem builtin_same {b : Builtin} {ts : List Nat} {vs : List SV} (hb : b = .len ∨ b = .min ∨ b = .max) (h : st.builtin E b ts vs = some (v, st1)) : st1 = st := by
  unfold St.builtin at h
  split at h
  · simp only [Option.map_eq_some_iff, Prod.mk.injEq] at h; obtain ⟨_, _, _, e⟩ := h; exact e.symm
  · rcases hb with h | h | h <;> cases h
  · rcases hb with h | h | h <;> cases h
  · simp only [Option.map_eq_some_iff, Prod.mk.injEq] at h; obtain ⟨_, _, _, e⟩ := h; exact e.symm
  · simp only [Option.map_eq_some_iff, Prod.mk.injEq] at h; obtain ⟨_, _, _, e⟩ := h; exact e.symm
  · cases h
theorem builtin_pure {b : Builtin} {ts : List Nat} {vs : List SV} (hb : b = .min ∨ b = .max) (h : st.builtin E b ts vs = some (v, st1)) : st2.builtin E b ts vs = some (v, st2) := by
  unfold St.builtin at h ⊢
  split at h
  · rcases hb with h | h <;> cases h
  · rcases hb with h | h <;> cases h
  · rcases hb with h | h <;> cases h
  · simp only [Option.map_eq_some_iff, Prod.mk.injEq] at h ⊢; obtain ⟨t, h1, h2, _⟩ := h; exact ⟨t, h1, h2, trivial⟩
  · simp only [Option.map_eq_some_iff, Prod.mk.injEq] at h ⊢; obtain ⟨t, h1, h2, _⟩ := h; exact ⟨t, h1, h2, trivial⟩
  · cases h
theorem builtin_grown (hw : WF st) (hg : Grown st st2) {b : Builtin} {ts : List Nat} {vs : List SV} (hb : b = .len ∨ b = .min ∨ b = .max) (h : st.builtin E b ts vs = some (v, st)) : st2.builtin E b ts vs = some (v, st2) := by
  rcases hb with rfl | hb
  · unfold St.builtin at h ⊢
    split at h <;> try (rename_i hh; cases hh; done)
    · simp only [Option.map_eq_some_iff, Prod.mk.injEq] at h ⊢
      obtain ⟨n, h1, h2, _⟩ := h
      refine ⟨n, ?_, h2, trivial⟩
      unfold St.lenOf at h1 ⊢
      split at h1
      · exact h1
      · exact slen_grown hg hw h1
      · cases h1
    · cases h
  · exact builtin_pure hb h
theorem reader_same {op : Op} (hr : isReader E op = true) (h : st.op E op = some (v, st1)) : st1 = st := by
  cases op <;> simp only [isReader] at hr <;> try contradiction
  case convert a b x => exact (convert_same hr h).1
  case makeFunc f fst caps => exact (makeFunc_same h).1
  case call c =>
    simp only [St.op] at h
    split at hr <;> rename_i hc <;> first | (rw [hc] at h; exact builtin_same (by simp) h) | cases hr
  all_goals simp only [St.op] at h
  all_goals first
    | (simp only [Option.some.injEq, Prod.mk.injEq] at h; exact h.2.symm)
    | (simp only [Option.map_eq_some_iff, Prod.mk.injEq] at h; obtain ⟨_, _, _, e⟩ := h; exact e.symm)
    | (split at h
       · simp only [Option.some.injEq, Prod.mk.injEq] at h; exact h.2.symm
       · cases h)
    | (split at h
       · simp only [Option.some.injEq, Prod.mk.injEq] at h; exact h.2.symm
       · simp only [Option.some.injEq, Prod.mk.injEq] at h; exact h.2.symm
       · simp only [Option.some.injEq, Prod.mk.injEq] at h; exact h.2.symm
       · cases h)
    | (split at h
       · split at h
         · simp only [Option.map_eq_some_iff, Prod.mk.injEq] at h; obtain ⟨_, _, _, e⟩ := h; exact e.symm
         · cases h
       · cases h)
    | (split at h
       · simp only [Option.map_eq_some_iff, Prod.mk.injEq] at h; obtain ⟨_, _, _, e⟩ := h; exact e.symm
       · cases h)
theorem bin_grown (hw : WF st) (hg : Grown st st2) {eqT : Nat → List TK} {kT : Nat → TK} {op : BinOp} {t : Nat} {x y : SV} {r : T} (h : st.bin eqT kT op t x y = some r) : st2.bin eqT kT op t x y = some r := by
  unfold St.bin at h ⊢
  split at h
  · exact h
  · exact h
  · exact h
  · split at h
    · rename_i h0 h1 h2
      simp only [h0, peekL_grown hg hw h1, peekL_grown hg hw h2]
      exact h
    · cases h
  · cases h
theorem bin_pure {eqT : Nat → List TK} {kT : Nat → TK} {op : BinOp} {t : Nat} {x y : SV} (hk : kT t ≠ .struct) : st2.bin eqT kT op t x y = st.bin eqT kT op t x y := by
  unfold St.bin
  split <;> try rfl
  cases h : kT t <;> first | rfl | exact absurd h hk
theorem boundOr_same (hs : st2.s = st.s) (hN : st2.N = st.N) (d : Nat) (x : Option Operand) : st2.boundOr d x = st.boundOr d x := by
  cases x with
  | none => rfl
  | some x => simp only [St.boundOr, val_same hs hN]
theorem sliceAt_grown (hw : WF st) (hg : Grown st st2) (hs : st2.s = st.s) (hN : st2.N = st.N) {t : Nat} {x r : SV} {lo hi mx : Option Operand} (h : st.sliceAt E t x lo hi mx = some r) : st2.sliceAt E t x lo hi mx = some r := by
  unfold St.sliceAt at h ⊢
  simp only [boundOr_same hs hN, val_same hs hN]
  split at h
  · exact h
  · split at h
    · cases h
    · rename_i hk
      rw [if_neg hk]
      split at h
      · rename_i n kr hn hkr
        simp only [slen_grown hg hw hn, roomOf_grown hg hw hkr]
        split at h
        · split at h
          · rename_i hc
            rw [if_pos hc]
            split at h
            · exact h
            · exact part_grown hg hw h
          · cases h
        · cases h
      · cases h
  · cases h
theorem reader_grown {op : Op} (hr : isReader E op = true) (hw : WF st) (hg : Grown st st2) (hs : st2.s = st.s) (hN : st2.N = st.N) (h : st.op E op = some (v, st)) : st2.op E op = some (v, st2) := by
  have hv := val_same hs hN
  cases op <;> simp only [isReader] at hr <;> try contradiction
  case convert a b x =>
    have h' : st.convert E a b (st.val x) = some (v, st) := h
    simp only [St.op, hv]
    exact (convert_same hr h').2 st2
  case makeFunc f fst caps => exact (makeFunc_same h).2 st2 hs hN
  case call c =>
    have hm : c.args.toList.map st2.val = c.args.toList.map st.val := List.map_congr_left (fun x _ => hv x)
    simp only [St.op, hm] at h ⊢
    split at hr <;> rename_i hc <;> first | (simp only [hc] at h ⊢; exact builtin_grown hw hg (by simp) h) | cases hr
  case build t ps =>
    simp only [St.op, hv] at h ⊢
    split at h
    · rename_i hc
      rw [if_pos hc]
      simp only [Option.map_eq_some_iff, Prod.mk.injEq] at h ⊢
      obtain ⟨r, h1, rfl, _⟩ := h
      exact ⟨r, h1, rfl, trivial⟩
    · cases h
  case move x => simp only [St.op, hv, Option.some.injEq, Prod.mk.injEq] at h ⊢; exact ⟨h.1, trivial⟩
  case assign x => simp only [St.op, hv, Option.some.injEq, Prod.mk.injEq] at h ⊢; exact ⟨h.1, trivial⟩
  case pick a b c =>
    simp only [St.op, hv] at h ⊢
    split at h
    · simp only [Option.some.injEq, Prod.mk.injEq] at h ⊢; exact ⟨h.1, trivial⟩
    · cases h
  case load t a =>
    simp only [St.op, hv, Option.map_eq_some_iff, Prod.mk.injEq] at h ⊢
    obtain ⟨r, h1, rfl, _⟩ := h
    exact ⟨r, loadAt_grown hg hw h1, rfl, trivial⟩
  case nilCheck x =>
    simp only [St.op, hv] at h ⊢
    split at h <;> first
      | (simp only [Option.some.injEq, Prod.mk.injEq] at h ⊢; exact ⟨h.1, trivial⟩)
      | cases h
  case binOp o t x y z =>
    simp only [St.op, hv, Option.map_eq_some_iff, Prod.mk.injEq] at h ⊢
    obtain ⟨r, h1, rfl, _⟩ := h
    exact ⟨r, bin_grown hw hg h1, rfl, trivial⟩
  case unOp o t x =>
    simp only [St.op, hv, Option.map_eq_some_iff, Prod.mk.injEq] at h ⊢
    obtain ⟨r, h1, rfl, _⟩ := h
    exact ⟨r, h1, rfl, trivial⟩
  case slice t x lo hi mx =>
    simp only [St.op, hv, Option.map_eq_some_iff, Prod.mk.injEq] at h ⊢
    obtain ⟨r, h1, rfl, _⟩ := h
    exact ⟨r, sliceAt_grown hw hg hs hN h1, rfl, trivial⟩
  case fieldAddr t x f =>
    simp only [St.op, hv, Option.map_eq_some_iff, Prod.mk.injEq] at h ⊢
    obtain ⟨r, h1, rfl, _⟩ := h
    exact ⟨r, h1, rfl, trivial⟩
  case indexAddr t x i =>
    simp only [St.op, hv, Option.map_eq_some_iff, Prod.mk.injEq] at h ⊢
    obtain ⟨r, h1, rfl, _⟩ := h
    exact ⟨r, indexAt_grown hg hw h1, rfl, trivial⟩
  case field t x f =>
    simp only [St.op, hv] at h ⊢
    split at h
    · split at h
      · rename_i hc
        rw [if_pos hc]
        simp only [Option.map_eq_some_iff, Prod.mk.injEq] at h ⊢
        obtain ⟨r, h1, rfl, _⟩ := h
        exact ⟨r, h1, rfl, trivial⟩
      · cases h
    · cases h
  case index t x i =>
    simp only [St.op, hv] at h ⊢
    split at h
    · simp only [Option.map_eq_some_iff, Prod.mk.injEq] at h ⊢
      obtain ⟨r, h1, rfl, _⟩ := h
      exact ⟨r, h1, rfl, trivial⟩
    · cases h
  case extract x i =>
    simp only [St.op, hv] at h ⊢
    split at h
    · simp only [Option.map_eq_some_iff, Prod.mk.injEq] at h ⊢
      obtain ⟨r, h1, rfl, _⟩ := h
      exact ⟨r, h1, rfl, trivial⟩
    · cases h
theorem pure_any {op : Op} (hp : isPure E op = true) (hs : st2.s = st.s) (hN : st2.N = st.N) (h : st.op E op = some (v, st1)) : st1 = st ∧ st2.op E op = some (v, st2) := by
  have hv := val_same hs hN
  have hr : isReader E op = true := by
    cases op <;> first | rfl | exact hp | (simp [isPure] at hp; done) | skip
    rename_i c
    simp only [isPure] at hp
    simp only [isReader]
    split at hp <;> rename_i hc <;> first | rw [hc] | cases hp
  have h1 := reader_same hr h
  subst h1
  refine ⟨rfl, ?_⟩
  cases op <;> simp only [isPure] at hp <;> try contradiction
  case convert a b x =>
    have h' : st1.convert E a b (st1.val x) = some (v, st1) := h
    simp only [St.op, hv]
    exact (convert_same hp h').2 st2
  case makeFunc f fst caps => exact (makeFunc_same h).2 st2 hs hN
  case call c =>
    have hm : c.args.toList.map st2.val = c.args.toList.map st1.val := List.map_congr_left (fun x _ => hv x)
    simp only [St.op, hm] at h ⊢
    split at hp <;> rename_i hc <;> first | (simp only [hc] at h ⊢; exact builtin_pure (by simp) h) | cases hp
  case build t ps =>
    simp only [St.op, hv] at h ⊢
    split at h
    · rename_i hc
      rw [if_pos hc]
      simp only [Option.map_eq_some_iff, Prod.mk.injEq] at h ⊢
      obtain ⟨r, h1, rfl, _⟩ := h
      exact ⟨r, h1, rfl, trivial⟩
    · cases h
  case move x => simp only [St.op, hv, Option.some.injEq, Prod.mk.injEq] at h ⊢; exact ⟨h.1, trivial⟩
  case assign x => simp only [St.op, hv, Option.some.injEq, Prod.mk.injEq] at h ⊢; exact ⟨h.1, trivial⟩
  case pick a b c =>
    simp only [St.op, hv] at h ⊢
    split at h
    · simp only [Option.some.injEq, Prod.mk.injEq] at h ⊢; exact ⟨h.1, trivial⟩
    · cases h
  case nilCheck x =>
    simp only [St.op, hv] at h ⊢
    split at h <;> first
      | (simp only [Option.some.injEq, Prod.mk.injEq] at h ⊢; exact ⟨h.1, trivial⟩)
      | cases h
  case binOp o t x y z =>
    simp only [St.op, hv, Option.map_eq_some_iff, Prod.mk.injEq] at h ⊢
    obtain ⟨r, h1, rfl, _⟩ := h
    refine ⟨r, ?_, rfl, trivial⟩
    rw [← h1]
    refine bin_pure (fun e => ?_)
    have e' : (E.ty t).k = .struct := e
    simp [e'] at hp
  case unOp o t x =>
    simp only [St.op, hv, Option.map_eq_some_iff, Prod.mk.injEq] at h ⊢
    obtain ⟨r, h1, rfl, _⟩ := h
    exact ⟨r, h1, rfl, trivial⟩
  case slice t x lo hi mx =>
    have hk : (E.ty t).k = .str := by
      cases hk : (E.ty t).k <;> simp [hk] at hp ⊢
    simp only [St.op, hv, Option.map_eq_some_iff, Prod.mk.injEq] at h ⊢
    obtain ⟨r, h1, rfl, _⟩ := h
    refine ⟨r, ?_, rfl, trivial⟩
    rw [← h1]
    unfold St.sliceAt
    simp only [boundOr_same hs hN, hk]
    generalize st1.val x = q
    cases q with
    | t y => cases y <;> rfl
    | _ => rfl
  case fieldAddr t x f =>
    simp only [St.op, hv, Option.map_eq_some_iff, Prod.mk.injEq] at h ⊢
    obtain ⟨r, h1, rfl, _⟩ := h
    exact ⟨r, h1, rfl, trivial⟩
  case field t x f =>
    simp only [St.op, hv] at h ⊢
    split at h
    · split at h
      · rename_i hc
        rw [if_pos hc]
        simp only [Option.map_eq_some_iff, Prod.mk.injEq] at h ⊢
        obtain ⟨r, h1, rfl, _⟩ := h
        exact ⟨r, h1, rfl, trivial⟩
      · cases h
    · cases h
  case index t x i =>
    simp only [St.op, hv] at h ⊢
    split at h
    · simp only [Option.map_eq_some_iff, Prod.mk.injEq] at h ⊢
      obtain ⟨r, h1, rfl, _⟩ := h
      exact ⟨r, h1, rfl, trivial⟩
    · cases h
  case extract x i =>
    simp only [St.op, hv] at h ⊢
    split at h
    · simp only [Option.map_eq_some_iff, Prod.mk.injEq] at h ⊢
      obtain ⟨r, h1, rfl, _⟩ := h
      exact ⟨r, h1, rfl, trivial⟩
    · cases h

/-! ### slots, growth and order of a whole operation -/
structure Keeps (st st1 : St) : Prop where
  s : st1.s = st.s
  N : st1.N = st.N
  wf : WF st → WF st1
  n : st.n ≤ st1.n
theorem Keeps.refl (st : St) : Keeps st st := ⟨rfl, rfl, id, Nat.le_refl _⟩
theorem Keeps.trans {a b c : St} (h : Keeps a b) (k : Keeps b c) : Keeps a c := ⟨k.s.trans h.s, k.N.trans h.N, fun w => k.wf (h.wf w), Nat.le_trans h.n k.n⟩
theorem keeps_alloc (st : St) (ob : Ob) : Keeps st (st.alloc ob) := ⟨rfl, rfl, fun w i hi => by
  have hi' : st.n + 1 ≤ i := hi
  show upd st.o st.n ob i = .dead
  rw [upd_ne _ _ (by omega)]
  exact w i (by omega), Nat.le_succ _⟩
theorem keeps_setO (st : St) (i : Nat) (ob : Ob) (h : WF st → i < st.n ∨ ob = .dead) : Keeps st (st.setO i ob) := ⟨rfl, rfl, fun w j hj => by
  have hj' : st.n ≤ j := hj
  show upd st.o i ob j = .dead
  by_cases hji : j = i
  · subst hji
    rw [upd_self]
    rcases h w with h | h
    · omega
    · exact h
  · rw [upd_ne _ _ hji]; exact w j hj', Nat.le_refl _⟩
theorem keeps_dead (st : St) (i : Nat) : Keeps st (st.setO i .dead) := keeps_setO st i .dead (fun _ => .inr rfl)
theorem keeps_freeze (st : St) (r : Nat) : Keeps st (st.freeze r) := by
  unfold St.freeze
  split
  · rename_i ho
    exact keeps_setO st r _ (fun w => .inl (w.lt (by rw [ho]; simp)))
  · exact .refl st
theorem grown_freeze (st : St) (r : Nat) : Grown st (st.freeze r) := by
  obtain ⟨h1, h2, h3, _⟩ := freeze_get st r r
  refine ⟨by rw [h3]; exact Nat.le_refl _, fun i hi => ?_⟩
  by_cases hir : i = r
  · subst hir
    unfold St.freeze
    split
    · rename_i e xs live ho
      have : (st.setO i (.row e xs false)).o i = .row e xs false := upd_self _ _ _
      rw [this, ho]
      exact ⟨rfl, rfl⟩
    · exact sameC.refl _
  · rw [(freeze_get st r i).1 hir]
    exact sameC.refl _
theorem grown_alloc (st : St) (ob : Ob) : Grown st (st.alloc ob) := ⟨Nat.le_succ _, fun i hi => by
  have : (st.alloc ob).o i = st.o i := upd_ne _ _ (by omega)
  rw [this]; exact sameC.refl _⟩
end
section
variable {E : Env} {st st1 st2 : St} {v : SV}

theorem keeps_absorb1 {t : T} (h : st.absorb1 v = some (t, st1)) : Keeps st st1 := by
  unfold St.absorb1 at h
  split at h
  · cases h
  · split at h <;> simp only [Option.some.injEq, Prod.mk.injEq] at h <;> obtain ⟨_, rfl⟩ := h
    · exact keeps_freeze st _
    · exact keeps_freeze st _
    · exact .refl st
theorem keeps_absorbL : ∀ {l : List SV} {st st1 : St} {ts : List T}, st.absorbL l = some (ts, st1) → Keeps st st1
  | [], st, st1, ts, h => by
    simp only [St.absorbL, Option.some.injEq, Prod.mk.injEq] at h
    obtain ⟨_, rfl⟩ := h
    exact .refl st
  | s :: r, st, st1, ts, h => by
    unfold St.absorbL at h
    split at h
    · cases h
    · rename_i h1
      split at h
      · cases h
      · rename_i h2
        simp only [Option.some.injEq, Prod.mk.injEq] at h
        obtain ⟨_, rfl⟩ := h
        exact (keeps_absorb1 h1).trans (keeps_absorbL h2)
theorem keeps_absorb {t : T} (h : st.absorb v = some (t, st1)) : Keeps st st1 := by
  unfold St.absorb at h
  split at h
  · split at h
    · cases h
    · rename_i h1
      simp only [Option.some.injEq, Prod.mk.injEq] at h
      obtain ⟨_, rfl⟩ := h
      exact keeps_absorbL h1
  · exact keeps_absorb1 h
theorem keeps_absorbAll : ∀ {l : List SV} {st st1 : St} {ts : List T}, st.absorbAll l = some (ts, st1) → Keeps st st1
  | [], st, st1, ts, h => by
    simp only [St.absorbAll, Option.some.injEq, Prod.mk.injEq] at h
    obtain ⟨_, rfl⟩ := h
    exact .refl st
  | s :: r, st, st1, ts, h => by
    unfold St.absorbAll at h
    split at h
    · cases h
    · rename_i h1
      split at h
      · cases h
      · rename_i h2
        simp only [Option.some.injEq, Prod.mk.injEq] at h
        obtain ⟨_, rfl⟩ := h
        exact (keeps_absorb h1).trans (keeps_absorbAll h2)
theorem keeps_base {e : Nat} {xs : List T} (h : st.base e v = some (xs, st1)) : Keeps st st1 := by
  unfold St.base at h
  split at h
  · simp only [Option.some.injEq, Prod.mk.injEq] at h
    obtain ⟨_, rfl⟩ := h
    exact .refl st
  · split at h
    · split at h
      · simp only [Option.some.injEq, Prod.mk.injEq] at h
        obtain ⟨_, rfl⟩ := h
        exact keeps_dead st _
      · cases h
    · cases h
  · split at h
    · split at h
      · simp only [Option.some.injEq, Prod.mk.injEq] at h
        obtain ⟨_, rfl⟩ := h
        exact keeps_dead st _
      · cases h
    · cases h
  · cases h
theorem keeps_append {sT xT : Nat} {s x : SV} (h : st.append E sT xT s x = some (v, st1)) : Keeps st st1 := by
  unfold St.append at h
  split at h
  · split at h
    · rename_i h2
      split at h
      · simp only [Option.some.injEq, Prod.mk.injEq] at h
        obtain ⟨_, rfl⟩ := h
        exact (keeps_base h2).trans (keeps_alloc _ _)
      · cases h
    · cases h
  · cases h
theorem keeps_storeAt {t : Nat} {a : SV} (h : st.storeAt E t a v = some st1) : Keeps st st1 := by
  unfold St.storeAt at h
  split at h
  · split at h
    · split at h
      · rename_i ho
        split at h
        · obtain rfl := Option.some.inj h
          exact keeps_setO st _ _ (fun w => .inl (w.lt (by rw [ho]; simp)))
        · cases h
      · cases h
    · split at h
      · rename_i hab
        split at h
        · rename_i ho
          split at h
          · split at h
            · obtain rfl := Option.some.inj h
              exact (keeps_absorbL hab).trans (keeps_setO _ _ _ (fun w => .inl (w.lt (by rw [ho]; simp))))
            · cases h
          · cases h
        · cases h
      · cases h
    · cases h
  · cases h
theorem keeps_convert {a b : Nat} {x : SV} (h : st.convert E a b x = some (v, st1)) : Keeps st st1 := by
  unfold St.convert at h
  split at h
  · simp only [Option.some.injEq, Prod.mk.injEq] at h; obtain ⟨_, rfl⟩ := h; exact .refl st
  · simp only [Option.some.injEq, Prod.mk.injEq] at h; obtain ⟨_, rfl⟩ := h; exact .refl st
  · split at h
    · split at h
      · simp only [Option.some.injEq, Prod.mk.injEq] at h; obtain ⟨_, rfl⟩ := h; exact keeps_alloc _ _
      · cases h
    · cases h
  · split at h
    · split at h
      · simp only [Option.some.injEq, Prod.mk.injEq] at h; obtain ⟨_, rfl⟩ := h; exact .refl st
      · cases h
    · cases h
  · cases h
theorem keeps_clearAt {t : Nat} {v : SV} (h : st.clearAt E t v = some st1) : Keeps st st1 := by
  unfold St.clearAt at h
  split at h
  · obtain rfl := Option.some.inj h; exact .refl st
  · split at h
    · rename_i ho
      split at h
      · split at h
        · split at h
          · obtain rfl := Option.some.inj h
            exact keeps_setO st _ _ (fun w => .inl (w.lt (by rw [ho]; simp)))
          · cases h
        · cases h
      · cases h
    · cases h
  · cases h
theorem keeps_appendIn {t : Nat} {v u r : SV} (h : st.appendIn E t v u = some (r, st1)) : Keeps st st1 := by
  unfold St.appendIn at h
  split at h
  · split at h
    · rename_i ho
      split at h
      · simp only [Option.some.injEq, Prod.mk.injEq] at h
        obtain ⟨_, rfl⟩ := h
        exact keeps_setO st _ _ (fun w => .inl (w.lt (by rw [ho]; simp)))
      · cases h
    · cases h
  · cases h
theorem keeps_builtin {b : Builtin} {ts : List Nat} {vs : List SV} (h : st.builtin E b ts vs = some (v, st1)) : Keeps st st1 := by
  unfold St.builtin at h
  split at h
  · simp only [Option.map_eq_some_iff, Prod.mk.injEq] at h; obtain ⟨_, _, _, rfl⟩ := h; exact .refl st
  · split at h
    · split at h
      · exact keeps_appendIn h
      · cases h
    · exact keeps_append h
  · split at h
    · simp only [Option.map_eq_some_iff, Prod.mk.injEq] at h; obtain ⟨_, h1, _, rfl⟩ := h; exact keeps_clearAt h1
    · cases h
  · simp only [Option.map_eq_some_iff, Prod.mk.injEq] at h; obtain ⟨_, _, _, rfl⟩ := h; exact .refl st
  · simp only [Option.map_eq_some_iff, Prod.mk.injEq] at h; obtain ⟨_, _, _, rfl⟩ := h; exact .refl st
  · cases h
theorem keeps_op {op : Op} (h : st.op E op = some (v, st1)) : Keeps st st1 := by
  cases hr : isReader E op with
  | true => rw [reader_same hr h]; exact .refl st
  | false =>
    cases op <;> simp only [isReader] at hr <;> try contradiction
    all_goals simp only [St.op] at h
    all_goals try (cases h; done)
    case alloc e =>
      split at h
      · simp only [Option.some.injEq, Prod.mk.injEq] at h; obtain ⟨_, rfl⟩ := h; exact keeps_alloc _ _
      · cases h
    case box e x =>
      split at h
      · simp only [Option.some.injEq, Prod.mk.injEq] at h; obtain ⟨_, rfl⟩ := h; exact keeps_alloc _ _
      · cases h
    case buildSlice t n ps =>
      split at h
      · split at h
        · rename_i hab
          simp only [Option.some.injEq, Prod.mk.injEq] at h
          obtain ⟨_, rfl⟩ := h
          exact (keeps_absorbAll hab).trans (keeps_alloc _ _)
        · cases h
      · cases h
    case store t a x =>
      simp only [Option.map_eq_some_iff, Prod.mk.injEq] at h
      obtain ⟨st2, h1, _, rfl⟩ := h
      exact keeps_storeAt h1
    case convert a b x => exact keeps_convert h
    case makeSlice t l c =>
      split at h
      · split at h
        · split at h
          · split at h
            · split at h
              · simp only [Option.some.injEq, Prod.mk.injEq] at h; obtain ⟨_, rfl⟩ := h; exact keeps_alloc _ _
              · split at h
                · simp only [Option.some.injEq, Prod.mk.injEq] at h; obtain ⟨_, rfl⟩ := h; exact .refl st
                · simp only [Option.some.injEq, Prod.mk.injEq] at h; obtain ⟨_, rfl⟩ := h; exact keeps_alloc _ _
            · cases h
          · cases h
        · cases h
      · cases h
    case call c =>
      split at h
      · exact keeps_builtin h
      · cases h
theorem keeps_kill : ∀ (ids : List Nat) (st : St), Keeps st (kill ids st)
  | [], st => .refl st
  | i :: l, st => (keeps_dead st i).trans (keeps_kill l _)
theorem keeps_freezeAll : ∀ (ids : List Nat) (st : St), Keeps st (freezeAll ids st)
  | [], st => .refl st
  | i :: l, st => (keeps_freeze st i).trans (keeps_freezeAll l _)
theorem grown_freezeAll : ∀ (ids : List Nat) (st : St), Grown st (freezeAll ids st)
  | [], st => .refl st
  | i :: l, st => (grown_freeze st i).trans (grown_freezeAll l _)
mutual
theorem keeps_bindCell : ∀ (x : X) (st : St), Keeps st (st.bindCell x).2 ∧ Grown st (st.bindCell x).2
  | .sref ty n sz cs, st => by
    simp only [St.bindCell]
    obtain ⟨a1, a2⟩ := keeps_bindCells cs st
    exact ⟨a1.trans (keeps_alloc _ _), a2.trans (grown_alloc _ _)⟩
  | .row e xs, st => by simp only [St.bindCell]; exact ⟨keeps_alloc _ _, grown_alloc _ _⟩
  | .t t, st => by simp only [St.bindCell]; exact ⟨.refl st, .refl st⟩
  | .nil, st => by simp only [St.bindCell]; exact ⟨.refl st, .refl st⟩
  | .agg cs, st => by simp only [St.bindCell]; exact ⟨.refl st, .refl st⟩
  | .ref ty cs, st => by simp only [St.bindCell]; exact ⟨.refl st, .refl st⟩
  | .dref cs, st => by simp only [St.bindCell]; exact ⟨.refl st, .refl st⟩
  | .fn g cs, st => by simp only [St.bindCell]; exact ⟨.refl st, .refl st⟩
  | .meth g cs, st => by simp only [St.bindCell]; exact ⟨.refl st, .refl st⟩
theorem keeps_bindCells : ∀ (l : List X) (st : St), Keeps st (st.bindCells l).2 ∧ Grown st (st.bindCells l).2
  | [], st => by simp only [St.bindCells]; exact ⟨.refl st, .refl st⟩
  | x :: r, st => by
    simp only [St.bindCells]
    obtain ⟨a1, a2⟩ := keeps_bindCell x st
    obtain ⟨b1, b2⟩ := keeps_bindCells r (st.bindCell x).2
    exact ⟨a1.trans b1, a2.trans b2⟩
end
theorem keeps_bind (x : X) (st : St) : Keeps st (st.bind x).2 ∧ Grown st (st.bind x).2 := by
  cases x with
  | row e xs => exact ⟨keeps_alloc _ _, grown_alloc _ _⟩
  | agg cs => exact keeps_bindCells cs st
  | ref ty cs =>
    obtain ⟨a1, a2⟩ := keeps_bindCells cs st
    exact ⟨a1.trans (keeps_alloc _ _), a2.trans (grown_alloc _ _)⟩
  | sref ty n sz cs =>
    obtain ⟨a1, a2⟩ := keeps_bindCells cs st
    exact ⟨a1.trans (keeps_alloc _ _), a2.trans (grown_alloc _ _)⟩
  | _ => exact ⟨.refl st, .refl st⟩
theorem keeps_bindAll : ∀ (l : List X) (st : St), Keeps st (st.bindAll l).2 ∧ Grown st (st.bindAll l).2
  | [], st => ⟨.refl st, .refl st⟩
  | x :: r, st => by
    obtain ⟨a1, a2⟩ := keeps_bind x st
    obtain ⟨b1, b2⟩ := keeps_bindAll r (st.bind x).2
    exact ⟨a1.trans b1, a2.trans b2⟩
theorem muts_nil {α : Type} : ∀ (l : List α), muts [] l = []
  | [] => rfl
  | x :: r => by simp only [muts, List.headD_nil, Bool.false_eq_true, if_false, List.tail_nil, muts_nil r]
theorem keeps_regain {st0 : St} {x : Option X} (h0 : WF st → WF st0) (hn : st0.n ≤ st.n) (h : st.regain st0 v x = some st1) : Keeps st st1 := by
  cases x with
  | none =>
    have : st.regain st0 v none = some st := by cases v <;> rfl
    rw [this] at h
    obtain rfl := Option.some.inj h
    exact .refl st
  | some x =>
    cases v with
    | row r =>
      cases x <;> try (simp [St.regain] at h; done)
      rename_i e xs
      simp only [St.regain] at h
      split at h
      · rename_i ho
        split at h
        · obtain rfl := Option.some.inj h
          refine keeps_setO st _ _ (fun w => .inl ?_)
          have := (h0 w).lt (i := r) (by rw [ho]; simp)
          omega
        · cases h
      · cases h
    | nil =>
      simp only [St.regain, Option.some.injEq] at h
      subst h; exact .refl st
    | ptr b off =>
      cases off with
      | succ n => cases x <;> simp [St.regain] at h
      | zero =>
        cases x <;> try (simp [St.regain] at h; done)
        rename_i ty xs
        simp only [St.regain] at h
        split at h
        · rename_i ho
          obtain rfl := Option.some.inj h
          have hk := (keeps_bindCells xs st).1
          refine ⟨hk.s, hk.N, fun w => ?_, hk.n⟩
          refine (keeps_setO (st.bindCells xs).2 b _ (fun _ => .inl ?_)).wf (hk.wf w)
          have := (h0 w).lt (i := b) (by rw [ho]; simp)
          have := hk.n
          omega
        · cases h
    | _ => cases x <;> simp [St.regain] at h
theorem keeps_regainAll {st0 : St} : ∀ {l : List SV} {xs : List (Option X)} {st st1 : St}, (WF st → WF st0) → st0.n ≤ st.n → WF st → st.regainAll st0 l xs = some st1 → Keeps st st1
  | [], [], st, st1, h0, hn, w, h => by
    simp only [St.regainAll, Option.some.injEq] at h
    subst h; exact .refl st
  | [], _ :: _, st, st1, h0, hn, w, h => by simp [St.regainAll] at h
  | _ :: _, [], st, st1, h0, hn, w, h => by simp [St.regainAll] at h
  | v :: r, x :: q, st, st1, h0, hn, w, h => by
    simp only [St.regainAll] at h
    split at h
    · rename_i st2 h1
      have k := keeps_regain h0 hn h1
      exact k.trans (keeps_regainAll (fun _ => h0 w) (Nat.le_trans hn k.n) (k.wf w) h)
    · cases h
theorem callMid_keeps {g : Nat} {b : Bool} {vs : List SV} (h : callMid E st g b vs = some st1) : Keeps st st1 := by
  unfold callMid at h
  split at h
  · obtain rfl := Option.some.inj h
    exact keeps_kill _ _
  · split at h
    · obtain rfl := Option.some.inj h
      exact (keeps_kill _ _).trans (keeps_freezeAll _ _)
    · split at h
      · obtain rfl := Option.some.inj h
        exact (keeps_kill _ _).trans (keeps_kill _ _)
      · cases h
theorem keeps_callBack {f : SV} {vs : List SV} {rs : List X} {bs : List (Option X)} (w : WF st) (h : callBack E st f vs rs bs = some (v, st1)) : Keeps st st1 := by
  unfold callBack at h
  split at h
  · split at h
    · cases h
    · rename_i st0 hm
      split at h
      · cases h
      · rename_i st2 hr
        simp only [Option.some.injEq, Prod.mk.injEq] at h
        obtain ⟨_, rfl⟩ := h
        have k := callMid_keeps hm
        exact (k.trans (keeps_regainAll (fun _ => w) k.n (k.wf w) hr)).trans (keeps_bindAll rs st2).1
  · split at h
    · cases h
    · rename_i st0 hm
      split at h
      · cases h
      · rename_i st2 hr
        simp only [Option.some.injEq, Prod.mk.injEq] at h
        obtain ⟨_, rfl⟩ := h
        have k := callMid_keeps hm
        exact (k.trans (keeps_regainAll (fun _ => w) k.n (k.wf w) hr)).trans (keeps_bindAll rs st2).1
  · cases h
theorem grown_callBack {g : Nat} {caps : List SV} {vs : List SV} {rs : List X} {bs : List (Option X)} (hm : (E.md g).isEmpty = true) (h : callBack E st (.fn g caps) vs rs bs = some (v, st1)) : Grown st st1 := by
  have hm' : E.md g = [] := by simpa using hm
  unfold callBack at h
  simp only [hm', muts_nil] at h
  split at h
  · cases h
  · rename_i st0 hmid
    split at h
    · cases h
    · rename_i st2 hr
      simp only [Option.some.injEq, Prod.mk.injEq] at h
      obtain ⟨_, rfl⟩ := h
      have h2 : st2 = st0 := by
        cases bs with
        | nil => simpa [St.regainAll, eq_comm] using hr
        | cons b bs => simp [St.regainAll] at hr
      subst h2
      refine Grown.trans ?_ (keeps_bindAll rs st2).2
      unfold callMid at hmid
      simp only [hm', muts_nil] at hmid
      have hk : kill (st.mutAll []) st = st := rfl
      rw [hk] at hmid
      split at hmid
      · obtain rfl := Option.some.inj hmid
        exact .refl st
      · split at hmid
        · obtain rfl := Option.some.inj hmid
          exact grown_freezeAll _ _
        · cases hmid

/-! ### Strict regions: what is built and what comes of calls is plain data -/
def St.opB (st : St) (E : Env) (b : Bool) (op : Op) : Option (SV × St) := match b with
  | false => st.op E op
  | true => st.opS E op
def callBackB (E : Env) (b : Bool) (st : St) (f : SV) (vs : List SV) (rs : List X) (bs : List (Option X)) : Option (SV × St) := match b with
  | false => callBack E st f vs rs bs
  | true => callBackS E st f vs rs bs
theorem opB_other {b : Bool} {op : Op} (h : ∀ t n ps, op ≠ .buildSlice t n ps) : st.opB E b op = st.op E op := by
  cases b with
  | false => rfl
  | true => cases op <;> first | rfl | exact absurd rfl (h _ _ _)
theorem keeps_opB {b : Bool} {op : Op} (h : st.opB E b op = some (v, st1)) : Keeps st st1 := by
  cases b with
  | false => exact keeps_op h
  | true =>
    by_cases hb : ∃ t n ps, op = .buildSlice t n ps
    · obtain ⟨t, n, ps, rfl⟩ := hb
      simp only [St.opB, St.opS] at h
      split at h
      · split at h
        · rename_i hab
          simp only [Option.some.injEq, Prod.mk.injEq] at h
          obtain ⟨_, rfl⟩ := h
          exact keeps_absorbAll hab
        · cases h
      · cases h
    · rw [opB_other (fun t n ps e => hb ⟨t, n, ps, e⟩)] at h
      exact keeps_op h
theorem keeps_dataBack {g : Nat} {as : List SV} {rs : List X} {bs : List (Option X)} (h : dataBack E st g as rs bs = some (v, st1)) : Keeps st st1 := by
  unfold dataBack at h
  split at h
  · cases h
  · rename_i hm
    split at h
    · simp only [Option.some.injEq, Prod.mk.injEq] at h
      obtain ⟨_, rfl⟩ := h
      exact callMid_keeps hm
    · cases h
theorem keeps_callBackB {b : Bool} {f : SV} {vs : List SV} {rs : List X} {bs : List (Option X)} (w : WF st) (h : callBackB E b st f vs rs bs = some (v, st1)) : Keeps st st1 := by
  cases b with
  | false => exact keeps_callBack w h
  | true =>
    simp only [callBackB] at h
    unfold callBackS at h
    split at h
    · split at h
      · exact keeps_dataBack h
      · exact keeps_callBack w h
    · split at h
      · exact keeps_dataBack h
      · exact keeps_callBack w h
    · cases h
theorem ss_opB {b : Bool} (op : Op) {s : Nat → SV} (h : ∀ i ∈ reads op, s i = st.s i) : (st.ss s).opB E b op = (st.opB E b op).map (onSt s) := by
  cases b with
  | false => exact ss_op E st op h
  | true =>
    by_cases hb : ∃ t n ps, op = .buildSlice t n ps
    · obtain ⟨t, n, ps, rfl⟩ := hb
      simp only [St.opB, St.opS, ss_valsP st (fun _ v => v) ps.toList h, ss_absorbAll]
      split
      · cases st.absorbAll _ <;> rfl
      · rfl
    · rw [opB_other (fun t n ps e => hb ⟨t, n, ps, e⟩), opB_other (fun t n ps e => hb ⟨t, n, ps, e⟩)]
      exact ss_op E st op h
theorem ss_dataBack (s : Nat → SV) (g : Nat) (as : List SV) (rs : List X) (bs : List (Option X)) : dataBack E (st.ss s) g as rs bs = (dataBack E st g as rs bs).map (onSt s) := by
  unfold dataBack
  rw [ss_callMid]
  cases callMid E st g (E.flat g) as with
  | none => rfl
  | some st0 => cases bs <;> rfl
theorem ss_callBackB {b : Bool} (s : Nat → SV) (f : SV) (vs : List SV) (rs : List X) (bs : List (Option X)) : callBackB E b (st.ss s) f vs rs bs = (callBackB E b st f vs rs bs).map (onSt s) := by
  cases b with
  | false => exact ss_callBack ..
  | true =>
    simp only [callBackB]
    cases f <;> try rfl
    · simp only [callBackS]
      split
      · exact ss_dataBack ..
      · exact ss_callBack ..
    · simp only [callBackS]
      split
      · exact ss_dataBack ..
      · exact ss_callBack ..
theorem callMid_grown {g : Nat} {b : Bool} {as : List SV} (hm : (E.md g).isEmpty = true) (h : callMid E st g b as = some st1) : Grown st st1 := by
  have hm' : E.md g = [] := by simpa using hm
  unfold callMid at h
  simp only [hm', muts_nil] at h
  have hk : kill (st.mutAll []) st = st := rfl
  rw [hk] at h
  split at h
  · obtain rfl := Option.some.inj h
    exact .refl st
  · split at h
    · obtain rfl := Option.some.inj h
      exact grown_freezeAll _ _
    · cases h
theorem grown_dataBack {g : Nat} {as : List SV} {rs : List X} {bs : List (Option X)} (hm : (E.md g).isEmpty = true) (h : dataBack E st g as rs bs = some (v, st1)) : Grown st st1 := by
  unfold dataBack at h
  split at h
  · cases h
  · rename_i hmid
    split at h
    · simp only [Option.some.injEq, Prod.mk.injEq] at h
      obtain ⟨_, rfl⟩ := h
      exact callMid_grown hm hmid
    · cases h
/-- What an operation does to a state: its value, and the state without it. -/
inductive Eff (E : Env) (b : Bool) (C : Nat → List X → List X → List (Option X) → Prop) (o : Oper) (st : St) : SV → St → Prop
  | op {v : SV} {st1 : St} (h : st.opB E b o.op = some (v, st1)) : Eff E b C o st v st1
  | call {v : SV} {st1 : St} {cl : Call} {f : Operand} {g : Nat} {xs rs : List X} {bs : List (Option X)} (ho : o.op = .call cl) (hc : cl.callee = .value f) (hp : callPrep E st (st.val f) (cl.args.toList.map st.val) = some (g, xs)) (hC : C g xs rs bs)
      (hb : callBackB E b st (st.val f) (cl.args.toList.map st.val) rs bs = some (v, st1)) : Eff E b C o st v st1
variable {b : Bool} {C : Nat → List X → List X → List (Option X) → Prop} {o : Oper}
theorem Eff.keeps (h : Eff E b C o st v st1) (w : WF st) : Keeps st st1 := by
  cases h with
  | op h => exact keeps_opB h
  | call _ _ _ _ hb => exact keeps_callBackB w hb
theorem Eff.ss (h : Eff E b C o st v st1) {s : Nat → SV} (hs : ∀ i ∈ reads o.op, s i = st.s i) : Eff E b C o (st.ss s) v (st1.ss s) := by
  cases h with
  | op h =>
    refine .op ?_
    rw [ss_opB o.op hs, h]; rfl
  | @call cl f g xs rs bs ho hc hp hC hb =>
    rw [ho] at hs
    simp only [reads, hc, List.mem_append] at hs
    have e1 := ss_val st f (fun i hi => hs i (.inl hi))
    have e2 := ss_vals st cl.args.toList (fun i hi => hs i (.inr hi))
    refine .call ho hc (g := g) (xs := xs) (rs := rs) (bs := bs) ?_ hC ?_
    · rw [e1, e2, ss_callPrep]; exact hp
    · rw [e1, e2, ss_callBackB, hb]; rfl
theorem grown_convert {a b : Nat} {x : SV} (h : st.convert E a b x = some (v, st1)) : Grown st st1 := by
  unfold St.convert at h
  split at h
  · simp only [Option.some.injEq, Prod.mk.injEq] at h; obtain ⟨_, rfl⟩ := h; exact .refl st
  · simp only [Option.some.injEq, Prod.mk.injEq] at h; obtain ⟨_, rfl⟩ := h; exact .refl st
  · split at h
    · split at h
      · simp only [Option.some.injEq, Prod.mk.injEq] at h; obtain ⟨_, rfl⟩ := h; exact grown_alloc _ _
      · cases h
    · cases h
  · split at h
    · split at h
      · simp only [Option.some.injEq, Prod.mk.injEq] at h; obtain ⟨_, rfl⟩ := h; exact .refl st
      · cases h
    · cases h
  · cases h
theorem Eff.grown (h : Eff E b C o st v st1) (hg : isGrow E o.op = true) : Grown st st1 := by
  cases h with
  | op h =>
    rw [opB_other (fun t n ps e => by rw [e] at hg; simp [isGrow] at hg)] at h
    cases hop : o.op <;> rw [hop] at hg h <;> simp only [isGrow] at hg <;> try contradiction
    · simp only [St.op] at h
      split at h
      · simp only [Option.some.injEq, Prod.mk.injEq] at h; obtain ⟨_, rfl⟩ := h; exact grown_alloc _ _
      · cases h
    · simp only [St.op] at h
      split at h
      · simp only [Option.some.injEq, Prod.mk.injEq] at h; obtain ⟨_, rfl⟩ := h; exact grown_alloc _ _
      · cases h
    · exact grown_convert h
    · simp only [St.op] at h
      split at h
      · split at h
        · split at h
          · split at h
            · split at h
              · simp only [Option.some.injEq, Prod.mk.injEq] at h; obtain ⟨_, rfl⟩ := h; exact grown_alloc _ _
              · split at h
                · simp only [Option.some.injEq, Prod.mk.injEq] at h; obtain ⟨_, rfl⟩ := h; exact .refl st
                · simp only [Option.some.injEq, Prod.mk.injEq] at h; obtain ⟨_, rfl⟩ := h; exact grown_alloc _ _
            · cases h
          · cases h
        · cases h
      · cases h
    · rename_i c
      simp only [St.op] at h
      split at hg
      · rename_i hc
        rw [hc] at h
        cases h
      · cases hg
  | @call cl f g xs rs bs ho hc hp hC hb =>
    rw [ho] at hg
    simp only [isGrow, hc] at hg
    cases f with
    | func g' =>
      have : st.val (.func g') = .fn g' [] := rfl
      rw [this] at hb
      have hm : (E.md g').isEmpty = true := by simpa using hg
      cases b with
      | false => exact grown_callBack hm hb
      | true =>
        simp only [callBackB, callBackS, hm, if_true] at hb
        exact grown_dataBack hm hb
    | _ => simp at hg

/-- The two may change places: the first stands ahead in the evaluator's order. -/
def disjointS (x y : Oper) : Bool :=
  (match x.dst with
    | none => true
    | some d => !(reads y.op).contains d && (y.dst != some d)) &&
  (match y.dst with
    | none => true
    | some d => !(reads x.op).contains d)
def isQuiet (E : Env) : Op → Bool
  | .call c => match c.callee with
    | .value (.func g) => (E.md g).isEmpty && E.flat g
    | _ => false
  | _ => false
def still (E : Env) (op : Op) : Bool := isReader E op || isQuiet E op
/-- Where it is strict: rows may be frozen, nothing else. -/
def isCalm (E : Env) : Op → Bool
  | .buildSlice .. => true
  | .call c => match c.callee with
    | .value (.func g) => (E.md g).isEmpty
    | _ => false
  | _ => false
def isAlloc : Op → Bool
  | .alloc _ => true
  | .box .. => true
  | _ => false
def mayPass (E : Env) (b : Bool) (x y : Oper) : Bool :=
  disjointS x y && (((still E x.op && (isPure E x.op || still E y.op || isGrow E y.op)) || isPure E y.op) || (b && (isCalm E x.op && isAlloc y.op)))
theorem val_reads {st st2 : St} (hN : st2.N = st.N) (x : Operand) (h : ∀ i ∈ reads1 x, st2.s i = st.s i) : st2.val x = st.val x := by
  cases x with
  | tmp i =>
    have := h i (by simp [reads1])
    simp only [St.val, this, hN]
  | _ => rfl
theorem lab_same {st st2 : St} {o : Oper} (hN : st2.N = st.N) (h : ∀ i ∈ reads o.op, st2.s i = st.s i) : labOf E st2 o = labOf E st o := by
  unfold labOf
  cases hop : o.op with
  | load t a =>
    rw [hop] at h
    simp only [val_reads hN a h]
  | store t a x =>
    rw [hop] at h
    simp only [reads, List.mem_append] at h
    simp only [val_reads hN a (fun i hi => h i (.inl hi)), val_reads hN x (fun i hi => h i (.inr hi))]
  | indexAddr t x i =>
    rw [hop] at h
    simp only [reads, List.mem_append] at h
    simp only [val_reads hN x (fun i hi => h i (.inl hi))]
  | buildSlice t n ps =>
    rw [hop] at h
    have e2 : (ps.toList.map fun p => st2.val p.2) = ps.toList.map fun p => st.val p.2 := List.map_congr_left (fun p hp => val_reads hN p.2 (fun i hi => h i (List.mem_flatten.2 ⟨_, List.mem_map.2 ⟨p, hp, rfl⟩, hi⟩)))
    simp only [e2]
  | call c =>
    rw [hop] at h
    cases hc : c.callee with
    | value f =>
      simp only [reads, hc, List.mem_append] at h
      have e1 := val_reads hN f (fun i hi => h i (.inl hi))
      have e2 : c.args.toList.map st2.val = c.args.toList.map st.val := List.map_congr_left (fun x hx => val_reads hN x (fun i hi => h i (.inr (List.mem_flatten.2 ⟨_, List.mem_map.2 ⟨x, hx, rfl⟩, hi⟩))))
      simp only [hc, e1, e2]
    | builtin b =>
      simp only [reads, hc] at h
      have e2 : c.args.toList.map st2.val = c.args.toList.map st.val := List.map_congr_left (fun x hx => val_reads hN x (fun i hi => h i (List.mem_flatten.2 ⟨_, List.mem_map.2 ⟨x, hx, rfl⟩, hi⟩)))
      simp only [hc, e2]; cases b <;> rfl
    | _ => simp only [hc]
  | slice t x lo hi mx =>
    rw [hop] at h
    simp only [reads, List.mem_append] at h
    simp only [val_reads hN x (fun i hi => h i (by simp [hi]))]
  | _ => rfl
/-- Boxes stay as they are. -/
def Kept (st st1 : St) : Prop := ∀ b ty cs, st.o b = .box ty cs → st1.o b = .box ty cs
theorem Kept.refl (st : St) : Kept st st := fun _ _ _ h => h
theorem Kept.trans {st st1 st2 : St} (h : Kept st st1) (k : Kept st1 st2) : Kept st st2 := fun b ty cs e => k b ty cs (h b ty cs e)
theorem kept_alloc {st : St} (w : WF st) (ob : Ob) : Kept st (st.alloc ob) := by
  intro b ty cs h
  have : b < st.n := w.lt (by rw [h]; simp)
  show upd st.o st.n ob b = _
  rw [upd_ne _ _ (by omega)]; exact h
theorem kept_setO {st : St} {i : Nat} {ob : Ob} (hn : ∀ ty cs, st.o i ≠ .box ty cs) : Kept st (st.setO i ob) := by
  intro b ty cs h
  show upd st.o i ob b = _
  have hne : b ≠ i := fun e => by subst e; exact hn ty cs h
  rw [upd_ne _ _ hne]; exact h
theorem kept_freeze (st : St) (r : Nat) : Kept st (st.freeze r) := by
  unfold St.freeze
  split
  · rename_i ho; exact kept_setO (fun ty cs e => by rw [ho] at e; cases e)
  · exact .refl st
theorem kept_absorb1 {t : T} (h : st.absorb1 v = some (t, st1)) : Kept st st1 := by
  unfold St.absorb1 at h
  split at h
  · cases h
  · split at h <;> simp only [Option.some.injEq, Prod.mk.injEq] at h <;> obtain ⟨_, rfl⟩ := h
    · exact kept_freeze st _
    · exact kept_freeze st _
    · exact .refl st
theorem kept_absorbL : ∀ {l : List SV} {st st1 : St} {ts : List T}, st.absorbL l = some (ts, st1) → Kept st st1
  | [], st, st1, ts, h => by
    simp only [St.absorbL, Option.some.injEq, Prod.mk.injEq] at h
    obtain ⟨_, rfl⟩ := h
    exact .refl st
  | s :: r, st, st1, ts, h => by
    unfold St.absorbL at h
    split at h
    · cases h
    · rename_i h1
      split at h
      · cases h
      · rename_i h2
        simp only [Option.some.injEq, Prod.mk.injEq] at h
        obtain ⟨_, rfl⟩ := h
        exact (kept_absorb1 h1).trans (kept_absorbL h2)
theorem kept_absorb {t : T} (h : st.absorb v = some (t, st1)) : Kept st st1 := by
  unfold St.absorb at h
  split at h
  · split at h
    · cases h
    · rename_i h1
      simp only [Option.some.injEq, Prod.mk.injEq] at h
      obtain ⟨_, rfl⟩ := h
      exact kept_absorbL h1
  · exact kept_absorb1 h
theorem kept_absorbAll : ∀ {l : List SV} {st st1 : St} {ts : List T}, st.absorbAll l = some (ts, st1) → Kept st st1
  | [], st, st1, ts, h => by
    simp only [St.absorbAll, Option.some.injEq, Prod.mk.injEq] at h
    obtain ⟨_, rfl⟩ := h
    exact .refl st
  | s :: r, st, st1, ts, h => by
    unfold St.absorbAll at h
    split at h
    · cases h
    · rename_i h1
      split at h
      · cases h
      · rename_i h2
        simp only [Option.some.injEq, Prod.mk.injEq] at h
        obtain ⟨_, rfl⟩ := h
        exact (kept_absorb h1).trans (kept_absorbAll h2)
theorem kept_base {e : Nat} {xs : List T} (h : st.base e v = some (xs, st1)) : Kept st st1 := by
  unfold St.base at h
  split at h
  · simp only [Option.some.injEq, Prod.mk.injEq] at h
    obtain ⟨_, rfl⟩ := h
    exact .refl st
  · split at h
    · rename_i ho
      split at h
      · simp only [Option.some.injEq, Prod.mk.injEq] at h
        obtain ⟨_, rfl⟩ := h
        exact kept_setO (fun ty cs e => by rw [ho] at e; cases e)
      · cases h
    · cases h
  · split at h
    · rename_i ho
      split at h
      · simp only [Option.some.injEq, Prod.mk.injEq] at h
        obtain ⟨_, rfl⟩ := h
        exact kept_setO (fun ty cs e => by rw [ho] at e; cases e)
      · cases h
    · cases h
  · cases h
theorem kept_builtin (w : WF st) {b : Builtin} {ts : List Nat} {vs : List SV} (h : st.builtin E b ts vs = some (v, st1)) : Kept st st1 := by
  unfold St.builtin at h
  split at h
  · simp only [Option.map_eq_some_iff, Prod.mk.injEq] at h; obtain ⟨_, _, _, rfl⟩ := h; exact .refl st
  · split at h
    · split at h
      · unfold St.appendIn at h
        split at h
        · split at h
          · rename_i ho
            split at h
            · simp only [Option.some.injEq, Prod.mk.injEq] at h
              obtain ⟨_, rfl⟩ := h
              exact kept_setO (fun ty cs e => by rw [ho] at e; cases e)
            · cases h
          · cases h
        · cases h
      · cases h
    · unfold St.append at h
      split at h
      · split at h
        · rename_i h2
          split at h
          · simp only [Option.some.injEq, Prod.mk.injEq] at h
            obtain ⟨_, rfl⟩ := h
            exact (kept_base h2).trans (kept_alloc ((keeps_base h2).wf w) _)
          · cases h
        · cases h
      · cases h
  · split at h
    · simp only [Option.map_eq_some_iff, Prod.mk.injEq] at h
      obtain ⟨_, h1, _, rfl⟩ := h
      unfold St.clearAt at h1
      split at h1
      · obtain rfl := Option.some.inj h1; exact .refl st
      · split at h1
        · rename_i ho
          split at h1
          · split at h1
            · split at h1
              · obtain rfl := Option.some.inj h1
                exact kept_setO (fun ty cs e => by rw [ho] at e; cases e)
              · cases h1
            · cases h1
          · cases h1
        · cases h1
      · cases h1
    · cases h
  · simp only [Option.map_eq_some_iff, Prod.mk.injEq] at h; obtain ⟨_, _, _, rfl⟩ := h; exact .refl st
  · simp only [Option.map_eq_some_iff, Prod.mk.injEq] at h; obtain ⟨_, _, _, rfl⟩ := h; exact .refl st
  · cases h
theorem kept_freezeAll : ∀ (ids : List Nat) (st : St), Kept st (freezeAll ids st)
  | [], st => .refl st
  | i :: l, st => (kept_freeze st i).trans (kept_freezeAll l _)
mutual
theorem kept_bindCell : ∀ (x : X) {st : St}, WF st → Kept st (st.bindCell x).2
  | .sref ty n sz cs, st, w => by
    simp only [St.bindCell]
    exact (kept_bindCells cs w).trans (kept_alloc ((keeps_bindCells cs st).1.wf w) _)
  | .row e xs, st, w => by simp only [St.bindCell]; exact kept_alloc w _
  | .t t, st, w => by simp only [St.bindCell]; exact .refl st
  | .nil, st, w => by simp only [St.bindCell]; exact .refl st
  | .agg cs, st, w => by simp only [St.bindCell]; exact .refl st
  | .ref ty cs, st, w => by simp only [St.bindCell]; exact .refl st
  | .dref cs, st, w => by simp only [St.bindCell]; exact .refl st
  | .fn g cs, st, w => by simp only [St.bindCell]; exact .refl st
  | .meth g cs, st, w => by simp only [St.bindCell]; exact .refl st
theorem kept_bindCells : ∀ (l : List X) {st : St}, WF st → Kept st (st.bindCells l).2
  | [], st, w => by simp only [St.bindCells]; exact .refl st
  | x :: r, st, w => by
    simp only [St.bindCells]
    exact (kept_bindCell x w).trans (kept_bindCells r ((keeps_bindCell x st).1.wf w))
end
theorem kept_bind (x : X) {st : St} (w : WF st) : Kept st (st.bind x).2 := by
  cases x with
  | row e xs => exact kept_alloc w _
  | agg cs => exact kept_bindCells cs w
  | ref ty cs => exact (kept_bindCells cs w).trans (kept_alloc ((keeps_bindCells cs st).1.wf w) _)
  | sref ty n sz cs => exact (kept_bindCells cs w).trans (kept_alloc ((keeps_bindCells cs st).1.wf w) _)
  | _ => exact .refl st
theorem kept_bindAll : ∀ (l : List X) {st : St}, WF st → Kept st (st.bindAll l).2
  | [], st, w => .refl st
  | x :: r, st, w => (kept_bind x w).trans (kept_bindAll r ((keeps_bind x st).1.wf w))
/-- One box stays. -/
def KeptB (b : Nat) (st st1 : St) : Prop := ∀ ty cs, st.o b = .box ty cs → st1.o b = .box ty cs
theorem Kept.at (h : Kept st st1) (b : Nat) : KeptB b st st1 := h b
theorem KeptB.trans {b : Nat} {st st1 st2 : St} (h : KeptB b st st1) (k : KeptB b st1 st2) : KeptB b st st2 := fun ty cs e => k ty cs (h ty cs e)
theorem keptB_kill {b : Nat} : ∀ (ids : List Nat) (st : St), b ∉ ids → KeptB b st (kill ids st)
  | [], st, _ => fun _ _ h => h
  | i :: l, st, h => by
    have hne : b ≠ i := fun e => h (by simp [e])
    have h1 : KeptB b st (st.setO i .dead) := fun ty cs e => by
      show upd st.o i _ b = _
      rw [upd_ne _ _ hne]
      exact e
    exact h1.trans (keptB_kill l _ (fun hm => h (List.mem_cons_of_mem _ hm)))
theorem kept_regain {b0 : Nat} {st0 : St} {x : Option X} (w : WF st) (hk : KeptB b0 st0 st) (hp : b0 ∉ ptrIds [v]) (h : st.regain st0 v x = some st1) : KeptB b0 st0 st1 := by
  cases x with
  | none =>
    have : st.regain st0 v none = some st := by cases v <;> rfl
    rw [this] at h
    obtain rfl := Option.some.inj h
    exact hk
  | some x =>
    cases v with
    | row r =>
      cases x <;> try (simp [St.regain] at h; done)
      simp only [St.regain] at h
      split at h
      · rename_i ho
        split at h
        · obtain rfl := Option.some.inj h
          intro ty cs e
          have hne : b0 ≠ r := fun hbr => by subst hbr; rw [ho] at e; cases e
          show upd st.o r _ b0 = _
          rw [upd_ne _ _ hne]
          exact hk ty cs e
        · cases h
      · cases h
    | nil =>
      simp only [St.regain, Option.some.injEq] at h
      subst h; exact hk
    | ptr b off =>
      have hne : b0 ≠ b := fun e => hp (by simp [ptrIds, e])
      cases off with
      | succ n => cases x <;> simp [St.regain] at h
      | zero =>
        cases x <;> try (simp [St.regain] at h; done)
        simp only [St.regain] at h
        split at h
        · obtain rfl := Option.some.inj h
          intro ty cs e
          show upd _ b _ b0 = _
          rw [upd_ne _ _ hne]
          exact (kept_bindCells _ w) _ _ _ (hk ty cs e)
        · cases h
    | _ => cases x <;> simp [St.regain] at h
theorem ptrIds_cons {v : SV} {r : List SV} {b : Nat} (h : b ∉ ptrIds (v :: r)) : b ∉ ptrIds [v] ∧ b ∉ ptrIds r := by
  cases v <;> simp_all [ptrIds]
theorem kept_regainAll {b0 : Nat} {st0 : St} : ∀ {l : List SV} {xs : List (Option X)} {st st1 : St}, (WF st → WF st0) → st0.n ≤ st.n → WF st → KeptB b0 st0 st → b0 ∉ ptrIds l → st.regainAll st0 l xs = some st1 → KeptB b0 st0 st1
  | [], [], st, st1, h0, hn, w, hk, hp, h => by
    simp only [St.regainAll, Option.some.injEq] at h
    subst h; exact hk
  | [], _ :: _, st, st1, h0, hn, w, hk, hp, h => by simp [St.regainAll] at h
  | _ :: _, [], st, st1, h0, hn, w, hk, hp, h => by simp [St.regainAll] at h
  | v :: r, x :: q, st, st1, h0, hn, w, hk, hp, h => by
    simp only [St.regainAll] at h
    obtain ⟨p1, p2⟩ := ptrIds_cons hp
    split at h
    · rename_i st2 h1
      have k := keeps_regain h0 hn h1
      exact kept_regainAll (fun _ => h0 w) (Nat.le_trans hn k.n) (k.wf w) (kept_regain w hk p1 h1) p2 h
    · cases h
theorem liveIds_row : ∀ {l : List SV} {i : Nat}, (∀ v ∈ l, v.isSl = false) → i ∈ liveIds st l → ∃ e xs b, st.o i = .row e xs b
  | [], i, _, h => by cases h
  | v :: r, i, hn, h => by
    have hn' : ∀ v ∈ r, v.isSl = false := fun v hv => hn v (List.mem_cons_of_mem _ hv)
    cases v with
    | row k =>
      simp only [liveIds] at h
      split at h
      · rename_i ho
        rcases List.mem_cons.1 h with rfl | h
        · exact ⟨_, _, _, ho⟩
        · exact liveIds_row hn' h
      · exact liveIds_row hn' h
    | sl b n sz =>
      have := hn (.sl b n sz) (by simp)
      simp [SV.isSl] at this
    | _ => exact liveIds_row hn' (by simpa only [liveIds] using h)
theorem give0_noSl : ∀ {l : List SV} {xs : List X}, st.giveCells0 l = some xs → ∀ v ∈ l, v.isSl = false
  | [], xs, h, v, hv => by cases hv
  | a :: r, xs, h, v, hv => by
    unfold St.giveCells0 at h
    split at h
    · rename_i x ys h1 h2
      rcases List.mem_cons.1 hv with rfl | hv
      · cases v <;> first | rfl | cases h1
      · exact give0_noSl h2 v hv
    · cases h
theorem give_muts : ∀ {m : List Bool} {l : List SV} {xs : List X}, st.give m l = some xs → ∀ v ∈ muts m l, ∃ x, st.giveMut v = some x
  | m, [], xs, h, v, hv => by cases m <;> cases hv
  | m, v :: r, xs, h, u, hu => by
    simp only [St.give] at h
    split at h
    · rename_i h1 h2
      simp only [muts] at hu
      split at hu
      · rename_i hm
        rw [if_pos hm] at h1
        rcases List.mem_cons.1 hu with rfl | hu
        · exact ⟨_, h1⟩
        · exact give_muts h2 u hu
      · exact give_muts h2 u hu
    · cases h
theorem mut_ptr {b : Nat} {ty : Nat} {cs : List SV} (hb : st.o b = .box ty cs) : ∀ {l : List SV} {xs : List X} {m : List Bool}, st.give m l = some xs → b ∉ ptrIds (muts m l) ∧ (muts m l).any SV.hasSl = false → b ∉ st.mutAll (muts m l) := by
  intro l xs m h hpp hi
  have hp : b ∉ ptrIds (muts m l) := hpp.1
  have hsl : ∀ v ∈ muts m l, v.hasSl = false := fun v hv => by simpa using List.any_eq_false.1 hpp.2 v hv
  unfold St.mutAll at hi
  obtain ⟨q, hq, hi⟩ := List.mem_flatten.1 hi
  obtain ⟨v, hv, rfl⟩ := List.mem_map.1 hq
  have hpv : ∀ {l : List SV} {v : SV}, v ∈ l → b ∉ ptrIds l → b ∉ ptrIds [v] := by
    intro l
    induction l with
    | nil => intro v hv; cases hv
    | cons a r ih =>
      intro v hv h
      obtain ⟨p1, p2⟩ := ptrIds_cons h
      rcases List.mem_cons.1 hv with rfl | hv
      · exact p1
      · exact ih hv p2
  have hpv' := hpv hv hp
  cases v with
  | row r =>
    simp only [St.mutIds, List.mem_singleton] at hi
    subst hi
    obtain ⟨x, hx⟩ := give_muts h _ hv
    simp only [St.giveMut, hb] at hx
    cases hx
  | ptr c off =>
    have hne : b ≠ c := fun e => hpv' (by simp [ptrIds, e])
    obtain ⟨x, hx⟩ := give_muts h _ hv
    simp only [St.mutIds] at hi
    split at hi
    · rename_i ty' cells' hoc
      rcases List.mem_cons.1 hi with e | hi
      · exact hne e
      · have hns : ∀ v ∈ cells', v.isSl = false := by
          cases off with
          | succ n => simp [St.giveMut] at hx
          | zero =>
            simp only [St.giveMut, hoc, Option.map_eq_some_iff] at hx
            obtain ⟨ys, h1, _⟩ := hx
            exact give0_noSl h1
        obtain ⟨_, _, _, ho⟩ := liveIds_row hns hi
        rw [hb] at ho; cases ho
    · exact hne (by simpa using hi)
  | agg cs =>
    have hns : ∀ v ∈ cs, v.isSl = false := fun v hv' => by
      have := hsl _ hv
      simp only [SV.hasSl] at this
      simpa using List.any_eq_false.1 this v hv'
    obtain ⟨_, _, _, ho⟩ := liveIds_row hns hi
    rw [hb] at ho; cases ho
  | sl c n sz =>
    have := hsl _ hv
    simp [SV.hasSl] at this
  | _ => simp [St.mutIds] at hi
theorem kept_call {b : Nat} {g : Nat} {as : List SV} {xs rs : List X} {bs : List (Option X)} (w : WF st) (hg : st.give (E.md g) as = some xs) (hpp : b ∉ ptrIds (muts (E.md g) as) ∧ (muts (E.md g) as).any SV.hasSl = false) (hkl : E.md (g + 3000000) = []) (h : (match callMid E st g (ownB E g rs bs) as with
      | none => none
      | some st0 => match st0.regainAll st (muts (E.md g) as) bs with
        | none => none
        | some st1 => some (tupOf (st1.bindAll rs).1, (st1.bindAll rs).2)) = some (v, st1)) : KeptB b st st1 := by
  intro ty cs hb
  have hrows := mut_ptr hb hg hpp
  have hp : b ∉ ptrIds (muts (E.md g) as) := hpp.1
  split at h
  · cases h
  · rename_i st0 hm
    have k0 : KeptB b st st0 := by
      have kk : KeptB b st (kill (st.mutAll (muts (E.md g) as)) st) := keptB_kill _ _ hrows
      unfold callMid at hm
      split at hm
      · obtain rfl := Option.some.inj hm; exact kk
      · split at hm
        · obtain rfl := Option.some.inj hm; exact kk.trans ((kept_freezeAll _ _).at b)
        · rw [hkl] at hm
          split at hm
          · rename_i h2; cases h2
          · cases hm
    have w0 : WF st0 := (callMid_keeps hm).wf w
    split at h
    · cases h
    · rename_i st2 hr
      simp only [Option.some.injEq, Prod.mk.injEq] at h
      obtain ⟨_, rfl⟩ := h
      have k := callMid_keeps hm
      exact ((kept_regainAll (fun _ => w) k.n w0 k0 hp hr).trans ((kept_bindAll rs ((keeps_regainAll (fun _ => w) k.n (k.wf w) hr).wf (k.wf w))).at b)) ty cs hb
theorem kept_dataBack {g : Nat} {as : List SV} {rs : List X} {bs : List (Option X)} (hm : (E.md g).isEmpty = true) (h : dataBack E st g as rs bs = some (v, st1)) : Kept st st1 := by
  have hm' : E.md g = [] := by simpa using hm
  unfold dataBack at h
  split at h
  · cases h
  · rename_i st0 hmid
    split at h
    · simp only [Option.some.injEq, Prod.mk.injEq] at h
      obtain ⟨_, rfl⟩ := h
      unfold callMid at hmid
      simp only [hm', muts_nil] at hmid
      have hk : kill (st.mutAll []) st = st := rfl
      rw [hk] at hmid
      split at hmid
      · obtain rfl := Option.some.inj hmid; exact .refl st
      · split at hmid
        · obtain rfl := Option.some.inj hmid; exact kept_freezeAll _ _
        · cases hmid
    · cases h
/-- A label of what keeps a box. -/
def Keepy (b : Nat) : Lab → Prop
  | .kp => True
  | .nw _ => True
  | .cl l => b ∉ l
  | _ => False
/-- What keeps a box, by its label. -/
theorem Eff.kept {b : Nat} (h : Eff E true C o st v st1) (w : WF st) (hk : Keepy b (labOf E st o)) : KeptB b st st1 := by
  cases h with
  | op h =>
    unfold labOf at hk
    cases hop : o.op <;> rw [hop] at hk h <;> simp only at hk
    all_goals first
      | (exact hk.elim; done)
      | (split at hk <;> exact hk.elim; done)
      | (unfold lookLab at hk; split at hk <;> exact hk.elim; done)
      | (simp only [St.opB, St.opS] at h
         split at h
         · split at h
           · rename_i hab
             simp only [Option.some.injEq, Prod.mk.injEq] at h
             obtain ⟨_, rfl⟩ := h
             exact (kept_absorbAll hab).at b
           · cases h
         · cases h
         done)
      | (simp only [St.opB, St.opS, St.op] at h
         split at h
         · exact (kept_builtin w h).at b
         · cases h)
  | @call cl f g xs rs bs ho hc hp hC hb =>
    have hs : (b ∉ ptrIds (fnMuts E (st.val f) (cl.args.toList.map st.val)) ∧ (fnMuts E (st.val f) (cl.args.toList.map st.val)).any SV.hasSl = false) ∧ fnKill E (st.val f) = false := by
      unfold labOf at hk
      simp only [ho, hc] at hk
      split at hk
      · exact hk.elim
      · rename_i hns
        have hns' := eq_false_of_ne_true hns
        rw [Bool.or_eq_false_iff] at hns'
        exact ⟨⟨hk, hns'.1⟩, hns'.2⟩
    simp only [callBackB] at hb
    unfold callPrep at hp
    unfold callBackS at hb
    split at hp
    · rename_i g' caps hf
      simp only [hf] at hb
      simp only [fnMuts, fnKill, hf] at hs
      split at hp
      · simp only [Option.map_eq_some_iff, Prod.mk.injEq] at hp
        obtain ⟨xs', hg, rfl, rfl⟩ := hp
        split at hb
        · rename_i hm; exact (kept_dataBack hm hb).at b
        · exact kept_call w hg hs.1 (by simpa using hs.2) hb
      · cases hp
    · rename_i g' ts hf
      simp only [hf] at hb
      simp only [fnMuts, fnKill, hf] at hs
      split at hp
      · simp only [Option.map_eq_some_iff, Prod.mk.injEq] at hp
        obtain ⟨xs', hg, rfl, rfl⟩ := hp
        split at hb
        · rename_i hm; exact (kept_dataBack hm hb).at b
        · exact kept_call w hg hs.1 (by simpa using hs.2) hb
      · cases hp
    · cases hp
theorem load_kept {t : Nat} {a : Operand} {st2 : St} {b' o' : Nat} (hs : st2.s = st.s) (hN : st2.N = st.N) (hv : st.val a = .ptr b' o') (hob : ∀ ty cs, st.o b' = .box ty cs → ∃ cs', st2.o b' = .box ty cs' ∧ cs'.length = cs.length ∧ (cs'.drop o').take (E.ty t).size = (cs.drop o').take (E.ty t).size) (h : st.op E (.load t a) = some (v, st)) : st2.op E (.load t a) = some (v, st2) := by
  simp only [St.op, val_same hs hN, Option.map_eq_some_iff, Prod.mk.injEq] at h ⊢
  obtain ⟨r, h1, rfl, _⟩ := h
  refine ⟨r, ?_, rfl, trivial⟩
  unfold St.loadAt at h1 ⊢
  split at h1
  · cases h1
  · rename_i hkn
    rw [if_neg hkn]
    rw [hv] at h1 ⊢
    simp only at h1 ⊢
    split at h1
    · rename_i ho
      obtain ⟨cs', e1, e2, e3⟩ := hob _ _ ho
      rw [e1]
      simp only [e2, e3]
      exact h1
    · cases h1
theorem splice_part {α : Type} (xs ys : List α) (o o' n : Nat) (hl : o' + ys.length ≤ xs.length) (h : o + n ≤ o' ∨ o' + ys.length ≤ o) : (splice xs o' ys).length = xs.length ∧ ((splice xs o' ys).drop o).take n = (xs.drop o).take n := by
  have hlen : (splice xs o' ys).length = xs.length := by simp [splice]; omega
  refine ⟨hlen, ?_⟩
  apply List.ext_getElem?
  intro i
  rw [List.getElem?_take, List.getElem?_take]
  split
  · rename_i hi
    rw [List.getElem?_drop, List.getElem?_drop]
    unfold splice
    rcases h with h | h
    · rw [List.append_assoc, List.getElem?_append_left (by simp; omega), List.getElem?_take]
      rw [if_pos (by omega)]
    · rw [List.getElem?_append_right (by simp; omega)]
      rw [List.getElem?_drop]
      congr 1
      simp
      omega
  · rfl
/-- A load, and a store behind it to another place. -/
theorem load_store {t t' : Nat} {a a' x' : Operand} {st2 : St} {u : SV} {b1 o1 b2 o2 : Nat} (hs : st2.s = st.s) (hN : st2.N = st.N) (hv : st.val a = .ptr b1 o1) (hv' : st.val a' = .ptr b2 o2) (hd : b1 ≠ b2 ∨ o1 + (E.ty t).size ≤ o2 ∨ o2 + (st.val x').cells.length ≤ o1)
    (hst : st.op E (.store t' a' x') = some (u, st2)) (h : st.op E (.load t a) = some (v, st)) : st2.op E (.load t a) = some (v, st2) := by
  refine load_kept hs hN hv (fun ty cs ho => ?_) h
  simp only [St.op, Option.map_eq_some_iff, Prod.mk.injEq] at hst
  obtain ⟨q, h1, _, rfl⟩ := hst
  rw [hv'] at h1
  unfold St.storeAt at h1
  simp only at h1
  split at h1
  · split at h1
    · rename_i ty' cells ho'
      split at h1
      · rename_i hle
        obtain rfl := Option.some.inj h1
        by_cases hb : b1 = b2
        · subst hb
          rw [ho] at ho'
          injection ho' with e1 e2
          subst e1; subst e2
          have hsp := splice_part cs (st.val x').cells o1 o2 (E.ty t).size hle (by rcases hd with h | h | h; exact absurd rfl h; exact .inl h; exact .inr h)
          exact ⟨_, upd_self _ _ _, hsp.1, hsp.2⟩
        · exact ⟨cs, (upd_ne _ _ hb).trans ho, rfl, rfl⟩
      · cases h1
    · cases h1
  · cases h1
theorem plain1_absorb {s : SV} {t : T} (h : s.plain1 = some t) (st : St) : st.absorb1 s = some (t, st) := by
  cases s with
  | t x =>
    simp only [SV.plain1] at h
    split at h
    · rename_i ho
      obtain rfl := Option.some.inj h
      simp [St.absorb1, St.peek1, ho]
    · cases h
  | nil =>
    simp only [SV.plain1, Option.some.injEq] at h
    subst h
    rfl
  | _ => cases h
theorem plainL_absorb : ∀ {l : List SV} {ts : List T}, SV.plainL l = some ts → ∀ st : St, st.absorbL l = some (ts, st)
  | [], ts, h, st => by simp only [SV.plainL, Option.some.injEq] at h; subst h; rfl
  | s :: r, ts, h, st => by
    simp only [SV.plainL] at h
    split at h
    · rename_i h1 h2
      obtain rfl := Option.some.inj h
      simp only [St.absorbL, plain1_absorb h1, plainL_absorb h2]
    · cases h
theorem plain_absorb {s : SV} {t : T} (h : s.plain = some t) (st : St) : st.absorb s = some (t, st) := by
  unfold SV.plain at h
  unfold St.absorb
  split at h
  · simp only [Option.map_eq_some_iff] at h
    obtain ⟨ts, h1, rfl⟩ := h
    simp only [plainL_absorb h1]
  · rename_i hn
    cases s <;> first | exact plain1_absorb h st | exact absurd rfl (hn _)
theorem plains_absorb : ∀ {l : List SV} {ts : List T}, SV.plains l = some ts → ∀ st : St, st.absorbAll l = some (ts, st)
  | [], ts, h, st => by simp only [SV.plains, Option.some.injEq] at h; subst h; rfl
  | s :: r, ts, h, st => by
    simp only [SV.plains] at h
    split at h
    · rename_i h1 h2
      obtain rfl := Option.some.inj h
      simp only [St.absorbAll, plain_absorb h1, plains_absorb h2]
    · cases h
/-- What depends on its slots alone, and changes nothing. -/
theorem neutral (h : Eff E true C o st v st1) (hl : labOf E st o = .pu) : st1 = st ∧ ∀ st2 : St, st2.s = st.s → st2.N = st.N → Eff E true C o st2 v st2 := by
  unfold labOf at hl
  cases h with
  | op h =>
    cases hop : o.op <;> rw [hop] at hl h <;> simp only at hl <;> try (cases hl; done)
    · rename_i t n ps
      simp only [St.opB, St.opS] at h
      split at hl
      · rename_i ts hts
        rw [plains_absorb hts] at h
        split at h
        · rename_i hc
          simp only [Option.some.injEq, Prod.mk.injEq] at h
          obtain ⟨rfl, rfl⟩ := h
          refine ⟨rfl, fun st2 hs hN => .op ?_⟩
          have e2 : (ps.toList.map fun p => st2.val p.2) = ps.toList.map fun p => st.val p.2 := List.map_congr_left (fun p _ => val_same hs hN p.2)
          rw [hop]
          simp only [St.opB, St.opS, e2]
          rw [if_pos hc, plains_absorb hts]
        · cases h
      · cases hl
    · rename_i t a
      have hh : st.op E (.load t a) = some (v, st1) := h
      have hsm := reader_same (E := E) (op := .load t a) rfl hh
      subst hsm
      refine ⟨rfl, fun st2 hs hN => .op ?_⟩
      rw [hop]
      show st2.op E (.load t a) = _
      simp only [St.op, Option.map_eq_some_iff, Prod.mk.injEq, val_same hs hN] at hh ⊢
      obtain ⟨r, h1, rfl, _⟩ := hh
      refine ⟨r, ?_, rfl, trivial⟩
      split at hl
      · cases hl
      · rename_i cs hv
        rw [hv] at h1 ⊢
        exact h1
      · cases hl
    · split at hl <;> cases hl
    · unfold lookLab at hl; split at hl <;> cases hl
    · rename_i t x i
      have hh : st.op E (.indexAddr t x i) = some (v, st1) := h
      have hsm := reader_same (E := E) (op := .indexAddr t x i) rfl hh
      subst hsm
      refine ⟨rfl, fun st2 hs hN => .op ?_⟩
      rw [hop]
      show st2.op E (.indexAddr t x i) = _
      simp only [St.op, Option.map_eq_some_iff, Prod.mk.injEq, val_same hs hN] at hh ⊢
      obtain ⟨r, h1, rfl, _⟩ := hh
      refine ⟨r, ?_, rfl, trivial⟩
      split at hl
      · rename_i y hv
        rw [hv] at h1 ⊢
        rw [← h1]
        simp only [St.indexAt]
        unfold St.indexAt0
        split
        · cases asNat (st1.val i) with
          | none => rfl
          | some i => cases y <;> rfl
        · rfl
      · cases hl
    · split at hl <;> first | (cases hl; done) | (split at hl <;> cases hl; done) | (unfold appLab at hl; split at hl <;> cases hl)
  | call ho hc hp hC hb =>
    rw [ho] at hl
    simp only [hc] at hl
    split at hl <;> cases hl
theorem put_ss (st : St) (d : Option Nat) (v : SV) : st.put d v = st.ss (st.put d v).s := by cases d <;> rfl
theorem put_off {d : Option Nat} {v : SV} {i : Nat} (h : d ≠ some i) : (st.put d v).s i = st.s i := by
  cases d with
  | none => rfl
  | some d => exact upd_ne _ _ (fun e => h (by rw [e]))
theorem put_comm {a b : Option Nat} {u : SV} (h : ∀ d, a = some d → b ≠ some d) : ((st.put a v).put b u) = ((st.put b u).put a v) := by
  cases a with
  | none => rfl
  | some a =>
    cases b with
    | none => rfl
    | some b =>
      have hab : b ≠ a := fun e => h a rfl (by rw [e])
      simp only [St.put]
      congr 1
      funext j
      simp only [upd]
      by_cases h1 : j = a <;> by_cases h2 : j = b <;> simp [h1, h2]
      · subst h1; exact absurd h2.symm hab
      · intro e; exact absurd e.symm hab
      · intro e; exact absurd e hab
end
section
variable {E : Env} {C : Nat → List X → List X → List (Option X) → Prop}

/-- One operation, done. -/
def StepE (E : Env) (b : Bool) (C : Nat → List X → List X → List (Option X) → Prop) (o : Oper) (st st' : St) : Prop :=
  dstOk st o = true ∧ ∃ v st1, Eff E b C o st v st1 ∧ st' = st1.put o.dst v
theorem disj_x {x y : Oper} (h : disjointS x y = true) : (∀ d, x.dst = some d → d ∉ reads y.op ∧ y.dst ≠ some d) ∧ ∀ d, y.dst = some d → d ∉ reads x.op := by
  unfold disjointS at h
  rw [Bool.and_eq_true] at h
  obtain ⟨h1, h2⟩ := h
  constructor
  · intro d hd
    rw [hd] at h1
    simp only [Bool.and_eq_true, Bool.not_eq_true', bne_iff_ne, ne_eq] at h1
    exact ⟨by simpa using h1.1, h1.2⟩
  · intro d hd
    rw [hd] at h2
    simpa using h2
theorem put_reads {st : St} {d : Option Nat} {v : SV} {op : Op} (h : ∀ e, d = some e → e ∉ reads op) : ∀ i ∈ reads op, (st.put d v).s i = st.s i :=
  fun i hi => put_off (fun e => h i e hi)
theorem put_st (st : St) (d : Option Nat) (v : SV) : (st.put d v).N = st.N ∧ (st.put d v).n = st.n ∧ (st.put d v).o = st.o := by cases d <;> exact ⟨rfl, rfl, rfl⟩
theorem dstOk_N {st st1 : St} {o : Oper} (h : st1.N = st.N) : dstOk st1 o = dstOk st o := by
  unfold dstOk
  cases o.dst <;> simp [h]
theorem bindCell_quiet {x : X} (h : x.quiet = true) (st : St) : (st.bindCell x).2 = st ∧ ∀ st2 : St, (st2.bindCell x).1 = (st.bindCell x).1 := by
  cases x <;> simp [X.quiet] at h <;> exact ⟨by simp only [St.bindCell], fun _ => by simp only [St.bindCell]⟩
theorem bindCells_quiet : ∀ {l : List X}, X.quiets l = true → ∀ (st : St), (st.bindCells l).2 = st ∧ ∀ st2 : St, (st2.bindCells l).1 = (st.bindCells l).1
  | [], _, st => ⟨by simp only [St.bindCells], fun _ => by simp only [St.bindCells]⟩
  | x :: r, h, st => by
    simp only [X.quiets, Bool.and_eq_true] at h
    obtain ⟨a1, a2⟩ := bindCell_quiet h.1 st
    have b := fun st => bindCells_quiet h.2 st
    refine ⟨?_, fun st2 => ?_⟩
    · simp only [St.bindCells, a1, (b st).1]
    · simp only [St.bindCells, a1, a2 st2]
      obtain ⟨a3, _⟩ := bindCell_quiet h.1 st2
      rw [a3, (b st).2 st2]
theorem bind_quiet {x : X} (h : x.quiet = true) (st : St) : (st.bind x).2 = st ∧ ∀ st2 : St, (st2.bind x).1 = (st.bind x).1 := by
  cases x with
  | t t => exact ⟨rfl, fun _ => rfl⟩
  | nil => exact ⟨rfl, fun _ => rfl⟩
  | agg cs =>
    obtain ⟨a1, a2⟩ := bindCells_quiet (by simpa [X.quiet] using h) st
    exact ⟨a1, fun st2 => by simp only [St.bind, a2 st2]⟩
  | _ => simp [X.quiet] at h
theorem bindAll_quiet : ∀ {l : List X}, X.quiets l = true → ∀ (st : St), (st.bindAll l).2 = st ∧ ∀ st2 : St, (st2.bindAll l).1 = (st.bindAll l).1
  | [], _, st => ⟨rfl, fun _ => rfl⟩
  | x :: r, h, st => by
    simp only [X.quiets, Bool.and_eq_true] at h
    obtain ⟨a1, a2⟩ := bind_quiet h.1 st
    have b := fun st => bindAll_quiet h.2 st
    refine ⟨?_, fun st2 => ?_⟩
    · simp only [St.bindAll, a1, (b st).1]
    · simp only [St.bindAll, a1, a2 st2]
      obtain ⟨a3, _⟩ := bind_quiet h.1 st2
      rw [a3, (b st).2 st2]
theorem go_grown {st st2 : St} (hw : WF st) (hg : Grown st st2) : ∀ {l : List SV} {xs : List (List T)}, St.giveRo.go st l = some xs → St.giveRo.go st2 l = some xs
  | [], xs, h => h
  | v :: r, xs, h => by
    cases v with
    | ptr b off =>
      cases off with
      | zero =>
        simp only [St.giveRo.go] at h ⊢
        split at h
        · rename_i ho
          rw [hg.box hw ho]
          split at h
          · rename_i hp
            simp only [peekL_grown hg hw hp]
            simp only [Option.map_eq_some_iff] at h ⊢
            obtain ⟨ys, h1, h2⟩ := h
            exact ⟨ys, go_grown hw hg h1, h2⟩
          · cases h
        · cases h
      | succ n => simp [St.giveRo.go] at h
    | dptr cs =>
      simp only [St.giveRo.go, Option.map_eq_some_iff] at h ⊢
      obtain ⟨ys, h1, h2⟩ := h
      exact ⟨ys, go_grown hw hg h1, h2⟩
    | _ => simp [St.giveRo.go] at h
theorem peek1F_grown {st st2 : St} (hw : WF st) (hg : Grown st st2) : ∀ (f : Nat) {v : SV} {t : T}, st.peek1F f v = some t → st2.peek1F f v = some t := by
  intro f
  induction f with
  | zero => intro v t h; exact peek1_grown hg hw h
  | succ f ih =>
    intro v t h
    have hall : ∀ {l : List SV} {ts : List T}, allW (st.peek1F f) l = some ts → allW (st2.peek1F f) l = some ts := by
      intro l
      induction l with
      | nil => intro ts h; exact h
      | cons a r ihl =>
        intro ts h
        simp only [allW] at h ⊢
        split at h
        · cases h
        · rename_i x hx
          rw [ih hx]
          split at h
          · cases h
          · rename_i xs hxs
            simp only [ihl hxs]
            exact h
    cases v <;> try (exact peek1_grown hg hw h)
    simp only [St.peek1F] at h ⊢
    split at h
    · rename_i ho
      rw [hg.box hw ho]
      split at h
      · rename_i hc
        simp only [if_pos hc]
        simp only [Option.map_eq_some_iff] at h ⊢
        obtain ⟨ts, h1, h2⟩ := h
        exact ⟨ts, hall h1, h2⟩
      · cases h
    · cases h
theorem allW_mono {α β : Type} {g g' : α → Option β} (hg : ∀ a b, g a = some b → g' a = some b) : ∀ {l : List α} {ts : List β}, allW g l = some ts → allW g' l = some ts
  | [], ts, h => h
  | a :: r, ts, h => by
    simp only [allW] at h ⊢
    split at h
    · cases h
    · rename_i x hx
      rw [hg a x hx]
      split at h
      · cases h
      · rename_i xs hxs
        simp only [allW_mono hg hxs]
        exact h
theorem peekX_grown {st st2 : St} (hw : WF st) (hg : Grown st st2) {v : SV} {t : T} (h : st.peekX v = some t) : st2.peekX v = some t := by
  unfold St.peekX at h ⊢
  split at h
  · simp only [Option.map_eq_some_iff] at h ⊢
    obtain ⟨ts, h1, h2⟩ := h
    exact ⟨ts, allW_mono (fun _ _ h => peek1F_grown hw hg 6 h) h1, h2⟩
  · exact peek1F_grown hw hg 6 h
theorem peek1F_of {st : St} {v : SV} {t : T} (h : st.peek1 v = some t) : st.peek1F 6 v = some t := by
  cases v <;> first | exact h | cases h
theorem peekX_of {st : St} {v : SV} {t : T} (h : st.peek v = some t) : st.peekX v = some t := by
  have hl : ∀ {l : List SV} {ts : List T}, st.peekL l = some ts → allW (st.peek1F 6) l = some ts := by
    intro l
    induction l with
    | nil => intro ts h; exact h
    | cons a r ih =>
      intro ts h
      simp only [St.peekL] at h
      simp only [allW]
      split at h
      · cases h
      · rename_i x hx
        rw [peek1F_of hx]
        split at h
        · cases h
        · rename_i xs hxs
          simp only [ih hxs]
          exact h
  cases v with
  | agg cs =>
    simp only [St.peek] at h
    simp only [St.peekX]
    split at h
    · cases h
    · rename_i ts hts
      rw [hl hts]
      exact h
  | _ => exact peek1F_of h
/-- What is looked at, in one word. -/
theorem look_iff {st : St} {v : SV} {x : X} : st.lookX v = some x ↔ ∃ t, st.peekX v = some t ∧ x = .t t := by
  unfold St.lookX
  constructor
  · intro h
    split at h
    · rename_i t ht
      obtain rfl := Option.some.inj h
      exact ⟨t, peekX_of ht, rfl⟩
    · simp only [Option.map_eq_some_iff] at h
      obtain ⟨t, h1, h2⟩ := h
      exact ⟨t, h1, h2.symm⟩
  · rintro ⟨t, h1, rfl⟩
    split
    · rename_i t' ht
      rw [peekX_of ht] at h1
      rw [Option.some.inj h1]
    · rw [h1]; rfl
theorem sl1F_grown {st st2 : St} (hw : WF st) (hg : Grown st st2) : ∀ (f : Nat) {v : SV} {t : T}, st.peek1F f v = some t → st2.sl1F f v = st.sl1F f v := by
  intro f
  induction f with
  | zero => intro v t h; cases v <;> rfl
  | succ f ih =>
    intro v t h
    cases v <;> try rfl
    simp only [St.peek1F] at h
    simp only [St.sl1F]
    split at h
    · rename_i ty cells ho
      simp only [ho, hg.box hw ho]
      split at h
      · simp only [Option.map_eq_some_iff] at h
        obtain ⟨ts, h1, _⟩ := h
        congr 2
        refine List.map_congr_left (fun s hs => ?_)
        have : ∀ {l : List SV} {ts : List T}, allW (st.peek1F f) l = some ts → ∀ s ∈ l, ∃ t, st.peek1F f s = some t := by
          intro l
          induction l with
          | nil => intro ts _ s hs; cases hs
          | cons a r ihl =>
            intro ts h s hs
            simp only [allW] at h
            split at h
            · cases h
            · rename_i x hx
              split at h
              · cases h
              · rename_i xs hxs
                rcases List.mem_cons.1 hs with rfl | hs
                · exact ⟨_, hx⟩
                · exact ihl hxs s hs
        obtain ⟨t', ht'⟩ := this h1 s hs
        exact ih ht'
      · cases h
    · cases h
theorem slIds_grown {st st2 : St} (hw : WF st) (hg : Grown st st2) : ∀ {l : List SV} {ts : List T}, allW (st.peek1F 6) l = some ts → st2.slIds l = st.slIds l
  | [], ts, h => rfl
  | v :: r, ts, h => by
    simp only [allW] at h
    split at h
    · cases h
    · rename_i x hx
      split at h
      · cases h
      · rename_i xs hxs
        have ih := slIds_grown hw hg hxs
        cases v <;> simp only [St.slIds, ih]
        rw [sl1F_grown hw hg 6 hx]
theorem lookIds_grown {st st2 : St} (hw : WF st) (hg : Grown st st2) {v : SV} {t : T} (h : st.peekX v = some t) : st2.slIds v.cells = st.slIds v.cells := by
  have hone : ∀ {v : SV}, (∃ t, st.peek1F 6 v = some t) → st2.slIds [v] = st.slIds [v] := by
    rintro v ⟨t, h⟩
    exact slIds_grown hw hg (l := [v]) (ts := [t]) (by simp only [allW, h])
  cases v with
  | agg cs =>
    simp only [St.peekX, Option.map_eq_some_iff] at h
    obtain ⟨ts, h1, _⟩ := h
    exact slIds_grown hw hg h1
  | _ => exact hone ⟨_, h⟩
theorem giveRo_grown {st st2 : St} (hw : WF st) (hg : Grown st st2) {v : SV} {x : X} (h : st.giveRo v = some x) : st2.giveRo v = some x := by
  cases v with
  | fn g caps =>
    simp only [St.giveRo, Option.map_eq_some_iff] at h ⊢
    obtain ⟨ys, h1, h2⟩ := h
    exact ⟨ys, go_grown hw hg h1, h2⟩
  | ptr b off =>
    simp only [St.giveRo] at h ⊢
    split at h
    · rename_i ho
      rw [hg.box hw ho]
      simp only [Option.map_eq_some_iff] at h ⊢
      obtain ⟨ys, h1, h2⟩ := h
      exact ⟨ys, peekL_grown hg hw h1, h2⟩
    · cases h
  | eptr r i off =>
    simp only [St.giveRo] at h ⊢
    split at h
    · rename_i ho
      obtain ⟨l', h1⟩ := hg.row hw ho
      rw [h1]; exact h
    · cases h
  | dptr cs => exact h
  | meth g first => exact h
  | _ =>
    simp only [St.giveRo] at h ⊢
    obtain ⟨t, h1, h2⟩ := look_iff.1 h
    exact look_iff.2 ⟨t, peekX_grown hw hg h1, h2⟩
theorem give_grown {st st2 : St} (hw : WF st) (hg : Grown st st2) : ∀ {l : List SV} {xs : List X}, st.give [] l = some xs → st2.give [] l = some xs
  | [], xs, h => h
  | v :: r, xs, h => by
    simp only [St.give, List.headD_nil, Bool.false_eq_true, if_false, List.tail_nil] at h ⊢
    split at h
    · rename_i h1 h2
      simp only [giveRo_grown hw hg h1, give_grown hw hg h2]
      exact h
    · cases h
/-- What a call tells of its results where the callee is flat. -/
def Tells (E : Env) (C : Nat → List X → List X → List (Option X) → Prop) : Prop := ∀ g xs rs bs, C g xs rs bs → E.flat g = true → X.quiets rs = true
theorem quiet_back {st st1 : St} {v : SV} {g : Nat} {caps vs : List SV} {rs : List X} {bs : List (Option X)} (hm : (E.md g).isEmpty = true) (hf : E.flat g = true) (hq : X.quiets rs = true) (h : callBack E st (.fn g caps) vs rs bs = some (v, st1)) : st1 = st ∧ ∀ st2, callBack E st2 (.fn g caps) vs rs bs = some (v, st2) := by
  have hm' : E.md g = [] := by simpa using hm
  have hk : ∀ st : St, kill (st.mutAll []) st = st := fun _ => rfl
  have hmid : ∀ st : St, callMid E st g (ownB E g rs bs) (vs ++ caps) = some st := by
    intro st
    have ho : ownB E g rs bs = true := by unfold ownB; rw [if_pos hf]
    unfold callMid
    simp only [ho, hm', muts_nil, hk]
  unfold callBack at h
  simp only [hmid, hm', muts_nil] at h
  split at h
  · cases h
  · rename_i st2 hr
    cases bs with
    | cons b bs => simp [St.regainAll] at hr
    | nil =>
      simp only [St.regainAll, Option.some.injEq] at hr
      subst hr
      obtain ⟨b1, b2⟩ := bindAll_quiet hq st
      simp only [Option.some.injEq, Prod.mk.injEq] at h
      obtain ⟨rfl, rfl⟩ := h
      refine ⟨b1, fun st2 => ?_⟩
      unfold callBack
      simp only [hmid, hm', muts_nil, St.regainAll, b2 st2, (bindAll_quiet hq st2).1]
theorem flat_data {st st1 : St} {v : SV} {g : Nat} {as : List SV} {rs : List X} {bs : List (Option X)} (hm : (E.md g).isEmpty = true) (hf : E.flat g = true) (h : dataBack E st g as rs bs = some (v, st1)) : st1 = st ∧ ∀ st2 : St, dataBack E st2 g as rs bs = some (v, st2) := by
  have hm' : E.md g = [] := by simpa using hm
  have hk : ∀ st : St, kill (st.mutAll []) st = st := fun _ => rfl
  have hmid : ∀ st : St, callMid E st g (E.flat g) as = some st := by
    intro st
    unfold callMid
    simp only [hf, hm', muts_nil, hk]
  unfold dataBack at h ⊢
  simp only [hmid] at h ⊢
  split at h
  · simp only [Option.some.injEq, Prod.mk.injEq] at h
    obtain ⟨rfl, rfl⟩ := h
    exact ⟨rfl, fun _ => rfl⟩
  · cases h
theorem still_same {b : Bool} {o : Oper} {st st1 : St} {v : SV} (hT : Tells E C) (hs : still E o.op = true) (h : Eff E b C o st v st1) : st1 = st := by
  unfold still at hs
  rw [Bool.or_eq_true] at hs
  cases h with
  | op h =>
    rcases hs with hs | hs
    · rw [opB_other (fun t n ps e => by rw [e] at hs; simp [isReader] at hs)] at h
      exact reader_same hs h
    · rw [opB_other (fun t n ps e => by rw [e] at hs; simp [isQuiet] at hs)] at h
      cases ho : o.op <;> rw [ho] at hs h <;> simp only [isQuiet] at hs <;> try contradiction
      rename_i c
      simp only [St.op] at h
      split at hs
      · rename_i hc
        rw [hc] at h
        cases h
      · cases hs
  | @call cl f g xs rs bs ho hc hp hC hb =>
    rcases hs with hs | hs
    · rw [ho] at hs; simp [isReader, hc] at hs
    · rw [ho] at hs
      simp only [isQuiet, hc] at hs
      cases f with
      | func g' =>
        have hv : st.val (.func g') = .fn g' [] := rfl
        rw [hv] at hb hp
        simp only [Bool.and_eq_true] at hs
        have hgg : g = g' := by
          unfold callPrep at hp
          simp only at hp
          split at hp
          · simp only [Option.map_eq_some_iff, Prod.mk.injEq] at hp
            obtain ⟨_, _, e, _⟩ := hp
            exact e.symm
          · cases hp
        subst hgg
        cases b with
        | false => exact (quiet_back hs.1 hs.2 (hT _ _ _ _ hC hs.2) hb).1
        | true =>
          simp only [callBackB, callBackS, hs.1, if_true] at hb
          exact (flat_data hs.1 hs.2 hb).1
      | _ => simp at hs
theorem still_grown {b : Bool} {o : Oper} {st st2 : St} {v : SV} (hT : Tells E C) (hs : still E o.op = true) (w : WF st) (hg : Grown st st2) (h1 : st2.s = st.s) (h2 : st2.N = st.N) (h : Eff E b C o st v st) : Eff E b C o st2 v st2 := by
  have hs0 := hs
  unfold still at hs
  rw [Bool.or_eq_true] at hs
  cases h with
  | op h =>
    rcases hs with hs | hs
    · have hne : ∀ t n ps, o.op ≠ .buildSlice t n ps := fun t n ps e => by rw [e] at hs; simp [isReader] at hs
      rw [opB_other hne] at h
      exact .op (by rw [opB_other hne]; exact reader_grown hs w hg h1 h2 h)
    · rw [opB_other (fun t n ps e => by rw [e] at hs; simp [isQuiet] at hs)] at h
      cases ho : o.op <;> rw [ho] at hs h <;> simp only [isQuiet] at hs <;> try contradiction
      rename_i c
      simp only [St.op] at h
      split at hs
      · rename_i hc
        rw [hc] at h
        cases h
      · cases hs
  | @call cl f g xs rs bs ho hc hp hC hb =>
    rcases hs with hs | hs
    · rw [ho] at hs; simp [isReader, hc] at hs
    · rw [ho] at hs
      simp only [isQuiet, hc] at hs
      cases f with
      | func g' =>
        have hv : ∀ st : St, st.val (.func g') = .fn g' [] := fun _ => rfl
        rw [hv] at hb hp
        simp only [Bool.and_eq_true] at hs
        have hm' : E.md g' = [] := by simpa using hs.1
        unfold callPrep at hp
        simp only [hm', muts_nil] at hp
        split at hp
        · simp only [Option.map_eq_some_iff, Prod.mk.injEq] at hp
          obtain ⟨xs', hx, rfl, rfl⟩ := hp
          have hvs : cl.args.toList.map st2.val = cl.args.toList.map st.val := List.map_congr_left (fun x _ => val_same h1 h2 x)
          refine .call ho hc (g := g') (xs := xs') (rs := rs) (bs := bs) ?_ hC ?_
          · rw [hv, hvs]
            unfold callPrep
            simp only [hm', muts_nil, give_grown w hg hx]
            rw [if_pos ⟨by simp [St.mutAll], fun i _ => by simp [St.mutAll]⟩]
            rfl
          · rw [hv, hvs]
            cases b with
            | false => exact (quiet_back hs.1 hs.2 (hT _ _ _ _ hC hs.2) hb).2 st2
            | true =>
              simp only [callBackB, callBackS, hs.1, if_true] at hb ⊢
              exact (flat_data hs.1 hs.2 hb).2 st2
        · cases hp
      | _ => simp at hs
/-! ### What freezes rows alone, and what is allocated -/
theorem freeze_alloc {st : St} {r : Nat} (ob : Ob) (hr : r < st.n) : (st.alloc ob).freeze r = (st.freeze r).alloc ob := by
  have ho : (st.alloc ob).o r = st.o r := upd_ne _ _ (by omega)
  unfold St.freeze
  rw [ho]
  cases hor : st.o r with
  | row e xs l =>
    simp only [St.setO, St.alloc]
    congr 1
    funext i
    simp only [upd]
    by_cases h1 : i = r
    · subst h1
      have : i ≠ st.n := by omega
      simp [this]
    · by_cases h2 : i = st.n
      · subst h2
        simp [h1]
      · simp [h1, h2]
  | _ => rfl
theorem freeze_n (st : St) (r : Nat) : (st.freeze r).n = st.n := by
  unfold St.freeze; split <;> rfl
theorem freezeAll_alloc : ∀ {ids : List Nat} {st : St} (ob : Ob), (∀ r ∈ ids, r < st.n) → freezeAll ids (st.alloc ob) = (freezeAll ids st).alloc ob
  | [], st, ob, h => rfl
  | r :: l, st, ob, h => by
    show freezeAll l ((st.alloc ob).freeze r) = (freezeAll l (st.freeze r)).alloc ob
    rw [freeze_alloc ob (h r (by simp))]
    exact freezeAll_alloc ob (fun q hq => by rw [freeze_n]; exact h q (by simp [hq]))
theorem freezeAll_n : ∀ (ids : List Nat) (st : St), (freezeAll ids st).n = st.n
  | [], st => rfl
  | r :: l, st => by
    show (freezeAll l (st.freeze r)).n = st.n
    rw [freezeAll_n l, freeze_n]
theorem roIds_grown {st st2 : St} (hw : WF st) (hg : Grown st st2) {v : SV} {x : X} (h : st.giveRo v = some x) : st2.roIds v = st.roIds v := by
  have hgo : ∀ {l : List SV} {xs : List (List T)}, St.giveRo.go st l = some xs → st2.capIds l = st.capIds l := by
    intro l
    induction l with
    | nil => intro xs _; rfl
    | cons s r ih =>
      intro xs h
      cases s with
      | ptr b off =>
        cases off with
        | succ n => simp [St.giveRo.go] at h
        | zero =>
          simp only [St.giveRo.go] at h
          split at h
          · rename_i ho
            split at h
            · simp only [Option.map_eq_some_iff] at h
              obtain ⟨ys, h1, _⟩ := h
              simp only [St.capIds, ho, hg.box hw ho, ih h1]
            · cases h
          · cases h
      | dptr cs =>
        simp only [St.giveRo.go, Option.map_eq_some_iff] at h
        obtain ⟨ys, h1, _⟩ := h
        simp only [St.capIds, ih h1]
      | _ => simp [St.giveRo.go] at h
  cases v with
  | fn g caps =>
    simp only [St.giveRo, Option.map_eq_some_iff] at h
    obtain ⟨ys, h1, _⟩ := h
    simp only [St.roIds, hgo h1]
  | ptr b off =>
    simp only [St.giveRo] at h
    split at h
    · rename_i ho
      simp only [St.roIds, St.capIds, ho, hg.box hw ho]
    · cases h
  | eptr r i off => rfl
  | dptr cs => rfl
  | meth g first => rfl
  | _ =>
    simp only [St.giveRo] at h
    obtain ⟨t, h1, _⟩ := look_iff.1 h
    simp only [St.roIds, lookIds_grown hw hg h1]
theorem roAll_grown {st st2 : St} (hw : WF st) (hg : Grown st st2) : ∀ {l : List SV} {xs : List X}, st.give [] l = some xs → st2.roAll l = st.roAll l
  | [], xs, h => rfl
  | v :: r, xs, h => by
    simp only [St.give, List.headD_nil, Bool.false_eq_true, if_false, List.tail_nil] at h
    split at h
    · rename_i h1 h2
      have ih := roAll_grown hw hg h2
      simp only [St.roAll, List.map_cons, List.flatten_cons] at ih ⊢
      rw [roIds_grown hw hg h1, ih]
    · cases h
theorem ros_nil {α : Type} : ∀ (l : List α), ros [] l = l
  | [] => rfl
  | x :: r => by simp only [ros, List.headD_nil, Bool.false_eq_true, if_false, List.tail_nil, ros_nil r]
theorem rowAt_lt {st : St} (hw : WF st) {r : Nat} (h : st.rowAt r = true) : r < st.n := by
  refine hw.lt (fun e => ?_)
  simp [St.rowAt, e] at h
theorem rowAt_alloc {st : St} {ob : Ob} {r : Nat} (hr : r < st.n) : (st.alloc ob).rowAt r = st.rowAt r := by
  have ho : (st.alloc ob).o r = st.o r := upd_ne _ _ (by omega)
  simp only [St.rowAt, ho]
theorem data_alloc {st st1 : St} {v : SV} {g : Nat} {as : List SV} {xs rs : List X} {bs : List (Option X)} (hw : WF st) (ob : Ob) (hm : (E.md g).isEmpty = true) (hg : st.give [] as = some xs) (h : dataBack E st g as rs bs = some (v, st1)) : st1.n = st.n ∧ dataBack E (st.alloc ob) g as rs bs = some (v, st1.alloc ob) := by
  have hm' : E.md g = [] := by simpa using hm
  have hk : ∀ st : St, kill (st.mutAll []) st = st := fun _ => rfl
  have hro : (st.alloc ob).roAll as = st.roAll as := roAll_grown hw (grown_alloc st ob) hg
  unfold dataBack at h ⊢
  unfold callMid at h ⊢
  simp only [hm', muts_nil, ros_nil, hk, hro] at h ⊢
  cases hfl : E.flat g with
  | true =>
    simp only [hfl] at h ⊢
    split at h
    · simp only [Option.some.injEq, Prod.mk.injEq] at h
      obtain ⟨rfl, rfl⟩ := h
      exact ⟨rfl, rfl⟩
    · cases h
  | false =>
    simp only [hfl] at h ⊢
    by_cases hall : (st.roAll as).all st.rowAt = true
    · rw [if_pos hall] at h
      have hlt : ∀ r ∈ st.roAll as, r < st.n := fun r hr => rowAt_lt hw (List.all_eq_true.1 hall r hr)
      have hall2 : (st.roAll as).all (st.alloc ob).rowAt = true := by
        rw [List.all_eq_true] at hall ⊢
        intro r hr
        rw [rowAt_alloc (hlt r hr)]
        exact hall r hr
      rw [if_pos hall2, freezeAll_alloc ob hlt]
      simp only at h ⊢
      split at h
      · simp only [Option.some.injEq, Prod.mk.injEq] at h
        obtain ⟨rfl, rfl⟩ := h
        exact ⟨freezeAll_n _ _, rfl⟩
      · cases h
    · rw [if_neg hall] at h
      cases h
theorem absorb1_alloc {st st1 : St} (hw : WF st) (ob : Ob) {s : SV} {t : T} (h : st.absorb1 s = some (t, st1)) : st1.n = st.n ∧ (st.alloc ob).absorb1 s = some (t, st1.alloc ob) := by
  have hpk : ∀ t, st.peek1 s = some t → (st.alloc ob).peek1 s = some t := fun t h => peek1_grown (grown_alloc st ob) hw h
  unfold St.absorb1 at h ⊢
  split at h
  · cases h
  · rename_i t0 hp
    rw [hpk t0 hp]
    simp only
    have hrow : ∀ r lo hi, (s = .row r ∨ s = .view r lo hi) → r < st.n := by
      intro r lo hi hs
      refine hw.lt (fun e => ?_)
      rcases hs with rfl | rfl <;> simp [St.peek1, e] at hp
    split at h
    · rename_i r
      simp only [Option.some.injEq, Prod.mk.injEq] at h
      obtain ⟨rfl, rfl⟩ := h
      refine ⟨freeze_n _ _, ?_⟩
      simp only [freeze_alloc ob (hrow r 0 0 (.inl rfl))]
    · rename_i r lo hi
      simp only [Option.some.injEq, Prod.mk.injEq] at h
      obtain ⟨rfl, rfl⟩ := h
      refine ⟨freeze_n _ _, ?_⟩
      simp only [freeze_alloc ob (hrow r lo hi (.inr rfl))]
    · rename_i hn1 hn2
      simp only [Option.some.injEq, Prod.mk.injEq] at h
      obtain ⟨rfl, rfl⟩ := h
      refine ⟨rfl, ?_⟩
      cases s <;> first | rfl | exact absurd rfl (hn1 _) | exact absurd rfl (hn2 _ _ _)
theorem absorbL_alloc (ob : Ob) : ∀ {l : List SV} {st st1 : St} {ts : List T}, WF st → st.absorbL l = some (ts, st1) → st1.n = st.n ∧ (st.alloc ob).absorbL l = some (ts, st1.alloc ob)
  | [], st, st1, ts, hw, h => by
    simp only [St.absorbL, Option.some.injEq, Prod.mk.injEq] at h
    obtain ⟨rfl, rfl⟩ := h
    exact ⟨rfl, rfl⟩
  | s :: r, st, st1, ts, hw, h => by
    unfold St.absorbL at h
    split at h
    · cases h
    · rename_i t st2 h1
      split at h
      · cases h
      · rename_i ts' st3 h2
        simp only [Option.some.injEq, Prod.mk.injEq] at h
        obtain ⟨rfl, rfl⟩ := h
        obtain ⟨a1, a2⟩ := absorb1_alloc hw ob h1
        obtain ⟨b1, b2⟩ := absorbL_alloc ob ((keeps_absorb1 h1).wf hw) h2
        refine ⟨b1.trans a1, ?_⟩
        unfold St.absorbL
        simp only [a2, b2]
theorem absorb_alloc {st st1 : St} (hw : WF st) (ob : Ob) {s : SV} {t : T} (h : st.absorb s = some (t, st1)) : st1.n = st.n ∧ (st.alloc ob).absorb s = some (t, st1.alloc ob) := by
  unfold St.absorb at h ⊢
  split at h
  · split at h
    · cases h
    · rename_i h1
      simp only [Option.some.injEq, Prod.mk.injEq] at h
      obtain ⟨rfl, rfl⟩ := h
      obtain ⟨a1, a2⟩ := absorbL_alloc ob hw h1
      simp only [a2]
      exact ⟨a1, trivial⟩
  · rename_i hn
    obtain ⟨a1, a2⟩ := absorb1_alloc hw ob h
    cases s <;> first | exact ⟨a1, a2⟩ | exact absurd rfl (hn _)
theorem absorbAll_alloc (ob : Ob) : ∀ {l : List SV} {st st1 : St} {ts : List T}, WF st → st.absorbAll l = some (ts, st1) → st1.n = st.n ∧ (st.alloc ob).absorbAll l = some (ts, st1.alloc ob)
  | [], st, st1, ts, hw, h => by
    simp only [St.absorbAll, Option.some.injEq, Prod.mk.injEq] at h
    obtain ⟨rfl, rfl⟩ := h
    exact ⟨rfl, rfl⟩
  | s :: r, st, st1, ts, hw, h => by
    unfold St.absorbAll at h
    split at h
    · cases h
    · rename_i t st2 h1
      split at h
      · cases h
      · rename_i ts' st3 h2
        simp only [Option.some.injEq, Prod.mk.injEq] at h
        obtain ⟨rfl, rfl⟩ := h
        obtain ⟨a1, a2⟩ := absorb_alloc hw ob h1
        obtain ⟨b1, b2⟩ := absorbAll_alloc ob ((keeps_absorb h1).wf hw) h2
        refine ⟨b1.trans a1, ?_⟩
        unfold St.absorbAll
        simp only [a2, b2]
/-- What is calm goes the same way from a state with one object more. -/
theorem calm_alloc {o : Oper} {st st1 : St} {v : SV} (hc : isCalm E o.op = true) (w : WF st) (ob : Ob) (h : Eff E true C o st v st1) : st1.n = st.n ∧ Eff E true C o (st.alloc ob) v (st1.alloc ob) := by
  have hvv : ∀ x, (st.alloc ob).val x = st.val x := fun x => val_same rfl rfl x
  cases h with
  | op h =>
    cases ho : o.op <;> rw [ho] at hc h <;> simp only [isCalm] at hc <;> try contradiction
    · rename_i t n ps
      simp only [St.opB, St.opS] at h
      split at h
      · rename_i hcond
        split at h
        · rename_i ts st2 hab
          simp only [Option.some.injEq, Prod.mk.injEq] at h
          obtain ⟨rfl, rfl⟩ := h
          obtain ⟨a1, a2⟩ := absorbAll_alloc ob w hab
          refine ⟨a1, .op ?_⟩
          have e2 : (ps.toList.map fun p => (st.alloc ob).val p.2) = ps.toList.map fun p => st.val p.2 := List.map_congr_left (fun p _ => hvv p.2)
          rw [ho]
          simp only [St.opB, St.opS, e2]
          rw [if_pos hcond, a2]
        · cases h
      · cases h
    · rename_i c
      simp only [St.opB, St.opS, St.op] at h
      split at hc
      · rename_i hcc
        rw [hcc] at h
        cases h
      · cases hc
  | @call cl f g xs rs bs ho hcl hp hC hb =>
    rw [ho] at hc
    simp only [isCalm, hcl] at hc
    cases f with
    | func g' =>
      have hm : (E.md g').isEmpty = true := by simpa using hc
      have hm' : E.md g' = [] := by simpa using hm
      have hv : ∀ st : St, st.val (.func g') = .fn g' [] := fun _ => rfl
      rw [hv] at hb hp
      unfold callPrep at hp
      simp only [hm', muts_nil] at hp
      split at hp
      · simp only [Option.map_eq_some_iff, Prod.mk.injEq] at hp
        obtain ⟨xs', hx, rfl, rfl⟩ := hp
        simp only [callBackB, callBackS, hm, if_true] at hb
        have hx' : st.give [] (cl.args.toList.map st.val ++ []) = some xs' := hx
        obtain ⟨a1, a2⟩ := data_alloc w ob hm hx' hb
        have hvs : cl.args.toList.map (st.alloc ob).val = cl.args.toList.map st.val := List.map_congr_left (fun x _ => hvv x)
        refine ⟨a1, .call ho hcl (g := g') (xs := xs') (rs := rs) (bs := bs) ?_ hC ?_⟩
        · rw [hv, hvs]
          unfold callPrep
          simp only [hm', muts_nil, give_grown w (grown_alloc st ob) hx]
          rw [if_pos ⟨by simp [St.mutAll], fun i _ => by simp [St.mutAll]⟩]
          rfl
        · rw [hv, hvs]
          simp only [callBackB, callBackS, hm, if_true]
          exact a2
      · cases hp
    | _ => simp at hc
section
variable {b : Bool} {x y : Oper} {st s1 s2 : St}
theorem swap_s {x y : Oper} {b1 a1 : St} {u v : SV} (w : WF a1) (ey : Eff E b C y (a1.put x.dst v) u b1) : b1 = (b1.ss a1.s).put x.dst v := by
  have hs : b1.s = (a1.put x.dst v).s := (ey.keeps (by intro i hi; rw [(put_st a1 x.dst v).2.2]; rw [(put_st a1 x.dst v).2.1] at hi; exact w i hi)).s
  cases hxd : x.dst with
  | none =>
    rw [hxd] at hs
    show b1 = b1.ss a1.s
    have hs' : b1.s = a1.s := hs
    rw [← hs']; rfl
  | some d =>
    rw [hxd] at hs
    have hs' : b1.s = upd a1.s d v := hs
    show b1 = { (b1.ss a1.s) with s := upd a1.s d v }
    rw [← hs']; rfl
/-- The first changes nothing, and finds behind the second what it found ahead of it. -/
theorem swap_x {v u : SV} {b1 : St} (hd : disjointS x y = true) (w : WF st) (dx : dstOk st x = true) (ex : Eff E b C x st v st) (dy : dstOk st y = true) (ey : Eff E b C y (st.put x.dst v) u b1)
    (hin : ∀ q, q.s = st.s → q.N = st.N → Eff E b C y st u q → Eff E b C x q v q) : ∃ t1, StepE E b C y st t1 ∧ StepE E b C x t1 (b1.put y.dst u) := by
  obtain ⟨hd1, hd2⟩ := disj_x hd
  have hcomm : ∀ (q : St), ((q.put y.dst u).put x.dst v) = ((q.put x.dst v).put y.dst u) := fun q => (put_comm (fun d hd => (hd1 d hd).2)).symm
  have ey' := ey.ss (s := st.s) (fun i hi => ((put_reads (st := st) (d := x.dst) (v := v) (op := y.op) (fun e he => (hd1 e he).1)) i hi).symm)
  have h0 : (st.put x.dst v).ss st.s = st := by cases x.dst <;> rfl
  rw [h0] at ey'
  have ky := ey'.keeps w
  refine ⟨(b1.ss st.s).put y.dst u, ⟨dy, u, _, ey', rfl⟩, ?_, v, (b1.ss st.s).put y.dst u, ?_, ?_⟩
  · rw [dstOk_N ((put_st _ _ _).1.trans ky.N)]; exact dx
  · have hh : Eff E b C x (b1.ss st.s) v (b1.ss st.s) := hin (b1.ss st.s) rfl ky.N ey'
    have := hh.ss (s := ((b1.ss st.s).put y.dst u).s) (put_reads hd2)
    rw [← put_ss] at this
    exact this
  · rw [hcomm, ← swap_s w ey]
/-- The second changes nothing, and needs nothing of the first. -/
theorem swap_y {v u : SV} {a1 : St} (hd : disjointS x y = true) (w : WF st) (dx : dstOk st x = true) (ex : Eff E b C x st v a1) (dy : dstOk st y = true)
    (h1 : Eff E b C y st u st) : ∃ t1, StepE E b C y st t1 ∧ StepE E b C x t1 ((a1.put x.dst v).put y.dst u) := by
  obtain ⟨hd1, hd2⟩ := disj_x hd
  have hcomm : ∀ (q : St), ((q.put y.dst u).put x.dst v) = ((q.put x.dst v).put y.dst u) := fun q => (put_comm (fun d hd => (hd1 d hd).2)).symm
  have kx := ex.keeps w
  refine ⟨st.put y.dst u, ⟨dy, u, st, h1, rfl⟩, ?_, v, (a1.put y.dst u), ?_, ?_⟩
  · rw [dstOk_N (put_st _ _ _).1]; exact dx
  · have := ex.ss (s := (st.put y.dst u).s) (put_reads hd2)
    rw [← put_ss] at this
    have he : a1.ss (st.put y.dst u).s = a1.put y.dst u := by
      cases y.dst with
      | none => show a1.ss st.s = a1; rw [← kx.s]; rfl
      | some d => show a1.ss (upd st.s d u) = _; rw [← kx.s]; rfl
    rwa [he] at this
  · rw [hcomm]
/-- The second's value from the state ahead of the first. -/
theorem back_y {v u : SV} {a1 : St} (hd : disjointS x y = true) (w : WF st) (ex : Eff E b C x st v a1) (hn : ∀ q : St, q.s = (a1.put x.dst v).s → q.N = (a1.put x.dst v).N → Eff E b C y q u q) : Eff E b C y st u st := by
  obtain ⟨hd1, hd2⟩ := disj_x hd
  have kx := ex.keeps w
  have h1 := hn { st with s := (a1.put x.dst v).s } rfl (by show st.N = _; rw [(put_st _ _ _).1, kx.N])
  have h2 := h1.ss (s := st.s) (fun i hi => by
    show st.s i = (a1.put x.dst v).s i
    rw [put_off (fun e => (hd1 i e).1 hi), kx.s])
  exact h2
theorem swapE (hT : Tells E C) (hm : mayPass E b x y = true) (w : WF st) (hx : StepE E b C x st s1) (hy : StepE E b C y s1 s2) : ∃ t1, StepE E b C y st t1 ∧ StepE E b C x t1 s2 := by
  obtain ⟨dx, v, a1, ex, rfl⟩ := hx
  obtain ⟨dy, u, b1, ey, rfl⟩ := hy
  unfold mayPass at hm
  rw [Bool.and_eq_true] at hm
  obtain ⟨hd, hm⟩ := hm
  have kx := ex.keeps w
  rw [dstOk_N ((put_st a1 x.dst v).1.trans kx.N)] at dy
  rw [Bool.or_eq_true, Bool.or_eq_true] at hm
  rcases hm with (hm | hp) | hm
  · rw [Bool.and_eq_true, Bool.or_eq_true, Bool.or_eq_true] at hm
    obtain ⟨h1, h2⟩ := hm
    have := still_same hT h1 ex
    subst this
    refine swap_x hd w dx ex dy ey (fun q qs qN eq => ?_)
    rcases h2 with (hp | hp) | hp
    · have hxr : isReader E x.op = true := by
        cases hx : x.op <;> rw [hx] at hp <;> first | rfl | exact hp | (simp [isPure] at hp; done) | skip
        rename_i c
        simp only [isPure] at hp
        simp only [isReader]
        split at hp <;> rename_i hc <;> first | rw [hc] | cases hp
      have hne : ∀ t n ps, x.op ≠ .buildSlice t n ps := fun t n ps e => by rw [e] at hxr; simp [isReader] at hxr
      have hxop : a1.op E x.op = some (v, a1) := by
        cases ex with
        | op h => rwa [opB_other hne] at h
        | call ho hc => rw [ho] at hxr; simp [isReader, hc] at hxr
      exact .op (by rw [opB_other hne]; exact (pure_any (st := a1) (st2 := q) hp qs qN hxop).2)
    · rw [still_same hT hp eq]; exact ex
    · exact still_grown (st := a1) (st2 := q) hT h1 w (eq.grown hp) qs qN ex
  · have hr : isReader E y.op = true := by
      cases hy : y.op <;> rw [hy] at hp <;> first | rfl | exact hp | (simp [isPure] at hp; done) | skip
      rename_i c
      simp only [isPure] at hp
      simp only [isReader]
      split at hp <;> rename_i hc <;> first | rw [hc] | cases hp
    have hne : ∀ t n ps, y.op ≠ .buildSlice t n ps := fun t n ps e => by rw [e] at hr; simp [isReader] at hr
    have hyop : (a1.put x.dst v).op E y.op = some (u, b1) := by
      cases ey with
      | op h => rwa [opB_other hne] at h
      | call ho hc => rw [ho] at hr; simp [isReader, hc] at hr
    have := reader_same hr hyop
    subst this
    refine swap_y hd w dx ex dy (back_y hd w ex (fun q qs qN => .op ?_))
    rw [opB_other hne]
    exact (pure_any hp qs qN hyop).2
  · simp only [Bool.and_eq_true] at hm
    obtain ⟨rfl, hc, ha⟩ := hm
    obtain ⟨hd1, hd2⟩ := disj_x hd
    have hcomm : ∀ (q : St) (u : SV), ((q.put y.dst u).put x.dst v) = ((q.put x.dst v).put y.dst u) := fun q u => (put_comm (fun d hd => (hd1 d hd).2)).symm
    have ey' := ey.ss (s := st.s) (fun i hi => by
      rw [put_off (fun e => (hd1 i e).1 hi), kx.s])
    have h0 : (a1.put x.dst v).ss st.s = a1 := by
      rw [← kx.s]
      cases x.dst <;> rfl
    rw [h0] at ey'
    -- what is allocated
    have hal : ∃ ob, u = .ptr a1.n 0 ∧ b1.ss st.s = a1.alloc ob ∧ Eff E true C y st (.ptr st.n 0) (st.alloc ob) := by
      have hvv : ∀ x, a1.val x = st.val x := fun x => val_same kx.s kx.N x
      cases ey' with
      | op h =>
        cases hyo : y.op <;> rw [hyo] at ha h <;> simp only [isAlloc] at ha <;> try contradiction
        · simp only [St.opB, St.opS, St.op] at h
          split at h
          · rename_i hk
            simp only [Option.some.injEq, Prod.mk.injEq] at h
            obtain ⟨rfl, e⟩ := h
            refine ⟨_, rfl, e.symm, .op ?_⟩
            rw [hyo]
            simp only [St.opB, St.opS, St.op]
            rw [if_pos hk]
          · cases h
        · simp only [St.opB, St.opS, St.op, hvv] at h
          split at h
          · rename_i hk
            simp only [Option.some.injEq, Prod.mk.injEq] at h
            obtain ⟨rfl, e⟩ := h
            refine ⟨_, rfl, e.symm, .op ?_⟩
            rw [hyo]
            simp only [St.opB, St.opS, St.op]
            rw [if_pos hk]
          · cases h
      | call ho => rw [ho] at ha; simp [isAlloc] at ha
    obtain ⟨ob, hu, hb1, hy1⟩ := hal
    obtain ⟨n1, ex1⟩ := calm_alloc hc w ob ex
    rw [n1] at hu
    subst hu
    refine ⟨(st.alloc ob).put y.dst (.ptr st.n 0), ⟨dy, _, _, hy1, rfl⟩, ?_, v, (a1.alloc ob).put y.dst (.ptr st.n 0), ?_, ?_⟩
    · rw [dstOk_N ((put_st _ _ _).1)]; exact dx
    · have := ex1.ss (s := ((st.alloc ob).put y.dst (.ptr st.n 0)).s) (put_reads hd2)
      rw [← put_ss] at this
      have he : (a1.alloc ob).ss ((st.alloc ob).put y.dst (.ptr st.n 0)).s = (a1.alloc ob).put y.dst (.ptr st.n 0) := by
        cases y.dst with
        | none => show (a1.alloc ob).ss st.s = a1.alloc ob; rw [← kx.s]; rfl
        | some d => show (a1.alloc ob).ss (upd st.s d _) = _; rw [← kx.s]; rfl
      rwa [he] at this
    · rw [hcomm, ← hb1]
      have hb : b1 = (b1.ss st.s).put x.dst v := by
        have := swap_s (kx.wf w) ey
        rw [kx.s] at this
        exact this
      rw [← hb]
theorem base_other {e : Nat} {s : SV} {xs : List T} {st1 : St} (h : st.base e s = some (xs, st1)) : st1.n = st.n ∧ ∀ r, (∀ b, appLab [s, s] = .nw b → b ≠ some r) → appLab [s, s] ≠ .kp → st1.o r = st.o r := by
  unfold St.base at h
  split at h
  · simp only [Option.some.injEq, Prod.mk.injEq] at h
    obtain ⟨_, rfl⟩ := h
    exact ⟨rfl, fun _ _ _ => rfl⟩
  · rename_i r0
    split at h
    · split at h
      · simp only [Option.some.injEq, Prod.mk.injEq] at h
        obtain ⟨_, rfl⟩ := h
        refine ⟨rfl, fun r hr _ => ?_⟩
        have : r ≠ r0 := fun e => hr (some r0) rfl (by rw [e])
        exact upd_ne _ _ this
      · cases h
    · cases h
  · refine ⟨?_, fun r _ hk => absurd rfl hk⟩
    split at h
    · split at h
      · simp only [Option.some.injEq, Prod.mk.injEq] at h
        obtain ⟨_, rfl⟩ := h
        rfl
      · cases h
    · cases h
  · cases h
theorem append_row {sT xT : Nat} {s x v : SV} {st st1 : St} {b : Option Nat} {r : Nat} (h : st.append E sT xT s x = some (v, st1)) (hl : appLab [s, x] = .nw b) (hb : b ≠ some r) (hrn : r < st.n) : st1.o r = st.o r := by
  unfold St.append at h
  split at h
  · split at h
    · rename_i h2
      split at h
      · simp only [Option.some.injEq, Prod.mk.injEq] at h
        obtain ⟨_, rfl⟩ := h
        obtain ⟨g1, g2⟩ := base_other h2
        have hss : appLab [s, s] = .nw b := by rw [← hl]; unfold appLab; cases s <;> rfl
        have := g2 r (fun b' hb' => by rw [hss] at hb'; injection hb' with e; rw [← e]; exact hb) (by rw [hss]; intro e; cases e)
        rw [← this]
        show upd _ _ _ _ = _
        rw [upd_ne _ _ (by rw [g1]; omega)]
      · cases h
    · cases h
  · cases h
theorem builtin_row {ts : List Nat} {vs : List SV} {v : SV} {st st1 : St} {b : Option Nat} {r : Nat} (h : st.builtin E .append ts vs = some (v, st1)) (hl : appLab vs = .nw b) (hb : b ≠ some r) (hrn : r < st.n) : st1.o r = st.o r := by
  rcases ts with _ | ⟨sT, _ | ⟨xT, _ | ⟨_, _⟩⟩⟩ <;> rcases vs with _ | ⟨s, _ | ⟨x, _ | ⟨_, _⟩⟩⟩ <;> simp only [St.builtin, reduceCtorEq] at h
  split at h
  · rename_i hs
    unfold sameRow at hs
    split at hs
    · cases hl
    · cases hs
  · exact append_row h hl hb hrn
theorem Eff.row_kept {o : Oper} {st st1 : St} {v : SV} (h : Eff E true C o st v st1) (w : WF st) {b : Option Nat} (hl : labOf E st o = .nw b) {r : Nat} (hb : b ≠ some r) : r < st.n → st1.o r = st.o r := by
  intro hrn
  unfold labOf at hl
  cases h with
  | op h =>
    cases hop : o.op <;> rw [hop] at hl h <;> simp only at hl
    all_goals first
      | (cases hl; done)
      | (split at hl <;> first | (cases hl; done) | (split at hl <;> cases hl; done))
      | (unfold lookLab at hl; split at hl <;> cases hl; done)
      | skip
    · rename_i c
      split at hl
      · split at hl <;> cases hl
      · rename_i hcc
        simp only [St.opB, St.opS, St.op, hcc] at h
        first
          | exact builtin_row h hl hb hrn
          | (split at h
             · exact builtin_row h hl hb hrn
             · cases h)
      · cases hl
  | call ho hc hp hC hb' =>
    rw [ho] at hl
    simp only [hc] at hl
    split at hl <;> cases hl
theorem slice_kept {t : Nat} {a : Operand} {lo hi mx : Option Operand} {st q : St} {v : SV} {r : Nat} (hs : q.s = st.s) (hN : q.N = st.N) (w : WF st) (hla : lookLab (st.val a) = .lk r) (hor : r < st.n → q.o r = st.o r) (h : st.op E (.slice t a lo hi mx) = some (v, st)) : q.op E (.slice t a lo hi mx) = some (v, q) := by
  have hv : ∀ x, q.val x = st.val x := fun x => val_same hs hN x
  simp only [St.op, Option.map_eq_some_iff, Prod.mk.injEq] at h ⊢
  obtain ⟨x, h1, rfl, _⟩ := h
  refine ⟨x, ?_, rfl, trivial⟩
  rw [hv]
  have hbo : ∀ n z, q.boundOr n z = st.boundOr n z := by
    intro n z
    cases z with
    | none => rfl
    | some z => simp only [St.boundOr, hv]
  have key : q.o r = st.o r ∨ st.o r = .dead := by
    by_cases hr : r < st.n
    · exact .inl (hor hr)
    · exact .inr (w r (by omega))
  rcases key with key | key
  · rw [← h1]
    unfold St.sliceAt
    generalize hva : st.val a = y at *
    have e1 : q.slen y = st.slen y := by
      cases y <;> first | rfl | (cases hla; done) | (simp only [lookLab, Lab.lk.injEq] at hla; subst hla; simp only [St.slen, key])
    have e2 : q.roomOf y = st.roomOf y := by
      cases y <;> first | rfl | exact e1 | (cases hla; done) | (simp only [lookLab, Lab.lk.injEq] at hla; subst hla; simp only [St.roomOf, key])
    have e3 : ∀ l h, q.part E t y l h = st.part E t y l h := by
      intro l h
      cases y <;> first | rfl | (cases hla; done) | (simp only [lookLab, Lab.lk.injEq] at hla; subst hla; simp only [St.part, key])
    cases y <;> first | (cases hla; done) | skip
    all_goals (cases (E.ty t).k <;> first | rfl | simp only [e1, e2, e3, hbo, hv])
  · exfalso
    revert h1
    unfold St.sliceAt
    generalize hva : st.val a = y at *
    cases y <;> first | (cases hla; done) | skip
    all_goals simp only [lookLab, Lab.lk.injEq] at hla
    all_goals subst hla
    all_goals (intro h1; split at h1 <;> first | (cases h1; done) | (rename_i he; cases he; done) | (simp [St.slen, St.roomOf, key] at h1))
/-- By labels. -/
def passD (x y : Oper) (lx ly : Lab) : Bool := disjointS x y && dynOK lx ly
theorem swapD (hm : passD x y (labOf E st x) (labOf E s1 y) = true) (w : WF st) (hx : StepE E true C x st s1) (hy : StepE E true C y s1 s2) (hns : labOf E st x ≠ .skip) (hns' : labOf E s1 y ≠ .skip) : ∃ t1, StepE E true C y st t1 ∧ StepE E true C x t1 s2 := by
  obtain ⟨dx, v, a1, ex, rfl⟩ := hx
  obtain ⟨dy, u, b1, ey, rfl⟩ := hy
  unfold passD at hm
  rw [Bool.and_eq_true] at hm
  obtain ⟨hd, hm⟩ := hm
  obtain ⟨hd1, hd2⟩ := disj_x hd
  have kx := ex.keeps w
  rw [dstOk_N ((put_st a1 x.dst v).1.trans kx.N)] at dy
  have hly : labOf E (a1.put x.dst v) y = labOf E st y := lab_same ((put_st _ _ _).1.trans kx.N) (fun i hi => by rw [put_off (fun e => (hd1 i e).1 hi), kx.s])
  by_cases px : labOf E st x = .pu
  · obtain ⟨rfl, hn⟩ := neutral ex px
    exact swap_x hd w dx ex dy ey (fun q qs qN _ => hn q qs qN)
  · by_cases py : labOf E (a1.put x.dst v) y = .pu
    · obtain ⟨rfl, hn⟩ := neutral ey py
      exact swap_y hd w dx ex dy (back_y hd w ex hn)
    · -- a load ahead
      rw [hly] at hm hns' py
      by_cases hlk : ∃ r, labOf E st x = .lk r
      · obtain ⟨r, hlx⟩ := hlk
        have hxl : ∃ t a lo hi mx, x.op = .slice t a lo hi mx ∧ lookLab (st.val a) = .lk r := by
          unfold labOf at hlx
          cases hxo : x.op <;> rw [hxo] at hlx <;> simp only at hlx
          all_goals first
            | (cases hlx; done)
            | (exact ⟨_, _, _, _, _, rfl, hlx⟩; done)
            | (split at hlx <;> first | (cases hlx; done) | (split at hlx <;> cases hlx; done) | (unfold appLab at hlx; split at hlx <;> cases hlx; done))
        obtain ⟨t, a, lo, hi, mx, hxo, hla⟩ := hxl
        have hxop : st.op E (.slice t a lo hi mx) = some (v, a1) := by
          cases ex with
          | op h => rw [hxo] at h; exact h
          | call ho => rw [hxo] at ho; cases ho
        have hsm := reader_same (E := E) (op := .slice t a lo hi mx) rfl hxop
        subst hsm
        refine swap_x hd w dx ex dy ey (fun q qs qN eq => .op ?_)
        rw [hxo]
        show q.op E (.slice t a lo hi mx) = some (v, q)
        rw [hlx] at hm
        have hyn : ∃ b, labOf E a1 y = .nw b ∧ b ≠ some r := by
          cases hly2 : labOf E a1 y with
          | skip => exact absurd hly2 hns'
          | pu => exact absurd hly2 py
          | nw b =>
            rw [hly2] at hm
            cases b with
            | none => exact ⟨_, rfl, by simp⟩
            | some b => simp only [dynOK, decide_eq_true_eq] at hm; exact ⟨_, rfl, fun e => hm (Option.some.inj e).symm⟩
          | _ => rw [hly2] at hm; cases hm
        obtain ⟨b, hyb, hbr⟩ := hyn
        have hor := eq.row_kept w hyb hbr
        exact slice_kept qs qN w hla hor hxop
      have hld : ∃ b1 o1 n1, labOf E st x = .ld b1 o1 n1 := by
        have key : ∀ lx ly, dynOK lx ly = true → lx ≠ .skip → lx ≠ .pu → ly ≠ .skip → ly ≠ .pu → (¬ ∃ r, lx = .lk r) → ∃ b1 o1 n1, lx = .ld b1 o1 n1 := by
          intro lx ly hm hns px hns' py hlk
          cases lx <;> first | exact absurd rfl hns | exact absurd rfl px | exact ⟨_, _, _, rfl⟩ | exact absurd ⟨_, rfl⟩ hlk | (cases ly <;> first | exact absurd rfl hns' | exact absurd rfl py | cases hm)
        exact key _ _ hm hns px hns' py hlk
      obtain ⟨bb, oo, nn, hlx⟩ := hld
      have hxl : ∃ t a, x.op = .load t a ∧ st.val a = .ptr bb oo ∧ (E.ty t).size = nn := by
        unfold labOf at hlx
        cases hxo : x.op <;> rw [hxo] at hlx <;> simp only at hlx
        all_goals first
          | (cases hlx; done)
          | (split at hlx <;> first | (cases hlx; done) | (split at hlx <;> cases hlx; done) | (unfold appLab at hlx; split at hlx <;> cases hlx; done))
          | (unfold lookLab at hlx; split at hlx <;> cases hlx; done)
          | skip
        · rename_i t a
          split at hlx
          · rename_i hv
            injection hlx with e1 e2 e3
            subst e1; subst e2
            exact ⟨t, a, rfl, hv, e3⟩
          · cases hlx
          · cases hlx
      obtain ⟨t, a, hxo, hva, hnn⟩ := hxl
      have hxop : st.op E (.load t a) = some (v, a1) := by
        cases ex with
        | op h => rw [hxo] at h; exact h
        | call ho => rw [hxo] at ho; cases ho
      have hsm := reader_same (E := E) (op := .load t a) rfl hxop
      subst hsm
      refine swap_x hd w dx ex dy ey (fun q qs qN eq => .op ?_)
      rw [hxo]
      show q.op E (.load t a) = some (v, q)
      rw [hlx] at hm
      cases hly2 : labOf E a1 y with
      | skip => exact absurd hly2 hns'
      | pu => exact absurd hly2 py
      | kp => exact load_kept qs qN hva (fun ty cs ho => ⟨cs, (eq.kept w (by rw [hly2]; trivial)) _ _ ho, rfl, rfl⟩) hxop
      | nw _ => exact load_kept qs qN hva (fun ty cs ho => ⟨cs, (eq.kept w (by rw [hly2]; trivial)) _ _ ho, rfl, rfl⟩) hxop
      | lk _ => rw [hly2] at hm; cases hm
      | no => rw [hly2] at hm; cases hm
      | ld _ _ _ => rw [hly2] at hm; cases hm
      | sb b2 o2 n2 =>
        rw [hly2] at hm
        simp only [dynOK, Bool.or_eq_true, decide_eq_true_eq] at hm
        have hyl : ∃ t' a' x', y.op = .store t' a' x' ∧ a1.val a' = .ptr b2 o2 ∧ (a1.val x').cells.length = n2 := by
          unfold labOf at hly2
          cases hyo : y.op <;> rw [hyo] at hly2 <;> simp only at hly2
          all_goals first
            | (cases hly2; done)
            | (split at hly2 <;> first | (cases hly2; done) | (split at hly2 <;> cases hly2; done) | (unfold appLab at hly2; split at hly2 <;> cases hly2; done))
            | (unfold lookLab at hly2; split at hly2 <;> cases hly2; done)
            | skip
          · rename_i t' a' x'
            split at hly2
            · rename_i hv
              injection hly2 with e1 e2 e3
              subst e1; subst e2
              exact ⟨t', a', x', rfl, hv, e3⟩
            · cases hly2
        obtain ⟨t', a', x', hyo, hva', hn2⟩ := hyl
        have hyop : a1.op E (.store t' a' x') = some (u, q) := by
          cases eq with
          | op h => rw [hyo] at h; exact h
          | call ho => rw [hyo] at ho; cases ho
        exact load_store qs qN hva hva' (by rw [hnn, hn2]; exact hm) hyop hxop
      | cl p =>
        rw [hly2] at hm
        have hp : bb ∉ p := by simpa [dynOK] using hm
        exact load_kept qs qN hva (fun ty cs ho => ⟨cs, (eq.kept w (by rw [hly2]; exact hp)) _ _ ho, rfl, rfl⟩) hxop
end
/-- The slot that a guard reads. -/
def gslot (all : Array Oper) (o : Oper) : Option Nat := o.guard.bind fun g => (all[g.1]?).bind (·.dst)
def guardsApart (all : Array Oper) (x y : Oper) : Bool :=
  (match gslot all y with
    | none => true
    | some d => x.dst != some d) &&
  (match gslot all x with
    | none => true
    | some d => y.dst != some d)
def mayPassG (E : Env) (b : Bool) (all : Array Oper) (x y : Oper) : Bool := mayPass E b x y && guardsApart all x y
theorem guard_same {all : Array Oper} {o : Oper} {st st1 : St} (hN : st1.N = st.N) (h : ∀ d, gslot all o = some d → st1.s d = st.s d) : guardOf all st1 o = guardOf all st o := by
  unfold guardOf
  cases hg : o.guard with
  | none => rfl
  | some g =>
    obtain ⟨j, want⟩ := g
    simp only
    cases hd : (all[j]?).bind (·.dst) with
    | none => rfl
    | some d =>
      have := h d (by simp [gslot, hg, hd])
      simp only [St.val, hN, this]
/-- One operation: done, or passed over. -/
def StepR (E : Env) (b : Bool) (C : Nat → List X → List X → List (Option X) → Prop) (all : Array Oper) (o : Oper) (st st' : St) : Prop :=
  (guardOf all st o = some true ∧ StepE E b C o st st') ∨ (guardOf all st o = some false ∧ dstOk st o = true ∧ st' = st.put o.dst (.tup []))
/-- The same, with its label. -/
def StepL (E : Env) (C : Nat → List X → List X → List (Option X) → Prop) (all : Array Oper) (p : Oper × Lab) (st st' : St) : Prop :=
  (guardOf all st p.1 = some true ∧ p.2 = labOf E st p.1 ∧ StepE E true C p.1 st st') ∨ (guardOf all st p.1 = some false ∧ p.2 = .skip ∧ dstOk st p.1 = true ∧ st' = st.put p.1.dst (.tup []))
theorem lab_noskip (E : Env) (st : St) (o : Oper) : labOf E st o ≠ .skip := by
  unfold labOf
  split <;> (try split) <;> (try split) <;> first | (intro h; cases h; done) | (unfold appLab; split <;> (intro h; cases h)) | (unfold lookLab; split <;> (intro h; cases h))
theorem StepE.keep {b : Bool} {o : Oper} {st st1 : St} (h : StepE E b C o st st1) (w : WF st) : st1.N = st.N ∧ ∀ d, o.dst ≠ some d → st1.s d = st.s d := by
  obtain ⟨_, v, a, ha, rfl⟩ := h
  have k := ha.keeps w
  exact ⟨(put_st _ _ _).1.trans k.N, fun d hd => (put_off hd).trans (by rw [k.s])⟩
theorem StepR.keep {b : Bool} {all : Array Oper} {o : Oper} {st st1 : St} (h : StepR E b C all o st st1) (w : WF st) : st1.N = st.N ∧ ∀ d, o.dst ≠ some d → st1.s d = st.s d := by
  rcases h with ⟨_, h⟩ | ⟨_, _, rfl⟩
  · exact h.keep w
  · exact ⟨(put_st _ _ _).1, fun d hd => put_off hd⟩
/-- The swap, given the swap of what is done. -/
theorem swapG {b : Bool} {all : Array Oper} {x y : Oper} {st s1 s2 : St} (hdj : disjointS x y = true) (hga : guardsApart all x y = true) (w : WF st)
    (hsw : guardOf all st x = some true → guardOf all s1 y = some true → StepE E b C x st s1 → StepE E b C y s1 s2 → ∃ t1, StepE E b C y st t1 ∧ StepE E b C x t1 s2) (hx : StepR E b C all x st s1) (hy : StepR E b C all y s1 s2) :
    ∃ t1, StepR E b C all y st t1 ∧ StepR E b C all x t1 s2 ∧ guardOf all st y = guardOf all s1 y ∧ guardOf all t1 x = guardOf all st x := by
  have gy : ∀ d, gslot all y = some d → x.dst ≠ some d := by
    intro d hd
    unfold guardsApart at hga
    rw [Bool.and_eq_true, hd] at hga
    simpa using hga.1
  have gx : ∀ d, gslot all x = some d → y.dst ≠ some d := by
    intro d hd
    unfold guardsApart at hga
    rw [Bool.and_eq_true, hd] at hga
    simpa using hga.2
  obtain ⟨hd1, hd2⟩ := disj_x hdj
  have hcomm : ∀ (q : St) (u v : SV), ((q.put y.dst u).put x.dst v) = ((q.put x.dst v).put y.dst u) := fun q u v => (put_comm (fun d hd => (hd1 d hd).2)).symm
  rcases hx with ⟨hgx, hx⟩ | ⟨hgx, dx, rfl⟩
  · obtain ⟨kN, ks⟩ := hx.keep w
    have e1 : guardOf all s1 y = guardOf all st y := guard_same kN (fun d hd => ks d (gy d hd))
    rcases hy with ⟨hgy, hy⟩ | ⟨hgy, dy, rfl⟩
    · obtain ⟨t1, h1, h2⟩ := hsw hgx hgy hx hy
      obtain ⟨kN', ks'⟩ := h1.keep w
      have e2 : guardOf all t1 x = guardOf all st x := guard_same kN' (fun d hd => ks' d (gx d hd))
      exact ⟨t1, .inl ⟨e1 ▸ hgy, h1⟩, .inl ⟨e2.trans hgx, h2⟩, e1.symm, e2⟩
    · have e2 : guardOf all (st.put y.dst (.tup [])) x = guardOf all st x := guard_same (put_st _ _ _).1 (fun d hd => put_off (gx d hd))
      refine ⟨st.put y.dst (.tup []), .inr ⟨e1 ▸ hgy, (dstOk_N kN).symm.trans dy, rfl⟩, .inl ⟨e2.trans hgx, ?_⟩, e1.symm, e2⟩
      obtain ⟨dx, v, a1, ex, rfl⟩ := hx
      have k := ex.keeps w
      refine ⟨by rw [dstOk_N (put_st _ _ _).1]; exact dx, v, a1.ss (st.put y.dst (.tup [])).s, ?_, ?_⟩
      · have := ex.ss (s := (st.put y.dst (.tup [])).s) (put_reads hd2)
        rw [← put_ss] at this
        exact this
      · have he : a1.ss (st.put y.dst (.tup [])).s = a1.put y.dst (.tup []) := by
          cases y.dst with
          | none => show a1.ss st.s = a1; rw [← k.s]; rfl
          | some d => show a1.ss (upd st.s d (.tup [])) = _; rw [← k.s]; rfl
        rw [he, hcomm]
  · have e1 : guardOf all (st.put x.dst (.tup [])) y = guardOf all st y := guard_same (put_st _ _ _).1 (fun d hd => put_off (gy d hd))
    rcases hy with ⟨hgy, hy⟩ | ⟨hgy, dy, rfl⟩
    · obtain ⟨dy, u, b1, ey, rfl⟩ := hy
      have ey' := ey.ss (s := st.s) (fun i hi => ((put_reads (st := st) (d := x.dst) (v := .tup []) (op := y.op) (fun e he => (hd1 e he).1)) i hi).symm)
      have h0 : (st.put x.dst (.tup [])).ss st.s = st := by cases x.dst <;> rfl
      rw [h0] at ey'
      have ky := ey'.keeps w
      have hq : StepE E b C y st ((b1.ss st.s).put y.dst u) := ⟨(dstOk_N (put_st _ _ _).1).symm.trans dy, u, _, ey', rfl⟩
      obtain ⟨kN', ks'⟩ := hq.keep w
      have e2 : guardOf all ((b1.ss st.s).put y.dst u) x = guardOf all st x := guard_same kN' (fun d hd => ks' d (gx d hd))
      refine ⟨_, .inl ⟨e1 ▸ hgy, hq⟩, .inr ⟨e2.trans hgx, (dstOk_N kN').trans dx, ?_⟩, e1.symm, e2⟩
      rw [hcomm, ← swap_s w ey]
    · have e2 : guardOf all (st.put y.dst (.tup [])) x = guardOf all st x := guard_same (put_st _ _ _).1 (fun d hd => put_off (gx d hd))
      exact ⟨st.put y.dst (.tup []), .inr ⟨e1 ▸ hgy, (dstOk_N (put_st _ _ _).1).symm.trans dy, rfl⟩, .inr ⟨e2.trans hgx, (dstOk_N (put_st _ _ _).1).trans dx, (hcomm st (.tup []) (.tup [])).symm⟩, e1.symm, e2⟩
theorem swap (hT : Tells E C) {b : Bool} {all : Array Oper} {x y : Oper} {st s1 s2 : St} (hm : mayPassG E b all x y = true) (w : WF st) (hx : StepR E b C all x st s1) (hy : StepR E b C all y s1 s2) : ∃ t1, StepR E b C all y st t1 ∧ StepR E b C all x t1 s2 := by
  unfold mayPassG at hm
  rw [Bool.and_eq_true] at hm
  obtain ⟨hm, hga⟩ := hm
  have hdj : disjointS x y = true := by
    unfold mayPass at hm
    rw [Bool.and_eq_true] at hm
    exact hm.1
  obtain ⟨t1, h1, h2, _⟩ := swapG hdj hga w (fun _ _ hx hy => swapE hT hm w hx hy) hx hy
  exact ⟨t1, h1, h2⟩
theorem StepL.toR {all : Array Oper} {p : Oper × Lab} {st st1 : St} (h : StepL E C all p st st1) : StepR E true C all p.1 st st1 := by
  rcases h with ⟨h1, _, h2⟩ | ⟨h1, _, h2, h3⟩
  · exact .inl ⟨h1, h2⟩
  · exact .inr ⟨h1, h2, h3⟩
theorem StepL.lab {all : Array Oper} {p : Oper × Lab} {st st1 : St} (h : StepL E C all p st st1) (hg : guardOf all st p.1 = some true) : p.2 = labOf E st p.1 := by
  rcases h with ⟨_, h1, _⟩ | ⟨h1, _⟩
  · exact h1
  · rw [hg] at h1; cases h1
theorem StepL.skip {all : Array Oper} {p : Oper × Lab} {st st1 : St} (h : StepL E C all p st st1) (hg : guardOf all st p.1 = some false) : p.2 = .skip := by
  rcases h with ⟨h1, _⟩ | ⟨_, h1, _⟩
  · rw [hg] at h1; cases h1
  · exact h1
/-- With labels: by rule, or by what the labels say. -/
def passL (E : Env) (all : Array Oper) (p q : Oper × Lab) : Bool := mayPassG E true all p.1 q.1 || (passD p.1 q.1 p.2 q.2 && guardsApart all p.1 q.1)
theorem swapL (hT : Tells E C) {all : Array Oper} {p q : Oper × Lab} {st s1 s2 : St} (hm : passL E all p q = true) (w : WF st) (hx : StepL E C all p st s1) (hy : StepL E C all q s1 s2) : ∃ t1, StepL E C all q st t1 ∧ StepL E C all p t1 s2 := by
  have hdj : disjointS p.1 q.1 = true ∧ guardsApart all p.1 q.1 = true := by
    unfold passL at hm
    rw [Bool.or_eq_true] at hm
    rcases hm with hm | hm
    · unfold mayPassG mayPass at hm
      simp only [Bool.and_eq_true] at hm
      exact ⟨hm.1.1, hm.2⟩
    · unfold passD at hm
      simp only [Bool.and_eq_true] at hm
      exact ⟨hm.1.1, hm.2⟩
  obtain ⟨hdj, hga⟩ := hdj
  obtain ⟨hd1, hd2⟩ := disj_x hdj
  have kx := hx.toR.keep w
  have hlq : labOf E s1 q.1 = labOf E st q.1 := lab_same kx.1 (fun i hi => kx.2 i (fun e => (hd1 i e).1 hi))
  obtain ⟨t1, h1, h2, g1, g2⟩ := swapG hdj hga w (fun gx gy ex ey => by
    unfold passL at hm
    rw [Bool.or_eq_true] at hm
    rcases hm with hm | hm
    · unfold mayPassG at hm
      rw [Bool.and_eq_true] at hm
      exact swapE hT hm.1 w ex ey
    · rw [Bool.and_eq_true, hx.lab gx, hy.lab gy] at hm
      exact swapD hm.1 w ex ey (lab_noskip _ _ _) (lab_noskip _ _ _)) hx.toR hy.toR
  have ky := h1.keep w
  have hlp : labOf E t1 p.1 = labOf E st p.1 := lab_same ky.1 (fun i hi => ky.2 i (fun e => hd2 i e hi))
  refine ⟨t1, ?_, ?_⟩
  · rcases h1 with ⟨hg, he⟩ | ⟨hg, hd, he⟩
    · exact .inl ⟨hg, by rw [← hlq]; exact hy.lab (g1 ▸ hg), he⟩
    · exact .inr ⟨hg, hy.skip (g1 ▸ hg), hd, he⟩
  · rcases h2 with ⟨hg, he⟩ | ⟨hg, hd, he⟩
    · exact .inl ⟨hg, by rw [hlp]; exact hx.lab (g2 ▸ hg), he⟩
    · exact .inr ⟨hg, hx.skip (g2 ▸ hg), hd, he⟩
theorem StepR.wf {b : Bool} {all : Array Oper} {o : Oper} {st st1 : St} (h : StepR E b C all o st st1) (w : WF st) : WF st1 := by
  rcases h with ⟨_, _, v, a, ha, rfl⟩ | ⟨_, _, rfl⟩
  · have := (ha.keeps w).wf w
    intro i hi
    rw [(put_st a o.dst v).2.1] at hi
    rw [(put_st a o.dst v).2.2]
    exact this i hi
  · intro i hi
    rw [(put_st st o.dst (.tup [])).2.1] at hi
    rw [(put_st st o.dst (.tup [])).2.2]
    exact w i hi
/-- A list of operations, one by one. -/
inductive RunR {α : Type} (S : α → St → St → Prop) : List α → St → St → Prop
  | nil (st : St) : RunR S [] st st
  | cons {o : α} {r : List α} {st st1 st2 : St} (h : S o st st1) (k : RunR S r st1 st2) : RunR S (o :: r) st st2
inductive Swaps {α : Type} (p : α → α → Bool) : List α → List α → Prop
  | refl (l : List α) : Swaps p l l
  | cons {o : α} {l l' : List α} (h : Swaps p l l') : Swaps p (o :: l) (o :: l')
  | swap {x y : α} {l l' : List α} (h : p x y = true) (k : Swaps p (y :: x :: l) l') : Swaps p (x :: y :: l) l'
  | trans {l l' l'' : List α} (h : Swaps p l l') (k : Swaps p l' l'') : Swaps p l l''
theorem RunR.swaps {α : Type} {S : α → St → St → Prop} {p : α → α → Bool} (hs : ∀ {x y : α} {st s1 s2 : St}, p x y = true → WF st → S x st s1 → S y s1 s2 → ∃ t1, S y st t1 ∧ S x t1 s2) (hwf : ∀ {o : α} {st st1 : St}, S o st st1 → WF st → WF st1) {l l' : List α} (hr : Swaps p l l') : ∀ {st st' : St}, WF st → RunR S l st st' → RunR S l' st st' := by
  induction hr with
  | refl l => exact fun _ h => h
  | cons h ih =>
    intro st st' w h
    cases h with
    | cons h1 h2 => exact .cons h1 (ih (hwf h1 w) h2)
  | swap hm k ih =>
    intro st st' w h
    cases h with
    | cons h1 h2 =>
      cases h2 with
      | cons h2 h3 =>
        obtain ⟨t1, k1, k2⟩ := hs hm w h1 h2
        exact ih w (.cons k1 (.cons k2 h3))
  | trans h k ih1 ih2 => exact fun w h => ih2 w (ih1 w h)
abbrev OpsR (E : Env) (b : Bool) (C : Nat → List X → List X → List (Option X) → Prop) (all : Array Oper) : List Oper → St → St → Prop := RunR (StepR E b C all)
abbrev OpsL (E : Env) (C : Nat → List X → List X → List (Option X) → Prop) (all : Array Oper) : List (Oper × Lab) → St → St → Prop := RunR (StepL E C all)
theorem OpsL.toR {all : Array Oper} {l : List (Oper × Lab)} {st st' : St} (h : OpsL E C all l st st') : OpsR E true C all (l.map (·.1)) st st' := by
  induction h with
  | nil st => exact .nil st
  | cons h k ih => exact .cons h.toR ih
theorem OpsR.swaps (hT : Tells E C) {b : Bool} {all : Array Oper} {l l' : List Oper} (hr : Swaps (mayPassG E b all) l l') {st st' : St} (w : WF st) (h : OpsR E b C all l st st') : OpsR E b C all l' st st' :=
  RunR.swaps (S := StepR E b C all) (p := mayPassG E b all) (fun hm w h1 h2 => swap hT hm w h1 h2) (fun h w => h.wf w) hr w h
theorem OpsL.swaps (hT : Tells E C) {all : Array Oper} {l l' : List (Oper × Lab)} (hr : Swaps (passL E all) l l') {st st' : St} (w : WF st) (h : OpsL E C all l st st') : OpsL E C all l' st st' :=
  RunR.swaps (S := StepL E C all) (p := passL E all) (fun hm w h1 h2 => swapL hT hm w h1 h2) (fun h w => h.toR.wf w) hr w h
end
section
variable {E : Env} {P : Program} {M0 : Nat → Prop} {w0 : World} {c : Ctx} {st st' : St} {a : Act} {w w' : World}
theorem row_data (hI : Inv E M0 w0 c st w) {xs : List T} {e z k : Nat} {vs : Array Value} {fr : Nat × Nat} (hh : w'.heap = w.heap.push (.cells vs e fr)) (ht : w'.tape = w.tape) (ho : w'.os = w.os) (hu : w'.output = w.output)
    (hz : z = (E.ty e).size) (hz0 : 0 < z) (hk : xs.length ≤ k) (hm : k ≤ maxLen) (hw : ∀ x ∈ xs, x.cells.length = z) (h1 : ∀ x ∈ xs, ∀ y ∈ x.cells, y.one = true) (hvs : k * z ≤ vs.size) (hfr : ∀ j, j < k * z → ¬ (fr.1 ≤ j ∧ j < fr.2))
    (hc : ∀ (j : Nat) x (t : Nat) y, xs[j]? = some x → x.cells[t]? = some y → ∃ v, vs[j * z + t]? = some v ∧ RD c.F w y v) :
    Step E M0 w0 c st w (.t (.list xs)) st (c.withF (fun k => c.F k ∨ k = w.heap.size)) (.slice (some ⟨w.heap.size, 0, none⟩) xs.length k) w' := by
  have hs := row_step hI hh ht ho hu hz hz0 hk hm hw h1 hvs hfr hc
  have hF : ∀ k, c.F k → c.F k ∨ k = w.heap.size := fun k hk => .inl hk
  have hsame : Same w w' (fun _ => False) := ⟨by rw [hh]; simp, fun k hk _ => by rw [hh, Array.getElem?_push, if_neg (by omega)], ht, ho, hu⟩
  have hw' := hI.world hsame (fun _ h => h.elim) (fun _ _ _ h => h)
  have hinv := hw'.moreF (F := fun k => c.F k ∨ k = w.heap.size) hF (fun k hk => by
    rcases hk with hk | rfl
    · exact ⟨hw'.F k hk, hw'.bnd k hk⟩
    · exact ⟨by rw [hh]; simp, .inr (.inr hI.same.size)⟩) (fun i hi ho hk => by
    rcases hk with hk | hk
    · exact (hI.own i hi ho).2.1 hk
    · have := (hI.own i hi ho).1
      omega)
  refine ⟨Ctx.le_withF hF, hinv, hs.keep, rfl, rfl, .t ?_⟩
  have hrn : st.n < (st.alloc (.row e xs true)).n := Nat.lt_succ_self _
  have hro : (st.alloc (.row e xs true)).o st.n = .row e xs true := upd_self _ _ _
  have hrd := hs.inv.row_RD hrn hro
  have hval : (c.push w.heap.size (.slice (some ⟨w.heap.size, 0, none⟩) xs.length k) z).val st.n = .slice (some ⟨w.heap.size, 0, none⟩) xs.length k := by rw [← hI.n]; exact upd_self _ _ _
  rw [hval] at hrd
  refine hrd.mono (fun q hq => ?_) (fun _ _ => rfl)
  rcases hq with hq | ⟨i, hi, _, _, rfl⟩
  · exact .inl hq
  · obtain rfl := List.mem_singleton.1 hi
    rw [← hI.n]
    exact .inr (upd_self _ _ _)
theorem opS_sound (hP : POK E P) (hI : Inv E M0 w0 c st w) (hL : Laid E c.F w) (hA : InvA c st a w) {o : Oper} {r : SV} {st1 : St} (h : st.opS E o.op = some (r, st1)) : Answers E P M0 w0 c st w (execOp a.eval o) r st1 := by
  by_cases hb : ∃ t n ps, o.op = .buildSlice t n ps
  · obtain ⟨t, n, ps, ho⟩ := hb
    rw [ho] at h
    unfold execOp
    rw [ho]
    simp only [St.opS] at h
    split at h
    · rename_i hc
      split at h
      · rename_i ts st2 hab
        simp only [Option.some.injEq, Prod.mk.injEq] at h
        obtain ⟨rfl, rfl⟩ := h
        obtain ⟨cells', F, hrun, g1, g2, g5, g6, htn, i7, hnmax, hmem, hsz, hcell⟩ := buildSlice_pre hP hI hA hc hab
        have hstep := row_data (w' := w.alloc (.cells cells' (E.ty t).elem)) (c := c.withF F) g1 (xs := ts) (e := (E.ty t).elem) (z := (E.ty (E.ty t).elem).size) (k := n) (fr := (0, 0)) rfl rfl rfl rfl rfl i7 (by omega) hnmax (fun x hx => (hmem x hx).1) (fun x hx => (hmem x hx).2)
          (by rw [hsz]; exact Nat.le_refl _) (fun j _ => by simp) hcell
        rw [htn] at hstep
        refine .value ⟨_, _, hrun, _, ⟨(Ctx.le_withF g2).trans hstep.le, hstep.inv, fun k hk => hstep.keep k (g2 k hk), hstep.hs.trans g5, hstep.hN.trans g6, ?_⟩⟩
        cases ts with
        | nil =>
          obtain rfl : n = 0 := by first | (simpa using htn.symm) | (simpa using htn)
          exact .nil _
        | cons x l => exact hstep.rel
      · cases h
    · cases h
  · have he : st.opS E o.op = st.op E o.op := by
      cases ho : o.op <;> first | rfl | exact absurd ⟨_, _, _, ho⟩ hb
    rw [he] at h
    exact op_sound hP hI hL hA h
end
end Go.Ev
