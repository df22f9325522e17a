/- What goes over at a call, as values of the model: laid into a state. -/
import Derived.Test.YtdpkfljiipkhfaaGreatDoorPartRB
namespace Go.Ev
set_option linter.unusedSimpArgs false
set_option linter.unusedVariables false

/-- A row that one block holds. -/
def RowV (E : Env) (F : Nat → Prop) (w : World) (e : Nat) (xs : List T) (v : Value) (l : Nat) : Prop :=
  0 < (E.ty e).size ∧ (∃ A k, v = .slice A xs.length k ∧ xs.length ≤ k ∧ k ≤ maxLen) ∧ (∀ x ∈ xs, x.cells.length = (E.ty e).size) ∧ (∀ x ∈ xs, ∀ y ∈ x.cells, y.one = true) ∧
    ∀ A n k, v = .slice A n k → k ≠ 0 → ∃ (o : Nat) (vs : Array Value) (lo hi : Nat), A = some ⟨l, o, none⟩ ∧ w.heap[l]? = some (.cells vs e (lo, hi)) ∧ o + k * (E.ty e).size ≤ vs.size ∧
      (∀ j, o ≤ j → j < o + k * (E.ty e).size → ¬ (lo ≤ j ∧ j < hi)) ∧ ∀ (j : Nat) x (t : Nat) y, xs[j]? = some x → x.cells[t]? = some y → ∃ u, vs[o + (j * (E.ty e).size + t)]? = some u ∧ RD F w y u
def capV : Value → Nat
  | .slice _ _ k => k
  | _ => 0
def ownL (v : Value) (l : Nat) : List Nat := if capV v = 0 then [] else [l]

section
variable {E : Env} {P : Program} {M0 : Nat → Prop} {w0 : World} {c : Ctx} {st st' : St} {a : Act} {w w' : World}

theorem obOK_row {i e : Nat} {xs : List T} : ObOK E c w i (.row e xs true) ↔ c.sz i = (E.ty e).size ∧ RowV E c.F w e xs (c.val i) (c.loc i) := by
  constructor
  · rintro ⟨h1, h2, h3, h4, h5, h6⟩
    rw [h1] at h2 h4 h6
    exact ⟨h1, h2, h3, h4, h5, h6⟩
  · rintro ⟨h1, h2, h3, h4, h5, h6⟩
    refine ⟨h1, by rw [h1]; exact h2, h3, by rw [h1]; exact h4, h5, ?_⟩
    rw [h1]
    exact h6
theorem RowV.mono {F F' : Nat → Prop} {e l : Nat} {xs : List T} {v : Value} (h : RowV E F w e xs v l) (hF : ∀ k, F k → F' k) (hw : ∀ k, F k → w'.heap[k]? = w.heap[k]?) (hl : ∀ k ∈ ownL v l, w'.heap[k]? = w.heap[k]?) : RowV E F' w' e xs v l := by
  obtain ⟨h1, h2, h3, h4, h5⟩ := h
  refine ⟨h1, h2, h3, h4, fun A n k hv hk => ?_⟩
  obtain ⟨o, vs, lo, hi, e1, e2, e3, e4, e5⟩ := h5 A n k hv hk
  refine ⟨o, vs, lo, hi, e1, ?_, e3, e4, fun j x t y hx hy => ?_⟩
  · rw [hl l (by simp [ownL, capV, hv, hk])]; exact e2
  · obtain ⟨u, u1, u2⟩ := e5 j x t y hx hy
    exact ⟨u, u1, u2.mono hF hw⟩

/-- Cells that go over, and the blocks that go with them. -/
inductive XCs (E : Env) (F : Nat → Prop) (w : World) : List X → List Value → List Nat → Prop
  | nil : XCs E F w [] [] []
  | tC {t : T} {v : Value} {xs : List X} {vs : List Value} {bs : List Nat} (h : RD F w t v) (h1 : t.one = true) (r : XCs E F w xs vs bs) : XCs E F w (.t t :: xs) (v :: vs) bs
  | nilC (A : Option Addr) {xs : List X} {vs : List Value} {bs : List Nat} (r : XCs E F w xs vs bs) : XCs E F w (.nil :: xs) (.slice A 0 0 :: vs) bs
  | rowC {e : Nat} {ys : List T} {v : Value} {l : Nat} {xs : List X} {vs : List Value} {bs : List Nat} (h : RowV E F w e ys v l) (r : XCs E F w xs vs bs) : XCs E F w (.row e ys :: xs) (v :: vs) (ownL v l ++ bs)
  | srefC {ty n sz l : Nat} {cs : List X} {us : Array Value} {b : List Nat} {xs : List X} {vs : List Value} {bs : List Nat} (hh : w.heap[l]? = some (.cells us ty (0, 0))) (hm : n ≤ maxLen) (h : XCs E F w cs us.toList b) (r : XCs E F w xs vs bs) : XCs E F w (.sref ty n sz cs :: xs) (.slice (some ⟨l, 0, none⟩) n n :: vs) ((l :: b) ++ bs)
/-- One cell that goes over, and the blocks that go with it. -/
inductive XC (E : Env) (F : Nat → Prop) (w : World) : X → Value → List Nat → Prop
  | t {t : T} {v : Value} (h : RD F w t v) (h1 : t.one = true) : XC E F w (.t t) v []
  | nil (A : Option Addr) : XC E F w .nil (.slice A 0 0) []
  | row {e : Nat} {xs : List T} {v : Value} {l : Nat} (h : RowV E F w e xs v l) : XC E F w (.row e xs) v (ownL v l)
  | sref {ty n sz l : Nat} {cs : List X} {us : Array Value} {b : List Nat} (hh : w.heap[l]? = some (.cells us ty (0, 0))) (hm : n ≤ maxLen) (h : XCs E F w cs us.toList b) : XC E F w (.sref ty n sz cs) (.slice (some ⟨l, 0, none⟩) n n) (l :: b)
theorem XCs.cons {F : Nat → Prop} {x : X} {v : Value} {b : List Nat} {xs : List X} {vs : List Value} {bs : List Nat} (h : XC E F w x v b) (r : XCs E F w xs vs bs) : XCs E F w (x :: xs) (v :: vs) (b ++ bs) := by
  cases h with
  | t h h1 => exact .tC h h1 r
  | nil A => exact .nilC A r
  | row h => exact .rowC h r
  | sref hh hm h => exact .srefC hh hm h r
theorem XCs.uncons {F : Nat → Prop} {x : X} {xs : List X} {us : List Value} {bl : List Nat} (h : XCs E F w (x :: xs) us bl) : ∃ v vs b bs, us = v :: vs ∧ bl = b ++ bs ∧ XC E F w x v b ∧ XCs E F w xs vs bs := by
  cases h with
  | tC h h1 r => exact ⟨_, _, [], _, rfl, rfl, .t h h1, r⟩
  | nilC A r => exact ⟨_, _, [], _, rfl, rfl, .nil A, r⟩
  | rowC h r => exact ⟨_, _, _, _, rfl, rfl, .row h, r⟩
  | srefC hh hm h r => exact ⟨_, _, _, _, rfl, rfl, .sref hh hm h, r⟩
/-- One value. -/
inductive XV (E : Env) (F : Nat → Prop) (w : World) : X → Value → List Nat → Prop
  | t {t : T} {v : Value} (h : RD F w t v) : XV E F w (.t t) v []
  | nil (A : Option Addr) : XV E F w .nil (.slice A 0 0) []
  | row {e : Nat} {xs : List T} {v : Value} {l : Nat} (h : RowV E F w e xs v l) : XV E F w (.row e xs) v (ownL v l)
  | agg {cs : List X} {vs : Array Value} {b : List Nat} (h : XCs E F w cs vs.toList b) : XV E F w (.agg cs) (.agg vs) b
  | ref {ty l : Nat} {cs : List X} {vs : Array Value} {b : List Nat} (hh : w.heap[l]? = some (.cells vs ty (0, 0))) (h : XCs E F w cs vs.toList b) : XV E F w (.ref ty cs) (.pointer (some ⟨l, 0, none⟩)) (l :: b)
  | sref {ty n sz l : Nat} {cs : List X} {us : Array Value} {b : List Nat} (hh : w.heap[l]? = some (.cells us ty (0, 0))) (hm : n ≤ maxLen) (h : XCs E F w cs us.toList b) : XV E F w (.sref ty n sz cs) (.slice (some ⟨l, 0, none⟩) n n) (l :: b)
  | dref {cs : List T} {v : Value} (h : ∀ c : Ctx, c.F = F → Rel c w (.dptr cs) v) : XV E F w (.dref cs) v []
  | fn {g : Nat} {caps : List (List T)} {vs : Array Value} (hl : caps.length = vs.size) (h : ∀ (i : Nat) cs v, caps[i]? = some cs → vs[i]? = some v → ∀ c : Ctx, c.F = F → Rel c w (.dptr cs) v) : XV E F w (.fn g caps) (.func (.func g) #[] vs) []
  | meth {g : Nat} {ts : List T} {vs : Array Value} (hl : ts.length = vs.size) (h : ∀ (i : Nat) t v, ts[i]? = some t → vs[i]? = some v → RD F w t v) : XV E F w (.meth g ts) (.func (.func g) vs #[]) []
inductive XVs (E : Env) (F : Nat → Prop) (w : World) : List X → List Value → List Nat → Prop
  | nil : XVs E F w [] [] []
  | cons {x : X} {v : Value} {b : List Nat} {xs : List X} {vs : List Value} {bs : List Nat} (h : XV E F w x v b) (r : XVs E F w xs vs bs) : XVs E F w (x :: xs) (v :: vs) (b ++ bs)

theorem RowV.one {F : Nat → Prop} {e l : Nat} {xs : List T} {v : Value} (h : RowV E F w e xs v l) : oneV v = true := by
  obtain ⟨_, ⟨A, k, rfl, _⟩, _⟩ := h
  rfl

/-- The blocks are nobody's else. -/
def Free (M0 : Nat → Prop) (w0 : World) (c : Ctx) (st : St) (w : World) (l : Nat) : Prop :=
  l < w.heap.size ∧ ¬ c.F l ∧ (M0 l ∨ w0.heap.size ≤ l) ∧ ∀ i, i < st.n → Owns c i (st.o i) → c.loc i ≠ l

structure Bound (E : Env) (M0 : Nat → Prop) (w0 : World) (c : Ctx) (st : St) (w : World) (bl : List Nat) (c' : Ctx) (st' : St) : Prop where
  le : c.Le c'
  F : c'.F = c.F
  inv : Inv E M0 w0 c' st' w
  s : st'.s = st.s
  N : st'.N = st.N
  n : st.n ≤ st'.n
  own : ∀ i, i < st'.n → Owns c' i (st'.o i) → (i < st.n ∧ Owns c i (st.o i)) ∨ c'.loc i ∈ bl
theorem Bound.refl (hI : Inv E M0 w0 c st w) (bl : List Nat) : Bound E M0 w0 c st w bl c st :=
  ⟨Ctx.Le.refl c, rfl, hI, rfl, rfl, Nat.le_refl _, fun i hi ho => .inl ⟨hi, ho⟩⟩
theorem Bound.free {bl : List Nat} {c' : Ctx} {st' : St} (h : Bound E M0 w0 c st w bl c' st') (hI : Inv E M0 w0 c st w) {l : Nat} (hf : Free M0 w0 c st w l) (hl : l ∉ bl) : Free M0 w0 c' st' w l := by
  obtain ⟨f1, f2, f3, f4⟩ := hf
  refine ⟨f1, by rw [h.F]; exact f2, f3, fun i hi ho e => ?_⟩
  rcases h.own i hi ho with ⟨g1, g2⟩ | g
  · rw [h.le.loc i (by rw [hI.n]; exact g1)] at e
    exact f4 i g1 g2 e
  · rw [e] at g; exact hl g
theorem Bound.trans {bl bl' bl2 : List Nat} {c1 c2 : Ctx} {st1 st2 : St} (h : Bound E M0 w0 c st w bl c1 st1) (h' : Bound E M0 w0 c1 st1 w bl' c2 st2) (hs : ∀ l ∈ bl, l ∈ bl2) (hs' : ∀ l ∈ bl', l ∈ bl2) : Bound E M0 w0 c st w bl2 c2 st2 := by
  refine ⟨h.le.trans h'.le, h'.F.trans h.F, h'.inv, h'.s.trans h.s, h'.N.trans h.N, Nat.le_trans h.n h'.n, fun i hi ho => ?_⟩
  rcases h'.own i hi ho with ⟨g1, g2⟩ | g
  · rcases h.own i g1 g2 with g | g
    · exact .inl g
    · rw [h'.le.loc i (by rw [h.inv.n]; exact g1)]
      exact .inr (hs _ g)
  · exact .inr (hs' _ g)

theorem bindRow_ok (hI : Inv E M0 w0 c st w) {e l : Nat} {xs : List T} {v : Value} (h : RowV E c.F w e xs v l) (hf : ∀ k ∈ ownL v l, Free M0 w0 c st w k) :
    ∃ c', Bound E M0 w0 c st w (ownL v l) c' (st.alloc (.row e xs true)) ∧ Rel c' w (.row st.n) v := by
  have hone := h.one
  have hval : ∀ q, (c.push q v (E.ty e).size).val c.n = v := fun q => upd_self _ _ _
  have hloc : ∀ q, (c.push q v (E.ty e).size).loc c.n = q := fun q => upd_self _ _ _
  have hsz : ∀ q, (c.push q v (E.ty e).size).sz c.n = (E.ty e).size := fun q => upd_self _ _ _
  have hrel : ∀ q, Rel (c.push q v (E.ty e).size) w (.row st.n) v := by
    intro q
    have := Rel.row (c := c.push q v (E.ty e).size) (w := w) c.n (Nat.lt_succ_self _)
    rw [hval, hI.n] at this
    exact this
  have hstep : ∀ q, Inv E M0 w0 (c.push q v (E.ty e).size) (st.alloc (.row e xs true)) w → (∀ i, i < st.n + 1 → Owns (c.push q v (E.ty e).size) i ((st.alloc (.row e xs true)).o i) → (i < st.n ∧ Owns c i (st.o i)) ∨ (c.push q v (E.ty e).size).loc i ∈ ownL v l) →
      ∃ c', Bound E M0 w0 c st w (ownL v l) c' (st.alloc (.row e xs true)) ∧ Rel c' w (.row st.n) v := by
    intro q hi ho
    exact ⟨_, ⟨c.le_push _ _ _, rfl, hi, rfl, rfl, Nat.le_succ _, ho⟩, hrel q⟩
  by_cases hk : capV v = 0
  · have hob : ObOK E (c.push 0 v (E.ty e).size) w c.n (.row e xs true) := by
      rw [obOK_row, hsz, hval, hloc]
      obtain ⟨h1, h2, h3, h4, h5⟩ := h
      refine ⟨rfl, h1, h2, h3, h4, fun A n k hv hk0 => ?_⟩
      rw [hv] at hk
      exact absurd hk hk0
    have hno : ¬ Owns (c.push 0 v (E.ty e).size) c.n (.row e xs true) := by
      rintro ⟨A, n, k, hv, hk0⟩
      rw [hval] at hv
      rw [hv] at hk
      exact hk0 hk
    refine hstep 0 (hI.add0 _ _ hone hno hob) (fun i hi ho => ?_)
    by_cases hi' : i < st.n
    · have : (st.alloc (.row e xs true)).o i = st.o i := upd_ne _ _ (by omega)
      rw [this] at ho
      exact .inl ⟨hi', ho.mono (c.le_push _ _ _) (by rw [hI.n]; exact hi')⟩
    · have : i = c.n := by rw [hI.n]; omega
      subst this
      have : (st.alloc (.row e xs true)).o c.n = .row e xs true := by rw [hI.n]; exact upd_self _ _ _
      rw [this] at ho
      exact absurd ho hno
  · have hlm : l ∈ ownL v l := by simp [ownL, hk]
    obtain ⟨f1, f2, f3, f4⟩ := hf l hlm
    have hob : ObOK E (c.push l v (E.ty e).size) w c.n (.row e xs true) := by
      rw [obOK_row, hsz, hval, hloc]
      exact ⟨rfl, h⟩
    refine hstep l (hI.add l v _ (Same.refl _ _) f1 f2 f3 f4 hone hob) (fun i hi ho => ?_)
    by_cases hi' : i < st.n
    · have : (st.alloc (.row e xs true)).o i = st.o i := upd_ne _ _ (by omega)
      rw [this] at ho
      exact .inl ⟨hi', ho.mono (c.le_push _ _ _) (by rw [hI.n]; exact hi')⟩
    · have : i = c.n := by rw [hI.n]; omega
      subst this
      rw [hloc]
      exact .inr hlm

theorem XCs.mono {F F' : Nat → Prop} {xs : List X} {vs : List Value} {b : List Nat} (h : XCs E F w xs vs b) (hF : ∀ k, F k → F' k) (hw : ∀ k, F k → w'.heap[k]? = w.heap[k]?) (hb : ∀ k ∈ b, w'.heap[k]? = w.heap[k]?) : XCs E F' w' xs vs b := by
  induction h with
  | nil => exact .nil
  | tC h h1 r ih => exact .tC (h.mono hF hw) h1 (ih hb)
  | nilC A r ih => exact .nilC A (ih hb)
  | rowC h r ih => exact .rowC (h.mono hF hw (fun k hk => hb k (List.mem_append_left _ hk))) (ih (fun k hk => hb k (List.mem_append_right _ hk)))
  | srefC hh hm h r ih1 ih2 =>
    exact .srefC (by rw [hb _ (by simp)]; exact hh) hm (ih1 (fun k hk => hb k (List.mem_append_left _ (List.mem_cons_of_mem _ hk)))) (ih2 (fun k hk => hb k (List.mem_append_right _ hk)))
theorem XC.mono {F F' : Nat → Prop} {x : X} {v : Value} {b : List Nat} (h : XC E F w x v b) (hF : ∀ k, F k → F' k) (hw : ∀ k, F k → w'.heap[k]? = w.heap[k]?) (hb : ∀ k ∈ b, w'.heap[k]? = w.heap[k]?) : XC E F' w' x v b := by
  cases h with
  | t h h1 => exact .t (h.mono hF hw) h1
  | nil A => exact .nil A
  | row h => exact .row (h.mono hF hw hb)
  | sref hh hm h => exact .sref (by rw [hb _ (by simp)]; exact hh) hm (h.mono hF hw (fun k hk => hb k (List.mem_cons_of_mem _ hk)))

/-- A block whose cells are laid. -/
theorem bindBox_ok (hI : Inv E M0 w0 c st w) {l ty : Nat} {us : Array Value} {bb : List Nat} {c1 : Ctx} {stc : St} {cells : List SV} (b1 : Bound E M0 w0 c st w bb c1 stc) (l1 : cells.length = us.toList.length) (o1 : ∀ s ∈ cells, s.one = true)
    (r1 : ∀ (i : Nat) s v, cells[i]? = some s → us.toList[i]? = some v → Rel c1 w s v) (hh : w.heap[l]? = some (.cells us ty (0, 0))) (hn : (l :: bb).Nodup) (hf : ∀ k ∈ l :: bb, Free M0 w0 c st w k) :
    ∃ c2, Bound E M0 w0 c st w (l :: bb) c2 (stc.alloc (.box ty cells)) ∧ stc.n < c2.n ∧ c2.loc stc.n = l := by
  obtain ⟨hn1, hn2⟩ := List.nodup_cons.1 hn
  obtain ⟨f1, f2, f3, f4⟩ := b1.free hI (hf l (by simp)) hn1
  have hloc : (c1.push l .nilFunc 0).loc c1.n = l := upd_self _ _ _
  have hle := c1.le_push l .nilFunc 0
  refine ⟨c1.push l .nilFunc 0, (b1.trans (bl' := [l]) ⟨hle, rfl, b1.inv.add l .nilFunc 0 (Same.refl _ _) f1 f2 f3 f4 rfl ?_, rfl, rfl, Nat.le_succ _, fun i hi ho => ?_⟩ (fun k hk => List.mem_cons_of_mem _ hk) (fun k hk => by simp at hk; simp [hk])), ?_, ?_⟩
  · exact ⟨us, by rw [hloc]; exact hh, by simpa using l1.symm, o1, fun j s v hs hv => (r1 j s v hs (by simpa using hv)).mono hle (fun _ _ => rfl)⟩
  · have hi1 : i < stc.n + 1 := hi
    by_cases hi' : i < stc.n
    · have : (stc.alloc (.box ty cells)).o i = stc.o i := upd_ne _ _ (by omega)
      rw [this] at ho
      exact .inl ⟨hi', ho.mono hle (by rw [b1.inv.n]; exact hi')⟩
    · have : i = c1.n := by rw [b1.inv.n]; omega
      subst this
      rw [hloc]; exact .inr (by simp)
  · rw [← b1.inv.n]; exact Nat.lt_succ_self _
  · rw [← b1.inv.n]; exact hloc
theorem bindCells_all {F : Nat → Prop} {xs : List X} {vs : List Value} {b : List Nat} (h : XCs E F w xs vs b) : ∀ {c : Ctx} {st : St}, c.F = F → Inv E M0 w0 c st w → b.Nodup → (∀ k ∈ b, Free M0 w0 c st w k) →
    ∃ c', Bound E M0 w0 c st w b c' (st.bindCells xs).2 ∧ (st.bindCells xs).1.length = vs.length ∧ (∀ s ∈ (st.bindCells xs).1, s.one = true) ∧ ∀ (i : Nat) s v, (st.bindCells xs).1[i]? = some s → vs[i]? = some v → Rel c' w s v := by
  -- one cell ahead of the others
  have one : ∀ {c : Ctx} {st : St} {x : X} {v : Value} {xs : List X} {vs : List Value} {b bs : List Nat} {c1 : Ctx}, c.F = F → Inv E M0 w0 c st w → (b ++ bs).Nodup → (∀ k ∈ b ++ bs, Free M0 w0 c st w k) → Bound E M0 w0 c st w b c1 (st.bindCell x).2 → Rel c1 w (st.bindCell x).1 v → (st.bindCell x).1.one = true →
      (∀ {c : Ctx} {st : St}, c.F = F → Inv E M0 w0 c st w → bs.Nodup → (∀ k ∈ bs, Free M0 w0 c st w k) →
        ∃ c', Bound E M0 w0 c st w bs c' (st.bindCells xs).2 ∧ (st.bindCells xs).1.length = vs.length ∧ (∀ s ∈ (st.bindCells xs).1, s.one = true) ∧ ∀ (i : Nat) s v, (st.bindCells xs).1[i]? = some s → vs[i]? = some v → Rel c' w s v) →
      ∃ c', Bound E M0 w0 c st w (b ++ bs) c' (st.bindCells (x :: xs)).2 ∧ (st.bindCells (x :: xs)).1.length = (v :: vs).length ∧ (∀ s ∈ (st.bindCells (x :: xs)).1, s.one = true) ∧ ∀ (i : Nat) s u, (st.bindCells (x :: xs)).1[i]? = some s → (v :: vs)[i]? = some u → Rel c' w s u := by
    intro c st x v xs vs b bs c1 hcF hI hn hf b1 r1 o1 ih
    obtain ⟨hn1, hn2, hn3⟩ := List.nodup_append.1 hn
    obtain ⟨c2, b2, l2, o2, r2⟩ := ih (b1.F.trans hcF) b1.inv hn2 (fun k hk => b1.free hI (hf k (List.mem_append_right _ hk)) (fun hk' => hn3 k hk' k hk rfl))
    refine ⟨c2, by simp only [St.bindCells]; exact b1.trans b2 (fun l hl => List.mem_append_left _ hl) (fun l hl => List.mem_append_right _ hl), by simp [St.bindCells, l2], fun s hs => ?_, fun i s v hs hv => ?_⟩
    · simp only [St.bindCells] at hs
      rcases List.mem_cons.1 hs with rfl | hs
      · exact o1
      · exact o2 s hs
    · simp only [St.bindCells] at hs
      cases i with
      | zero => simp at hs hv; subst hs; subst hv; exact r1.mono b2.le (fun _ _ => rfl)
      | succ i => exact r2 i s v (by simpa using hs) (by simpa using hv)
  induction h with
  | nil =>
    intro c st hcF hI hn hf
    exact ⟨c, by simp only [St.bindCells]; exact .refl hI _, by simp [St.bindCells], by simp [St.bindCells], fun i s v hs => by simp [St.bindCells] at hs⟩
  | @tC t v xs vs bs h h1 r ih =>
    intro c st hcF hI hn hf
    subst hcF
    exact one (b := []) (x := .t t) rfl hI hn hf (by simp only [St.bindCell]; exact .refl hI _) (by simp only [St.bindCell]; exact .t h) (by simp only [St.bindCell]; exact h1) ih
  | nilC A r ih =>
    intro c st hcF hI hn hf
    exact one (b := []) (x := .nil) hcF hI hn hf (by simp only [St.bindCell]; exact .refl hI _) (by simp only [St.bindCell]; exact .nil A) (by simp only [St.bindCell]; rfl) ih
  | @rowC e ys v l xs vs bs h r ih =>
    intro c st hcF hI hn hf
    subst hcF
    obtain ⟨c', h1, h2⟩ := bindRow_ok hI h (fun k hk => hf k (List.mem_append_left _ hk))
    exact one (x := .row e ys) rfl hI hn hf (by simp only [St.bindCell]; exact h1) (by simp only [St.bindCell]; exact h2) (by simp only [St.bindCell]; rfl) ih
  | @srefC ty n sz l cs us b xs vs bs hh hm h r ih1 ih2 =>
    intro c st hcF hI hn hf
    have hnl := (List.nodup_append.1 hn).1
    have hfl : ∀ k ∈ l :: b, Free M0 w0 c st w k := fun k hk => hf k (List.mem_append_left _ hk)
    obtain ⟨c1, b1, l1, o1, r1⟩ := ih1 hcF hI (List.nodup_cons.1 hnl).2 (fun k hk => hfl k (List.mem_cons_of_mem _ hk))
    obtain ⟨c2, b2, k1, k2⟩ := bindBox_ok hI b1 l1 o1 r1 hh hnl hfl
    refine one (x := .sref ty n sz cs) (b := l :: b) hcF hI hn hf (by simp only [St.bindCell]; exact b2) (by simp only [St.bindCell]; rw [← k2]; exact .sl _ n sz k1 hm) (by simp only [St.bindCell]; rfl) ih2
theorem bindCells_ok {xs : List X} {c : Ctx} {st : St} {vs : List Value} {b : List Nat} (hI : Inv E M0 w0 c st w) (h : XCs E c.F w xs vs b) (hn : b.Nodup) (hf : ∀ k ∈ b, Free M0 w0 c st w k) :
    ∃ c', Bound E M0 w0 c st w b c' (st.bindCells xs).2 ∧ (st.bindCells xs).1.length = vs.length ∧ (∀ s ∈ (st.bindCells xs).1, s.one = true) ∧ ∀ (i : Nat) s v, (st.bindCells xs).1[i]? = some s → vs[i]? = some v → Rel c' w s v :=
  bindCells_all h rfl hI hn hf
theorem ofT_rel {t : T} {v : Value} (h : RD c.F w t v) : Rel c w (ofT t) v := by
  cases h with
  | agg cs vs hl h1 hr =>
    refine .agg _ vs (by simpa using hl) (fun y hy => ?_) (fun i s v hs hv => ?_)
    · simp only [List.mem_map] at hy
      obtain ⟨x, hx, rfl⟩ := hy
      exact h1 x hx
    · rw [List.getElem?_map, Option.map_eq_some_iff] at hs
      obtain ⟨x, hx, rfl⟩ := hs
      exact .t (hr i x v hx hv)
  | int k n => exact .t (.int k n)
  | bool b => exact .t (.bool b)
  | str s => exact .t (.str s)
  | list xs A cp sz cell hc hm hz hw h1 ha h => exact .t (.list xs A cp sz cell hc hm hz hw h1 ha h)
theorem bind_ok (hI : Inv E M0 w0 c st w) {x : X} {v : Value} {b : List Nat} (h : XV E c.F w x v b) (hn : b.Nodup) (hf : ∀ k ∈ b, Free M0 w0 c st w k) :
    ∃ c', Bound E M0 w0 c st w b c' (st.bind x).2 ∧ Rel c' w (st.bind x).1 v := by
  cases h with
  | t h => exact ⟨c, .refl hI _, ofT_rel h⟩
  | nil A => exact ⟨c, .refl hI _, .nil A⟩
  | row h => exact bindRow_ok hI h hf
  | @agg cs vs _ h =>
    obtain ⟨c1, b1, l1, o1, r1⟩ := bindCells_ok hI h hn hf
    exact ⟨c1, b1, .agg _ vs (by simpa using l1) o1 (fun i s v hs hv => r1 i s v hs (by simpa using hv))⟩
  | @ref ty l cs vs bb hh h =>
    obtain ⟨c1, b1, l1, o1, r1⟩ := bindCells_ok hI h (List.nodup_cons.1 hn).2 (fun k hk => hf k (List.mem_cons_of_mem _ hk))
    obtain ⟨c2, b2, k1, k2⟩ := bindBox_ok hI b1 l1 o1 r1 hh hn hf
    refine ⟨c2, b2, ?_⟩
    have := Rel.ptr (c := c2) (w := w) (st.bindCells cs).2.n 0 k1
    rw [k2] at this
    exact this
  | @sref ty n sz l cs vs bb hh hm h =>
    obtain ⟨c1, b1, l1, o1, r1⟩ := bindCells_ok hI h (List.nodup_cons.1 hn).2 (fun k hk => hf k (List.mem_cons_of_mem _ hk))
    obtain ⟨c2, b2, k1, k2⟩ := bindBox_ok hI b1 l1 o1 r1 hh hn hf
    refine ⟨c2, b2, ?_⟩
    have := Rel.sl (c := c2) (w := w) (st.bindCells cs).2.n n sz k1 hm
    rw [k2] at this
    exact this
  | dref h => exact ⟨c, .refl hI _, h c rfl⟩
  | @fn g caps vs hl h =>
    refine ⟨c, .refl hI _, .fn g _ vs (by simpa using hl) (fun i s v hs hv => ?_)⟩
    rw [List.getElem?_map, Option.map_eq_some_iff] at hs
    obtain ⟨cs, hcs, rfl⟩ := hs
    exact h i cs v hcs hv c rfl
  | @meth g ts vs hl h => exact ⟨c, .refl hI _, .meth g ts vs hl h⟩
theorem bindAll_ok : ∀ {xs : List X} {c : Ctx} {st : St} {vs : List Value} {b : List Nat}, Inv E M0 w0 c st w → XVs E c.F w xs vs b → b.Nodup → (∀ k ∈ b, Free M0 w0 c st w k) →
    ∃ c', Bound E M0 w0 c st w b c' (st.bindAll xs).2 ∧ (st.bindAll xs).1.length = vs.length ∧ ∀ (i : Nat) s v, (st.bindAll xs).1[i]? = some s → vs[i]? = some v → Rel c' w s v
  | [], c, st, vs, b, hI, h, hn, hf => by
    cases h
    exact ⟨c, .refl hI _, rfl, fun i s v hs => by simp [St.bindAll] at hs⟩
  | x :: xs, c, st, vs, b, hI, h, hn, hf => by
    cases h with
    | @cons _ v b _ vs bs h r =>
      obtain ⟨hn1, hn2, hn3⟩ := List.nodup_append.1 hn
      obtain ⟨c1, b1, r1⟩ := bind_ok hI h hn1 (fun k hk => hf k (List.mem_append_left _ hk))
      have r' : XVs E c1.F w xs vs bs := by rw [b1.F]; exact r
      obtain ⟨c2, b2, l2, r2⟩ := bindAll_ok b1.inv r' hn2 (fun k hk => b1.free hI (hf k (List.mem_append_right _ hk)) (fun hk' => hn3 k hk' k hk rfl))
      refine ⟨c2, b1.trans b2 (fun l hl => List.mem_append_left _ hl) (fun l hl => List.mem_append_right _ hl), by simp [St.bindAll, l2], fun i s v hs hv => ?_⟩
      simp only [St.bindAll] at hs
      cases i with
      | zero => simp at hs hv; subst hs; subst hv; exact r1.mono b2.le (fun _ _ => rfl)
      | succ i => exact r2 i s v (by simpa using hs) (by simpa using hv)
end
section
variable {E : Env} {P : Program} {M0 : Nat → Prop} {w0 : World} {c : Ctx} {st st' : St} {a : Act} {w w' : World}

/-- The blocks of an object. -/
def blkOf (c : Ctx) (st : St) (i : Nat) : List Nat := match st.o i with
  | .box _ _ => [c.loc i]
  | .row _ _ true => ownL (c.val i) (c.loc i)
  | _ => []
def bids (c : Ctx) (st : St) (ids : List Nat) : List Nat := (ids.map (blkOf c st)).flatten
theorem bids_cons (i : Nat) (l : List Nat) : bids c st (i :: l) = blkOf c st i ++ bids c st l := rfl
theorem bids_append (l l' : List Nat) : bids c st (l ++ l') = bids c st l ++ bids c st l' := by simp [bids]

theorem blkOf_mem (hI : Inv E M0 w0 c st w) {i k : Nat} (h : k ∈ blkOf c st i) : i < st.n ∧ Owns c i (st.o i) ∧ k = c.loc i := by
  have hlt : i < st.n := by
    by_cases hi : i < st.n
    · exact hi
    · have := hI.dead i (by omega)
      simp [blkOf, this] at h
  have hob := hI.obs i hlt
  unfold blkOf at h
  split at h
  · rename_i hb
    simp at h
    refine ⟨hlt, by rw [hb]; trivial, h⟩
  · rename_i hb
    rw [hb] at hob
    obtain ⟨_, _, ⟨A, n, hv, _⟩, _⟩ := hob
    rw [hv] at h
    simp only [ownL, capV] at h
    by_cases hk : n = 0
    · simp [hk] at h
    · simp [hk] at h
      exact ⟨hlt, by rw [hb]; exact ⟨A, _, n, hv, hk⟩, h⟩
  · cases h
theorem bids_mem (hI : Inv E M0 w0 c st w) {ids : List Nat} {k : Nat} (h : k ∈ bids c st ids) : ∃ i ∈ ids, i < st.n ∧ Owns c i (st.o i) ∧ k = c.loc i := by
  unfold bids at h
  obtain ⟨l, hl, hk⟩ := List.mem_flatten.1 h
  obtain ⟨i, hi, rfl⟩ := List.mem_map.1 hl
  exact ⟨i, hi, blkOf_mem hI hk⟩
theorem blkOf_nodup (i : Nat) : (blkOf c st i).Nodup := by
  unfold blkOf ownL
  split
  · simp
  · split <;> simp
  · simp
theorem bids_nodup (hI : Inv E M0 w0 c st w) : ∀ {ids : List Nat}, ids.Nodup → (bids c st ids).Nodup
  | [], _ => by simp [bids]
  | i :: l, h => by
    obtain ⟨h1, h2⟩ := List.nodup_cons.1 h
    rw [bids_cons]
    refine List.nodup_append.2 ⟨blkOf_nodup i, bids_nodup hI h2, fun a ha b hb e => ?_⟩
    subst e
    obtain ⟨g1, g2, g3⟩ := blkOf_mem hI ha
    obtain ⟨j, hj, k1, k2, k3⟩ := bids_mem hI hb
    have := hI.inj i j g1 k1 g2 k2 (by rw [← g3, ← k3])
    subst this
    exact h1 hj

def DR (F : Nat → Prop) (w : World) (cs : List T) (v : Value) : Prop := ∀ c : Ctx, c.F = F → Rel c w (.dptr cs) v
theorem DR.mk {F : Nat → Prop} {cs : List T} {g o : Nat} (cell : Nat → Value) (hg : F g) (h1 : ∀ y ∈ cs, y.one = true) (hc : ∀ i, i < cs.length → w.cell? ⟨g, o + i, none⟩ = some (cell i)) (h : ∀ (i : Nat) y, cs[i]? = some y → RD F w y (cell i)) : DR F w cs (.pointer (some ⟨g, o, none⟩)) := by
  intro c hc'
  subst hc'
  exact .dptr cs g o cell hg h1 hc h
theorem DR.of {F : Nat → Prop} {cs : List T} {v : Value} (h : Rel c w (.dptr cs) v) (hF : ∀ k, c.F k → F k) : DR F w cs v := by
  cases h with
  | dptr _ g o cell hg h1 hc h => exact .mk cell (hF g hg) h1 hc (fun i y hy => (h i y hy).mono hF (fun _ _ => rfl))
/-- A box, looked at. -/
theorem box_DR (hI : Inv E M0 w0 c st w) {b off ty : Nat} {cells : List SV} {ts : List T} {v : Value} {ids : List Nat} (hr : Rel c w (.ptr b off) v) (ho : st.o b = .box ty cells) (hp : st.peekL (cells.drop off) = some ts) (hids : ∀ i ∈ b :: rowIds cells, i ∈ ids) : DR (FP c st ids) w ts v := by
  cases hr with
  | ptr _ _ hb =>
    have hb' : b < st.n := by rw [← hI.n]; exact hb
    have hob := hI.obs b hb'
    rw [ho] at hob
    obtain ⟨vs, e1, e2, e3, e4⟩ := hob
    obtain ⟨p1, p2, p3⟩ := peekL_RD hI hp
    have hsub : ∀ i ∈ rowIds (cells.drop off), i ∈ ids := by
      intro i hi
      refine hids i (List.mem_cons_of_mem _ ?_)
      have : ∀ (l : List SV) (n : Nat), i ∈ rowIds (l.drop n) → i ∈ rowIds l := by
        intro l
        induction l with
        | nil => intro n h; simpa using h
        | cons s r ih =>
          intro n h
          cases n with
          | zero => simpa using h
          | succ n =>
            have := ih n (by simpa using h)
            cases s <;> simp [rowIds, this]
      exact this cells off hi
    refine .mk (fun i => vs.getD (off + i) undef) (.inr ⟨b, hids b (by simp), hb', by rw [ho]; trivial, rfl⟩) p2 (fun i hi => ?_) (fun i y hy => ?_)
    · have hlt : off + i < vs.size := by rw [p1] at hi; simp at hi; omega
      simp [World.cell?, e1, hlt]
    · have hi := (List.getElem?_eq_some_iff.1 hy).1
      rw [p1] at hi
      simp at hi
      have hlt : off + i < cells.length := by omega
      have hlt2 : off + i < vs.size := by omega
      have := p3 hsub i (cells[off + i]) y vs[off + i] (by simp [hlt]) hy (e4 _ _ _ (List.getElem?_eq_getElem hlt) (Array.getElem?_eq_getElem hlt2))
      simpa [hlt2] using this
theorem goRo_ok (hI : Inv E M0 w0 c st w) : ∀ {caps : List SV} {xs : List (List T)} {vs : List Value} {ids : List Nat}, St.giveRo.go st caps = some xs → vs.length = caps.length → (∀ (i : Nat) s v, caps[i]? = some s → vs[i]? = some v → Rel c w s v) → (∀ i ∈ st.capIds caps, i ∈ ids) →
    xs.length = caps.length ∧ ∀ (i : Nat) cs v, xs[i]? = some cs → vs[i]? = some v → DR (FP c st ids) w cs v
  | [], xs, vs, ids, h, hl, hr, hid => by
    simp only [St.giveRo.go, Option.some.injEq] at h
    subst h
    exact ⟨rfl, fun i cs v hs => by simp at hs⟩
  | s :: r, xs, vs, ids, h, hl, hr, hid => by
    cases vs with
    | nil => simp at hl
    | cons v vs =>
      have hr0 := hr 0 s v rfl rfl
      have hrr : ∀ (i : Nat) s v, r[i]? = some s → vs[i]? = some v → Rel c w s v := fun i s v hs hv => hr (i + 1) s v (by simpa using hs) (by simpa using hv)
      unfold St.giveRo.go at h
      split at h
      · rename_i heq
        cases heq
      · rename_i b q heq
        injection heq with e1 e2
        subst e1; subst e2
        split at h
        · rename_i ty cells ho
          split at h
          · rename_i ts hts
            simp only [Option.map_eq_some_iff] at h
            obtain ⟨ys, hys, rfl⟩ := h
            simp only [St.capIds, ho] at hid
            obtain ⟨g1, g2⟩ := goRo_ok hI (vs := vs) hys (by simpa using hl) hrr (fun i hi => hid i (by simp [hi]))
            refine ⟨by simp [g1], fun i cs v' hs hv => ?_⟩
            cases i with
            | zero =>
              simp at hs hv
              subst hs; subst hv
              exact box_DR hI hr0 ho (by simpa using hts) (fun i hi => hid i (by rcases List.mem_cons.1 hi with rfl | hi <;> simp [*]))
            | succ i => exact g2 i cs v' (by simpa using hs) (by simpa using hv)
          · cases h
        · cases h
      · rename_i cs' q heq
        injection heq with e1 e2
        subst e1; subst e2
        simp only [Option.map_eq_some_iff] at h
        obtain ⟨ys, hys, rfl⟩ := h
        simp only [St.capIds] at hid
        obtain ⟨g1, g2⟩ := goRo_ok hI (vs := vs) hys (by simpa using hl) hrr hid
        refine ⟨by simp [g1], fun i cs v' hs hv => ?_⟩
        cases i with
        | zero =>
          simp at hs hv
          subst hs; subst hv
          exact DR.of hr0 (fun k hk => .inl hk)
        | succ i => exact g2 i cs v' (by simpa using hs) (by simpa using hv)
      · cases h

theorem allW_get {α β : Type} {g : α → Option β} : ∀ {l : List α} {ts : List β}, allW g l = some ts → ts.length = l.length ∧ ∀ (i : Nat) t, ts[i]? = some t → ∃ s, l[i]? = some s ∧ g s = some t
  | [], ts, h => by
    obtain rfl := Option.some.inj h
    exact ⟨rfl, fun i t ht => by simp at ht⟩
  | v :: r, ts, h => by
    unfold allW at h
    split at h
    · cases h
    · rename_i x hx
      split at h
      · cases h
      · rename_i xs hxs
        obtain rfl := Option.some.inj h
        obtain ⟨h1, h2⟩ := allW_get hxs
        refine ⟨by simp [h1], fun i t ht => ?_⟩
        cases i with
        | zero => simp at ht; subst ht; exact ⟨v, rfl, hx⟩
        | succ i => exact h2 i t (by simpa using ht)
theorem chunkT_len (sz : Nat) : ∀ (n : Nat) (ts : List T), (chunkT sz n ts).length = n
  | 0, _ => rfl
  | n + 1, ts => by simp [chunkT, chunkT_len sz n]
theorem chunkT_get (sz : Nat) : ∀ (n : Nat) (ts : List T) (j : Nat) (x : T), (chunkT sz n ts)[j]? = some x → j < n ∧ x = .agg ((ts.drop (j * sz)).take sz)
  | 0, ts, j, x, h => by simp [chunkT] at h
  | n + 1, ts, 0, x, h => by
    simp [chunkT] at h
    subst h
    exact ⟨by omega, by simp⟩
  | n + 1, ts, j + 1, x, h => by
    simp only [chunkT, List.getElem?_cons_succ] at h
    obtain ⟨h1, h2⟩ := chunkT_get sz n _ j x h
    refine ⟨by omega, ?_⟩
    rw [h2, List.drop_drop]
    congr 3
    rw [Nat.add_mul]; omega
theorem sl1F_row (f : Nat) (s : SV) (hs : ∀ b n sz, s ≠ .sl b n sz) : st.sl1F f s = rowIds [s] := by
  cases s <;> first
    | exact absurd rfl (hs _ _ _)
    | (cases f <;> rfl)
theorem peek1F_plain (f : Nat) (s : SV) (hs : ∀ b n sz, s ≠ .sl b n sz) : st.peek1F f s = st.peek1 s := by
  cases s <;> first
    | exact absurd rfl (hs _ _ _)
    | (cases f <;> rfl)
theorem peek1F_RD (hI : Inv E M0 w0 c st w) {ids : List Nat} : ∀ (f : Nat) {s : SV} {v : Value} {t : T}, Rel c w s v → st.peek1F f s = some t → (∀ i ∈ st.sl1F f s, i ∈ ids) → RD (FP c st ids) w t v ∧ t.one = true := by
  intro f
  induction f with
  | zero =>
    intro s v t hr hp hid
    have hp' : st.peek1 s = some t := hp
    obtain ⟨h1, h2⟩ := peek1_RD hI hr hp'
    refine ⟨h1.mono (FP.sub (fun i hi => hid i ?_)) (fun _ _ => rfl), h2⟩
    cases s <;> first
      | exact hi
      | (simp [rowIds] at hi)
  | succ f ih =>
    intro s v t hr hp hid
    by_cases hs : ∃ b n sz, s = .sl b n sz
    · obtain ⟨b, n, sz, rfl⟩ := hs
      simp only [St.peek1F] at hp
      split at hp
      · rename_i ty cells ho
        split at hp
        · rename_i hc
          obtain ⟨hlen, hsz⟩ := hc
          simp only [Option.map_eq_some_iff] at hp
          obtain ⟨ts, hts, rfl⟩ := hp
          refine ⟨?_, rfl⟩
          obtain ⟨p1, p2⟩ := allW_get hts
          cases hr with
          | sl _ _ _ hb hm =>
            have hb' : b < st.n := by rw [← hI.n]; exact hb
            have hob := hI.obs b hb'
            rw [ho] at hob
            obtain ⟨vs, e1, e2, e3, e4⟩ := hob
            simp only [St.sl1F, ho] at hid
            have hF : FP c st ids (c.loc b) := .inr ⟨b, hid b (by simp), hb', by rw [ho]; trivial, rfl⟩
            have hall : ∀ (i : Nat) y, ts[i]? = some y → RD (FP c st ids) w y (vs.getD i undef) ∧ y.one = true := by
              intro i y hy
              obtain ⟨s, hs, hg⟩ := p2 i y hy
              have hlt := (List.getElem?_eq_some_iff.1 hs).1
              have hlt2 : i < vs.size := by omega
              have := ih (e4 i s _ hs (Array.getElem?_eq_getElem hlt2)) hg (fun k hk => hid k (List.mem_cons_of_mem _ (List.mem_flatten.2 ⟨_, List.mem_map.2 ⟨s, List.mem_of_getElem? hs, rfl⟩, hk⟩)))
              simpa [hlt2] using this
            have hts : ts.length = n * sz := p1.trans hlen
            have hcell : ∀ (j : Nat) x, (chunkT sz n ts)[j]? = some x → j < n ∧ x.cells.length = sz ∧ ∀ (i : Nat) y, x.cells[i]? = some y → ts[j * sz + i]? = some y := by
              intro j x hx
              obtain ⟨g1, rfl⟩ := chunkT_get sz n ts j x hx
              have hm2 := Nat.mul_le_mul_right sz (show j + 1 ≤ n by omega)
              rw [Nat.add_mul, Nat.one_mul] at hm2
              refine ⟨g1, by simp [T.cells]; omega, fun i y hy => ?_⟩
              simp only [T.cells] at hy
              have hi := (List.getElem?_eq_some_iff.1 hy).1
              simp at hi
              rw [List.getElem?_take, if_pos (by omega), List.getElem?_drop] at hy
              exact hy
            have := RD.list (F := FP c st ids) (w := w) (chunkT sz n ts) (some ⟨c.loc b, 0, none⟩) n sz (fun j i => vs.getD (j * sz + i) undef) (by rw [chunkT_len]; exact Nat.le_refl _) hm hsz
              (fun x hx => by obtain ⟨j, hj⟩ := List.mem_iff_getElem?.1 hx; exact (hcell j x hj).2.1)
              (fun x hx y hy => by
                obtain ⟨j, hj⟩ := List.mem_iff_getElem?.1 hx
                obtain ⟨i, hi⟩ := List.mem_iff_getElem?.1 hy
                exact (hall _ _ ((hcell j x hj).2.2 i y hi)).2)
              (fun _ => ⟨c.loc b, 0, rfl, hF, fun j i hj hi => by
                rw [chunkT_len] at hj
                have hm2 := Nat.mul_le_mul_right sz (show j + 1 ≤ n by omega)
                rw [Nat.add_mul, Nat.one_mul] at hm2
                have hlt : j * sz + i < vs.size := by omega
                rw [Nat.zero_add]
                simp [World.cell?, e1, hlt]⟩)
              (fun j x i y hx hy => (hall _ _ ((hcell j x hx).2.2 i y hy)).1)
            rw [chunkT_len] at this
            exact this
        · cases hp
      · cases hp
    · have hs' : ∀ b n sz, s ≠ .sl b n sz := fun b n sz e => hs ⟨b, n, sz, e⟩
      rw [peek1F_plain _ _ hs'] at hp
      rw [sl1F_row _ _ hs'] at hid
      obtain ⟨h1, h2⟩ := peek1_RD hI hr hp
      exact ⟨h1.mono (FP.sub hid) (fun _ _ => rfl), h2⟩
theorem slIds_mem {f : Nat} {l : List SV} {s : SV} (hs : s ∈ l) : ∀ i ∈ st.sl1F 6 s, i ∈ rowIds l ++ st.slIds l := by
  intro i hi
  induction l with
  | nil => cases hs
  | cons a r ih =>
    rcases List.mem_cons.1 hs with rfl | hs
    · by_cases hh : ∃ b n sz, s = .sl b n sz
      · obtain ⟨b, n, sz, rfl⟩ := hh
        exact List.mem_append_right _ (by simp only [St.slIds]; exact List.mem_append_left _ hi)
      · have hs' : ∀ b n sz, s ≠ .sl b n sz := fun b n sz e => hh ⟨b, n, sz, e⟩
        rw [sl1F_row _ _ hs'] at hi
        refine List.mem_append_left _ ?_
        cases s <;> simp [rowIds] at hi ⊢ <;> first | exact .inl hi | exact hi.elim
    · have := ih hs
      rcases List.mem_append.1 this with h | h
      · refine List.mem_append_left _ ?_
        cases a <;> simp [rowIds, h]
      · refine List.mem_append_right _ ?_
        cases a <;> simp [St.slIds, h]
theorem peekX_RD (hI : Inv E M0 w0 c st w) {ids : List Nat} {s : SV} {v : Value} {t : T} (hr : Rel c w s v) (hp : st.peekX s = some t) (hid : ∀ i ∈ rowIds s.cells ++ st.slIds s.cells, i ∈ ids) : RD (FP c st ids) w t v := by
  have one : ∀ {s : SV} {v : Value} {t : T} {l : List SV}, s ∈ l → (∀ i ∈ rowIds l ++ st.slIds l, i ∈ ids) → Rel c w s v → st.peek1F 6 s = some t → RD (FP c st ids) w t v ∧ t.one = true :=
    fun hs hid hr hp => peek1F_RD hI 6 hr hp (fun i hi => hid i (slIds_mem (f := 0) hs i hi))
  unfold St.peekX at hp
  split at hp
  · rename_i cs
    simp only [Option.map_eq_some_iff] at hp
    obtain ⟨ts, hts, rfl⟩ := hp
    obtain ⟨p1, p2⟩ := allW_get hts
    cases hr with
    | agg _ vs hl h1 hr =>
      have hall : ∀ (i : Nat) y u, ts[i]? = some y → vs[i]? = some u → RD (FP c st ids) w y u ∧ y.one = true := by
        intro i y u hy hu
        obtain ⟨s, hs, hg⟩ := p2 i y hy
        exact one (List.mem_of_getElem? hs) hid (hr i s u hs hu) hg
      refine .agg ts vs (p1.trans hl) (fun y hy => ?_) (fun i y u hy hu => (hall i y u hy hu).1)
      obtain ⟨i, hi⟩ := List.mem_iff_getElem?.1 hy
      have hlt := (List.getElem?_eq_some_iff.1 hi).1
      exact (hall i y _ hi (Array.getElem?_eq_getElem (by omega))).2
  · rename_i hne
    cases s with
    | agg cs => exact absurd rfl (hne cs)
    | _ => exact (one (l := [_]) (by simp) hid hr hp).1

theorem giveRo_ok (hI : Inv E M0 w0 c st w) {s : SV} {v : Value} {x : X} {ids : List Nat} (hr : Rel c w s v) (h : st.giveRo s = some x) (hid : ∀ i ∈ st.roIds s, i ∈ ids) : XV E (FP c st ids) w x v [] := by
  unfold St.giveRo at h
  split at h
  · rename_i g caps
    simp only [Option.map_eq_some_iff] at h
    obtain ⟨ys, hys, rfl⟩ := h
    cases hr with
    | fn _ _ vs hl hr =>
      obtain ⟨g1, g2⟩ := goRo_ok hI (vs := vs.toList) hys (by simpa using hl.symm) (fun i s v hs hv => hr i s v hs (by simpa using hv)) hid
      exact .fn (by rw [g1]; exact hl) (fun i cs v hs hv => g2 i cs v hs (by simpa using hv))
  · rename_i b off
    split at h
    · rename_i ty cells ho
      simp only [Option.map_eq_some_iff] at h
      obtain ⟨ts, hts, rfl⟩ := h
      refine .dref (box_DR hI hr ho hts (fun i hi => hid i ?_))
      simp only [St.roIds, St.capIds, ho]
      rcases List.mem_cons.1 hi with rfl | hi <;> simp [*]
    · cases h
  · rename_i r i off
    split at h
    · rename_i e xs live ho
      simp only [Option.map_eq_some_iff] at h
      obtain ⟨x', hx, rfl⟩ := h
      cases hr with
      | eptr _ _ _ g o n k hrn hv hi =>
        have hrn' : r < st.n := by rw [← hI.n]; exact hrn
        have hob := hI.obs r hrn'
        rw [ho] at hob
        have hF : FP c st ids g := by
          cases live with
          | true =>
            obtain ⟨h1, h2, ⟨A, k', hv', hk, hm⟩, h4, h5, h6⟩ := hob
            rw [hv] at hv'
            injection hv' with q1 q2 q3
            subst q1; subst q2; subst q3
            obtain ⟨o', vs, lo, hi', e1, _⟩ := h6 _ _ _ hv (by omega)
            injection e1 with e1
            injection e1 with e1 _
            exact .inr ⟨r, hid r (by simp [St.roIds]), hrn', by rw [ho]; exact ⟨_, _, _, hv, by omega⟩, e1⟩
          | false =>
            obtain ⟨g', o', k', hv', _, hF⟩ := row_addr hob (by intro e; subst e; simp at hx)
            rw [hv] at hv'
            injection hv' with q1 _ _
            injection q1 with q1
            injection q1 with q1 _
            rw [q1]
            exact .inl (hF rfl)
        have hone := hob.2.2.2.2.1 x' (List.mem_of_getElem? hx)
        refine .dref (DR.mk (fun t => (w.cell? ⟨g, o + (i * c.sz r + off) + t, none⟩).getD undef) hF (fun y hy => hone y (List.mem_of_mem_drop hy)) (fun t ht => ?_) (fun t y hy => ?_))
        · simp at ht
          have hlt : off + t < x'.cells.length := by omega
          obtain ⟨u, hu, _⟩ := row_cell hob hv hx (List.getElem?_eq_getElem hlt)
          have : o + (i * c.sz r + off) + t = o + (i * c.sz r + (off + t)) := by omega
          rw [this, hu]; rfl
        · rw [List.getElem?_drop] at hy
          obtain ⟨u, hu, hu2⟩ := row_cell hob hv hx hy
          have : o + (i * c.sz r + off) + t = o + (i * c.sz r + (off + t)) := by omega
          rw [this, hu]
          exact hu2.mono (fun k hk => .inl hk) (fun _ _ => rfl)
    · cases h
  · obtain rfl := Option.some.inj h
    exact .dref (DR.of hr (fun k hk => .inl hk))
  · obtain rfl := Option.some.inj h
    cases hr with
    | meth _ _ vs hl hh => exact .meth hl (fun i t v hs hv => (hh i t v hs hv).mono (fun k hk => .inl hk) (fun _ _ => rfl))
  · rename_i v' hn1 hn2 hn3 hn4 hn5
    have hro : st.roIds s = rowIds s.cells ++ st.slIds s.cells := by
      cases s <;> first | rfl | exact (hn1 _ _ rfl).elim | exact (hn2 _ _ rfl).elim | exact (hn3 _ _ _ rfl).elim | exact (hn4 _ rfl).elim | exact (hn5 _ _ rfl).elim
    rw [hro] at hid
    unfold St.lookX at h
    split at h
    · rename_i t ht
      obtain rfl := Option.some.inj h
      exact .t ((peek_RD hI hr ht).mono (FP.sub (fun i hi => hid i (List.mem_append_left _ hi))) (fun _ _ => rfl))
    · simp only [Option.map_eq_some_iff] at h
      obtain ⟨t, ht, rfl⟩ := h
      exact .t (peekX_RD hI hr ht hid)

theorem frozen_RD {i e : Nat} {xs : List T} (h : ObOK E c w i (.row e xs false)) : RD c.F w (.list xs) (c.val i) := h.2.2.2.2.2
theorem giveCell0_ok (hI : Inv E M0 w0 c st w) {s : SV} {v : Value} {x : X} (hr : Rel c w s v) (h : st.giveCell0 s = some x) : XC E c.F w x v (bids c st (liveIds st [s])) := by
  unfold St.giveCell0 at h
  split at h
  · rename_i r
    cases hr with
    | row _ hrn =>
      have hob := hI.obs r (by rw [← hI.n]; exact hrn)
      split at h
      · rename_i e xs ho
        obtain rfl := Option.some.inj h
        rw [ho] at hob
        have : bids c st (liveIds st [.row r]) = ownL (c.val r) (c.loc r) := by simp [liveIds, ho, bids, blkOf]
        rw [this]
        exact .row (obOK_row.1 hob).2
      · rename_i e xs ho
        obtain rfl := Option.some.inj h
        rw [ho] at hob
        have : bids c st (liveIds st [.row r]) = [] := by simp [liveIds, ho, bids]
        rw [this]
        exact .t (frozen_RD hob) rfl
      · cases h
  · obtain rfl := Option.some.inj h
    cases hr with
    | nil A => exact .nil A
  · split at h
    · rename_i h1
      obtain rfl := Option.some.inj h
      cases hr with
      | t hr => exact .t hr h1
    · cases h
  · cases h
theorem liveF_plain (f : Nat) (s : SV) (hs : ∀ b n sz, s ≠ .sl b n sz) : st.liveF f s = liveIds st [s] := by
  cases s <;> first
    | exact absurd rfl (hs _ _ _)
    | (cases f <;> simp only [St.liveF, liveIds] <;> split <;> rfl)
    | (cases f <;> rfl)
theorem giveF_plain (f : Nat) (s : SV) (hs : ∀ b n sz, s ≠ .sl b n sz) : st.giveF f s = st.giveCell0 s := by
  cases s <;> first
    | exact absurd rfl (hs _ _ _)
    | (cases f <;> rfl)
theorem allXC {g : SV → Option X} {ids : SV → List Nat} : ∀ {l : List SV} {xs : List X} {vs : List Value}, allW g l = some xs → vs.length = l.length → (∀ (i : Nat) s v x, l[i]? = some s → vs[i]? = some v → g s = some x → XC E c.F w x v (bids c st (ids s))) → XCs E c.F w xs vs (bids c st (l.map ids).flatten)
  | [], xs, vs, h, hl, hr => by
    obtain rfl := Option.some.inj h
    obtain rfl : vs = [] := List.eq_nil_of_length_eq_zero hl
    exact .nil
  | s :: r, xs, vs, h, hl, hr => by
    cases vs with
    | nil => simp at hl
    | cons v vs =>
      unfold allW at h
      split at h
      · cases h
      · rename_i x hx
        split at h
        · cases h
        · rename_i ys hys
          obtain rfl := Option.some.inj h
          rw [List.map_cons, List.flatten_cons, bids_append]
          exact .cons (hr 0 s v x rfl rfl hx) (allXC hys (by simpa using hl) (fun i s v x hs hv hg => hr (i + 1) s v x (by simpa using hs) (by simpa using hv) hg))
theorem giveF_ok (hI : Inv E M0 w0 c st w) : ∀ (f : Nat) {s : SV} {v : Value} {x : X}, Rel c w s v → st.giveF f s = some x → XC E c.F w x v (bids c st (st.liveF f s)) := by
  intro f
  induction f with
  | zero =>
    intro s v x hr h
    have h' : st.giveCell0 s = some x := h
    have hs : ∀ b n sz, s ≠ .sl b n sz := by
      rintro b n sz rfl
      cases h'
    rw [liveF_plain _ _ hs]
    exact giveCell0_ok hI hr h'
  | succ f ih =>
    intro s v x hr h
    by_cases hs : ∃ b n sz, s = .sl b n sz
    · obtain ⟨b, n, sz, rfl⟩ := hs
      simp only [St.giveF] at h
      split at h
      · rename_i ty cells ho
        simp only [Option.map_eq_some_iff] at h
        obtain ⟨xs, hxs, rfl⟩ := h
        cases hr with
        | sl _ _ _ hb hm =>
          have hob := hI.obs b (by rw [← hI.n]; exact hb)
          rw [ho] at hob
          obtain ⟨vs, e1, e2, e3, e4⟩ := hob
          have : bids c st (st.liveF (f + 1) (.sl b n sz)) = c.loc b :: bids c st (cells.map (st.liveF f)).flatten := by
            simp only [St.liveF, ho, bids_cons]
            simp [blkOf, ho]
          rw [this]
          exact .sref e1 hm (allXC hxs (by simpa using e2) (fun i s v x hs hv hg => ih (e4 i s v hs (by simpa using hv)) hg))
      · cases h
    · have hs' : ∀ b n sz, s ≠ .sl b n sz := fun b n sz e => hs ⟨b, n, sz, e⟩
      rw [giveF_plain _ _ hs'] at h
      rw [liveF_plain _ _ hs']
      exact giveCell0_ok hI hr h
theorem giveCell_ok (hI : Inv E M0 w0 c st w) {s : SV} {v : Value} {x : X} (hr : Rel c w s v) (h : st.giveCell s = some x) : XC E c.F w x v (bids c st (liveIds st [s])) := by
  by_cases hs : ∃ b n sz, s = .sl b n sz
  · obtain ⟨b, n, sz, rfl⟩ := hs
    have : liveIds st [.sl b n sz] = st.liveF 6 (.sl b n sz) := by simp only [liveIds, List.append_nil]
    rw [this]
    exact giveF_ok hI 6 hr h
  · have hs' : ∀ b n sz, s ≠ .sl b n sz := fun b n sz e => hs ⟨b, n, sz, e⟩
    refine giveCell0_ok hI hr ?_
    rw [← h]
    cases s <;> first | rfl | exact absurd rfl (hs' _ _ _)
theorem liveIds_cons (s : SV) (r : List SV) : liveIds st (s :: r) = liveIds st [s] ++ liveIds st r := by
  cases s <;> simp [liveIds]
  split <;> simp
theorem giveCells_ok (hI : Inv E M0 w0 c st w) : ∀ {l : List SV} {vs : List Value} {xs : List X}, st.giveCells l = some xs → vs.length = l.length → (∀ (i : Nat) s v, l[i]? = some s → vs[i]? = some v → Rel c w s v) → XCs E c.F w xs vs (bids c st (liveIds st l))
  | [], vs, xs, h, hl, hr => by
    simp only [St.giveCells, Option.some.injEq] at h
    subst h
    obtain rfl : vs = [] := List.eq_nil_of_length_eq_zero hl
    exact .nil
  | s :: r, vs, xs, h, hl, hr => by
    cases vs with
    | nil => simp at hl
    | cons v vs =>
      unfold St.giveCells at h
      split at h
      · rename_i x ys h1 h2
        obtain rfl := Option.some.inj h
        rw [liveIds_cons, bids_append]
        exact .cons (giveCell_ok hI (hr 0 s v rfl rfl) h1) (giveCells_ok hI h2 (by simpa using hl) (fun i s v hs hv => hr (i + 1) s v (by simpa using hs) (by simpa using hv)))
      · cases h
theorem XC.upV {F : Nat → Prop} {x : X} {v : Value} {b : List Nat} (h : XC E F w x v b) : XV E F w x v b := by
  cases h with
  | t h h1 => exact .t h
  | nil A => exact .nil A
  | row h => exact .row h
  | sref hh hm h => exact .sref hh hm h
theorem giveCells_of0 : ∀ {l : List SV} {xs : List X}, st.giveCells0 l = some xs → st.giveCells l = some xs
  | [], xs, h => h
  | v :: r, xs, h => by
    unfold St.giveCells0 at h
    split at h
    · rename_i x ys h1 h2
      obtain rfl := Option.some.inj h
      have e : st.giveCell v = some x := by
        rw [← h1]
        cases v <;> first | rfl | cases h1
      simp only [St.giveCells, e, giveCells_of0 h2]
    · cases h
theorem giveMut_ok (hI : Inv E M0 w0 c st w) {s : SV} {v : Value} {x : X} (hr : Rel c w s v) (h : st.giveMut s = some x) : XV E c.F w x v (bids c st (st.mutIds s)) := by
  unfold St.giveMut at h
  split at h
  · rename_i r
    cases hr with
    | row _ hrn =>
      have hob := hI.obs r (by rw [← hI.n]; exact hrn)
      split at h
      · rename_i e xs ho
        obtain rfl := Option.some.inj h
        rw [ho] at hob
        have : bids c st (st.mutIds (.row r)) = ownL (c.val r) (c.loc r) := by simp [St.mutIds, bids, blkOf, ho]
        rw [this]
        exact .row (obOK_row.1 hob).2
      · cases h
  · obtain rfl := Option.some.inj h
    cases hr with
    | nil A => exact .nil A
  · rename_i b
    split at h
    · rename_i ty cells ho
      simp only [Option.map_eq_some_iff] at h
      obtain ⟨xs, hxs, rfl⟩ := h
      cases hr with
      | ptr _ _ hb =>
        have hob := hI.obs b (by rw [← hI.n]; exact hb)
        rw [ho] at hob
        obtain ⟨vs, e1, e2, e3, e4⟩ := hob
        have : bids c st (st.mutIds (.ptr b 0)) = c.loc b :: bids c st (liveIds st cells) := by simp [St.mutIds, ho, bids, blkOf]
        rw [this]
        exact .ref e1 (giveCells_ok hI (giveCells_of0 hxs) (by simpa using e2) (fun i s v hs hv => e4 i s v hs (by simpa using hv)))
    · cases h
  · rename_i cs
    simp only [Option.map_eq_some_iff] at h
    obtain ⟨xs, hxs, rfl⟩ := h
    cases hr with
    | agg _ vs hl h1 hr => exact .agg (giveCells_ok hI hxs (by simpa using hl.symm) (fun i s v hs hv => hr i s v hs (by simpa using hv)))
  · rename_i b n sz
    exact (giveF_ok hI 6 hr h).upV
  · cases h

theorem XV.mono {F F' : Nat → Prop} {x : X} {v : Value} {b : List Nat} (h : XV E F w x v b) (hF : ∀ k, F k → F' k) (hw : ∀ k, F k → w'.heap[k]? = w.heap[k]?) (hb : ∀ k ∈ b, w'.heap[k]? = w.heap[k]?) : XV E F' w' x v b := by
  have hd : ∀ cs v, DR F w cs v → DR F' w' cs v := by
    intro cs v h c hc
    subst hc
    have := h { c with F := F } rfl
    exact this.mono (c' := c) ⟨Nat.le_refl _, fun _ _ => rfl, fun _ _ => rfl, fun _ _ => rfl, hF, fun _ h => h⟩ hw
  cases h with
  | t h => exact .t (h.mono hF hw)
  | nil A => exact .nil A
  | row h => exact .row (h.mono hF hw hb)
  | agg h => exact .agg (h.mono hF hw hb)
  | ref hh h => exact .ref (by rw [hb _ (by simp)]; exact hh) (h.mono hF hw (fun k hk => hb k (List.mem_cons_of_mem _ hk)))
  | sref hh hm h => exact .sref (by rw [hb _ (by simp)]; exact hh) hm (h.mono hF hw (fun k hk => hb k (List.mem_cons_of_mem _ hk)))
  | dref h => exact .dref (hd _ _ h)
  | fn hl h => exact .fn hl (fun i cs v hs hv => hd _ _ (h i cs v hs hv))
  | meth hl h => exact .meth hl (fun i t v hs hv => (h i t v hs hv).mono hF hw)
theorem XVs.mono {F F' : Nat → Prop} {xs : List X} {vs : List Value} {b : List Nat} (h : XVs E F w xs vs b) (hF : ∀ k, F k → F' k) (hw : ∀ k, F k → w'.heap[k]? = w.heap[k]?) (hb : ∀ k ∈ b, w'.heap[k]? = w.heap[k]?) : XVs E F' w' xs vs b := by
  induction h with
  | nil => exact .nil
  | cons h r ih => exact .cons (h.mono hF hw (fun k hk => hb k (List.mem_append_left _ hk))) (ih (fun k hk => hb k (List.mem_append_right _ hk)))

theorem give_ok (hI : Inv E M0 w0 c st w) {ids : List Nat} : ∀ {md : List Bool} {ss : List SV} {vs : List Value} {xs : List X}, st.give md ss = some xs → vs.length = ss.length → (∀ (i : Nat) s v, ss[i]? = some s → vs[i]? = some v → Rel c w s v) → (∀ i ∈ st.roAll (ros md ss), i ∈ ids) →
    XVs E (FP c st ids) w xs vs (bids c st (st.mutAll (muts md ss)))
  | md, [], vs, xs, h, hl, hr, hid => by
    have : xs = [] := by cases md <;> simpa [St.give, eq_comm] using h
    subst this
    obtain rfl : vs = [] := List.eq_nil_of_length_eq_zero hl
    have : muts md ([] : List SV) = [] := by cases md <;> rfl
    rw [this]
    exact .nil
  | md, s :: r, vs, xs, h, hl, hr, hid => by
    cases vs with
    | nil => simp at hl
    | cons v vs =>
      unfold St.give at h
      split at h
      · rename_i x ys h1 h2
        obtain rfl := Option.some.inj h
        have hr0 := hr 0 s v rfl rfl
        have hrr : ∀ (i : Nat) s v, r[i]? = some s → vs[i]? = some v → Rel c w s v := fun i s v hs hv => hr (i + 1) s v (by simpa using hs) (by simpa using hv)
        cases hm : md.headD false with
        | true =>
          rw [hm] at h1
          simp only [if_true] at h1
          have e1 : muts md (s :: r) = s :: muts md.tail r := by simp only [muts, hm, if_true]
          have e2 : ros md (s :: r) = ros md.tail r := by simp only [ros, hm, if_true]
          rw [e2] at hid
          rw [e1]
          have : st.mutAll (s :: muts md.tail r) = st.mutIds s ++ st.mutAll (muts md.tail r) := by simp [St.mutAll]
          rw [this, bids_append]
          exact .cons ((giveMut_ok hI hr0 h1).mono (fun k hk => .inl hk) (fun _ _ => rfl) (fun _ _ => rfl)) (give_ok hI h2 (by simpa using hl) hrr hid)
        | false =>
          rw [hm] at h1
          simp only [Bool.false_eq_true, if_false] at h1
          have e1 : muts md (s :: r) = muts md.tail r := by simp only [muts, hm, Bool.false_eq_true, if_false]
          have e2 : ros md (s :: r) = s :: ros md.tail r := by simp only [ros, hm, Bool.false_eq_true, if_false]
          rw [e2] at hid
          rw [e1]
          have : st.roAll (s :: ros md.tail r) = st.roIds s ++ st.roAll (ros md.tail r) := by simp [St.roAll]
          rw [this] at hid
          exact .cons (b := []) (giveRo_ok hI hr0 h1 (fun i hi => hid i (List.mem_append_left _ hi))) (give_ok hI h2 (by simpa using hl) hrr (fun i hi => hid i (List.mem_append_right _ hi)))
      · cases h
end
section
variable {E : Env} {P : Program} {M0 : Nat → Prop} {w0 : World} {c : Ctx} {st st' : St} {a : Act} {w w' : World}

structure Taken (E : Env) (M0 : Nat → Prop) (w0 : World) (c : Ctx) (st : St) (w : World) (b : List Nat) (st1 : St) : Prop where
  inv : Inv E M0 w0 c st1 w
  n : st1.n = st.n
  sub : ∀ i, Owns c i (st1.o i) → Owns c i (st.o i)
  from_ : ∀ k ∈ b, ∃ i, i < st.n ∧ Owns c i (st.o i) ∧ k = c.loc i
  gone : ∀ k ∈ b, ∀ i, i < st.n → Owns c i (st1.o i) → c.loc i ≠ k
  nodup : b.Nodup
theorem Taken.refl (hI : Inv E M0 w0 c st w) : Taken E M0 w0 c st w [] st := ⟨hI, rfl, fun _ h => h, by simp, by simp, by simp⟩
theorem Taken.trans {b b' : List Nat} {st1 st2 : St} (h : Taken E M0 w0 c st w b st1) (h' : Taken E M0 w0 c st1 w b' st2) : Taken E M0 w0 c st w (b ++ b') st2 := by
  refine ⟨h'.inv, h'.n.trans h.n, fun i hi => h.sub i (h'.sub i hi), fun k hk => ?_, fun k hk i hi ho => ?_, List.nodup_append.2 ⟨h.nodup, h'.nodup, fun x hx y hy e => ?_⟩⟩
  · rcases List.mem_append.1 hk with hk | hk
    · exact h.from_ k hk
    · obtain ⟨i, h1, h2, h3⟩ := h'.from_ k hk
      exact ⟨i, by rw [← h.n]; exact h1, h.sub i h2, h3⟩
  · rcases List.mem_append.1 hk with hk | hk
    · exact h.gone k hk i hi (h'.sub i ho)
    · exact h'.gone k hk i (by rw [h.n]; exact hi) ho
  · subst e
    obtain ⟨i, h1, h2, h3⟩ := h'.from_ x hy
    exact h.gone x hx i (by rw [← h.n]; exact h1) h2 h3.symm
theorem Taken.free {b : List Nat} {st1 : St} (h : Taken E M0 w0 c st w b st1) (hI : Inv E M0 w0 c st w) {k : Nat} (hk : k ∈ b) : k < w.heap.size ∧ ¬ c.F k ∧ (M0 k ∨ w0.heap.size ≤ k) := by
  obtain ⟨i, h1, h2, rfl⟩ := h.from_ k hk
  exact hI.own i h1 h2
theorem base_taken (hI : Inv E M0 w0 c st w) {e : Nat} {s : SV} {v : Value} {xs : List T} {st1 : St} (hz : 0 < (E.ty e).size) (hr : Rel c w s v) (h : st.base e s = some (xs, st1)) : ∃ l, RowV E c.F w e xs v l ∧ Taken E M0 w0 c st w (ownL v l) st1 := by
  obtain ⟨B, k, rfl, b1, b2, b3, b4, b4', b4'', b4c, b5, b6, b7⟩ := base_ok hI hr h
  by_cases hk : k = 0
  · subst hk
    refine ⟨0, ⟨hz, ⟨B, 0, rfl, b1, b2⟩, b5, b6, fun A n k hv hk => ?_⟩, ?_⟩
    · injection hv with _ _ e3
      exact absurd e3.symm hk
    · have : ownL (.slice B xs.length 0) 0 = [] := by simp [ownL, capV]
      rw [this]
      exact ⟨b3, b4, b4c, by simp, by simp, by simp⟩
  · obtain ⟨l, o, vs, lo, hi, rfl, e2, e3, e4, e5, e6, e7, e8, e9, r, r1, r2, r3⟩ := b7 hk
    refine ⟨l, ⟨hz, ⟨_, k, rfl, b1, b2⟩, b5, b6, fun A n k' hv hk' => ?_⟩, ?_⟩
    · injection hv with q1 q2 q3
      subst q1; subst q2; subst q3
      exact ⟨o, vs, lo, hi, rfl, e2, e3, e4, e5⟩
    · have : ownL (.slice (some ⟨l, o, none⟩) xs.length k) l = [l] := by simp [ownL, capV, hk]
      rw [this]
      refine ⟨b3, b4, b4c, fun k hk => ?_, fun k hk i hi ho => ?_, by simp⟩
      · simp at hk; subst hk; exact ⟨r, r1, r2, r3⟩
      · simp at hk; subst hk; exact e9 i (by rw [b4]; exact hi) ho
theorem row_size (hI : Inv E M0 w0 c st w) {r e : Nat} {xs : List T} {live : Bool} (hr : r < c.n) (ho : st.o r = .row e xs live) : 0 < (E.ty e).size := by
  have hob := hI.obs r (by rw [← hI.n]; exact hr)
  rw [ho] at hob
  rw [← hob.1]; exact hob.2.1
theorem takeCell0_ok (hI : Inv E M0 w0 c st w) {s : SV} {v : Value} {x : X} {st1 : St} (hr : Rel c w s v) (h : st.takeCell0 s = some (x, st1)) : ∃ b, XC E c.F w x v b ∧ Taken E M0 w0 c st w b st1 := by
  unfold St.takeCell0 at h
  split at h
  · rename_i r
    split at h
    · rename_i e xs ho
      simp only [Option.some.injEq, Prod.mk.injEq] at h
      obtain ⟨rfl, rfl⟩ := h
      have hrn : r < c.n := by cases hr; assumption
      obtain ⟨l, h1, h2⟩ := base_taken (e := e) (xs := xs) (st1 := st.setO r .dead) hI (row_size hI hrn ho) hr (by simp [St.base, ho])
      exact ⟨_, .row h1, h2⟩
    · rename_i e xs ho
      simp only [Option.some.injEq, Prod.mk.injEq] at h
      obtain ⟨rfl, rfl⟩ := h
      cases hr with
      | row _ hrn =>
        have hob := hI.obs r (by rw [← hI.n]; exact hrn)
        rw [ho] at hob
        exact ⟨[], .t (frozen_RD hob) rfl, .refl hI⟩
    · cases h
  · rename_i r lo hi
    split at h
    · rename_i e xs ho
      split at h
      · rename_i hc
        simp only [Option.some.injEq, Prod.mk.injEq] at h
        obtain ⟨rfl, rfl⟩ := h
        have hrn : r < c.n := by cases hr; assumption
        obtain ⟨l, h1, h2⟩ := base_taken (e := e) (xs := (xs.take hi).drop lo) (st1 := st.setO r .dead) hI (row_size hI hrn ho) hr (by simp [St.base, ho, hc])
        exact ⟨_, .row h1, h2⟩
      · cases h
    · rename_i e xs ho
      simp only [Option.some.injEq, Prod.mk.injEq] at h
      obtain ⟨rfl, rfl⟩ := h
      have := (peek1_RD hI hr (t := .list ((xs.take hi).drop lo)) (by simp [St.peek1, ho])).1
      refine ⟨[], .t (this.mono (fun k hk => ?_) (fun _ _ => rfl)) rfl, .refl hI⟩
      rcases hk with hk | ⟨i, hi, _, ho', _⟩
      · exact hk
      · simp [rowIds] at hi
        subst hi
        rw [ho] at ho'
        exact ho'.elim
    · cases h
  · simp only [Option.some.injEq, Prod.mk.injEq] at h
    obtain ⟨rfl, rfl⟩ := h
    cases hr with
    | nil A => exact ⟨[], .nil A, .refl hI⟩
  · split at h
    · rename_i h1
      simp only [Option.some.injEq, Prod.mk.injEq] at h
      obtain ⟨rfl, rfl⟩ := h
      cases hr with
      | t hr => exact ⟨[], .t hr h1, .refl hI⟩
    · cases h
  · cases h
theorem takeCells0_ok : ∀ {l : List SV} {st st1 : St} {vs : List Value} {xs : List X}, Inv E M0 w0 c st w → vs.length = l.length → (∀ (i : Nat) s v, l[i]? = some s → vs[i]? = some v → Rel c w s v) → st.takeCells0 l = some (xs, st1) → ∃ b, XCs E c.F w xs vs b ∧ Taken E M0 w0 c st w b st1
  | [], st, st1, vs, xs, hI, hl, hr, h => by
    simp only [St.takeCells0, Option.some.injEq, Prod.mk.injEq] at h
    obtain ⟨rfl, rfl⟩ := h
    obtain rfl : vs = [] := List.eq_nil_of_length_eq_zero hl
    exact ⟨[], .nil, .refl hI⟩
  | s :: r, st, st1, vs, xs, hI, hl, hr, h => by
    cases vs with
    | nil => simp at hl
    | cons v vs =>
      unfold St.takeCells0 at h
      split at h
      · cases h
      · rename_i x st2 h1
        split at h
        · cases h
        · rename_i ys st3 h2
          simp only [Option.some.injEq, Prod.mk.injEq] at h
          obtain ⟨rfl, rfl⟩ := h
          obtain ⟨b, g1, g2⟩ := takeCell0_ok hI (hr 0 s v rfl rfl) h1
          obtain ⟨b', k1, k2⟩ := takeCells0_ok (vs := vs) g2.inv (by simpa using hl) (fun i s v hs hv => hr (i + 1) s v (by simpa using hs) (by simpa using hv)) h2
          exact ⟨b ++ b', .cons g1 k1, g2.trans k2⟩
theorem takeCell0_box {s : SV} {x : X} {st1 : St} {b ty : Nat} {cells : List SV} (ho : st.o b = .box ty cells) (h : st.takeCell0 s = some (x, st1)) : st1.o b = .box ty cells := by
  have key : ∀ r e xs live, st.o r = .row e xs live → (st.setO r .dead).o b = .box ty cells := by
    intro r e xs live hr
    have hne : b ≠ r := by
      intro e; subst e
      rw [ho] at hr; cases hr
    have : (st.setO r .dead).o b = st.o b := upd_ne _ _ hne
    rw [this]; exact ho
  unfold St.takeCell0 at h
  repeat' split at h
  all_goals first
    | (cases h; done)
    | (simp only [Option.some.injEq, Prod.mk.injEq] at h
       obtain ⟨rfl, rfl⟩ := h
       first | exact ho | (apply key; assumption))
theorem takeCells0_box : ∀ {l : List SV} {st st1 : St} {xs : List X} {b ty : Nat} {cells : List SV}, st.o b = .box ty cells → st.takeCells0 l = some (xs, st1) → st1.o b = .box ty cells
  | [], st, st1, xs, b, ty, cells, ho, h => by
    simp only [St.takeCells0, Option.some.injEq, Prod.mk.injEq] at h
    obtain ⟨rfl, rfl⟩ := h
    exact ho
  | s :: r, st, st1, xs, b, ty, cells, ho, h => by
    unfold St.takeCells0 at h
    split at h
    · cases h
    · rename_i x st2 h1
      split at h
      · cases h
      · rename_i ys st3 h2
        simp only [Option.some.injEq, Prod.mk.injEq] at h
        obtain ⟨rfl, rfl⟩ := h
        exact takeCells0_box (takeCell0_box ho h1) h2
theorem takesW_ok {g : St → SV → Option (X × St)} (hg : ∀ {st st1 : St} {s : SV} {v : Value} {x : X}, Inv E M0 w0 c st w → Rel c w s v → g st s = some (x, st1) → ∃ b, XC E c.F w x v b ∧ Taken E M0 w0 c st w b st1) :
    ∀ {l : List SV} {st st1 : St} {vs : List Value} {xs : List X}, Inv E M0 w0 c st w → vs.length = l.length → (∀ (i : Nat) s v, l[i]? = some s → vs[i]? = some v → Rel c w s v) → takesW g st l = some (xs, st1) → ∃ b, XCs E c.F w xs vs b ∧ Taken E M0 w0 c st w b st1
  | [], st, st1, vs, xs, hI, hl, hr, h => by
    simp only [takesW, Option.some.injEq, Prod.mk.injEq] at h
    obtain ⟨rfl, rfl⟩ := h
    obtain rfl : vs = [] := List.eq_nil_of_length_eq_zero hl
    exact ⟨[], .nil, .refl hI⟩
  | s :: r, st, st1, vs, xs, hI, hl, hr, h => by
    cases vs with
    | nil => simp at hl
    | cons v vs =>
      unfold takesW at h
      split at h
      · cases h
      · rename_i x st2 h1
        split at h
        · cases h
        · rename_i ys st3 h2
          simp only [Option.some.injEq, Prod.mk.injEq] at h
          obtain ⟨rfl, rfl⟩ := h
          obtain ⟨b, g1, g2⟩ := hg hI (hr 0 s v rfl rfl) h1
          obtain ⟨b', k1, k2⟩ := takesW_ok hg (vs := vs) g2.inv (by simpa using hl) (fun i s v hs hv => hr (i + 1) s v (by simpa using hs) (by simpa using hv)) h2
          exact ⟨b ++ b', .cons g1 k1, g2.trans k2⟩
theorem taken_box (hI : Inv E M0 w0 c st w) {st2 : St} {b : Nat} {bb : List Nat} (hb' : b < st.n) (hown : Owns c b (st.o b)) (g2 : Taken E M0 w0 c st w bb st2) (h2 : Owns c b (st2.o b)) : Taken E M0 w0 c st w (c.loc b :: bb) (st2.setO b .dead) := by
  have hnot : c.loc b ∉ bb := fun hm => g2.gone _ hm b hb' h2 rfl
  refine ⟨g2.inv.kill1 b, g2.n, fun i hi => g2.sub i (own_kill b i hi), fun k hk => ?_, fun k hk i hi ho' => ?_, List.nodup_cons.2 ⟨hnot, g2.nodup⟩⟩
  · rcases List.mem_cons.1 hk with rfl | hk
    · exact ⟨b, hb', hown, rfl⟩
    · exact g2.from_ k hk
  · rcases List.mem_cons.1 hk with rfl | hk
    · intro e
      have := hI.inj i b hi hb' (g2.sub i (own_kill b i ho')) hown e
      subst this
      have : (st2.setO i .dead).o i = .dead := upd_self _ _ _
      rw [this] at ho'
      exact ho'
    · exact g2.gone k hk i hi (own_kill b i ho')
theorem takeF_ok : ∀ (f : Nat) {st st1 : St} {s : SV} {v : Value} {x : X}, Inv E M0 w0 c st w → Rel c w s v → takeF f st s = some (x, st1) → ∃ b, XC E c.F w x v b ∧ Taken E M0 w0 c st w b st1 := by
  intro f
  induction f with
  | zero => intro st st1 s v x hI hr h; exact takeCell0_ok hI hr h
  | succ f ih =>
    intro st st1 s v x hI hr h
    by_cases hs : ∃ b n sz, s = .sl b n sz
    · obtain ⟨b, n, sz, rfl⟩ := hs
      simp only [takeF] at h
      split at h
      · rename_i ty cells ho
        split at h
        · rename_i xs st2 h1
          split at h
          · rename_i hbx
            simp only [Option.some.injEq, Prod.mk.injEq] at h
            obtain ⟨rfl, rfl⟩ := h
            cases hr with
            | sl _ _ _ hb hm =>
              have hb' : b < st.n := by rw [← hI.n]; exact hb
              have hob := hI.obs b hb'
              rw [ho] at hob
              obtain ⟨vs, e1, e2, e3, e4⟩ := hob
              obtain ⟨bb, g1, g2⟩ := takesW_ok (vs := vs.toList) (fun hI hr h => ih hI hr h) hI (by simpa using e2) (fun i s v hs hv => e4 i s v hs (by simpa using hv)) h1
              refine ⟨_, .sref e1 hm g1, taken_box hI hb' (by rw [ho]; trivial) g2 ?_⟩
              unfold St.isBox at hbx
              split at hbx
              · rename_i hob2; rw [hob2]; trivial
              · cases hbx
          · cases h
        · cases h
      · cases h
    · have hs' : ∀ b n sz, s ≠ .sl b n sz := fun b n sz e => hs ⟨b, n, sz, e⟩
      refine takeCell0_ok hI hr ?_
      rw [← h]
      cases s <;> first | rfl | exact absurd rfl (hs' _ _ _)
theorem takeCell_ok (hI : Inv E M0 w0 c st w) {s : SV} {v : Value} {x : X} {st1 : St} (hr : Rel c w s v) (h : st.takeCell s = some (x, st1)) : ∃ b, XC E c.F w x v b ∧ Taken E M0 w0 c st w b st1 := by
  by_cases hs : ∃ b n sz, s = .sl b n sz
  · obtain ⟨b, n, sz, rfl⟩ := hs
    exact takeF_ok 6 hI hr h
  · have hs' : ∀ b n sz, s ≠ .sl b n sz := fun b n sz e => hs ⟨b, n, sz, e⟩
    refine takeCell0_ok hI hr ?_
    rw [← h]
    cases s <;> first | rfl | exact absurd rfl (hs' _ _ _)
theorem takeCells_ok : ∀ {l : List SV} {st st1 : St} {vs : List Value} {xs : List X}, Inv E M0 w0 c st w → vs.length = l.length → (∀ (i : Nat) s v, l[i]? = some s → vs[i]? = some v → Rel c w s v) → st.takeCells l = some (xs, st1) → ∃ b, XCs E c.F w xs vs b ∧ Taken E M0 w0 c st w b st1
  | [], st, st1, vs, xs, hI, hl, hr, h => by
    simp only [St.takeCells, Option.some.injEq, Prod.mk.injEq] at h
    obtain ⟨rfl, rfl⟩ := h
    obtain rfl : vs = [] := List.eq_nil_of_length_eq_zero hl
    exact ⟨[], .nil, .refl hI⟩
  | s :: r, st, st1, vs, xs, hI, hl, hr, h => by
    cases vs with
    | nil => simp at hl
    | cons v vs =>
      unfold St.takeCells at h
      split at h
      · cases h
      · rename_i x st2 h1
        split at h
        · cases h
        · rename_i ys st3 h2
          simp only [Option.some.injEq, Prod.mk.injEq] at h
          obtain ⟨rfl, rfl⟩ := h
          obtain ⟨b, g1, g2⟩ := takeCell_ok hI (hr 0 s v rfl rfl) h1
          obtain ⟨b', k1, k2⟩ := takeCells_ok (vs := vs) g2.inv (by simpa using hl) (fun i s v hs hv => hr (i + 1) s v (by simpa using hs) (by simpa using hv)) h2
          exact ⟨b ++ b', .cons g1 k1, g2.trans k2⟩
theorem XC.up {F : Nat → Prop} {x : X} {v : Value} {b : List Nat} (h : XC E F w x v b) : XV E F w x v b := by
  cases h with
  | t h h1 => exact .t h
  | nil A => exact .nil A
  | row h => exact .row h
  | sref hh hm h => exact .sref hh hm h
theorem take_ok (hI : Inv E M0 w0 c st w) {s : SV} {v : Value} {x : X} {st1 : St} (hr : Rel c w s v) (h : st.take s = some (x, st1)) : ∃ b, XV E c.F w x v b ∧ Taken E M0 w0 c st w b st1 := by
  unfold St.take at h
  split at h
  · rename_i cs
    split at h
    · cases h
    · rename_i xs st2 h1
      simp only [Option.some.injEq, Prod.mk.injEq] at h
      obtain ⟨rfl, rfl⟩ := h
      cases hr with
      | agg _ vs hl h1' hr =>
        obtain ⟨b, g1, g2⟩ := takeCells_ok (vs := vs.toList) hI (by simpa using hl.symm) (fun i s v hs hv => hr i s v hs (by simpa using hv)) h1
        exact ⟨b, .agg g1, g2⟩
  · rename_i b
    split at h
    · rename_i ty cells ho
      split at h
      · rename_i xs st2 h1
        simp only [Option.some.injEq, Prod.mk.injEq] at h
        obtain ⟨rfl, rfl⟩ := h
        cases hr with
        | ptr _ _ hb =>
          have hb' : b < st.n := by rw [← hI.n]; exact hb
          have hob := hI.obs b hb'
          rw [ho] at hob
          obtain ⟨vs, e1, e2, e3, e4⟩ := hob
          obtain ⟨bb, g1, g2⟩ := takeCells0_ok (vs := vs.toList) hI (by simpa using e2) (fun i s v hs hv => e4 i s v hs (by simpa using hv)) h1
          have hown : Owns c b (st.o b) := by rw [ho]; trivial
          have hnot : c.loc b ∉ bb := by
            intro hm
            exact g2.gone _ hm b hb' (by rw [takeCells0_box ho h1]; trivial) rfl
          refine ⟨c.loc b :: bb, .ref e1 g1, ⟨g2.inv.kill1 b, g2.n, fun i hi => g2.sub i (own_kill b i hi), fun k hk => ?_, fun k hk i hi ho' => ?_, List.nodup_cons.2 ⟨hnot, g2.nodup⟩⟩⟩
          · rcases List.mem_cons.1 hk with rfl | hk
            · exact ⟨b, hb', hown, rfl⟩
            · exact g2.from_ k hk
          · rcases List.mem_cons.1 hk with rfl | hk
            · intro e
              have := hI.inj i b hi hb' (g2.sub i (own_kill b i ho')) hown e
              subst this
              have : (st2.setO i .dead).o i = .dead := upd_self _ _ _
              rw [this] at ho'
              exact ho'
            · exact g2.gone k hk i hi (own_kill b i ho')
      · cases h
    · cases h
  · obtain ⟨b, g1, g2⟩ := takeCell_ok hI hr h
    exact ⟨b, g1.up, g2⟩
theorem takeAll_ok : ∀ {l : List SV} {st st1 : St} {vs : List Value} {xs : List X}, Inv E M0 w0 c st w → vs.length = l.length → (∀ (i : Nat) s v, l[i]? = some s → vs[i]? = some v → Rel c w s v) → st.takeAll l = some (xs, st1) → ∃ b, XVs E c.F w xs vs b ∧ Taken E M0 w0 c st w b st1
  | [], st, st1, vs, xs, hI, hl, hr, h => by
    simp only [St.takeAll, Option.some.injEq, Prod.mk.injEq] at h
    obtain ⟨rfl, rfl⟩ := h
    obtain rfl : vs = [] := List.eq_nil_of_length_eq_zero hl
    exact ⟨[], .nil, .refl hI⟩
  | s :: r, st, st1, vs, xs, hI, hl, hr, h => by
    cases vs with
    | nil => simp at hl
    | cons v vs =>
      unfold St.takeAll at h
      split at h
      · cases h
      · rename_i x st2 h1
        split at h
        · cases h
        · rename_i ys st3 h2
          simp only [Option.some.injEq, Prod.mk.injEq] at h
          obtain ⟨rfl, rfl⟩ := h
          obtain ⟨b, g1, g2⟩ := take_ok hI (hr 0 s v rfl rfl) h1
          obtain ⟨b', k1, k2⟩ := takeAll_ok (vs := vs) g2.inv (by simpa using hl) (fun i s v hs hv => hr (i + 1) s v (by simpa using hs) (by simpa using hv)) h2
          exact ⟨b ++ b', .cons g1 k1, g2.trans k2⟩

inductive XOs (E : Env) (F : Nat → Prop) (w : World) : List (Option X) → List Value → List Nat → Prop
  | nil : XOs E F w [] [] []
  | some {x : X} {v : Value} {b : List Nat} {xs : List (Option X)} {vs : List Value} {bs : List Nat} (h : XV E F w x v b) (r : XOs E F w xs vs bs) : XOs E F w (some x :: xs) (v :: vs) (b ++ bs)
  | none {v : Value} {xs : List (Option X)} {vs : List Value} {bs : List Nat} (r : XOs E F w xs vs bs) : XOs E F w (none :: xs) (v :: vs) bs
theorem backOne_ok (hI : Inv E M0 w0 c st w) {s : SV} {v : Value} (hr : Rel c w s v) : ∃ b, Taken E M0 w0 c st w b (st.backOne s).2 ∧ ∀ xs vs bs, XOs E c.F w xs vs bs → XOs E c.F w ((st.backOne s).1 :: xs) (v :: vs) (b ++ bs) := by
  unfold St.backOne
  split
  · rename_i r
    split
    · rename_i e xs ho
      have hrn : r < c.n := by cases hr; assumption
      obtain ⟨l, h1, h2⟩ := base_taken (e := e) (xs := xs) (st1 := st.setO r .dead) hI (row_size hI hrn ho) hr (by simp [St.base, ho])
      exact ⟨_, h2, fun xs vs bs h => .some (.row h1) h⟩
    · exact ⟨[], .refl hI, fun xs vs bs h => .none h⟩
  · cases hr with
    | nil A => exact ⟨[], .refl hI, fun xs vs bs h => .some (b := []) (.nil A) h⟩
  · rename_i b
    split
    · rename_i ty cells ho
      split
      · rename_i xs st2 h1
        cases hr with
        | ptr _ _ hb =>
          have hb' : b < st.n := by rw [← hI.n]; exact hb
          have hob := hI.obs b hb'
          rw [ho] at hob
          obtain ⟨vs, e1, e2, e3, e4⟩ := hob
          obtain ⟨bb, g1, g2⟩ := takeCells0_ok (vs := vs.toList) hI (by simpa using e2) (fun i s v hs hv => e4 i s v hs (by simpa using hv)) h1
          have hown : Owns c b (st.o b) := by rw [ho]; trivial
          have hnot : c.loc b ∉ bb := by
            intro hm
            exact g2.gone _ hm b hb' (by rw [takeCells0_box ho h1]; trivial) rfl
          refine ⟨c.loc b :: bb, ⟨g2.inv.kill1 b, g2.n, fun i hi => g2.sub i (own_kill b i hi), fun k hk => ?_, fun k hk i hi ho' => ?_, List.nodup_cons.2 ⟨hnot, g2.nodup⟩⟩, fun xs' vs' bs h => .some (.ref e1 g1) h⟩
          · rcases List.mem_cons.1 hk with rfl | hk
            · exact ⟨b, hb', hown, rfl⟩
            · exact g2.from_ k hk
          · rcases List.mem_cons.1 hk with rfl | hk
            · intro e
              have := hI.inj i b hi hb' (g2.sub i (own_kill b i ho')) hown e
              subst this
              have : (st2.setO i .dead).o i = .dead := upd_self _ _ _
              rw [this] at ho'
              exact ho'
            · exact g2.gone k hk i hi (own_kill b i ho')
      · exact ⟨[], .refl hI, fun xs vs bs h => .none h⟩
    · exact ⟨[], .refl hI, fun xs vs bs h => .none h⟩
  · exact ⟨[], .refl hI, fun xs vs bs h => .none h⟩
theorem backAll_ok : ∀ {l : List SV} {st : St} {vs : List Value}, Inv E M0 w0 c st w → vs.length = l.length → (∀ (i : Nat) s v, l[i]? = some s → vs[i]? = some v → Rel c w s v) → ∃ b, XOs E c.F w (st.backAll l).1 vs b ∧ Taken E M0 w0 c st w b (st.backAll l).2
  | [], st, vs, hI, hl, hr => by
    obtain rfl : vs = [] := List.eq_nil_of_length_eq_zero hl
    exact ⟨[], .nil, .refl hI⟩
  | s :: r, st, vs, hI, hl, hr => by
    cases vs with
    | nil => simp at hl
    | cons v vs =>
      obtain ⟨b, g1, g2⟩ := backOne_ok hI (hr 0 s v rfl rfl)
      obtain ⟨b', k1, k2⟩ := backAll_ok (vs := vs) g1.inv (by simpa using hl) (fun i s v hs hv => hr (i + 1) s v (by simpa using hs) (by simpa using hv))
      exact ⟨b ++ b', g2 _ _ _ k1, g1.trans k2⟩
end
section
variable {E : Env} {P : Program} {M0 : Nat → Prop} {w0 : World} {c : Ctx} {st st' : St} {a : Act} {w w' : World}

theorem kill_get : ∀ (ids : List Nat) (st : St) (i : Nat), (kill ids st).o i = if i ∈ ids then .dead else st.o i
  | [], st, i => by simp [kill]
  | j :: l, st, i => by
    have h : kill (j :: l) st = kill l (st.setO j .dead) := rfl
    rw [h, kill_get l (st.setO j .dead) i]
    by_cases hi : i ∈ l
    · simp [hi]
    · by_cases hj : i = j
      · subst hj
        have : (st.setO i .dead).o i = .dead := upd_self _ _ _
        simp [hi, this]
      · have : (st.setO j .dead).o i = st.o i := upd_ne _ _ hj
        simp [hi, hj, this]
theorem kill_rest : ∀ (ids : List Nat) (st : St), (kill ids st).n = st.n ∧ (kill ids st).s = st.s ∧ (kill ids st).N = st.N
  | [], st => ⟨rfl, rfl, rfl⟩
  | j :: l, st => kill_rest l (st.setO j .dead)
theorem Inv.kill (hI : Inv E M0 w0 c st w) : ∀ (ids : List Nat), Inv E M0 w0 c (kill ids st) w := by
  intro ids
  induction ids generalizing st with
  | nil => exact hI
  | cons j l ih => exact ih (hI.kill1 j)
/-- The world changes where no object of the state stands. -/
theorem Inv.world (hI : Inv E M0 w0 c st w) {S : Nat → Prop} (hs : Same w w' S) (h1 : ∀ k, S k → ¬ c.F k ∧ (M0 k ∨ w0.heap.size ≤ k)) (h2 : ∀ i, i < st.n → Owns c i (st.o i) → ¬ S (c.loc i)) : Inv E M0 w0 c st w' := by
  have hF : ∀ k, c.F k → w'.heap[k]? = w.heap[k]? := fun k hk => hs.blk k (hI.F k hk) (fun e => (h1 k e).1 hk)
  refine ⟨hI.n, fun i hi => ?_, hI.dead, hI.inj, fun i hi ho => ?_, fun k hk => Nat.lt_of_lt_of_le (hI.F k hk) hs.size, hI.one, hI.same.trans hs (fun k hk e => ?_), hI.bnd⟩
  · exact (hI.obs i hi).mono (Ctx.Le.refl c) (by rw [hI.n]; exact hi) hF (fun ho => hs.blk _ (hI.own i hi ho).1 (h2 i hi ho))
  · obtain ⟨l1, l2, l3⟩ := hI.own i hi ho
    exact ⟨Nat.lt_of_lt_of_le l1 hs.size, l2, l3⟩
  · rcases (h1 k e).2 with h | h
    · exact h
    · omega
/-- More may be read. -/
theorem Inv.moreF (hI : Inv E M0 w0 c st w) {F : Nat → Prop} (h0 : ∀ k, c.F k → F k) (h1 : ∀ k, F k → k < w.heap.size ∧ (c.F0 k ∨ M0 k ∨ w0.heap.size ≤ k)) (h2 : ∀ i, i < st.n → Owns c i (st.o i) → ¬ F (c.loc i)) : Inv E M0 w0 (c.withF F) st w := by
  have hle : c.Le (c.withF F) := Ctx.le_withF h0
  refine ⟨hI.n, fun i hi => (hI.obs i hi).mono hle (by rw [hI.n]; exact hi) (fun _ _ => rfl) (fun _ => rfl), hI.dead, fun i j hi hj oi oj e => ?_, fun i hi ho => ?_, fun k hk => (h1 k hk).1, hI.one, hI.same, fun k hk => (h1 k hk).2⟩
  · exact hI.inj i j hi hj (oi.mono hle (by rw [hI.n]; exact hi)) (oj.mono hle (by rw [hI.n]; exact hj)) e
  · have ho' := ho.mono hle (by rw [hI.n]; exact hi)
    obtain ⟨l1, l2, l3⟩ := hI.own i hi ho'
    exact ⟨l1, h2 i hi ho', l3⟩

theorem freeze_get (st : St) (r i : Nat) : (i ≠ r → (st.freeze r).o i = st.o i) ∧ (st.rowAt i = true → (st.freeze r).rowAt i = true) ∧ (st.freeze r).n = st.n ∧ (st.freeze r).s = st.s ∧ (st.freeze r).N = st.N := by
  unfold St.freeze
  split
  · rename_i e xs live ho
    refine ⟨fun h => upd_ne _ _ h, fun h => ?_, rfl, rfl, rfl⟩
    by_cases hi : i = r
    · subst hi
      have : (st.setO i (.row e xs false)).o i = .row e xs false := upd_self _ _ _
      simp [St.rowAt, this]
    · have : (st.setO r (.row e xs false)).o i = st.o i := upd_ne _ _ hi
      simp only [St.rowAt, this]
      exact h
  · exact ⟨fun _ => rfl, fun h => h, rfl, rfl, rfl⟩
theorem freeze_own (r i : Nat) (h : Owns c i ((st.freeze r).o i)) : Owns c i (st.o i) := by
  by_cases hi : i = r
  · subst hi
    unfold St.freeze at h
    split at h
    · rename_i e xs live ho
      have : (st.setO i (.row e xs false)).o i = .row e xs false := upd_self _ _ _
      rw [this] at h
      exact h.elim
    · exact h
  · rw [(freeze_get st r i).1 hi] at h
    exact h
theorem freezeAll_ok : ∀ {ids : List Nat} {c : Ctx} {st : St}, Inv E M0 w0 c st w → ids.all st.rowAt = true → ∃ F, Inv E M0 w0 (c.withF F) (freezeAll ids st) w ∧ (∀ k, c.F k → F k) ∧ (∀ k, FP c st ids k → F k) ∧ (∀ k, F k → FP c st ids k) ∧ (freezeAll ids st).n = st.n ∧ (freezeAll ids st).s = st.s ∧ (freezeAll ids st).N = st.N ∧ ∀ i, Owns c i ((freezeAll ids st).o i) → Owns c i (st.o i)
  | [], c, st, hI, h => ⟨c.F, hI, fun _ h => h, fun k hk => hk.elim id (fun ⟨i, hi, _⟩ => by simp at hi), fun k hk => .inl hk, rfl, rfl, rfl, fun _ h => h⟩
  | r :: l, c, st, hI, h => by
    simp only [List.all_cons, Bool.and_eq_true] at h
    obtain ⟨h1, h2⟩ := h
    obtain ⟨F1, g1, g2, g3, g4⟩ := hI.freeze r (fun ty cells hb => by simp [St.rowAt, hb] at h1)
    have hall : l.all (st.freeze r).rowAt = true := by
      rw [List.all_eq_true] at h2 ⊢
      exact fun i hi => (freeze_get st r i).2.1 (h2 i hi)
    obtain ⟨F2, k1, k2, k3, k3', k4, k5, k6, k7⟩ := freezeAll_ok g1 hall
    have hfz : freezeAll (r :: l) st = freezeAll l (st.freeze r) := rfl
    rw [hfz]
    obtain ⟨_, _, n1, n2, n3⟩ := freeze_get st r 0
    refine ⟨F2, k1, fun k hk => k2 k (g2 k hk), fun k hk => ?_, fun k hk => ?_, k4.trans n1, k5.trans n2, k6.trans n3, fun i hi => freeze_own r i (k7 i hi)⟩
    rotate_left
    · rcases k3' k hk with hk | ⟨i, hi, hi2, hi3, hi4⟩
      · exact FP.sub (fun i hi => by simp at hi; simp [hi]) k (g4 k hk)
      · exact .inr ⟨i, List.mem_cons_of_mem _ hi, by rw [← n1]; exact hi2, freeze_own r i hi3, hi4⟩
    rcases hk with hk | ⟨i, hi, hi2, hi3, hi4⟩
    · exact k2 k (g2 k hk)
    · by_cases hir : i = r
      · subst hir
        exact k2 k (g3 k (.inr ⟨i, by simp, hi2, hi3, hi4⟩))
      · rcases List.mem_cons.1 hi with rfl | hi
        · exact absurd rfl hir
        · refine k3 k (.inr ⟨i, hi, by rw [n1]; exact hi2, ?_, hi4⟩)
          rw [(freeze_get st r i).1 hir]; exact hi3

/-- An object has its own again. -/
theorem revive (hI : Inv E M0 w0 c st w) {r : Nat} {ob : Ob} {bl : List Nat} (hr : r < st.n) (hob : ObOK E c w r ob) (hf : Owns c r ob → c.loc r ∈ bl ∧ Free M0 w0 c st w (c.loc r)) : Bound E M0 w0 c st w bl c (st.setO r ob) := by
  have hset : ∀ i, i ≠ r → (st.setO r ob).o i = st.o i := fun i hi => upd_ne _ _ hi
  have hsetr : (st.setO r ob).o r = ob := upd_self _ _ _
  refine ⟨Ctx.Le.refl c, rfl, ⟨hI.n, fun i hi => ?_, fun i hi => ?_, fun i j hi hj oi oj e => ?_, fun i hi ho => ?_, hI.F, hI.one, hI.same, hI.bnd⟩, rfl, rfl, Nat.le_refl _, fun i hi ho => ?_⟩
  · by_cases h : i = r
    · subst h; rw [hsetr]; exact hob
    · rw [hset i h]; exact hI.obs i hi
  · have hi' : st.n ≤ i := hi
    rw [hset i (by omega)]; exact hI.dead i hi'
  · by_cases h : i = r
    · by_cases h' : j = r
      · rw [h, h']
      · subst h
        rw [hsetr] at oi
        rw [hset j h'] at oj
        exact absurd e.symm ((hf oi).2.2.2.2 j hj oj)
    · rw [hset i h] at oi
      by_cases h' : j = r
      · subst h'
        rw [hsetr] at oj
        exact absurd e ((hf oj).2.2.2.2 i hi oi)
      · rw [hset j h'] at oj
        exact hI.inj i j hi hj oi oj e
  · by_cases h : i = r
    · subst h
      rw [hsetr] at ho
      obtain ⟨f1, f2, f3, _⟩ := (hf ho).2
      exact ⟨f1, f2, f3⟩
    · rw [hset i h] at ho
      exact hI.own i hi ho
  · by_cases h : i = r
    · subst h
      rw [hsetr] at ho
      exact .inr (hf ho).1
    · rw [hset i h] at ho
      exact .inl ⟨hi, ho⟩
/-- What the rows of a state say of their places. -/
def Olds (E : Env) (c : Ctx) (st0 : St) : Prop := ∀ r e xs, st0.o r = .row e xs true → c.sz r = (E.ty e).size ∧ ∀ A n k, c.val r = .slice A n k → k ≠ 0 → ∃ o, A = some ⟨c.loc r, o, none⟩
theorem Inv.olds (hI : Inv E M0 w0 c st w) : Olds E c st := by
  intro r e xs ho
  have hr : r < st.n := by
    by_cases h : r < st.n
    · exact h
    · rw [hI.dead r (by omega)] at ho; cases ho
  have hob := hI.obs r hr
  rw [ho] at hob
  obtain ⟨h1, h2, h3, h4, h5, h6⟩ := hob
  refine ⟨h1, fun A n k hv hk => ?_⟩
  obtain ⟨o, _, _, _, e1, _⟩ := h6 A n k hv hk
  exact ⟨o, e1⟩
theorem Olds.mono {c' : Ctx} {st0 : St} (h : Olds E c st0) (hle : c.Le c') (hn : ∀ r e xs, st0.o r = .row e xs true → r < c.n) : Olds E c' st0 := by
  intro r e xs ho
  have hr := hn r e xs ho
  obtain ⟨h1, h2⟩ := h r e xs ho
  rw [hle.sz r hr, hle.val r hr, hle.loc r hr]
  exact ⟨h1, h2⟩
theorem regain_ok (hI : Inv E M0 w0 c st w) {st0 st1 : St} {s : SV} {v : Value} {x : X} {b : List Nat} (h0 : Olds E c st0) (hr : Rel c w s v) (hx : XV E c.F w x v b) (hn : b.Nodup) (hf : ∀ k ∈ b, Free M0 w0 c st w k) (h : st.regain st0 s (some x) = some st1) : ∃ c', Bound E M0 w0 c st w b c' st1 := by
  unfold St.regain at h
  split at h
  · cases ‹some x = none›
  · rename_i r e xs heq
    obtain rfl := Option.some.inj heq
    split at h
    · rename_i e' ys ho
      split at h
      · rename_i hee
        subst hee
        obtain rfl := Option.some.inj h
        cases hr with
        | row _ hrn =>
          obtain ⟨o1, o2⟩ := h0 r e' ys ho
          cases hx with
          | @row _ _ _ l hx =>
            have hll : capV (c.val r) ≠ 0 → l = c.loc r := by
              intro hk
              obtain ⟨h1, ⟨A, k, hv, h2⟩, _, _, h5⟩ := hx
              rw [hv] at hk
              obtain ⟨o, _, _, _, e1, _⟩ := h5 A _ k hv hk
              obtain ⟨o', e2⟩ := o2 A _ k hv hk
              rw [e1] at e2
              injection e2 with e2
              injection e2 with e2
            refine ⟨c, revive hI (by rw [← hI.n]; exact hrn) (obOK_row.2 ⟨o1, ?_⟩) (fun ho' => ?_)⟩
            · by_cases hk : capV (c.val r) = 0
              · obtain ⟨h1, h2, h3, h4, h5⟩ := hx
                refine ⟨h1, h2, h3, h4, fun A n k hv hk' => ?_⟩
                rw [hv] at hk; exact absurd hk hk'
              · rw [← hll hk]; exact hx
            · obtain ⟨A, n, k, hv, hk⟩ := ho'
              have hk' : capV (c.val r) ≠ 0 := by rw [hv]; exact hk
              have hl := hll hk'
              subst hl
              have hm : c.loc r ∈ ownL (c.val r) (c.loc r) := by simp [ownL, hk']
              exact ⟨hm, hf _ hm⟩
      · cases h
    · cases h
  · obtain rfl := Option.some.inj h
    exact ⟨c, .refl hI _⟩
  · rename_i bx ty xs heq
    obtain rfl := Option.some.inj heq
    split at h <;> try (cases h; done)
    obtain rfl := Option.some.inj h
    cases hr with
    | ptr _ _ hb =>
      cases hx with
      | @ref _ _ _ vs bb hh hx =>
        obtain ⟨hn1, hn2⟩ := List.nodup_cons.1 hn
        obtain ⟨c1, b1, l1, o1, r1⟩ := bindCells_ok hI hx hn2 (fun k hk => hf k (List.mem_cons_of_mem _ hk))
        have hfl := b1.free hI (hf (c.loc bx) (by simp)) hn1
        have hloc := b1.le.loc bx hb
        have hbn : bx < (st.bindCells xs).2.n := Nat.lt_of_lt_of_le (by rw [← hI.n]; exact hb) b1.n
        refine ⟨c1, b1.trans (revive (bl := [c.loc bx]) b1.inv hbn ⟨vs, by rw [hloc]; exact hh, by simpa using l1.symm, o1, fun j s v hs hv => r1 j s v hs (by simpa using hv)⟩ (fun _ => ?_)) (fun k hk => List.mem_cons_of_mem _ hk) (fun k hk => by simp at hk; simp [hk])⟩
        rw [hloc]
        exact ⟨by simp, hfl⟩
  · cases h
theorem regainAll_ok : ∀ {ss : List SV} {c : Ctx} {st st0 st1 : St} {vs : List Value} {xs : List (Option X)} {b : List Nat}, Inv E M0 w0 c st w → Olds E c st0 → (∀ r e xs, st0.o r = .row e xs true → r < c.n) → vs.length = ss.length → (∀ (i : Nat) s v, ss[i]? = some s → vs[i]? = some v → Rel c w s v) → XOs E c.F w xs vs b → b.Nodup → (∀ k ∈ b, Free M0 w0 c st w k) →
    st.regainAll st0 ss xs = some st1 → ∃ c', Bound E M0 w0 c st w b c' st1
  | [], c, st, st0, st1, vs, xs, b, hI, h0, hc, hl, hr, hx, hn, hf, h => by
    cases xs with
    | nil =>
      simp only [St.regainAll, Option.some.injEq] at h
      subst h
      exact ⟨c, .refl hI _⟩
    | cons x xs => simp [St.regainAll] at h
  | s :: r, c, st, st0, st1, vs, xs, b, hI, h0, hc, hl, hr, hx, hn, hf, h => by
    cases xs with
    | nil => simp [St.regainAll] at h
    | cons x xs =>
      cases vs with
      | nil => simp at hl
      | cons v vs =>
        simp only [St.regainAll] at h
        split at h
        · rename_i st2 h1
          have hl' : vs.length = r.length := by simpa using hl
          cases hx with
          | @some x _ b _ _ bs hx1 hx2 =>
            obtain ⟨hn1, hn2, hn3⟩ := List.nodup_append.1 hn
            obtain ⟨c1, b1⟩ := regain_ok hI h0 (hr 0 s v rfl rfl) hx1 hn1 (fun k hk => hf k (List.mem_append_left _ hk)) h1
            have hx2' : XOs E c1.F w xs vs bs := by rw [b1.F]; exact hx2
            obtain ⟨c2, b2⟩ := regainAll_ok b1.inv (h0.mono b1.le hc) (fun r e xs ho => Nat.lt_of_lt_of_le (hc r e xs ho) b1.le.n) hl' (fun i s v hs hv => (hr (i + 1) s v (by simpa using hs) (by simpa using hv)).mono b1.le (fun _ _ => rfl)) hx2' hn2 (fun k hk => b1.free hI (hf k (List.mem_append_right _ hk)) (fun hk' => hn3 k hk' k hk rfl)) h
            exact ⟨c2, b1.trans b2 (fun l hl => List.mem_append_left _ hl) (fun l hl => List.mem_append_right _ hl)⟩
          | none hx2 =>
            have : st.regain st0 s none = some st := by cases s <;> rfl
            rw [this] at h1
            obtain rfl := Option.some.inj h1
            exact regainAll_ok hI h0 hc hl' (fun i s v hs hv => hr (i + 1) s v (by simpa using hs) (by simpa using hv)) hx2 hn hf h
        · cases h
end

def resV : List Value → Value
  | [u] => u
  | us => .tuple us.toArray
/-- How a call of f goes: entered, or answered at once. -/
def Goes (P : Program) (f : Nat) (vals : Array Value) (w : World) (R : Ending → World → Prop) : Prop :=
  ((callFunc f vals).run P w = .ok (.enter f vals) w ∧ Calls P f vals w R) ∨ ∃ v w', (callFunc f vals).run P w = .ok (.value v) w' ∧ R (.returned v) w'
def Leaves (E : Env) (F : Nat → Prop) (w : World) (bl : List Nat) (mv : List Value) (rs : List X) (bs : List (Option X)) (us : List Value) (w' : World) : Prop :=
  ∃ (F' : Nat → Prop) (br bb : List Nat), Same w w' (fun k => k ∈ bl) ∧ (∀ k, F k → F' k) ∧ (∀ k, F' k → F k ∨ k ∈ bl ∨ w.heap.size ≤ k) ∧ (∀ k, F' k → k < w'.heap.size) ∧ XVs E F' w' rs us br ∧ XOs E F' w' bs mv bb ∧ (br ++ bb).Nodup ∧
    ∀ k ∈ br ++ bb, k < w'.heap.size ∧ ¬ F' k ∧ (k ∈ bl ∨ w.heap.size ≤ k)
/-- What is said of a call. -/
def CallOK (E : Env) (P : Program) (f : Nat) (args rs : List X) (bs : List (Option X)) : Prop :=
  (E.flat f = true → X.flats rs = true ∧ backFlat bs = true ∧ X.quiets rs = true) ∧ ∀ (F : Nat → Prop) (w : World) (vals : Array Value) (bl : List Nat), XVs E F w args vals.toList bl → bl.Nodup → (∀ k ∈ bl, k < w.heap.size ∧ ¬ F k) → (∀ k, F k → k < w.heap.size) → Laid E F w →
    Goes P f vals w (fun e w' => ∃ us, e = .returned (resV us) ∧ Leaves E F w bl (muts (E.md f) vals.toList) rs bs us w')

section
variable {E : Env} {P : Program} {M0 : Nat → Prop} {w0 : World} {c : Ctx} {st st' : St} {a : Act} {w w' : World}

theorem Goes.mono {f : Nat} {vals : Array Value} {R R' : Ending → World → Prop} (h : Goes P f vals w R) (hr : ∀ e w', R e w' → R' e w') : Goes P f vals w R' := by
  rcases h with ⟨h1, h2⟩ | ⟨v, w', h1, h2⟩
  · exact .inl ⟨h1, h2.mono hr⟩
  · exact .inr ⟨v, w', h1, hr _ _ h2⟩
theorem flats_mem : ∀ {l : List T}, T.flats l = true → ∀ x ∈ l, x.flat = true
  | [], _, x, hx => by simp at hx
  | y :: r, h, x, hx => by
    simp only [T.flats, Bool.and_eq_true] at h
    rcases List.mem_cons.1 hx with rfl | hx
    · exact h.1
    · exact flats_mem h.2 x hx
theorem flat_cells {t : T} (h : t.flat = true) : ∀ y ∈ t.cells, y.flat = true := by
  cases t with
  | agg cs =>
    have h' : T.flats cs = true := by simpa [T.flat] using h
    exact fun y hy => flats_mem h' y hy
  | _ => intro y hy; simp [T.cells] at hy; subst hy; exact h
theorem RowV.flat {F F' : Nat → Prop} {e l : Nat} {xs : List T} {v : Value} (h : RowV E F w e xs v l) (hf : T.flats xs = true) : RowV E F' w e xs v l := by
  obtain ⟨h1, h2, h3, h4, h5⟩ := h
  refine ⟨h1, h2, h3, h4, fun A n k hv hk => ?_⟩
  obtain ⟨o, vs, lo, hi, e1, e2, e3, e4, e5⟩ := h5 A n k hv hk
  refine ⟨o, vs, lo, hi, e1, e2, e3, e4, fun j x t y hx hy => ?_⟩
  obtain ⟨u, u1, u2⟩ := e5 j x t y hx hy
  exact ⟨u, u1, u2.flat (flat_cells (flats_mem hf x (List.mem_of_getElem? hx)) y (List.mem_of_getElem? hy))⟩
theorem XCs.flat {F F' : Nat → Prop} {xs : List X} {vs : List Value} {b : List Nat} (h : XCs E F w xs vs b) (hf : X.flats xs = true) : XCs E F' w xs vs b := by
  induction h with
  | nil => exact .nil
  | tC h h1 r ih =>
    simp only [X.flats, X.flat, Bool.and_eq_true] at hf
    exact .tC (h.flat hf.1) h1 (ih hf.2)
  | nilC A r ih =>
    simp only [X.flats, Bool.and_eq_true] at hf
    exact .nilC A (ih hf.2)
  | rowC h r ih =>
    simp only [X.flats, X.flat, Bool.and_eq_true] at hf
    exact .rowC (h.flat hf.1) (ih hf.2)
  | srefC hh hm h r ih1 ih2 =>
    simp only [X.flats, X.flat, Bool.and_eq_true] at hf
    exact .srefC hh hm (ih1 hf.1) (ih2 hf.2)
theorem XC.flat {F F' : Nat → Prop} {x : X} {v : Value} {b : List Nat} (h : XC E F w x v b) (hf : x.flat = true) : XC E F' w x v b := by
  cases h with
  | t h h1 => exact .t (h.flat (by simpa [X.flat] using hf)) h1
  | nil A => exact .nil A
  | row h => exact .row (h.flat (by simpa [X.flat] using hf))
  | sref hh hm h => exact .sref hh hm (h.flat (by simpa [X.flat] using hf))
theorem XV.flat {F F' : Nat → Prop} {x : X} {v : Value} {b : List Nat} (h : XV E F w x v b) (hf : x.flat = true) : XV E F' w x v b := by
  cases h with
  | t h => exact .t (h.flat (by simpa [X.flat] using hf))
  | nil A => exact .nil A
  | row h => exact .row (h.flat (by simpa [X.flat] using hf))
  | agg h => exact .agg (h.flat (by simpa [X.flat] using hf))
  | ref hh h => exact .ref hh (h.flat (by simpa [X.flat] using hf))
  | sref hh hm h => exact .sref hh hm (h.flat (by simpa [X.flat] using hf))
  | dref h => simp [X.flat] at hf
  | fn hl h => simp [X.flat] at hf
  | meth hl h => simp [X.flat] at hf
theorem XVs.flat {F F' : Nat → Prop} {xs : List X} {vs : List Value} {b : List Nat} (h : XVs E F w xs vs b) (hf : X.flats xs = true) : XVs E F' w xs vs b := by
  induction h with
  | nil => exact .nil
  | cons h r ih =>
    simp only [X.flats, Bool.and_eq_true] at hf
    exact .cons (h.flat hf.1) (ih hf.2)
theorem XOs.flat {F F' : Nat → Prop} {xs : List (Option X)} {vs : List Value} {b : List Nat} (h : XOs E F w xs vs b) (hf : backFlat xs = true) : XOs E F' w xs vs b := by
  induction h with
  | nil => exact .nil
  | some h r ih =>
    simp only [backFlat, Bool.and_eq_true] at hf
    exact .some (h.flat hf.1) (ih hf.2)
  | none r ih => exact .none (ih (by simpa [backFlat] using hf))
theorem XOs.mono {F F' : Nat → Prop} {xs : List (Option X)} {vs : List Value} {b : List Nat} (h : XOs E F w xs vs b) (hF : ∀ k, F k → F' k) : XOs E F' w xs vs b := by
  induction h with
  | nil => exact .nil
  | some h r ih => exact .some (h.mono hF (fun _ _ => rfl) (fun _ _ => rfl)) ih
  | none r ih => exact .none ih

theorem muts_rel : ∀ {md : List Bool} {ss : List SV} {vs : List Value}, vs.length = ss.length → (∀ (i : Nat) s v, ss[i]? = some s → vs[i]? = some v → Rel c w s v) →
    (muts md vs).length = (muts md ss).length ∧ ∀ (i : Nat) s v, (muts md ss)[i]? = some s → (muts md vs)[i]? = some v → Rel c w s v
  | md, [], vs, hl, hr => by
    obtain rfl : vs = [] := List.eq_nil_of_length_eq_zero hl
    have h1 : muts md ([] : List SV) = [] := by cases md <;> rfl
    have h2 : muts md ([] : List Value) = [] := by cases md <;> rfl
    rw [h1, h2]
    exact ⟨rfl, fun i s v hs => by simp at hs⟩
  | md, s :: r, vs, hl, hr => by
    cases vs with
    | nil => simp at hl
    | cons v vs =>
      obtain ⟨g1, g2⟩ := muts_rel (md := md.tail) (vs := vs) (by simpa using hl) (fun i s v hs hv => hr (i + 1) s v (by simpa using hs) (by simpa using hv))
      cases hm : md.headD false with
      | true =>
        have e1 : muts md (s :: r) = s :: muts md.tail r := by simp only [muts, hm, if_true]
        have e2 : muts md (v :: vs) = v :: muts md.tail vs := by simp only [muts, hm, if_true]
        rw [e1, e2]
        refine ⟨by simp [g1], fun i s' v' hs hv => ?_⟩
        cases i with
        | zero => simp at hs hv; subst hs; subst hv; exact hr 0 _ _ rfl rfl
        | succ i => exact g2 i s' v' (by simpa using hs) (by simpa using hv)
      | false =>
        have e1 : muts md (s :: r) = muts md.tail r := by simp only [muts, hm, Bool.false_eq_true, if_false]
        have e2 : muts md (v :: vs) = muts md.tail vs := by simp only [muts, hm, Bool.false_eq_true, if_false]
        rw [e1, e2]
        exact ⟨g1, g2⟩

theorem tup_rel {ss : List SV} {us : List Value} (hl : ss.length = us.length) (hr : ∀ (i : Nat) s v, ss[i]? = some s → us[i]? = some v → Rel c w s v) : Rel c w (tupOf ss) (resV us) := by
  match ss, us, hl with
  | [s], [u], _ => exact hr 0 s u rfl rfl
  | [], [], _ => exact .tup [] #[] rfl (fun i s v hs => by simp at hs)
  | s :: s' :: r, u :: u' :: q, hl =>
    refine .tup _ _ (by simpa using hl) (fun i s v hs hv => hr i s v hs (by simpa using hv))

/-- The caller behind the call: what was handed over is gone, what was looked at is frozen. -/
theorem mid_ok (hI : Inv E M0 w0 c st w) {g : Nat} {fb : Bool} {vs : List SV} {F' : Nat → Prop} {st0 : St} (hd : ∀ i ∈ st.roAll (ros (E.md g) vs), i ∉ st.mutAll (muts (E.md g) vs)) (hm : callMid E st g fb vs = some st0)
    (hs : Same w w' (fun k => k ∈ bids c st (st.mutAll (muts (E.md g) vs)))) (hF1 : ∀ k, FP c st (st.roAll (ros (E.md g) vs)) k → F' k) (hF2 : ∀ k, F' k → FP c st (st.roAll (ros (E.md g) vs)) k ∨ k ∈ bids c st (st.mutAll (muts (E.md g) vs)) ∨ w.heap.size ≤ k) (hF3 : ∀ k, F' k → k < w'.heap.size) :
    ∃ F2, Inv E M0 w0 (c.withF F2) st0 w' ∧ (∀ k, c.F k → F2 k) ∧ (∀ k, F2 k → F' k) ∧ (fb = false → ∀ k, F' k → F2 k) ∧ st0.n = st.n ∧ st0.s = st.s ∧ st0.N = st.N ∧ (∀ i, Owns c i (st0.o i) → Owns c i (st.o i) ∧ i ∉ st.mutAll (muts (E.md g) vs)) := by
  generalize hmi : st.mutAll (muts (E.md g) vs) = mi at *
  generalize hri : st.roAll (ros (E.md g) vs) = ri at *
  have hbl : ∀ k ∈ bids c st mi, ∃ i ∈ mi, i < st.n ∧ Owns c i (st.o i) ∧ k = c.loc i := fun k hk => bids_mem hI hk
  have hkown : ∀ i, Owns c i ((kill mi st).o i) → Owns c i (st.o i) ∧ i ∉ mi := by
    intro i hi
    rw [kill_get] at hi
    split at hi
    · exact hi.elim
    · rename_i h; exact ⟨hi, h⟩
  obtain ⟨kn, ks, kN⟩ := kill_rest mi st
  have hnot : ∀ i, i < st.n → Owns c i (st.o i) → i ∉ mi → c.loc i ∉ bids c st mi := by
    intro i hi ho hni hk
    obtain ⟨j, hj, j1, j2, j3⟩ := hbl _ hk
    have := hI.inj i j hi j1 ho j2 j3
    subst this
    exact hni hj
  have hstk : Inv E M0 w0 c (kill mi st) w' := by
    refine (hI.kill mi).world hs (fun k hk => ?_) (fun i hi ho => ?_)
    · obtain ⟨i, _, i1, i2, rfl⟩ := hbl k hk
      exact (hI.own i i1 i2).2
    · obtain ⟨o1, o2⟩ := hkown i ho
      exact hnot i (by rw [← kn]; exact hi) o1 o2
  unfold callMid at hm
  rw [hmi, hri] at hm
  cases hfl : fb with
  | true =>
    rw [hfl] at hm
    obtain rfl := Option.some.inj hm
    exact ⟨c.F, hstk, fun _ h => h, fun k hk => hF1 k (.inl hk), fun h => by simp at h, kn, ks, kN, hkown⟩
  | false =>
    rw [hfl] at hm
    simp only at hm
    split at hm
    · rename_i hall
      obtain rfl := Option.some.inj hm
      obtain ⟨F1, f1, f2, f3, f3', f4, f5, f6, f7⟩ := freezeAll_ok hstk hall
      have hF1up : ∀ k, F1 k → FP c st ri k := by
        intro k hk
        rcases f3' k hk with hk | ⟨i, hi, h1, h2, h3⟩
        · exact .inl hk
        · exact .inr ⟨i, hi, by rw [← kn]; exact h1, (hkown i h2).1, h3⟩
      have hown0 : ∀ i, Owns c i ((freezeAll ri (kill mi st)).o i) → Owns c i (st.o i) ∧ i ∉ mi := fun i hi => hkown i (f7 i hi)
      refine ⟨fun k => F1 k ∨ F' k, ?_, fun k hk => .inl (f2 k hk), fun k hk => hk.elim (fun h => hF1 k (hF1up k h)) id, fun _ k hk => .inr hk, f4.trans kn, f5.trans ks, f6.trans kN, hown0⟩
      have hmore := f1.moreF (F := fun k => F1 k ∨ F' k) (fun k hk => .inl hk) (fun k hk => ?_) (fun i hi ho hk => ?_)
      · exact hmore
      · have hb : ∀ k, FP c st ri k → c.F0 k ∨ M0 k ∨ w0.heap.size ≤ k := by
          intro k hk
          rcases hk with hk | ⟨i, _, h1, h2, rfl⟩
          · exact hI.bnd k hk
          · exact .inr (hI.own i h1 h2).2.2
        rcases hk with hk | hk
        · exact ⟨f1.F k hk, f1.bnd k hk⟩
        · refine ⟨hF3 k hk, ?_⟩
          rcases hF2 k hk with h | h | h
          · exact hb k h
          · obtain ⟨i, _, i1, i2, rfl⟩ := hbl k h
            exact .inr (hI.own i i1 i2).2.2
          · exact .inr (.inr (Nat.le_trans hI.same.size h))
      · have hi' : i < st.n := by rw [← kn, ← f4]; exact hi
        obtain ⟨o1, o2⟩ := hown0 i ho
        obtain ⟨_, l2, _⟩ := f1.own i hi ho
        rcases hk with hk | hk
        · exact l2 hk
        · rcases hF2 _ hk with h | h | h
          · rcases h with h | ⟨j, hj, j1, j2, j3⟩
            · exact l2 (f2 _ h)
            · have := hI.inj i j hi' j1 o1 j2 j3
              subst this
              refine l2 (f3 _ (.inr ⟨i, hj, by rw [kn]; exact hi', ?_, rfl⟩))
              rw [kill_get, if_neg o2]; exact o1
          · exact hnot i hi' o1 o2 h
          · have h' : w.heap.size ≤ c.loc i := h
            have := (hI.own i hi' o1).1
            omega
    · split at hm
      · obtain rfl := Option.some.inj hm
        obtain ⟨kn2, ks2, kN2⟩ := kill_rest ri (kill mi st)
        have hown1 : ∀ i, Owns c i ((kill ri (kill mi st)).o i) → (Owns c i (st.o i) ∧ i ∉ mi) ∧ i ∉ ri := by
          intro i hi
          rw [kill_get] at hi
          split at hi
          · exact hi.elim
          · rename_i h; exact ⟨hkown i hi, h⟩
        have f1 := hstk.kill ri
        refine ⟨fun k => c.F k ∨ F' k, ?_, fun k hk => .inl hk, fun k hk => hk.elim (fun h => hF1 k (.inl h)) id, fun _ k hk => .inr hk, kn2.trans kn, ks2.trans ks, kN2.trans kN, fun i hi => (hown1 i hi).1⟩
        refine f1.moreF (F := fun k => c.F k ∨ F' k) (fun k hk => .inl hk) (fun k hk => ?_) (fun i hi ho hk => ?_)
        · have hb : ∀ k, FP c st ri k → c.F0 k ∨ M0 k ∨ w0.heap.size ≤ k := by
            intro k hk
            rcases hk with hk | ⟨i, _, h1, h2, rfl⟩
            · exact hI.bnd k hk
            · exact .inr (hI.own i h1 h2).2.2
          rcases hk with hk | hk
          · exact ⟨f1.F k hk, f1.bnd k hk⟩
          · refine ⟨hF3 k hk, ?_⟩
            rcases hF2 k hk with h | h | h
            · exact hb k h
            · obtain ⟨i, _, i1, i2, rfl⟩ := hbl k h
              exact .inr (hI.own i i1 i2).2.2
            · exact .inr (.inr (Nat.le_trans hI.same.size h))
        · have hi' : i < st.n := by rw [← kn, ← kn2]; exact hi
          obtain ⟨⟨o1, o2⟩, o3⟩ := hown1 i ho
          obtain ⟨_, l2, _⟩ := f1.own i hi ho
          rcases hk with hk | hk
          · exact l2 hk
          · rcases hF2 _ hk with h | h | h
            · rcases h with h | ⟨j, hj, j1, j2, j3⟩
              · exact l2 h
              · have := hI.inj i j hi' j1 o1 j2 j3
                subst this
                exact o3 hj
            · exact hnot i hi' o1 o2 h
            · have h' : w.heap.size ≤ c.loc i := h
              have := (hI.own i hi' o1).1
              omega
      · cases hm

theorem RowV.RD {F F' : Nat → Prop} {e l : Nat} {xs : List T} {v : Value} (h : RowV E F w e xs v l) (hF : ∀ k, F k → F' k) (hb : ∀ k ∈ ownL v l, F' k) : RD F' w (.list xs) v := by
  obtain ⟨h2, ⟨A, k, rfl, hk, hm⟩, h4, h5, h6⟩ := h
  by_cases hk0 : k = 0
  · obtain rfl : xs = [] := List.eq_nil_of_length_eq_zero (by omega)
    exact .list [] A k (E.ty e).size (fun _ _ => undef) hk hm h2 h4 h5 (fun h => absurd rfl h) (fun j x i y hx => by simp at hx)
  · obtain ⟨o, vs, lo, hi, e1, e2, e3, e4, e5⟩ := h6 A _ k rfl hk0
    have hcl : ∀ j, w.cell? ⟨l, o + j, none⟩ = vs[o + j]? := fun j => by simp [World.cell?, e2]
    refine .list xs A k (E.ty e).size (fun j t => (vs[o + (j * (E.ty e).size + t)]?).getD undef) hk hm h2 h4 h5 (fun hne => ⟨l, o, e1, hb l (by simp [ownL, capV, hk0]), fun j t hj ht => ?_⟩) (fun j x t y hx hy => ?_)
    · rw [hcl]
      have hx := List.getElem?_eq_getElem hj
      have hw := h4 _ (List.getElem_mem hj)
      obtain ⟨v, hv1, _⟩ := e5 j _ t _ hx (List.getElem?_eq_getElem (by rw [hw]; exact ht))
      rw [hv1]; rfl
    · obtain ⟨v, hv1, hv2⟩ := e5 j x t y hx hy
      rw [hv1]
      exact hv2.mono hF (fun _ _ => rfl)
theorem XC.data1 {F : Nat → Prop} {x : X} {v : Value} {b : List Nat} (h : XC E F w x v b) (hs : x.shal1 = true) (hF : ∀ k, F k → c.F k) (hb : ∀ k ∈ b, c.F k) : Rel c w x.data1 v ∧ x.data1.one = true := by
  cases h with
  | t h h1 => exact ⟨.t (h.mono hF (fun _ _ => rfl)), h1⟩
  | nil A => exact ⟨.nil A, rfl⟩
  | row h => exact ⟨.t (h.RD hF hb), rfl⟩
  | sref hh hm h => simp [X.shal1] at hs
theorem XCs.data1 : ∀ {xs : List X} {F : Nat → Prop} {vs : List Value} {b : List Nat}, XCs E F w xs vs b → xs.all X.shal1 = true → (∀ k, F k → c.F k) → (∀ k ∈ b, c.F k) → xs.length = vs.length ∧ (∀ y ∈ xs.map X.data1, y.one = true) ∧ ∀ (i : Nat) s v, (xs.map X.data1)[i]? = some s → vs[i]? = some v → Rel c w s v
  | [], F, vs, b, h, hs, hF, hb => by
    cases h
    exact ⟨rfl, fun y hy => (by simp at hy), fun i s v hs => (by simp at hs)⟩
  | x :: xs, F, us, bl, h, hs, hF, hb => by
    obtain ⟨v, vs, b, bs, rfl, rfl, h, r⟩ := h.uncons
    simp only [List.all_cons, Bool.and_eq_true] at hs
    obtain ⟨a1, a2⟩ := h.data1 (c := c) hs.1 hF (fun k hk => hb k (List.mem_append_left _ hk))
    obtain ⟨b1, b2, b3⟩ := XCs.data1 r hs.2 hF (fun k hk => hb k (List.mem_append_right _ hk))
    refine ⟨by simp [b1], fun y hy => ?_, fun i s v hs hv => ?_⟩
    · rw [List.map_cons] at hy
      rcases List.mem_cons.1 hy with rfl | hy
      · exact a2
      · exact b2 y hy
    · cases i with
      | zero => simp at hs hv; subst hs; subst hv; exact a1
      | succ i => exact b3 i s v (by simpa using hs) (by simpa using hv)
theorem XV.data {F : Nat → Prop} {x : X} {v : Value} {b : List Nat} (h : XV E F w x v b) (hF : ∀ k, F k → c.F k) (hb : ∀ k ∈ b, c.F k) : Rel c w x.data v := by
  cases h with
  | t h => exact ofT_rel (h.mono hF (fun _ _ => rfl))
  | nil A => exact .nil A
  | row h => exact .t (h.RD hF hb)
  | @agg cs vs _ h =>
    simp only [X.data]
    split
    · rename_i hs
      obtain ⟨b1, b2, b3⟩ := XCs.data1 (c := c) h hs hF hb
      exact .agg _ _ (by simpa using b1) b2 (fun i s v hs hv => b3 i s v hs (by simpa using hv))
    · exact .undef _
  | ref hh h => exact .undef _
  | sref hh hm h => exact .undef _
  | dref h => exact .undef _
  | fn hl h => exact .undef _
  | meth hl h => exact .undef _
theorem XVs.data {F : Nat → Prop} {xs : List X} {vs : List Value} {b : List Nat} (h : XVs E F w xs vs b) (hF : ∀ k, F k → c.F k) (hb : ∀ k ∈ b, c.F k) : (xs.map X.data).length = vs.length ∧ ∀ (i : Nat) s v, (xs.map X.data)[i]? = some s → vs[i]? = some v → Rel c w s v := by
  induction h with
  | nil => exact ⟨rfl, fun i s v hs => (by simp at hs)⟩
  | cons h r ih =>
    have a1 := h.data (c := c) hF (fun k hk => hb k (List.mem_append_left _ hk))
    obtain ⟨b1, b3⟩ := ih (fun k hk => hb k (List.mem_append_right _ hk))
    refine ⟨by simpa using b1, fun i s v hs hv => ?_⟩
    cases i with
    | zero => simp at hs hv; subst hs; subst hv; exact a1
    | succ i => exact b3 i s v (by simpa using hs) (by simpa using hv)
theorem ownB_flat {g : Nat} {rs : List X} {bs : List (Option X)} (h : E.flat g = true → X.flats rs = true ∧ backFlat bs = true) (ho : ownB E g rs bs = true) : X.flats rs = true ∧ backFlat bs = true := by
  unfold ownB at ho
  split at ho
  · rename_i hf; exact h hf
  · split at ho
    · cases ho
    · simpa [Bool.and_eq_true] using ho
theorem call_all (hI : Inv E M0 w0 c st w) (hL : Laid E c.F w) {as : List SV} {ws : Array Value} {g : Nat} {xs rs : List X} {bs : List (Option X)} {r : SV} {st1 : St} (hlen : ws.toList.length = as.length) (hrel : ∀ (i : Nat) s v, as[i]? = some s → ws.toList[i]? = some v → Rel c w s v)
    (hnd : (st.mutAll (muts (E.md g) as)).Nodup) (hdis : ∀ i ∈ st.roAll (ros (E.md g) as), i ∉ st.mutAll (muts (E.md g) as)) (hgive : st.give (E.md g) as = some xs) (hc : CallOK E P g xs rs bs)
    (hb : (match callMid E st g (ownB E g rs bs) as with
      | none => none
      | some st0 => match st0.regainAll st (muts (E.md g) as) bs with
        | none => none
        | some st1 => some (tupOf (st1.bindAll rs).1, (st1.bindAll rs).2)) = some (r, st1)) :
    Goes P g ws w (fun e w' => ∃ u, e = .returned u ∧ ∃ c', Step E M0 w0 c st w r st1 c' u w') := by
  have hgx := give_ok hI (ids := st.roAll (ros (E.md g) as)) hgive hlen hrel (fun _ h => h)
  have hbl : ∀ k ∈ bids c st (st.mutAll (muts (E.md g) as)), ∃ i ∈ st.mutAll (muts (E.md g) as), i < st.n ∧ Owns c i (st.o i) ∧ k = c.loc i := fun k hk => bids_mem hI hk
  have hFP : ∀ k, FP c st (st.roAll (ros (E.md g) as)) k → k < w.heap.size := by
    intro k hk
    rcases hk with hk | ⟨i, _, h1, h2, rfl⟩
    · exact hI.F k hk
    · exact (hI.own i h1 h2).1
  obtain ⟨hcf, hco⟩ := hc
  have hgo := hco (FP c st (st.roAll (ros (E.md g) as))) w ws (bids c st (st.mutAll (muts (E.md g) as))) (hgx) (bids_nodup hI hnd) (fun k hk => by
    obtain ⟨i, i0, i1, i2, rfl⟩ := hbl k hk
    obtain ⟨l1, l2, l3⟩ := hI.own i i1 i2
    refine ⟨l1, fun hk => ?_⟩
    rcases hk with hk | ⟨j, j0, j1, j2, j3⟩
    · exact l2 hk
    · have := hI.inj i j i1 j1 i2 j2 j3
      subst this
      exact hdis i j0 i0) hFP (hL.mono fun k hk => .inl hk)
  refine hgo.mono ?_
  rintro e w' ⟨rus, rfl, F', br, bb, s1, s2, s3, s4, s5, s6, s7, s8⟩
  refine ⟨_, rfl, ?_⟩
  split at hb
  · cases hb
  · rename_i st0 hmid
    split at hb
    · cases hb
    · rename_i st2 hreg
      simp only [Option.some.injEq, Prod.mk.injEq] at hb
      obtain ⟨rfl, rfl⟩ := hb
      obtain ⟨F2, m1, m2, m3, m4, m5, m6, m7, m8⟩ := mid_ok hI hdis hmid s1 s2 s3 s4
      have hkeep : ∀ k, c.F k → w'.heap[k]? = w.heap[k]? := fun k hk => s1.blk k (hI.F k hk) (fun hk' => by
        obtain ⟨i, _, i1, i2, rfl⟩ := hbl k hk'
        exact (hI.own i i1 i2).2.1 hk)
      have hle : c.Le (c.withF F2) := Ctx.le_withF m2
      -- what comes, in the caller's reading
      have hrs : XVs E F2 w' rs rus br := by
        cases hfl : ownB E g rs bs with
        | true => exact s5.flat (ownB_flat (fun h => ⟨(hcf h).1, (hcf h).2.1⟩) hfl).1
        | false => exact s5.mono (m4 hfl) (fun _ _ => rfl) (fun _ _ => rfl)
      have hbs : XOs E F2 w' bs (muts (E.md g) ws.toList) bb := by
        cases hfl : ownB E g rs bs with
        | true => exact s6.flat (ownB_flat (fun h => ⟨(hcf h).1, (hcf h).2.1⟩) hfl).2
        | false => exact s6.mono (m4 hfl)
      obtain ⟨nd1, nd2, nd3⟩ := List.nodup_append.1 s7
      have hfree : ∀ k ∈ br ++ bb, Free M0 w0 (c.withF F2) st0 w' k := by
        intro k hk
        obtain ⟨k1, k2, k3⟩ := s8 k hk
        refine ⟨k1, fun h => k2 (m3 k h), ?_, fun i hi ho e => ?_⟩
        · rcases k3 with h | h
          · obtain ⟨i, _, i1, i2, rfl⟩ := hbl k h
            exact (hI.own i i1 i2).2.2
          · exact .inr (Nat.le_trans hI.same.size h)
        · have hi' : i < st.n := by rw [← m5]; exact hi
          obtain ⟨o1, o2⟩ := m8 i (ho.mono hle (by rw [hI.n]; exact hi'))
          have e' : c.loc i = k := e
          rcases k3 with h | h
          · obtain ⟨j, j0, j1, j2, j3⟩ := hbl k h
            have := hI.inj i j hi' j1 o1 j2 (e'.trans j3)
            subst this
            exact o2 j0
          · have := (hI.own i hi' o1).1
            omega
      obtain ⟨q1, q2⟩ := muts_rel (md := E.md g) hlen hrel
      have hrows : ∀ r e xs, st.o r = .row e xs true → r < c.n := by
        intro r e xs ho
        rw [hI.n]
        by_cases h : r < st.n
        · exact h
        · rw [hI.dead r (by omega)] at ho; cases ho
      obtain ⟨c2, b2⟩ := regainAll_ok (c := c.withF F2) (st := st0) (st0 := st) m1 (hI.olds.mono hle hrows) hrows q1 (fun i s v hs hv => (q2 i s v hs hv).mono hle hkeep) hbs nd2 (fun k hk => hfree k (List.mem_append_right _ hk)) hreg
      have hrs2 : XVs E c2.F w' rs rus br := by rw [b2.F]; exact hrs
      obtain ⟨c3, b3, l3, r3⟩ := bindAll_ok b2.inv hrs2 nd1 (fun k hk => b2.free m1 (hfree k (List.mem_append_left _ hk)) (fun hk' => nd3 k hk k hk' rfl))
      exact ⟨c3, (hle.trans b2.le).trans b3.le, b3.inv, hkeep, b3.s.trans (b2.s.trans m6), b3.N.trans (b2.N.trans m7), tup_rel l3 r3⟩
theorem call_allD (hI : Inv E M0 w0 c st w) (hL : Laid E c.F w) {as : List SV} {ws : Array Value} {g : Nat} {xs rs : List X} {bs : List (Option X)} {r : SV} {st1 : St} (hlen : ws.toList.length = as.length) (hrel : ∀ (i : Nat) s v, as[i]? = some s → ws.toList[i]? = some v → Rel c w s v)
    (hnd : (st.mutAll (muts (E.md g) as)).Nodup) (hdis : ∀ i ∈ st.roAll (ros (E.md g) as), i ∉ st.mutAll (muts (E.md g) as)) (hgive : st.give (E.md g) as = some xs) (hc : CallOK E P g xs rs bs)
    (hb : dataBack E st g as rs bs = some (r, st1)) :
    Goes P g ws w (fun e w' => ∃ u, e = .returned u ∧ ∃ c', Step E M0 w0 c st w r st1 c' u w') := by
  have hgx := give_ok hI (ids := st.roAll (ros (E.md g) as)) hgive hlen hrel (fun _ h => h)
  have hbl : ∀ k ∈ bids c st (st.mutAll (muts (E.md g) as)), ∃ i ∈ st.mutAll (muts (E.md g) as), i < st.n ∧ Owns c i (st.o i) ∧ k = c.loc i := fun k hk => bids_mem hI hk
  have hFP : ∀ k, FP c st (st.roAll (ros (E.md g) as)) k → k < w.heap.size := by
    intro k hk
    rcases hk with hk | ⟨i, _, h1, h2, rfl⟩
    · exact hI.F k hk
    · exact (hI.own i h1 h2).1
  obtain ⟨hcf, hco⟩ := hc
  have hgo := hco (FP c st (st.roAll (ros (E.md g) as))) w ws (bids c st (st.mutAll (muts (E.md g) as))) (hgx) (bids_nodup hI hnd) (fun k hk => by
    obtain ⟨i, i0, i1, i2, rfl⟩ := hbl k hk
    obtain ⟨l1, l2, l3⟩ := hI.own i i1 i2
    refine ⟨l1, fun hk => ?_⟩
    rcases hk with hk | ⟨j, j0, j1, j2, j3⟩
    · exact l2 hk
    · have := hI.inj i j i1 j1 i2 j2 j3
      subst this
      exact hdis i j0 i0) hFP (hL.mono fun k hk => .inl hk)
  refine hgo.mono ?_
  rintro e w' ⟨rus, rfl, F', br, bb, s1, s2, s3, s4, s5, s6, s7, s8⟩
  refine ⟨_, rfl, ?_⟩
  unfold dataBack at hb
  split at hb
  · cases hb
  · rename_i st0 hmid
    split at hb
    · simp only [Option.some.injEq, Prod.mk.injEq] at hb
      obtain ⟨rfl, rfl⟩ := hb
      obtain ⟨F2, m1, m2, m3, m4, m5, m6, m7, m8⟩ := mid_ok hI hdis hmid s1 s2 s3 s4
      have hkeep : ∀ k, c.F k → w'.heap[k]? = w.heap[k]? := fun k hk => s1.blk k (hI.F k hk) (fun hk' => by
        obtain ⟨i, _, i1, i2, rfl⟩ := hbl k hk'
        exact (hI.own i i1 i2).2.1 hk)
      have hle : c.Le (c.withF F2) := Ctx.le_withF m2
      -- what comes, in the caller's reading
      have hrs : XVs E F2 w' rs rus br := by
        cases hfl : E.flat g with
        | true => exact s5.flat (hcf hfl).1
        | false => exact s5.mono (m4 hfl) (fun _ _ => rfl) (fun _ _ => rfl)
      obtain ⟨nd1, nd2, nd3⟩ := List.nodup_append.1 s7
      have hfree : ∀ k ∈ br ++ bb, Free M0 w0 (c.withF F2) st0 w' k := by
        intro k hk
        obtain ⟨k1, k2, k3⟩ := s8 k hk
        refine ⟨k1, fun h => k2 (m3 k h), ?_, fun i hi ho e => ?_⟩
        · rcases k3 with h | h
          · obtain ⟨i, _, i1, i2, rfl⟩ := hbl k h
            exact (hI.own i i1 i2).2.2
          · exact .inr (Nat.le_trans hI.same.size h)
        · have hi' : i < st.n := by rw [← m5]; exact hi
          obtain ⟨o1, o2⟩ := m8 i (ho.mono hle (by rw [hI.n]; exact hi'))
          have e' : c.loc i = k := e
          rcases k3 with h | h
          · obtain ⟨j, j0, j1, j2, j3⟩ := hbl k h
            have := hI.inj i j hi' j1 o1 j2 (e'.trans j3)
            subst this
            exact o2 j0
          · have := (hI.own i hi' o1).1
            omega
      have hF3 : ∀ k, F2 k → (F2 k ∨ k ∈ br) := fun k hk => .inl hk
      have hinv := m1.moreF (F := fun k => F2 k ∨ k ∈ br) hF3 (fun k hk => by
        rcases hk with hk | hk
        · exact ⟨m1.F k hk, m1.bnd k hk⟩
        · obtain ⟨l1, l2, l3, l4⟩ := hfree k (List.mem_append_left _ hk)
          exact ⟨l1, .inr l3⟩) (fun i hi ho hk => by
        rcases hk with hk | hk
        · exact (m1.own i hi ho).2.1 hk
        · exact (hfree _ (List.mem_append_left _ hk)).2.2.2 i hi ho rfl)
      obtain ⟨l3, r3⟩ := hrs.data (c := (c.withF F2).withF (fun k => F2 k ∨ k ∈ br)) hF3 (fun k hk => .inr hk)
      exact ⟨_, hle.trans (Ctx.le_withF hF3), hinv, hkeep, m6, m7, tup_rel l3 r3⟩
    · cases hb
theorem call_ok (hI : Inv E M0 w0 c st w) (hL : Laid E c.F w) {f : SV} {vs : List SV} {fv : Value} {us : List Value} {g : Nat} {xs rs : List X} {bs : List (Option X)} {r : SV} {st1 : St} (hf : Rel c w f fv) (hl : us.length = vs.length) (hr : ∀ (i : Nat) s v, vs[i]? = some s → us[i]? = some v → Rel c w s v)
    (hp : callPrep E st f vs = some (g, xs)) (hc : CallOK E P g xs rs bs) (hb : callBack E st f vs rs bs = some (r, st1)) :
    ∃ first caps : Array Value, fv = .func (.func g) first caps ∧ Goes P g (first ++ us.toArray ++ caps) w (fun e w' => ∃ u, e = .returned u ∧ ∃ c', Step E M0 w0 c st w r st1 c' u w') := by
  unfold callPrep at hp
  split at hp
  · rename_i g' caps
    split at hp
    · rename_i hcond
      obtain ⟨hnd, hdis⟩ := hcond
      simp only [Option.map_eq_some_iff, Prod.mk.injEq] at hp
      obtain ⟨xs', hgive, rfl, rfl⟩ := hp
      cases hf with
      | fn _ _ cvs hcl hcr =>
        refine ⟨#[], cvs, rfl, ?_⟩
        have hall : (#[] ++ us.toArray ++ cvs).toList = us ++ cvs.toList := by simp
        refine call_all hI hL (by rw [hall]; simp [hl, hcl]) (fun i s v hs hv => ?_) hnd hdis hgive hc hb
        rw [hall] at hv
        rw [List.getElem?_append] at hs hv
        rw [hl] at hv
        split at hs
        · rename_i hi; rw [if_pos hi] at hv; exact hr i s v hs hv
        · rename_i hi; rw [if_neg hi] at hv; exact hcr _ s v hs (by simpa using hv)
    · cases hp
  · rename_i g' ts
    split at hp
    · rename_i hcond
      obtain ⟨hnd, hdis⟩ := hcond
      simp only [Option.map_eq_some_iff, Prod.mk.injEq] at hp
      obtain ⟨xs', hgive, rfl, rfl⟩ := hp
      cases hf with
      | meth _ _ fvs hcl hcr =>
        refine ⟨fvs, #[], rfl, ?_⟩
        have hall : (fvs ++ us.toArray ++ #[]).toList = fvs.toList ++ us := by simp
        have hfl : (ts.map ofT).length = fvs.toList.length := by simp [hcl]
        refine call_all hI hL (by rw [hall]; simp [hl, hcl]) (fun i s v hs hv => ?_) hnd hdis hgive hc hb
        rw [hall] at hv
        rw [List.getElem?_append] at hs hv
        rw [hfl] at hs
        split at hs
        · rename_i hi
          rw [if_pos hi] at hv
          rw [List.getElem?_map, Option.map_eq_some_iff] at hs
          obtain ⟨t, ht, rfl⟩ := hs
          exact ofT_rel (hcr i t v ht (by simpa using hv))
        · rename_i hi; rw [if_neg hi] at hv; exact hr _ s v hs hv
    · cases hp
  · cases hp
theorem callS_ok (hI : Inv E M0 w0 c st w) (hL : Laid E c.F w) {f : SV} {vs : List SV} {fv : Value} {us : List Value} {g : Nat} {xs rs : List X} {bs : List (Option X)} {r : SV} {st1 : St} (hf : Rel c w f fv) (hl : us.length = vs.length) (hr : ∀ (i : Nat) s v, vs[i]? = some s → us[i]? = some v → Rel c w s v)
    (hp : callPrep E st f vs = some (g, xs)) (hc : CallOK E P g xs rs bs) (hb : callBackS E st f vs rs bs = some (r, st1)) :
    ∃ first caps : Array Value, fv = .func (.func g) first caps ∧ Goes P g (first ++ us.toArray ++ caps) w (fun e w' => ∃ u, e = .returned u ∧ ∃ c', Step E M0 w0 c st w r st1 c' u w') := by
  unfold callPrep at hp
  split at hp
  · rename_i g' caps
    split at hp
    · rename_i hcond
      obtain ⟨hnd, hdis⟩ := hcond
      simp only [Option.map_eq_some_iff, Prod.mk.injEq] at hp
      obtain ⟨xs', hgive, rfl, rfl⟩ := hp
      cases hf with
      | fn _ _ cvs hcl hcr =>
        refine ⟨#[], cvs, rfl, ?_⟩
        have hall : (#[] ++ us.toArray ++ cvs).toList = us ++ cvs.toList := by simp
        have hrel : ∀ (i : Nat) s v, (vs ++ caps)[i]? = some s → (#[] ++ us.toArray ++ cvs).toList[i]? = some v → Rel c w s v := by
          intro i s v hs hv
          rw [hall] at hv
          rw [List.getElem?_append] at hs hv
          rw [hl] at hv
          split at hs
          · rename_i hi; rw [if_pos hi] at hv; exact hr i s v hs hv
          · rename_i hi; rw [if_neg hi] at hv; exact hcr _ s v hs (by simpa using hv)
        simp only [callBackS] at hb
        split at hb
        · exact call_allD hI hL (by rw [hall]; simp [hl, hcl]) hrel hnd hdis hgive hc hb
        · exact call_all hI hL (by rw [hall]; simp [hl, hcl]) hrel hnd hdis hgive hc hb
    · cases hp
  · rename_i g' ts
    split at hp
    · rename_i hcond
      obtain ⟨hnd, hdis⟩ := hcond
      simp only [Option.map_eq_some_iff, Prod.mk.injEq] at hp
      obtain ⟨xs', hgive, rfl, rfl⟩ := hp
      cases hf with
      | meth _ _ fvs hcl hcr =>
        refine ⟨fvs, #[], rfl, ?_⟩
        have hall : (fvs ++ us.toArray ++ #[]).toList = fvs.toList ++ us := by simp
        have hfl : (ts.map ofT).length = fvs.toList.length := by simp [hcl]
        have hrel : ∀ (i : Nat) s v, (ts.map ofT ++ vs)[i]? = some s → (fvs ++ us.toArray ++ #[]).toList[i]? = some v → Rel c w s v := by
          intro i s v hs hv
          rw [hall] at hv
          rw [List.getElem?_append] at hs hv
          rw [hfl] at hs
          split at hs
          · rename_i hi
            rw [if_pos hi] at hv
            rw [List.getElem?_map, Option.map_eq_some_iff] at hs
            obtain ⟨t, ht, rfl⟩ := hs
            exact ofT_rel (hcr i t v ht (by simpa using hv))
          · rename_i hi; rw [if_neg hi] at hv; exact hr _ s v hs hv
        simp only [callBackS] at hb
        split at hb
        · exact call_allD hI hL (by rw [hall]; simp [hl, hcl]) hrel hnd hdis hgive hc hb
        · exact call_all hI hL (by rw [hall]; simp [hl, hcl]) hrel hnd hdis hgive hc hb
    · cases hp
  · cases hp
end

/-- Other slots. -/
def St.ss (st : St) (s : Nat → SV) : St := { st with s := s }
def onSt {α : Type} (s : Nat → SV) (p : α × St) : α × St := (p.1, p.2.ss s)
section
variable (E : Env) (st : St) (s : Nat → SV)
theorem ss_peek1 (v : SV) : (st.ss s).peek1 v = st.peek1 v := by cases v <;> rfl
theorem ss_peekL : ∀ (l : List SV), (st.ss s).peekL l = st.peekL l
  | [] => rfl
  | v :: r => by simp only [St.peekL, ss_peek1, ss_peekL r]
theorem ss_peek (v : SV) : (st.ss s).peek v = st.peek v := by
  cases v <;> simp only [St.peek, ss_peek1, ss_peekL]
theorem ss_elems (v : SV) : (st.ss s).elems v = st.elems v := by simp only [St.elems, ss_peek1]
theorem ss_freeze (r : Nat) : (st.ss s).freeze r = (st.freeze r).ss s := by
  unfold St.freeze
  have ho : (st.ss s).o r = st.o r := rfl
  rw [ho]
  cases st.o r <;> rfl
theorem ss_absorb1 (v : SV) : (st.ss s).absorb1 v = (st.absorb1 v).map (onSt s) := by
  unfold St.absorb1
  rw [ss_peek1]
  cases st.peek1 v with
  | none => rfl
  | some t => cases v <;> simp [ss_freeze, onSt]
theorem ss_absorbL : ∀ (l : List SV) (st : St), (st.ss s).absorbL l = (st.absorbL l).map (onSt s)
  | [], st => rfl
  | v :: r, st => by
    simp only [St.absorbL, ss_absorb1]
    cases st.absorb1 v with
    | none => rfl
    | some p =>
      simp only [Option.map_some, onSt, ss_absorbL r p.2]
      cases p.2.absorbL r <;> rfl
theorem ss_absorb (v : SV) : (st.ss s).absorb v = (st.absorb v).map (onSt s) := by
  unfold St.absorb
  split
  · rw [ss_absorbL]
    cases st.absorbL _ <;> rfl
  · exact ss_absorb1 st s _
theorem ss_absorbAll : ∀ (l : List SV) (st : St), (st.ss s).absorbAll l = (st.absorbAll l).map (onSt s)
  | [], st => rfl
  | v :: r, st => by
    simp only [St.absorbAll, ss_absorb]
    cases st.absorb v with
    | none => rfl
    | some p =>
      simp only [Option.map_some, onSt, ss_absorbAll r p.2]
      cases p.2.absorbAll r <;> rfl
theorem ss_slen (v : SV) : (st.ss s).slen v = st.slen v := by cases v <;> rfl
theorem ss_roomOf (v : SV) : (st.ss s).roomOf v = st.roomOf v := by cases v <;> first | rfl | exact ss_slen st s _
theorem ss_part (t : Nat) (v : SV) (l h : Nat) : (st.ss s).part E t v l h = st.part E t v l h := by cases v <;> rfl
theorem ss_loadAt (t : Nat) (v : SV) : (st.ss s).loadAt E t v = st.loadAt E t v := by
  unfold St.loadAt
  split
  · rfl
  · cases v <;> rfl
theorem ss_indexAt0 (t : Nat) (v i : SV) : (st.ss s).indexAt0 E t v i = st.indexAt0 E t v i := by
  unfold St.indexAt0
  split
  · split
    · rfl
    · cases v <;> rfl
  · rfl
theorem ss_indexAt (t : Nat) (v i : SV) : (st.ss s).indexAt E t v i = st.indexAt E t v i := by
  cases v <;> first | rfl | exact ss_indexAt0 t _ i
theorem ss_base (e : Nat) (v : SV) : (st.ss s).base e v = (st.base e v).map (onSt s) := by
  unfold St.base
  cases v <;> try rfl
  · rename_i r
    dsimp only
    have ho : (st.ss s).o r = st.o r := rfl
    rw [ho]
    cases st.o r with
    | row e' xs live =>
      cases live with
      | false => rfl
      | true => dsimp only; split <;> rfl
    | _ => rfl
  · rename_i r lo hi
    dsimp only
    have ho : (st.ss s).o r = st.o r := rfl
    rw [ho]
    cases st.o r with
    | row e' xs live =>
      cases live with
      | false => rfl
      | true => dsimp only; split <;> rfl
    | _ => rfl
theorem ss_moreOf (v : SV) : (st.ss s).moreOf v = st.moreOf v := by
  unfold St.moreOf
  split
  · rfl
  · exact ss_elems st s _
theorem ss_fits (e : Nat) (v : SV) (ys : List T) : (st.ss s).fits E e v ys = st.fits E e v ys := by
  cases v <;> try rfl
theorem ss_append (sT xT : Nat) (v u : SV) : (st.ss s).append E sT xT v u = (st.append E sT xT v u).map (onSt s) := by
  unfold St.append
  split
  · rw [ss_moreOf, ss_base]
    cases st.moreOf u with
    | none => rfl
    | some ys =>
      cases st.base (E.ty sT).elem v with
      | none => rfl
      | some p =>
        simp only [Option.map_some, onSt, ss_fits]
        split <;> rfl
  · rfl
theorem ss_storeAt (t : Nat) (a v : SV) : (st.ss s).storeAt E t a v = (st.storeAt E t a v).map (fun st => st.ss s) := by
  unfold St.storeAt
  split
  · cases a <;> try rfl
    · rename_i b off
      dsimp only
      have ho : (st.ss s).o b = st.o b := rfl
      rw [ho]
      cases st.o b with
      | box ty cells => dsimp only; split <;> rfl
      | _ => rfl
    · rename_i r i off
      simp only [ss_absorbL]
      cases st.absorbL v.cells with
      | none => rfl
      | some p =>
        simp only [Option.map_some, onSt]
        have ho : (p.2.ss s).o r = p.2.o r := rfl
        rw [ho]
        cases p.2.o r with
        | row e xs live =>
          cases live with
          | false => rfl
          | true =>
            simp only
            cases xs[i]? with
            | none => rfl
            | some x => simp only; cases x.setCells off p.1 <;> rfl
        | _ => rfl
  · rfl
theorem ss_convert (a b : Nat) (v : SV) : (st.ss s).convert E a b v = (st.convert E a b v).map (onSt s) := by
  unfold St.convert
  split
  · rfl
  · rfl
  · split
    · split <;> rfl
    · rfl
  · rw [ss_elems]
    split
    · split <;> rfl
    · rfl
  · rfl
theorem ss_lenOf (t : Nat) (v : SV) : (st.ss s).lenOf E t v = st.lenOf E t v := by
  unfold St.lenOf
  split
  · rfl
  · exact ss_slen st s _
  · rfl
theorem ss_appendIn (t : Nat) (v u : SV) : (st.ss s).appendIn E t v u = (st.appendIn E t v u).map (onSt s) := by
  unfold St.appendIn
  split
  · rename_i r lo hi r' lo' hi'
    have ho : (st.ss s).o r = st.o r := rfl
    rw [ho]
    cases st.o r with
    | row e xs live =>
      cases live with
      | false => rfl
      | true => dsimp only; split <;> rfl
    | _ => rfl
  · rfl
theorem ss_clearAt (t : Nat) (v : SV) : (st.ss s).clearAt E t v = (st.clearAt E t v).map (fun st => st.ss s) := by
  cases v <;> try rfl
  rename_i r lo hi
  simp only [St.clearAt, ss_peekL]
  have ho : (st.ss s).o r = st.o r := rfl
  rw [ho]
  cases st.o r with
  | row e xs live =>
    cases live with
    | false => rfl
    | true =>
      simp only
      split
      · split
        · split <;> rfl
        · rfl
      · rfl
  | _ => rfl
theorem ss_builtin (b : Builtin) (ts : List Nat) (vs : List SV) : (st.ss s).builtin E b ts vs = (st.builtin E b ts vs).map (onSt s) := by
  unfold St.builtin
  split
  · rw [ss_lenOf]
    cases st.lenOf E _ _ <;> rfl
  · split
    · split
      · exact ss_appendIn E st s _ _ _
      · rfl
    · exact ss_append E st s _ _ _ _
  · rw [ss_clearAt]
    split
    · cases st.clearAt E _ _ <;> rfl
    · rfl
  · cases pickMin true _ _ <;> rfl
  · cases pickMin false _ _ <;> rfl
  · rfl
theorem ss_bin (eqT : Nat → List TK) (kT : Nat → TK) (op : BinOp) (t : Nat) (x y : SV) : (st.ss s).bin eqT kT op t x y = st.bin eqT kT op t x y := by
  unfold St.bin
  split <;> try rfl
  simp only [ss_peekL]

/-- What an operation looks at. -/
def reads1 : Operand → List Nat
  | .tmp i => [i]
  | _ => []
def readsO : Option Operand → List Nat
  | some x => reads1 x
  | none => []
def readsP (ps : List (Nat × Operand)) : List Nat := (ps.map fun p => reads1 p.2).flatten
def readsL (ps : List Operand) : List Nat := (ps.map reads1).flatten
def reads : Op → List Nat
  | .move x | .assign x => reads1 x
  | .pick c a b => reads1 c ++ (reads1 a ++ reads1 b)
  | .alloc _ => []
  | .box _ x => reads1 x
  | .build _ ps => readsP ps.toList
  | .buildSlice _ _ ps => readsP ps.toList
  | .load _ a => reads1 a
  | .store _ a x => reads1 a ++ reads1 x
  | .nilCheck x => reads1 x
  | .binOp _ _ x y _ => reads1 x ++ reads1 y
  | .unOp _ _ x => reads1 x
  | .convert _ _ x => reads1 x
  | .makeFunc _ first caps => readsL first.toList ++ readsL caps.toList
  | .makeSlice _ l c => reads1 l ++ reads1 c
  | .slice _ x lo hi mx => reads1 x ++ (readsO lo ++ (readsO hi ++ readsO mx))
  | .fieldAddr _ x _ => reads1 x
  | .indexAddr _ x i => reads1 x ++ reads1 i
  | .field _ x _ => reads1 x
  | .index _ x i => reads1 x ++ reads1 i
  | .extract x _ => reads1 x
  | .call c => (match c.callee with
    | .value f => reads1 f
    | _ => []) ++ readsL c.args.toList
  | _ => []
variable {s}
theorem ss_val (x : Operand) (h : ∀ i ∈ reads1 x, s i = st.s i) : (st.ss s).val x = st.val x := by
  cases x with
  | tmp i =>
    have := h i (by simp [reads1])
    simp only [St.val, St.ss, this]
  | _ => rfl
theorem ss_boundOr (d : Nat) (x : Option Operand) (h : ∀ i ∈ readsO x, s i = st.s i) : (st.ss s).boundOr d x = st.boundOr d x := by
  cases x with
  | none => rfl
  | some x => simp only [St.boundOr, ss_val st x h]
theorem ss_vals (l : List Operand) (h : ∀ i ∈ readsL l, s i = st.s i) : l.map (st.ss s).val = l.map st.val := by
  refine List.map_congr_left (fun x hx => ss_val st x (fun i hi => h i ?_))
  exact List.mem_flatten.2 ⟨_, List.mem_map.2 ⟨x, hx, rfl⟩, hi⟩
theorem ss_valsP {α : Type} (f : Nat → SV → α) (l : List (Nat × Operand)) (h : ∀ i ∈ readsP l, s i = st.s i) : (l.map fun p => f p.1 ((st.ss s).val p.2)) = l.map fun p => f p.1 (st.val p.2) := by
  refine List.map_congr_left (fun p hp => ?_)
  rw [ss_val st p.2 (fun i hi => h i (List.mem_flatten.2 ⟨_, List.mem_map.2 ⟨p, hp, rfl⟩, hi⟩))]
theorem ss_op (op : Op) (h : ∀ i ∈ reads op, s i = st.s i) : (st.ss s).op E op = (st.op E op).map (onSt s) := by
  cases op with
  | move x | assign x => simp only [St.op, ss_val st x h, Option.map_some, onSt]
  | pick c a b =>
    simp only [reads, List.mem_append] at h
    simp only [St.op, ss_val st c (fun i hi => h i (.inl hi)), ss_val st a (fun i hi => h i (.inr (.inl hi))), ss_val st b (fun i hi => h i (.inr (.inr hi)))]
    split <;> rfl
  | alloc e => simp only [St.op]; split <;> rfl
  | box e x => simp only [St.op, ss_val st x h]; split <;> rfl
  | build t ps =>
    simp only [St.op, ss_valsP st (fun i v => (i, v)) ps.toList h]
    split
    · cases fillP _ _ _ _ <;> rfl
    · rfl
  | buildSlice t n ps =>
    simp only [St.op, ss_valsP st (fun _ v => v) ps.toList h, ss_absorbAll]
    split
    · cases st.absorbAll _ <;> rfl
    · rfl
  | load t a => simp only [St.op, ss_val st a h, ss_loadAt]; cases st.loadAt E t _ <;> rfl
  | store t a x =>
    simp only [reads, List.mem_append] at h
    simp only [St.op, ss_val st a (fun i hi => h i (.inl hi)), ss_val st x (fun i hi => h i (.inr hi)), ss_storeAt]
    cases st.storeAt E t _ _ <;> rfl
  | nilCheck x => simp only [St.op, ss_val st x h]; split <;> rfl
  | binOp op t x y z =>
    simp only [reads, List.mem_append] at h
    simp only [St.op, ss_val st x (fun i hi => h i (.inl hi)), ss_val st y (fun i hi => h i (.inr hi)), ss_bin]
    cases st.bin _ _ _ _ _ _ <;> rfl
  | unOp op t x => simp only [St.op, ss_val st x h]; cases un op _ <;> rfl
  | convert a b x => simp only [St.op, ss_val st x h, ss_convert]
  | makeFunc f fst caps =>
    cases f with
    | func g =>
      simp only [reads, List.mem_append] at h
      simp only [St.op, ss_vals st caps.toList (fun i hi => h i (.inr hi)), ss_vals st fst.toList (fun i hi => h i (.inl hi))]
      split
      · rfl
      · split
        · cases SV.plains _ <;> rfl
        · rfl
    | _ => rfl
  | makeSlice t l c =>
    simp only [reads, List.mem_append] at h
    simp only [St.op, ss_val st l (fun i hi => h i (.inl hi)), ss_val st c (fun i hi => h i (.inr hi)), ss_peekL]
    split
    · split
      · split
        · split
          · split
            · rfl
            · split <;> rfl
          · rfl
        · rfl
      · rfl
    · rfl
  | slice t x lo hi mx =>
    simp only [reads, List.mem_append] at h
    have hv := ss_val st x (fun i hi => h i (.inl hi))
    have hm : ∀ m, mx = some m → (st.ss s).val m = st.val m := fun m e => ss_val st m (fun i hi => h i (.inr (.inr (.inr (by rw [e]; exact hi)))))
    have hlo : ∀ d, (st.ss s).boundOr d lo = st.boundOr d lo := fun d => ss_boundOr st d lo (fun i hi => h i (.inr (.inl hi)))
    have hhi : ∀ d, (st.ss s).boundOr d hi = st.boundOr d hi := fun d => ss_boundOr st d hi (fun i hi => h i (.inr (.inr (.inl hi))))
    have : (st.ss s).sliceAt E t (st.val x) lo hi mx = st.sliceAt E t (st.val x) lo hi mx := by
      unfold St.sliceAt
      simp only [hlo, hhi, ss_slen, ss_roomOf, ss_part]
      cases mx with
      | none => rfl
      | some m => simp only [hm m rfl]
    simp only [St.op, hv, this]
    cases st.sliceAt E t _ lo hi mx <;> rfl
  | fieldAddr t x f => simp only [St.op, ss_val st x h]; cases fieldAt E t _ f <;> rfl
  | indexAddr t x i =>
    simp only [reads, List.mem_append] at h
    simp only [St.op, ss_val st x (fun i hi => h i (.inl hi)), ss_val st i (fun i hi => h i (.inr hi)), ss_indexAt]
    cases st.indexAt E t _ _ <;> rfl
  | field t x f =>
    simp only [St.op, ss_val st x h]
    split
    · split
      · cases mkSV _ _ <;> rfl
      · rfl
    · rfl
  | index t x i =>
    simp only [reads, List.mem_append] at h
    simp only [St.op, ss_val st x (fun i hi => h i (.inl hi)), ss_val st i (fun i hi => h i (.inr hi))]
    split
    · rw [Option.map_map]; rfl
    · rfl
  | extract x i =>
    simp only [St.op, ss_val st x h]
    split
    · rw [Option.map_map]; rfl
    · rfl
  | call c =>
    simp only [reads, List.mem_append] at h
    simp only [St.op, ss_vals st c.args.toList (fun i hi => h i (.inr hi)), ss_builtin]
    split <;> rfl
  | _ => rfl
end

section slots
variable (E : Env) (st : St) (s : Nat → SV)
theorem ss_liveF : ∀ (f : Nat) (v : SV), (st.ss s).liveF f v = st.liveF f v
  | 0, v => by cases v <;> rfl
  | f + 1, v => by
    have ih : (st.ss s).liveF f = st.liveF f := funext (ss_liveF f)
    cases v <;> try rfl
    simp only [St.liveF, ih]
    rfl
theorem ss_sl1F : ∀ (f : Nat) (v : SV), (st.ss s).sl1F f v = st.sl1F f v
  | 0, v => by cases v <;> rfl
  | f + 1, v => by
    have ih : (st.ss s).sl1F f = st.sl1F f := funext (ss_sl1F f)
    cases v <;> try rfl
    simp only [St.sl1F, ih]
    rfl
theorem ss_peek1F : ∀ (f : Nat) (v : SV), (st.ss s).peek1F f v = st.peek1F f v
  | 0, v => by cases v <;> rfl
  | f + 1, v => by
    have ih : (st.ss s).peek1F f = st.peek1F f := funext (ss_peek1F f)
    cases v <;> try rfl
    simp only [St.peek1F, ih]
    rfl
theorem ss_peekX (v : SV) : (st.ss s).peekX v = st.peekX v := by
  have ih : (st.ss s).peek1F 6 = st.peek1F 6 := funext (ss_peek1F st s 6)
  unfold St.peekX
  split <;> simp only [ih]
theorem ss_giveF : ∀ (f : Nat) (v : SV), (st.ss s).giveF f v = st.giveF f v
  | 0, v => by cases v <;> rfl
  | f + 1, v => by
    have ih : (st.ss s).giveF f = st.giveF f := funext (ss_giveF f)
    cases v <;> try rfl
    simp only [St.giveF, ih]
    rfl
theorem ss_slIds : ∀ (l : List SV), (st.ss s).slIds l = st.slIds l
  | [] => rfl
  | v :: r => by cases v <;> simp only [St.slIds, ss_slIds r, ss_sl1F]
theorem ss_liveIds : ∀ (l : List SV), liveIds (st.ss s) l = liveIds st l
  | [] => rfl
  | v :: r => by
    cases v <;> simp only [liveIds, ss_liveIds r, ss_liveF]
    rename_i q
    have ho : (st.ss s).o q = st.o q := rfl
    rw [ho]
theorem ss_mutIds (v : SV) : (st.ss s).mutIds v = st.mutIds v := by
  cases v <;> simp only [St.mutIds, ss_liveIds, ss_liveF]
  rename_i b off
  have ho : (st.ss s).o b = st.o b := rfl
  rw [ho]
theorem ss_capIds : ∀ (l : List SV), (st.ss s).capIds l = st.capIds l
  | [] => rfl
  | v :: r => by
    cases v <;> simp only [St.capIds, ss_capIds r]
    rename_i b off
    have ho : (st.ss s).o b = st.o b := rfl
    rw [ho]
theorem ss_roIds (v : SV) : (st.ss s).roIds v = st.roIds v := by cases v <;> simp only [St.roIds, ss_capIds, ss_slIds]
theorem ss_mutAll (l : List SV) : (st.ss s).mutAll l = st.mutAll l := by
  unfold St.mutAll
  congr 1
  exact List.map_congr_left (fun v _ => ss_mutIds st s v)
theorem ss_roAll (l : List SV) : (st.ss s).roAll l = st.roAll l := by
  unfold St.roAll
  congr 1
  exact List.map_congr_left (fun v _ => ss_roIds st s v)
theorem ss_go : ∀ (l : List SV), St.giveRo.go (st.ss s) l = St.giveRo.go st l
  | [] => rfl
  | v :: r => by
    unfold St.giveRo.go
    split <;> try rfl
    · rename_i b q heq
      injection heq with e1 e2
      subst e1; subst e2
      have ho : (st.ss s).o b = st.o b := rfl
      simp only [ho, ss_peekL, ss_go r]
    · rename_i cs q heq
      injection heq with e1 e2
      subst e1; subst e2
      simp only [ss_go r]
theorem ss_giveRo (v : SV) : (st.ss s).giveRo v = st.giveRo v := by
  cases v <;> simp only [St.giveRo, ss_go, St.lookX, ss_peek, ss_peekX] <;> try rfl
  rename_i b off
  have ho : (st.ss s).o b = st.o b := rfl
  simp only [ho, ss_peekL]
theorem ss_giveCell (v : SV) : (st.ss s).giveCell v = st.giveCell v := by
  cases v <;> first | rfl | exact ss_giveF st s 6 _
theorem ss_giveCells : ∀ (l : List SV), (st.ss s).giveCells l = st.giveCells l
  | [] => rfl
  | v :: r => by simp only [St.giveCells, ss_giveCell, ss_giveCells r]
theorem ss_giveCell0 (v : SV) : (st.ss s).giveCell0 v = st.giveCell0 v := by cases v <;> rfl
theorem ss_giveCells0 : ∀ (l : List SV), (st.ss s).giveCells0 l = st.giveCells0 l
  | [] => rfl
  | v :: r => by simp only [St.giveCells0, ss_giveCell0, ss_giveCells0 r]
theorem ss_giveMut (v : SV) : (st.ss s).giveMut v = st.giveMut v := by
  cases v with
  | ptr b off =>
    cases off with
    | zero =>
      have ho : (st.ss s).o b = st.o b := rfl
      simp only [St.giveMut, ho, ss_giveCells0]
    | succ n => rfl
  | agg cs => simp only [St.giveMut, ss_giveCells]
  | sl b n sz => exact ss_giveF st s 6 _
  | _ => rfl
theorem ss_give : ∀ (md : List Bool) (l : List SV), (st.ss s).give md l = st.give md l
  | md, [] => by cases md <;> rfl
  | md, v :: r => by simp only [St.give, ss_giveMut, ss_giveRo, ss_give md.tail r]
theorem ss_callPrep (f : SV) (vs : List SV) : callPrep E (st.ss s) f vs = callPrep E st f vs := by
  cases f <;> simp only [callPrep, ss_mutAll, ss_roAll, ss_give]
theorem ss_kill : ∀ (ids : List Nat) (st : St), kill ids (st.ss s) = (kill ids st).ss s
  | [], st => rfl
  | i :: l, st => ss_kill l (st.setO i .dead)
theorem ss_freezeAll : ∀ (ids : List Nat) (st : St), freezeAll ids (st.ss s) = (freezeAll ids st).ss s
  | [], st => rfl
  | i :: l, st => by
    show freezeAll l ((st.ss s).freeze i) = (freezeAll l (st.freeze i)).ss s
    rw [ss_freeze, ss_freezeAll l]
mutual
theorem ss_bindCellM (s : Nat → SV) : ∀ (x : X) (st : St), (st.ss s).bindCell x = ((st.bindCell x).1, (st.bindCell x).2.ss s)
  | .sref ty n sz cs, st => by simp only [St.bindCell, ss_bindCellsM s cs st]; rfl
  | .t t, st => by simp only [St.bindCell]
  | .nil, st => by simp only [St.bindCell]
  | .row e xs, st => by simp only [St.bindCell]; rfl
  | .agg cs, st => by simp only [St.bindCell]
  | .ref ty cs, st => by simp only [St.bindCell]
  | .dref cs, st => by simp only [St.bindCell]
  | .fn g cs, st => by simp only [St.bindCell]
  | .meth g cs, st => by simp only [St.bindCell]
theorem ss_bindCellsM (s : Nat → SV) : ∀ (l : List X) (st : St), (st.ss s).bindCells l = ((st.bindCells l).1, (st.bindCells l).2.ss s)
  | [], st => by simp only [St.bindCells]
  | x :: r, st => by simp only [St.bindCells, ss_bindCellM s x st, ss_bindCellsM s r]
end
theorem ss_bindCells (l : List X) (st : St) : (st.ss s).bindCells l = ((st.bindCells l).1, (st.bindCells l).2.ss s) := ss_bindCellsM s l st
theorem ss_bind (x : X) : (st.ss s).bind x = ((st.bind x).1, (st.bind x).2.ss s) := by
  cases x <;> simp only [St.bind, ss_bindCells] <;> rfl
theorem ss_bindAll : ∀ (l : List X) (st : St), (st.ss s).bindAll l = ((st.bindAll l).1, (st.bindAll l).2.ss s)
  | [], st => rfl
  | x :: r, st => by simp only [St.bindAll, ss_bind, ss_bindAll r]
theorem ss_regain (st0 : St) (v : SV) (x : Option X) : (st.ss s).regain (st0.ss s) v x = (st.regain st0 v x).map (fun st => st.ss s) := by
  cases x with
  | none => cases v <;> rfl
  | some x =>
    cases v with
    | row r =>
      cases x <;> try rfl
      have ho : (st0.ss s).o r = st0.o r := rfl
      simp only [St.regain, ho]
      cases st0.o r with
      | row e xs live =>
        cases live with
        | false => rfl
        | true => dsimp only; split <;> rfl
      | _ => rfl
    | ptr b off =>
      cases off with
      | zero =>
        cases x <;> try rfl
        have ho : (st0.ss s).o b = st0.o b := rfl
        simp only [St.regain, ss_bindCells, ho]
        cases st0.o b <;> rfl
      | succ n => cases x <;> rfl
    | _ => cases x <;> rfl
theorem ss_regainAll (st0 : St) : ∀ (l : List SV) (xs : List (Option X)) (st : St), (st.ss s).regainAll (st0.ss s) l xs = (st.regainAll st0 l xs).map (fun st => st.ss s)
  | [], [], st => rfl
  | [], _ :: _, st => rfl
  | _ :: _, [], st => rfl
  | v :: r, x :: q, st => by
    simp only [St.regainAll, ss_regain]
    cases st.regain st0 v x with
    | none => rfl
    | some st1 => exact ss_regainAll st0 r q st1
theorem ss_callMid (g : Nat) (b : Bool) (vs : List SV) : callMid E (st.ss s) g b vs = (callMid E st g b vs).map (fun st => st.ss s) := by
  unfold callMid
  rw [ss_mutAll, ss_roAll, ss_kill]
  split
  · rfl
  · have : ((kill (st.mutAll (muts (E.md g) vs)) st).ss s).rowAt = (kill (st.mutAll (muts (E.md g) vs)) st).rowAt := rfl
    rw [this, ss_freezeAll, ss_kill]
    split
    · rfl
    · split <;> rfl
theorem ss_callBack (f : SV) (vs : List SV) (rs : List X) (bs : List (Option X)) : callBack E (st.ss s) f vs rs bs = (callBack E st f vs rs bs).map (onSt s) := by
  have key : ∀ (g : Nat) (as : List SV), (match callMid E (st.ss s) g (ownB E g rs bs) as with
      | none => none
      | some st0 => match st0.regainAll (st.ss s) (muts (E.md g) as) bs with
        | none => none
        | some st1 => some (tupOf (st1.bindAll rs).1, (st1.bindAll rs).2)) = (match callMid E st g (ownB E g rs bs) as with
      | none => none
      | some st0 => match st0.regainAll st (muts (E.md g) as) bs with
        | none => none
        | some st1 => some (tupOf (st1.bindAll rs).1, (st1.bindAll rs).2)).map (onSt s) := by
    intro g as
    simp only [ss_callMid]
    cases callMid E st g (ownB E g rs bs) as with
    | none => rfl
    | some st0 =>
      simp only [Option.map_some, ss_regainAll]
      cases st0.regainAll st (muts (E.md g) as) bs with
      | none => rfl
      | some st1 =>
        simp only [Option.map_some, ss_bindAll]
        rfl
  cases f <;> try rfl
  · exact key _ _
  · exact key _ _
end slots

/-! ### What stays as it was -/
def WF (st : St) : Prop := ∀ i, st.n ≤ i → st.o i = .dead
def sameC : Ob → Ob → Prop
  | .dead, .dead => True
  | .box t c, .box t' c' => t' = t ∧ c' = c
  | .row e xs _, .row e' xs' _ => e' = e ∧ xs' = xs
  | _, _ => False
theorem sameC.refl (o : Ob) : sameC o o := by cases o <;> simp [sameC]
theorem sameC.trans {a b c : Ob} (h : sameC a b) (k : sameC b c) : sameC a c := by
  cases a <;> cases b <;> simp [sameC] at h <;> cases c <;> simp [sameC] at k ⊢
  · exact ⟨k.1.trans h.1, k.2.trans h.2⟩
  · exact ⟨k.1.trans h.1, k.2.trans h.2⟩
structure Grown (st st1 : St) : Prop where
  n : st.n ≤ st1.n
  ob : ∀ i, i < st.n → sameC (st.o i) (st1.o i)
theorem Grown.refl (st : St) : Grown st st := ⟨Nat.le_refl _, fun _ _ => sameC.refl _⟩
theorem Grown.trans {a b c : St} (h : Grown a b) (k : Grown b c) : Grown a c := ⟨Nat.le_trans h.n k.n, fun i hi => (h.ob i hi).trans (k.ob i (Nat.lt_of_lt_of_le hi h.n))⟩
section
variable {E : Env} {st st1 : St}
theorem WF.lt (hw : WF st) {i : Nat} (h : st.o i ≠ .dead) : i < st.n := by
  by_cases hi : i < st.n
  · exact hi
  · exact absurd (hw i (by omega)) h
theorem Grown.row (hg : Grown st st1) (hw : WF st) {r e : Nat} {xs : List T} {l : Bool} (h : st.o r = .row e xs l) : ∃ l', st1.o r = .row e xs l' := by
  have := hg.ob r (hw.lt (by rw [h]; simp))
  rw [h] at this
  cases h1 : st1.o r <;> rw [h1] at this <;> simp [sameC] at this
  obtain ⟨rfl, rfl⟩ := this
  exact ⟨_, rfl⟩
theorem Grown.box (hg : Grown st st1) (hw : WF st) {b t : Nat} {cs : List SV} (h : st.o b = .box t cs) : st1.o b = .box t cs := by
  have := hg.ob b (hw.lt (by rw [h]; simp))
  rw [h] at this
  cases h1 : st1.o b <;> rw [h1] at this <;> simp [sameC] at this
  obtain ⟨rfl, rfl⟩ := this
  rfl
theorem peek1_grown (hg : Grown st st1) (hw : WF st) {v : SV} {t : T} (h : st.peek1 v = some t) : st1.peek1 v = some t := by
  cases v <;> try exact h
  · rename_i r
    simp only [St.peek1] at h ⊢
    split at h
    · rename_i ho
      obtain ⟨l', h1⟩ := hg.row hw ho
      rw [h1]; exact h
    · cases h
  · rename_i r lo hi
    simp only [St.peek1] at h ⊢
    split at h
    · rename_i ho
      obtain ⟨l', h1⟩ := hg.row hw ho
      rw [h1]; exact h
    · cases h
theorem peekL_grown (hg : Grown st st1) (hw : WF st) : ∀ {l : List SV} {ts : List T}, st.peekL l = some ts → st1.peekL l = some ts
  | [], ts, h => h
  | v :: r, ts, h => by
    simp only [St.peekL] at h ⊢
    split at h
    · cases h
    · rename_i t h1
      split at h
      · cases h
      · rename_i ts' h2
        rw [peek1_grown hg hw h1]
        simp only [peekL_grown hg hw h2]
        exact h
theorem loadAt_grown (hg : Grown st st1) (hw : WF st) {t : Nat} {v r : SV} (h : st.loadAt E t v = some r) : st1.loadAt E t v = some r := by
  unfold St.loadAt at h ⊢
  split at h
  · cases h
  · rename_i hk
    rw [if_neg hk]
    cases v <;> try exact h
    · rename_i b off
      dsimp only at h ⊢
      split at h
      · rename_i ho
        rw [hg.box hw ho]; exact h
      · cases h
    · rename_i q i off
      dsimp only at h ⊢
      split at h
      · rename_i ho
        obtain ⟨l', h1⟩ := hg.row hw ho
        rw [h1]; exact h
      · cases h
theorem indexAt0_grown (hg : Grown st st1) (hw : WF st) {t : Nat} {v i r : SV} (h : st.indexAt0 E t v i = some r) : st1.indexAt0 E t v i = some r := by
  unfold St.indexAt0 at h ⊢
  split at h
  · rename_i hc
    rw [if_pos hc]
    split at h
    · cases h
    · rename_i i' hi
      cases v with
      | row q =>
        dsimp only at h ⊢
        split at h
        · rename_i ho
          obtain ⟨l', h1⟩ := hg.row hw ho
          rw [h1]; exact h
        · cases h
      | view q lo hi =>
        dsimp only at h ⊢
        split at h
        · rename_i ho
          obtain ⟨l', h1⟩ := hg.row hw ho
          rw [h1]; exact h
        · cases h
      | t x => cases x <;> exact h
      | _ => exact h
  · cases h
theorem indexAt_grown (hg : Grown st st1) (hw : WF st) {t : Nat} {v i r : SV} (h : st.indexAt E t v i = some r) : st1.indexAt E t v i = some r := by
  cases v with
  | glob g => exact h
  | _ => simp only [St.indexAt] at h ⊢; exact indexAt0_grown hg hw h
theorem slen_grown (hg : Grown st st1) (hw : WF st) {v : SV} {n : Nat} (h : st.slen v = some n) : st1.slen v = some n := by
  cases v with
  | row r =>
    simp only [St.slen] at h ⊢
    split at h
    · rename_i ho
      obtain ⟨l', h1⟩ := hg.row hw ho
      rw [h1]; exact h
    · cases h
  | t x => cases x <;> exact h
  | _ => exact h
theorem roomOf_grown (hg : Grown st st1) (hw : WF st) {v : SV} {n : Nat} (h : st.roomOf v = some n) : st1.roomOf v = some n := by
  cases v with
  | view r lo hi =>
    simp only [St.roomOf] at h ⊢
    split at h
    · rename_i ho
      obtain ⟨l', h1⟩ := hg.row hw ho
      rw [h1]; exact h
    · cases h
  | _ => simp only [St.roomOf] at h ⊢; exact slen_grown hg hw h
theorem part_grown (hg : Grown st st1) (hw : WF st) {t l k : Nat} {v r : SV} (h : st.part E t v l k = some r) : st1.part E t v l k = some r := by
  cases v with
  | row q =>
    simp only [St.part] at h ⊢
    split at h
    · rename_i ho
      obtain ⟨l', h1⟩ := hg.row hw ho
      rw [h1]; exact h
    · cases h
  | view q lo hi =>
    simp only [St.part] at h ⊢
    split at h
    · rename_i ho
      obtain ⟨l', h1⟩ := hg.row hw ho
      rw [h1]; exact h
    · cases h
  | t x => cases x <;> exact h
  | _ => exact h
end
end Go.Ev
