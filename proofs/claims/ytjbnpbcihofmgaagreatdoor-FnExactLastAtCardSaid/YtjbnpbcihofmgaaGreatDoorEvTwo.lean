/- What goes over at a call, as values of the model: laid into a state. -/
import Derived.Test.YtjbnpbcihofmgaaGreatDoorEvOne
import Derived.SizedLaws
import Derived.ChangeArms
import Derived.Below
import Derived.Carry
import Derived.Laws.StructEq
import Derived.Orders
set_option linter.unusedSimpArgs false
set_option linter.unusedVariables false
namespace Go.Ev

/-- A row that one block holds. -/
def RowV (E : Env) (F : Nat → Prop) (w : World) (e : Nat) (xs : List T) (v : Value) (l : Nat) : Prop :=
  0 < (E.ty e).size ∧ (∃ A k, v = .slice A xs.length k ∧ xs.length ≤ k ∧ k ≤ maxLen) ∧ (∀ x ∈ xs, x.cells.length = (E.ty e).size) ∧ (∀ x ∈ xs, ∀ y ∈ x.cells, y.one = true) ∧
    ∀ A n k, v = .slice A n k → k ≠ 0 → ∃ (o : Nat) (vs : Array Value) (lo hi : Nat), A = some ⟨l, o, none⟩ ∧ w.heap[l]? = some (.cells vs e (lo, hi)) ∧ o + k * (E.ty e).size ≤ vs.size ∧
      (∀ j, o ≤ j → j < o + k * (E.ty e).size → ¬ (lo ≤ j ∧ j < hi)) ∧ ∀ (j : Nat) x (t : Nat) y, xs[j]? = some x → x.cells[t]? = some y → ∃ u, vs[o + (j * (E.ty e).size + t)]? = some u ∧ RD F w y u
def capV : Value → Nat
  | .slice _ _ k => k
  | _ => 0
def ownL (v : Value) (l : Nat) : List Nat := if capV v = 0 then [] else [l]

section
variable {E : Env} {P : Program} {M0 : Nat → Prop} {w0 : World} {c : Ctx} {st st' : St} {a : Act} {w w' : World}

theorem obOK_row {i e : Nat} {xs : List T} : ObOK E c w i (.row e xs true) ↔ c.sz i = (E.ty e).size ∧ RowV E c.F w e xs (c.val i) (c.loc i) := by
  constructor
  · rintro ⟨h1, h2, h3, h4, h5, h6⟩
    rw [h1] at h2 h4 h6
    exact ⟨h1, h2, h3, h4, h5, h6⟩
  · rintro ⟨h1, h2, h3, h4, h5, h6⟩
    refine ⟨h1, by rw [h1]; exact h2, h3, by rw [h1]; exact h4, h5, ?_⟩
    rw [h1]
    exact h6
theorem owns_row {i e : Nat} {xs : List T} : Owns c i (.row e xs true) → c.loc i ∈ ownL (c.val i) (c.loc i) := by
  rintro ⟨A, n, k, hv, hk⟩
  rw [hv]
  simp [ownL, capV, hk]
theorem RowV.mono {F F' : Nat → Prop} {e l : Nat} {xs : List T} {v : Value} (h : RowV E F w e xs v l) (hF : ∀ k, F k → F' k) (hw : ∀ k, F k → w'.heap[k]? = w.heap[k]?) (hl : ∀ k ∈ ownL v l, w'.heap[k]? = w.heap[k]?) : RowV E F' w' e xs v l := by
  obtain ⟨h1, h2, h3, h4, h5⟩ := h
  refine ⟨h1, h2, h3, h4, fun A n k hv hk => ?_⟩
  obtain ⟨o, vs, lo, hi, e1, e2, e3, e4, e5⟩ := h5 A n k hv hk
  refine ⟨o, vs, lo, hi, e1, ?_, e3, e4, fun j x t y hx hy => ?_⟩
  · rw [hl l (by simp [ownL, capV, hv, hk])]; exact e2
  · obtain ⟨u, u1, u2⟩ := e5 j x t y hx hy
    exact ⟨u, u1, u2.mono hF hw⟩

/-- One cell that goes over, and the blocks that go with it. -/
inductive XC (E : Env) (F : Nat → Prop) (w : World) : X → Value → List Nat → Prop
  | t {t : T} {v : Value} (h : RD F w t v) (h1 : t.one = true) : XC E F w (.t t) v []
  | nil (A : Option Addr) : XC E F w .nil (.slice A 0 0) []
  | row {e : Nat} {xs : List T} {v : Value} {l : Nat} (h : RowV E F w e xs v l) : XC E F w (.row e xs) v (ownL v l)
inductive XCs (E : Env) (F : Nat → Prop) (w : World) : List X → List Value → List Nat → Prop
  | nil : XCs E F w [] [] []
  | cons {x : X} {v : Value} {b : List Nat} {xs : List X} {vs : List Value} {bs : List Nat} (h : XC E F w x v b) (r : XCs E F w xs vs bs) : XCs E F w (x :: xs) (v :: vs) (b ++ bs)
/-- One value. -/
inductive XV (E : Env) (F : Nat → Prop) (w : World) : X → Value → List Nat → Prop
  | t {t : T} {v : Value} (h : RD F w t v) : XV E F w (.t t) v []
  | nil (A : Option Addr) : XV E F w .nil (.slice A 0 0) []
  | row {e : Nat} {xs : List T} {v : Value} {l : Nat} (h : RowV E F w e xs v l) : XV E F w (.row e xs) v (ownL v l)
  | agg {cs : List X} {vs : Array Value} {b : List Nat} (h : XCs E F w cs vs.toList b) : XV E F w (.agg cs) (.agg vs) b
  | ref {ty l : Nat} {cs : List X} {vs : Array Value} {b : List Nat} (hh : w.heap[l]? = some (.cells vs ty (0, 0))) (h : XCs E F w cs vs.toList b) : XV E F w (.ref ty cs) (.pointer (some ⟨l, 0, none⟩)) (l :: b)
  | dref {cs : List T} {v : Value} (h : ∀ c : Ctx, c.F = F → Rel c w (.dptr cs) v) : XV E F w (.dref cs) v []
  | fn {g : Nat} {caps : List (List T)} {vs : Array Value} (hl : caps.length = vs.size) (h : ∀ (i : Nat) cs v, caps[i]? = some cs → vs[i]? = some v → ∀ c : Ctx, c.F = F → Rel c w (.dptr cs) v) : XV E F w (.fn g caps) (.func (.func g) #[] vs) []
inductive XVs (E : Env) (F : Nat → Prop) (w : World) : List X → List Value → List Nat → Prop
  | nil : XVs E F w [] [] []
  | cons {x : X} {v : Value} {b : List Nat} {xs : List X} {vs : List Value} {bs : List Nat} (h : XV E F w x v b) (r : XVs E F w xs vs bs) : XVs E F w (x :: xs) (v :: vs) (b ++ bs)

theorem RowV.one {F : Nat → Prop} {e l : Nat} {xs : List T} {v : Value} (h : RowV E F w e xs v l) : oneV v = true := by
  obtain ⟨_, ⟨A, k, rfl, _⟩, _⟩ := h
  rfl

/-- The blocks are nobody's else. -/
def Free (M0 : Nat → Prop) (w0 : World) (c : Ctx) (st : St) (w : World) (l : Nat) : Prop :=
  l < w.heap.size ∧ ¬ c.F l ∧ (M0 l ∨ w0.heap.size ≤ l) ∧ ∀ i, i < st.n → Owns c i (st.o i) → c.loc i ≠ l

structure Bound (E : Env) (M0 : Nat → Prop) (w0 : World) (c : Ctx) (st : St) (w : World) (bl : List Nat) (c' : Ctx) (st' : St) : Prop where
  le : c.Le c'
  F : c'.F = c.F
  inv : Inv E M0 w0 c' st' w
  s : st'.s = st.s
  N : st'.N = st.N
  n : st.n ≤ st'.n
  own : ∀ i, i < st'.n → Owns c' i (st'.o i) → (i < st.n ∧ Owns c i (st.o i)) ∨ c'.loc i ∈ bl
theorem Bound.refl (hI : Inv E M0 w0 c st w) (bl : List Nat) : Bound E M0 w0 c st w bl c st :=
  ⟨Ctx.Le.refl c, rfl, hI, rfl, rfl, Nat.le_refl _, fun i hi ho => .inl ⟨hi, ho⟩⟩
theorem Bound.free {bl : List Nat} {c' : Ctx} {st' : St} (h : Bound E M0 w0 c st w bl c' st') (hI : Inv E M0 w0 c st w) {l : Nat} (hf : Free M0 w0 c st w l) (hl : l ∉ bl) : Free M0 w0 c' st' w l := by
  obtain ⟨f1, f2, f3, f4⟩ := hf
  refine ⟨f1, by rw [h.F]; exact f2, f3, fun i hi ho e => ?_⟩
  rcases h.own i hi ho with ⟨g1, g2⟩ | g
  · rw [h.le.loc i (by rw [hI.n]; exact g1)] at e
    exact f4 i g1 g2 e
  · rw [e] at g; exact hl g
theorem Bound.trans {bl bl' bl2 : List Nat} {c1 c2 : Ctx} {st1 st2 : St} (h : Bound E M0 w0 c st w bl c1 st1) (h' : Bound E M0 w0 c1 st1 w bl' c2 st2) (hs : ∀ l ∈ bl, l ∈ bl2) (hs' : ∀ l ∈ bl', l ∈ bl2) : Bound E M0 w0 c st w bl2 c2 st2 := by
  refine ⟨h.le.trans h'.le, h'.F.trans h.F, h'.inv, h'.s.trans h.s, h'.N.trans h.N, Nat.le_trans h.n h'.n, fun i hi ho => ?_⟩
  rcases h'.own i hi ho with ⟨g1, g2⟩ | g
  · rcases h.own i g1 g2 with g | g
    · exact .inl g
    · rw [h'.le.loc i (by rw [h.inv.n]; exact g1)]
      exact .inr (hs _ g)
  · exact .inr (hs' _ g)

theorem bindRow_ok (hI : Inv E M0 w0 c st w) {e l : Nat} {xs : List T} {v : Value} (h : RowV E c.F w e xs v l) (hf : ∀ k ∈ ownL v l, Free M0 w0 c st w k) :
    ∃ c', Bound E M0 w0 c st w (ownL v l) c' (st.alloc (.row e xs true)) ∧ Rel c' w (.row st.n) v := by
  have hone := h.one
  have hval : ∀ q, (c.push q v (E.ty e).size).val c.n = v := fun q => upd_self _ _ _
  have hloc : ∀ q, (c.push q v (E.ty e).size).loc c.n = q := fun q => upd_self _ _ _
  have hsz : ∀ q, (c.push q v (E.ty e).size).sz c.n = (E.ty e).size := fun q => upd_self _ _ _
  have hrel : ∀ q, Rel (c.push q v (E.ty e).size) w (.row st.n) v := by
    intro q
    have := Rel.row (c := c.push q v (E.ty e).size) (w := w) c.n (Nat.lt_succ_self _)
    rw [hval, hI.n] at this
    exact this
  have hstep : ∀ q, Inv E M0 w0 (c.push q v (E.ty e).size) (st.alloc (.row e xs true)) w → (∀ i, i < st.n + 1 → Owns (c.push q v (E.ty e).size) i ((st.alloc (.row e xs true)).o i) → (i < st.n ∧ Owns c i (st.o i)) ∨ (c.push q v (E.ty e).size).loc i ∈ ownL v l) →
      ∃ c', Bound E M0 w0 c st w (ownL v l) c' (st.alloc (.row e xs true)) ∧ Rel c' w (.row st.n) v := by
    intro q hi ho
    exact ⟨_, ⟨c.le_push _ _ _, rfl, hi, rfl, rfl, Nat.le_succ _, ho⟩, hrel q⟩
  by_cases hk : capV v = 0
  · have hob : ObOK E (c.push 0 v (E.ty e).size) w c.n (.row e xs true) := by
      rw [obOK_row, hsz, hval, hloc]
      obtain ⟨h1, h2, h3, h4, h5⟩ := h
      refine ⟨rfl, h1, h2, h3, h4, fun A n k hv hk0 => ?_⟩
      rw [hv] at hk
      exact absurd hk hk0
    have hno : ¬ Owns (c.push 0 v (E.ty e).size) c.n (.row e xs true) := by
      rintro ⟨A, n, k, hv, hk0⟩
      rw [hval] at hv
      rw [hv] at hk
      exact hk0 hk
    refine hstep 0 (hI.add0 _ _ hone hno hob) (fun i hi ho => ?_)
    by_cases hi' : i < st.n
    · have : (st.alloc (.row e xs true)).o i = st.o i := upd_ne _ _ (by omega)
      rw [this] at ho
      exact .inl ⟨hi', ho.mono (c.le_push _ _ _) (by rw [hI.n]; exact hi')⟩
    · have : i = c.n := by rw [hI.n]; omega
      subst this
      have : (st.alloc (.row e xs true)).o c.n = .row e xs true := by rw [hI.n]; exact upd_self _ _ _
      rw [this] at ho
      exact absurd ho hno
  · have hlm : l ∈ ownL v l := by simp [ownL, hk]
    obtain ⟨f1, f2, f3, f4⟩ := hf l hlm
    have hob : ObOK E (c.push l v (E.ty e).size) w c.n (.row e xs true) := by
      rw [obOK_row, hsz, hval, hloc]
      exact ⟨rfl, h⟩
    refine hstep l (hI.add l v _ (Same.refl _ _) f1 f2 f3 f4 hone hob) (fun i hi ho => ?_)
    by_cases hi' : i < st.n
    · have : (st.alloc (.row e xs true)).o i = st.o i := upd_ne _ _ (by omega)
      rw [this] at ho
      exact .inl ⟨hi', ho.mono (c.le_push _ _ _) (by rw [hI.n]; exact hi')⟩
    · have : i = c.n := by rw [hI.n]; omega
      subst this
      rw [hloc]
      exact .inr hlm

theorem XC.mono {F F' : Nat → Prop} {x : X} {v : Value} {b : List Nat} (h : XC E F w x v b) (hF : ∀ k, F k → F' k) (hw : ∀ k, F k → w'.heap[k]? = w.heap[k]?) (hb : ∀ k ∈ b, w'.heap[k]? = w.heap[k]?) : XC E F' w' x v b := by
  cases h with
  | t h h1 => exact .t (h.mono hF hw) h1
  | nil A => exact .nil A
  | row h => exact .row (h.mono hF hw hb)
theorem XCs.mono {F F' : Nat → Prop} {xs : List X} {vs : List Value} {b : List Nat} (h : XCs E F w xs vs b) (hF : ∀ k, F k → F' k) (hw : ∀ k, F k → w'.heap[k]? = w.heap[k]?) (hb : ∀ k ∈ b, w'.heap[k]? = w.heap[k]?) : XCs E F' w' xs vs b := by
  induction h with
  | nil => exact .nil
  | cons h r ih => exact .cons (h.mono hF hw (fun k hk => hb k (List.mem_append_left _ hk))) (ih (fun k hk => hb k (List.mem_append_right _ hk)))

theorem bindCell_ok (hI : Inv E M0 w0 c st w) {x : X} {v : Value} {b : List Nat} (h : XC E c.F w x v b) (hf : ∀ k ∈ b, Free M0 w0 c st w k) :
    ∃ c', Bound E M0 w0 c st w b c' (st.bindCell x).2 ∧ Rel c' w (st.bindCell x).1 v ∧ (st.bindCell x).1.one = true := by
  cases h with
  | t h h1 => exact ⟨c, .refl hI _, .t h, h1⟩
  | nil A => exact ⟨c, .refl hI _, .nil A, rfl⟩
  | row h =>
    obtain ⟨c', h1, h2⟩ := bindRow_ok hI h hf
    exact ⟨c', h1, h2, rfl⟩
theorem bindCells_ok : ∀ {xs : List X} {c : Ctx} {st : St} {vs : List Value} {b : List Nat}, Inv E M0 w0 c st w → XCs E c.F w xs vs b → b.Nodup → (∀ k ∈ b, Free M0 w0 c st w k) →
    ∃ c', Bound E M0 w0 c st w b c' (st.bindCells xs).2 ∧ (st.bindCells xs).1.length = vs.length ∧ (∀ s ∈ (st.bindCells xs).1, s.one = true) ∧ ∀ (i : Nat) s v, (st.bindCells xs).1[i]? = some s → vs[i]? = some v → Rel c' w s v
  | [], c, st, vs, b, hI, h, hn, hf => by
    cases h
    exact ⟨c, .refl hI _, rfl, by simp [St.bindCells], fun i s v hs => by simp [St.bindCells] at hs⟩
  | x :: xs, c, st, vs, b, hI, h, hn, hf => by
    cases h with
    | @cons _ v b _ vs bs h r =>
      obtain ⟨hn1, hn2, hn3⟩ := List.nodup_append.1 hn
      obtain ⟨c1, b1, r1, o1⟩ := bindCell_ok hI h (fun k hk => hf k (List.mem_append_left _ hk))
      have r' : XCs E c1.F w xs vs bs := by rw [b1.F]; exact r
      obtain ⟨c2, b2, l2, o2, r2⟩ := bindCells_ok b1.inv r' hn2 (fun k hk => b1.free hI (hf k (List.mem_append_right _ hk)) (fun hk' => hn3 k hk' k hk rfl))
      refine ⟨c2, b1.trans b2 (fun l hl => List.mem_append_left _ hl) (fun l hl => List.mem_append_right _ hl), by simp [St.bindCells, l2], fun s hs => ?_, fun i s v hs hv => ?_⟩
      · simp only [St.bindCells] at hs
        rcases List.mem_cons.1 hs with rfl | hs
        · exact o1
        · exact o2 s hs
      · simp only [St.bindCells] at hs
        cases i with
        | zero => simp at hs hv; subst hs; subst hv; exact r1.mono b2.le (fun _ _ => rfl)
        | succ i => exact r2 i s v (by simpa using hs) (by simpa using hv)
theorem ofT_rel {t : T} {v : Value} (h : RD c.F w t v) : Rel c w (ofT t) v := by
  cases h with
  | agg cs vs hl h1 hr =>
    refine .agg _ vs (by simpa using hl) (fun y hy => ?_) (fun i s v hs hv => ?_)
    · simp only [List.mem_map] at hy
      obtain ⟨x, hx, rfl⟩ := hy
      exact h1 x hx
    · rw [List.getElem?_map, Option.map_eq_some_iff] at hs
      obtain ⟨x, hx, rfl⟩ := hs
      exact .t (hr i x v hx hv)
  | int k n => exact .t (.int k n)
  | bool b => exact .t (.bool b)
  | str s => exact .t (.str s)
  | list xs A cp sz cell hc hm hz hw h1 ha h => exact .t (.list xs A cp sz cell hc hm hz hw h1 ha h)
theorem bind_ok (hI : Inv E M0 w0 c st w) {x : X} {v : Value} {b : List Nat} (h : XV E c.F w x v b) (hn : b.Nodup) (hf : ∀ k ∈ b, Free M0 w0 c st w k) :
    ∃ c', Bound E M0 w0 c st w b c' (st.bind x).2 ∧ Rel c' w (st.bind x).1 v := by
  cases h with
  | t h => exact ⟨c, .refl hI _, ofT_rel h⟩
  | nil A => exact ⟨c, .refl hI _, .nil A⟩
  | row h => exact bindRow_ok hI h hf
  | @agg cs vs _ h =>
    obtain ⟨c1, b1, l1, o1, r1⟩ := bindCells_ok hI h hn hf
    exact ⟨c1, b1, .agg _ vs (by simpa using l1) o1 (fun i s v hs hv => r1 i s v hs (by simpa using hv))⟩
  | @ref ty l cs vs bb hh h =>
    obtain ⟨hn1, hn2⟩ := List.nodup_cons.1 hn
    obtain ⟨c1, b1, l1, o1, r1⟩ := bindCells_ok hI h hn2 (fun k hk => hf k (List.mem_cons_of_mem _ hk))
    obtain ⟨f1, f2, f3, f4⟩ := b1.free hI (hf l (by simp)) hn1
    have hloc : (c1.push l .nilFunc 0).loc c1.n = l := upd_self _ _ _
    have hle := c1.le_push l .nilFunc 0
    have hobn : ((st.bindCells cs).2.alloc (.box ty (st.bindCells cs).1)).o c1.n = .box ty (st.bindCells cs).1 := by rw [b1.inv.n]; exact upd_self _ _ _
    refine ⟨c1.push l .nilFunc 0, (b1.trans (bl' := [l]) ⟨hle, rfl, b1.inv.add l .nilFunc 0 (Same.refl _ _) f1 f2 f3 f4 rfl ?_, rfl, rfl, Nat.le_succ _, fun i hi ho => ?_⟩ (fun k hk => List.mem_cons_of_mem _ hk) (fun k hk => by simp at hk; simp [hk])), ?_⟩
    · refine ⟨vs, by rw [hloc]; exact hh, by simpa using l1.symm, o1, fun j s v hs hv => (r1 j s v hs (by simpa using hv)).mono hle (fun _ _ => rfl)⟩
    · have hi1 : i < (st.bindCells cs).2.n + 1 := hi
      by_cases hi' : i < (st.bindCells cs).2.n
      · have : (st.bind (.ref ty cs)).2.o i = (st.bindCells cs).2.o i := upd_ne _ _ (by omega)
        rw [this] at ho
        exact .inl ⟨hi', ho.mono hle (by rw [b1.inv.n]; exact hi')⟩
      · have : i = c1.n := by rw [b1.inv.n]; omega
        subst this
        rw [hloc]; exact .inr (by simp)
    · have := Rel.ptr (c := c1.push l .nilFunc 0) (w := w) c1.n 0 (Nat.lt_succ_self _)
      rw [hloc, b1.inv.n] at this
      exact this
  | dref h => exact ⟨c, .refl hI _, h c rfl⟩
  | @fn g caps vs hl h =>
    refine ⟨c, .refl hI _, .fn g _ vs (by simpa using hl) (fun i s v hs hv => ?_)⟩
    rw [List.getElem?_map, Option.map_eq_some_iff] at hs
    obtain ⟨cs, hcs, rfl⟩ := hs
    exact h i cs v hcs hv c rfl
theorem bindAll_ok : ∀ {xs : List X} {c : Ctx} {st : St} {vs : List Value} {b : List Nat}, Inv E M0 w0 c st w → XVs E c.F w xs vs b → b.Nodup → (∀ k ∈ b, Free M0 w0 c st w k) →
    ∃ c', Bound E M0 w0 c st w b c' (st.bindAll xs).2 ∧ (st.bindAll xs).1.length = vs.length ∧ ∀ (i : Nat) s v, (st.bindAll xs).1[i]? = some s → vs[i]? = some v → Rel c' w s v
  | [], c, st, vs, b, hI, h, hn, hf => by
    cases h
    exact ⟨c, .refl hI _, rfl, fun i s v hs => by simp [St.bindAll] at hs⟩
  | x :: xs, c, st, vs, b, hI, h, hn, hf => by
    cases h with
    | @cons _ v b _ vs bs h r =>
      obtain ⟨hn1, hn2, hn3⟩ := List.nodup_append.1 hn
      obtain ⟨c1, b1, r1⟩ := bind_ok hI h hn1 (fun k hk => hf k (List.mem_append_left _ hk))
      have r' : XVs E c1.F w xs vs bs := by rw [b1.F]; exact r
      obtain ⟨c2, b2, l2, r2⟩ := bindAll_ok b1.inv r' hn2 (fun k hk => b1.free hI (hf k (List.mem_append_right _ hk)) (fun hk' => hn3 k hk' k hk rfl))
      refine ⟨c2, b1.trans b2 (fun l hl => List.mem_append_left _ hl) (fun l hl => List.mem_append_right _ hl), by simp [St.bindAll, l2], fun i s v hs hv => ?_⟩
      simp only [St.bindAll] at hs
      cases i with
      | zero => simp at hs hv; subst hs; subst hv; exact r1.mono b2.le (fun _ _ => rfl)
      | succ i => exact r2 i s v (by simpa using hs) (by simpa using hv)
end
end Go.Ev
/- What a caller gives. -/
set_option linter.unusedSimpArgs false
set_option linter.unusedVariables false
namespace Go.Ev
section
variable {E : Env} {P : Program} {M0 : Nat → Prop} {w0 : World} {c : Ctx} {st st' : St} {a : Act} {w w' : World}

/-- The blocks of an object. -/
def blkOf (c : Ctx) (st : St) (i : Nat) : List Nat := match st.o i with
  | .box _ _ => [c.loc i]
  | .row _ _ true => ownL (c.val i) (c.loc i)
  | _ => []
def bids (c : Ctx) (st : St) (ids : List Nat) : List Nat := (ids.map (blkOf c st)).flatten
theorem bids_cons (i : Nat) (l : List Nat) : bids c st (i :: l) = blkOf c st i ++ bids c st l := rfl
theorem bids_append (l l' : List Nat) : bids c st (l ++ l') = bids c st l ++ bids c st l' := by simp [bids]

theorem blkOf_mem (hI : Inv E M0 w0 c st w) {i k : Nat} (h : k ∈ blkOf c st i) : i < st.n ∧ Owns c i (st.o i) ∧ k = c.loc i := by
  have hlt : i < st.n := by
    by_cases hi : i < st.n
    · exact hi
    · have := hI.dead i (by omega)
      simp [blkOf, this] at h
  have hob := hI.obs i hlt
  unfold blkOf at h
  split at h
  · rename_i hb
    simp at h
    refine ⟨hlt, by rw [hb]; trivial, h⟩
  · rename_i hb
    rw [hb] at hob
    obtain ⟨_, _, ⟨A, n, hv, _⟩, _⟩ := hob
    rw [hv] at h
    simp only [ownL, capV] at h
    by_cases hk : n = 0
    · simp [hk] at h
    · simp [hk] at h
      exact ⟨hlt, by rw [hb]; exact ⟨A, _, n, hv, hk⟩, h⟩
  · cases h
theorem bids_mem (hI : Inv E M0 w0 c st w) {ids : List Nat} {k : Nat} (h : k ∈ bids c st ids) : ∃ i ∈ ids, i < st.n ∧ Owns c i (st.o i) ∧ k = c.loc i := by
  unfold bids at h
  obtain ⟨l, hl, hk⟩ := List.mem_flatten.1 h
  obtain ⟨i, hi, rfl⟩ := List.mem_map.1 hl
  exact ⟨i, hi, blkOf_mem hI hk⟩
theorem blkOf_nodup (i : Nat) : (blkOf c st i).Nodup := by
  unfold blkOf ownL
  split
  · simp
  · split <;> simp
  · simp
theorem bids_nodup (hI : Inv E M0 w0 c st w) : ∀ {ids : List Nat}, ids.Nodup → (bids c st ids).Nodup
  | [], _ => by simp [bids]
  | i :: l, h => by
    obtain ⟨h1, h2⟩ := List.nodup_cons.1 h
    rw [bids_cons]
    refine List.nodup_append.2 ⟨blkOf_nodup i, bids_nodup hI h2, fun a ha b hb e => ?_⟩
    subst e
    obtain ⟨g1, g2, g3⟩ := blkOf_mem hI ha
    obtain ⟨j, hj, k1, k2, k3⟩ := bids_mem hI hb
    have := hI.inj i j g1 k1 g2 k2 (by rw [← g3, ← k3])
    subst this
    exact h1 hj

def DR (F : Nat → Prop) (w : World) (cs : List T) (v : Value) : Prop := ∀ c : Ctx, c.F = F → Rel c w (.dptr cs) v
theorem DR.mk {F : Nat → Prop} {cs : List T} {g o : Nat} (cell : Nat → Value) (hg : F g) (h1 : ∀ y ∈ cs, y.one = true) (hc : ∀ i, i < cs.length → w.cell? ⟨g, o + i, none⟩ = some (cell i)) (h : ∀ (i : Nat) y, cs[i]? = some y → RD F w y (cell i)) : DR F w cs (.pointer (some ⟨g, o, none⟩)) := by
  intro c hc'
  subst hc'
  exact .dptr cs g o cell hg h1 hc h
theorem DR.of {F : Nat → Prop} {cs : List T} {v : Value} (h : Rel c w (.dptr cs) v) (hF : ∀ k, c.F k → F k) : DR F w cs v := by
  cases h with
  | dptr _ g o cell hg h1 hc h => exact .mk cell (hF g hg) h1 hc (fun i y hy => (h i y hy).mono hF (fun _ _ => rfl))
/-- A box, looked at. -/
theorem box_DR (hI : Inv E M0 w0 c st w) {b off ty : Nat} {cells : List SV} {ts : List T} {v : Value} {ids : List Nat} (hr : Rel c w (.ptr b off) v) (ho : st.o b = .box ty cells) (hp : st.peekL (cells.drop off) = some ts) (hids : ∀ i ∈ b :: rowIds cells, i ∈ ids) : DR (FP c st ids) w ts v := by
  cases hr with
  | ptr _ _ hb =>
    have hb' : b < st.n := by rw [← hI.n]; exact hb
    have hob := hI.obs b hb'
    rw [ho] at hob
    obtain ⟨vs, e1, e2, e3, e4⟩ := hob
    obtain ⟨p1, p2, p3⟩ := peekL_RD hI hp
    have hsub : ∀ i ∈ rowIds (cells.drop off), i ∈ ids := by
      intro i hi
      refine hids i (List.mem_cons_of_mem _ ?_)
      have : ∀ (l : List SV) (n : Nat), i ∈ rowIds (l.drop n) → i ∈ rowIds l := by
        intro l
        induction l with
        | nil => intro n h; simpa using h
        | cons s r ih =>
          intro n h
          cases n with
          | zero => simpa using h
          | succ n =>
            have := ih n (by simpa using h)
            cases s <;> simp [rowIds, this]
      exact this cells off hi
    refine .mk (fun i => vs.getD (off + i) undef) (.inr ⟨b, hids b (by simp), hb', by rw [ho]; trivial, rfl⟩) p2 (fun i hi => ?_) (fun i y hy => ?_)
    · have hlt : off + i < vs.size := by rw [p1] at hi; simp at hi; omega
      simp [World.cell?, e1, hlt]
    · have hi := (List.getElem?_eq_some_iff.1 hy).1
      rw [p1] at hi
      simp at hi
      have hlt : off + i < cells.length := by omega
      have hlt2 : off + i < vs.size := by omega
      have := p3 hsub i (cells[off + i]) y vs[off + i] (by simp [hlt]) hy (e4 _ _ _ (List.getElem?_eq_getElem hlt) (Array.getElem?_eq_getElem hlt2))
      simpa [hlt2] using this
theorem goRo_ok (hI : Inv E M0 w0 c st w) : ∀ {caps : List SV} {xs : List (List T)} {vs : List Value} {ids : List Nat}, St.giveRo.go st caps = some xs → vs.length = caps.length → (∀ (i : Nat) s v, caps[i]? = some s → vs[i]? = some v → Rel c w s v) → (∀ i ∈ st.capIds caps, i ∈ ids) →
    xs.length = caps.length ∧ ∀ (i : Nat) cs v, xs[i]? = some cs → vs[i]? = some v → DR (FP c st ids) w cs v
  | [], xs, vs, ids, h, hl, hr, hid => by
    simp only [St.giveRo.go, Option.some.injEq] at h
    subst h
    exact ⟨rfl, fun i cs v hs => by simp at hs⟩
  | s :: r, xs, vs, ids, h, hl, hr, hid => by
    cases vs with
    | nil => simp at hl
    | cons v vs =>
      have hr0 := hr 0 s v rfl rfl
      have hrr : ∀ (i : Nat) s v, r[i]? = some s → vs[i]? = some v → Rel c w s v := fun i s v hs hv => hr (i + 1) s v (by simpa using hs) (by simpa using hv)
      unfold St.giveRo.go at h
      split at h
      · rename_i heq
        cases heq
      · rename_i b q heq
        injection heq with e1 e2
        subst e1; subst e2
        split at h
        · rename_i ty cells ho
          split at h
          · rename_i ts hts
            simp only [Option.map_eq_some_iff] at h
            obtain ⟨ys, hys, rfl⟩ := h
            simp only [St.capIds, ho] at hid
            obtain ⟨g1, g2⟩ := goRo_ok hI (vs := vs) hys (by simpa using hl) hrr (fun i hi => hid i (by simp [hi]))
            refine ⟨by simp [g1], fun i cs v' hs hv => ?_⟩
            cases i with
            | zero =>
              simp at hs hv
              subst hs; subst hv
              exact box_DR hI hr0 ho (by simpa using hts) (fun i hi => hid i (by rcases List.mem_cons.1 hi with rfl | hi <;> simp [*]))
            | succ i => exact g2 i cs v' (by simpa using hs) (by simpa using hv)
          · cases h
        · cases h
      · rename_i cs' q heq
        injection heq with e1 e2
        subst e1; subst e2
        simp only [Option.map_eq_some_iff] at h
        obtain ⟨ys, hys, rfl⟩ := h
        simp only [St.capIds] at hid
        obtain ⟨g1, g2⟩ := goRo_ok hI (vs := vs) hys (by simpa using hl) hrr hid
        refine ⟨by simp [g1], fun i cs v' hs hv => ?_⟩
        cases i with
        | zero =>
          simp at hs hv
          subst hs; subst hv
          exact DR.of hr0 (fun k hk => .inl hk)
        | succ i => exact g2 i cs v' (by simpa using hs) (by simpa using hv)
      · cases h

theorem giveRo_ok (hI : Inv E M0 w0 c st w) {s : SV} {v : Value} {x : X} {ids : List Nat} (hr : Rel c w s v) (h : st.giveRo s = some x) (hid : ∀ i ∈ st.roIds s, i ∈ ids) : XV E (FP c st ids) w x v [] := by
  unfold St.giveRo at h
  split at h
  · rename_i g caps
    simp only [Option.map_eq_some_iff] at h
    obtain ⟨ys, hys, rfl⟩ := h
    cases hr with
    | fn _ _ vs hl hr =>
      obtain ⟨g1, g2⟩ := goRo_ok hI (vs := vs.toList) hys (by simpa using hl.symm) (fun i s v hs hv => hr i s v hs (by simpa using hv)) hid
      exact .fn (by rw [g1]; exact hl) (fun i cs v hs hv => g2 i cs v hs (by simpa using hv))
  · rename_i b off
    split at h
    · rename_i ty cells ho
      simp only [Option.map_eq_some_iff] at h
      obtain ⟨ts, hts, rfl⟩ := h
      refine .dref (box_DR hI hr ho hts (fun i hi => hid i ?_))
      simp only [St.roIds, St.capIds, ho]
      rcases List.mem_cons.1 hi with rfl | hi <;> simp [*]
    · cases h
  · rename_i r i off
    split at h
    · rename_i e xs live ho
      simp only [Option.map_eq_some_iff] at h
      obtain ⟨x', hx, rfl⟩ := h
      cases hr with
      | eptr _ _ _ g o n k hrn hv hi =>
        have hrn' : r < st.n := by rw [← hI.n]; exact hrn
        have hob := hI.obs r hrn'
        rw [ho] at hob
        have hF : FP c st ids g := by
          cases live with
          | true =>
            obtain ⟨h1, h2, ⟨A, k', hv', hk, hm⟩, h4, h5, h6⟩ := hob
            rw [hv] at hv'
            injection hv' with q1 q2 q3
            subst q1; subst q2; subst q3
            obtain ⟨o', vs, lo, hi', e1, _⟩ := h6 _ _ _ hv (by omega)
            injection e1 with e1
            injection e1 with e1 _
            exact .inr ⟨r, hid r (by simp [St.roIds]), hrn', by rw [ho]; exact ⟨_, _, _, hv, by omega⟩, e1⟩
          | false =>
            obtain ⟨g', o', k', hv', _, hF⟩ := row_addr hob (by intro e; subst e; simp at hx)
            rw [hv] at hv'
            injection hv' with q1 _ _
            injection q1 with q1
            injection q1 with q1 _
            rw [q1]
            exact .inl (hF rfl)
        have hone := hob.2.2.2.2.1 x' (List.mem_of_getElem? hx)
        refine .dref (DR.mk (fun t => (w.cell? ⟨g, o + (i * c.sz r + off) + t, none⟩).getD undef) hF (fun y hy => hone y (List.mem_of_mem_drop hy)) (fun t ht => ?_) (fun t y hy => ?_))
        · simp at ht
          have hlt : off + t < x'.cells.length := by omega
          obtain ⟨u, hu, _⟩ := row_cell hob hv hx (List.getElem?_eq_getElem hlt)
          have : o + (i * c.sz r + off) + t = o + (i * c.sz r + (off + t)) := by omega
          rw [this, hu]; rfl
        · rw [List.getElem?_drop] at hy
          obtain ⟨u, hu, hu2⟩ := row_cell hob hv hx hy
          have : o + (i * c.sz r + off) + t = o + (i * c.sz r + (off + t)) := by omega
          rw [this, hu]
          exact hu2.mono (fun k hk => .inl hk) (fun _ _ => rfl)
    · cases h
  · obtain rfl := Option.some.inj h
    exact .dref (DR.of hr (fun k hk => .inl hk))
  · rename_i v' hn1 hn2 hn3 hn4
    simp only [Option.map_eq_some_iff] at h
    obtain ⟨t, ht, rfl⟩ := h
    refine .t ((peek_RD hI hr ht).mono (FP.sub (fun i hi => hid i ?_)) (fun _ _ => rfl))
    cases s <;> first | exact hi | exact (hn1 _ _ rfl).elim | exact (hn2 _ _ rfl).elim | exact (hn3 _ _ _ rfl).elim | exact (hn4 _ rfl).elim

theorem frozen_RD {i e : Nat} {xs : List T} (h : ObOK E c w i (.row e xs false)) : RD c.F w (.list xs) (c.val i) := h.2.2.2.2.2
theorem giveCell_ok (hI : Inv E M0 w0 c st w) {s : SV} {v : Value} {x : X} (hr : Rel c w s v) (h : st.giveCell s = some x) : XC E c.F w x v (bids c st (liveIds st [s])) := by
  unfold St.giveCell at h
  split at h
  · rename_i r
    cases hr with
    | row _ hrn =>
      have hob := hI.obs r (by rw [← hI.n]; exact hrn)
      split at h
      · rename_i e xs ho
        obtain rfl := Option.some.inj h
        rw [ho] at hob
        have : bids c st (liveIds st [.row r]) = ownL (c.val r) (c.loc r) := by simp [liveIds, ho, bids, blkOf]
        rw [this]
        exact .row (obOK_row.1 hob).2
      · rename_i e xs ho
        obtain rfl := Option.some.inj h
        rw [ho] at hob
        have : bids c st (liveIds st [.row r]) = [] := by simp [liveIds, ho, bids]
        rw [this]
        exact .t (frozen_RD hob) rfl
      · cases h
  · obtain rfl := Option.some.inj h
    cases hr with
    | nil A => exact .nil A
  · split at h
    · rename_i h1
      obtain rfl := Option.some.inj h
      cases hr with
      | t hr => exact .t hr h1
    · cases h
  · cases h
theorem liveIds_cons (s : SV) (r : List SV) : liveIds st (s :: r) = liveIds st [s] ++ liveIds st r := by
  cases s <;> simp [liveIds]
  split <;> simp
theorem giveCells_ok (hI : Inv E M0 w0 c st w) : ∀ {l : List SV} {vs : List Value} {xs : List X}, st.giveCells l = some xs → vs.length = l.length → (∀ (i : Nat) s v, l[i]? = some s → vs[i]? = some v → Rel c w s v) → XCs E c.F w xs vs (bids c st (liveIds st l))
  | [], vs, xs, h, hl, hr => by
    simp only [St.giveCells, Option.some.injEq] at h
    subst h
    obtain rfl : vs = [] := List.eq_nil_of_length_eq_zero hl
    exact .nil
  | s :: r, vs, xs, h, hl, hr => by
    cases vs with
    | nil => simp at hl
    | cons v vs =>
      unfold St.giveCells at h
      split at h
      · rename_i x ys h1 h2
        obtain rfl := Option.some.inj h
        rw [liveIds_cons, bids_append]
        exact .cons (giveCell_ok hI (hr 0 s v rfl rfl) h1) (giveCells_ok hI h2 (by simpa using hl) (fun i s v hs hv => hr (i + 1) s v (by simpa using hs) (by simpa using hv)))
      · cases h
theorem giveMut_ok (hI : Inv E M0 w0 c st w) {s : SV} {v : Value} {x : X} (hr : Rel c w s v) (h : st.giveMut s = some x) : XV E c.F w x v (bids c st (st.mutIds s)) := by
  unfold St.giveMut at h
  split at h
  · rename_i r
    cases hr with
    | row _ hrn =>
      have hob := hI.obs r (by rw [← hI.n]; exact hrn)
      split at h
      · rename_i e xs ho
        obtain rfl := Option.some.inj h
        rw [ho] at hob
        have : bids c st (st.mutIds (.row r)) = ownL (c.val r) (c.loc r) := by simp [St.mutIds, bids, blkOf, ho]
        rw [this]
        exact .row (obOK_row.1 hob).2
      · cases h
  · obtain rfl := Option.some.inj h
    cases hr with
    | nil A => exact .nil A
  · rename_i b
    split at h
    · rename_i ty cells ho
      simp only [Option.map_eq_some_iff] at h
      obtain ⟨xs, hxs, rfl⟩ := h
      cases hr with
      | ptr _ _ hb =>
        have hob := hI.obs b (by rw [← hI.n]; exact hb)
        rw [ho] at hob
        obtain ⟨vs, e1, e2, e3, e4⟩ := hob
        have : bids c st (st.mutIds (.ptr b 0)) = c.loc b :: bids c st (liveIds st cells) := by simp [St.mutIds, ho, bids, blkOf]
        rw [this]
        exact .ref e1 (giveCells_ok hI hxs (by simpa using e2) (fun i s v hs hv => e4 i s v hs (by simpa using hv)))
    · cases h
  · rename_i cs
    simp only [Option.map_eq_some_iff] at h
    obtain ⟨xs, hxs, rfl⟩ := h
    cases hr with
    | agg _ vs hl h1 hr => exact .agg (giveCells_ok hI hxs (by simpa using hl.symm) (fun i s v hs hv => hr i s v hs (by simpa using hv)))
  · cases h

theorem XV.mono {F F' : Nat → Prop} {x : X} {v : Value} {b : List Nat} (h : XV E F w x v b) (hF : ∀ k, F k → F' k) (hw : ∀ k, F k → w'.heap[k]? = w.heap[k]?) (hb : ∀ k ∈ b, w'.heap[k]? = w.heap[k]?) : XV E F' w' x v b := by
  have hd : ∀ cs v, DR F w cs v → DR F' w' cs v := by
    intro cs v h c hc
    subst hc
    have := h { c with F := F } rfl
    exact this.mono (c' := c) ⟨Nat.le_refl _, fun _ _ => rfl, fun _ _ => rfl, fun _ _ => rfl, hF, fun _ h => h⟩ hw
  cases h with
  | t h => exact .t (h.mono hF hw)
  | nil A => exact .nil A
  | row h => exact .row (h.mono hF hw hb)
  | agg h => exact .agg (h.mono hF hw hb)
  | ref hh h => exact .ref (by rw [hb _ (by simp)]; exact hh) (h.mono hF hw (fun k hk => hb k (List.mem_cons_of_mem _ hk)))
  | dref h => exact .dref (hd _ _ h)
  | fn hl h => exact .fn hl (fun i cs v hs hv => hd _ _ (h i cs v hs hv))
theorem XVs.mono {F F' : Nat → Prop} {xs : List X} {vs : List Value} {b : List Nat} (h : XVs E F w xs vs b) (hF : ∀ k, F k → F' k) (hw : ∀ k, F k → w'.heap[k]? = w.heap[k]?) (hb : ∀ k ∈ b, w'.heap[k]? = w.heap[k]?) : XVs E F' w' xs vs b := by
  induction h with
  | nil => exact .nil
  | cons h r ih => exact .cons (h.mono hF hw (fun k hk => hb k (List.mem_append_left _ hk))) (ih (fun k hk => hb k (List.mem_append_right _ hk)))

theorem give_ok (hI : Inv E M0 w0 c st w) {ids : List Nat} : ∀ {md : List Bool} {ss : List SV} {vs : List Value} {xs : List X}, st.give md ss = some xs → vs.length = ss.length → (∀ (i : Nat) s v, ss[i]? = some s → vs[i]? = some v → Rel c w s v) → (∀ i ∈ st.roAll (ros md ss), i ∈ ids) →
    XVs E (FP c st ids) w xs vs (bids c st (st.mutAll (muts md ss)))
  | md, [], vs, xs, h, hl, hr, hid => by
    have : xs = [] := by cases md <;> simpa [St.give, eq_comm] using h
    subst this
    obtain rfl : vs = [] := List.eq_nil_of_length_eq_zero hl
    have : muts md ([] : List SV) = [] := by cases md <;> rfl
    rw [this]
    exact .nil
  | md, s :: r, vs, xs, h, hl, hr, hid => by
    cases vs with
    | nil => simp at hl
    | cons v vs =>
      unfold St.give at h
      split at h
      · rename_i x ys h1 h2
        obtain rfl := Option.some.inj h
        have hr0 := hr 0 s v rfl rfl
        have hrr : ∀ (i : Nat) s v, r[i]? = some s → vs[i]? = some v → Rel c w s v := fun i s v hs hv => hr (i + 1) s v (by simpa using hs) (by simpa using hv)
        cases hm : md.headD false with
        | true =>
          rw [hm] at h1
          simp only [if_true] at h1
          have e1 : muts md (s :: r) = s :: muts md.tail r := by simp only [muts, hm, if_true]
          have e2 : ros md (s :: r) = ros md.tail r := by simp only [ros, hm, if_true]
          rw [e2] at hid
          rw [e1]
          have : st.mutAll (s :: muts md.tail r) = st.mutIds s ++ st.mutAll (muts md.tail r) := by simp [St.mutAll]
          rw [this, bids_append]
          exact .cons ((giveMut_ok hI hr0 h1).mono (fun k hk => .inl hk) (fun _ _ => rfl) (fun _ _ => rfl)) (give_ok hI h2 (by simpa using hl) hrr hid)
        | false =>
          rw [hm] at h1
          simp only [Bool.false_eq_true, if_false] at h1
          have e1 : muts md (s :: r) = muts md.tail r := by simp only [muts, hm, Bool.false_eq_true, if_false]
          have e2 : ros md (s :: r) = s :: ros md.tail r := by simp only [ros, hm, Bool.false_eq_true, if_false]
          rw [e2] at hid
          rw [e1]
          have : st.roAll (s :: ros md.tail r) = st.roIds s ++ st.roAll (ros md.tail r) := by simp [St.roAll]
          rw [this] at hid
          exact .cons (b := []) (giveRo_ok hI hr0 h1 (fun i hi => hid i (List.mem_append_left _ hi))) (give_ok hI h2 (by simpa using hl) hrr (fun i hi => hid i (List.mem_append_right _ hi)))
      · cases h
end
end Go.Ev
/- What a function takes with it at its end, and what its caller regains. -/
set_option linter.unusedSimpArgs false
set_option linter.unusedVariables false
namespace Go.Ev
section
variable {E : Env} {P : Program} {M0 : Nat → Prop} {w0 : World} {c : Ctx} {st st' : St} {a : Act} {w w' : World}

structure Taken (E : Env) (M0 : Nat → Prop) (w0 : World) (c : Ctx) (st : St) (w : World) (b : List Nat) (st1 : St) : Prop where
  inv : Inv E M0 w0 c st1 w
  n : st1.n = st.n
  sub : ∀ i, Owns c i (st1.o i) → Owns c i (st.o i)
  from_ : ∀ k ∈ b, ∃ i, i < st.n ∧ Owns c i (st.o i) ∧ k = c.loc i
  gone : ∀ k ∈ b, ∀ i, i < st.n → Owns c i (st1.o i) → c.loc i ≠ k
  nodup : b.Nodup
theorem Taken.refl (hI : Inv E M0 w0 c st w) : Taken E M0 w0 c st w [] st := ⟨hI, rfl, fun _ h => h, by simp, by simp, by simp⟩
theorem Taken.trans {b b' : List Nat} {st1 st2 : St} (h : Taken E M0 w0 c st w b st1) (h' : Taken E M0 w0 c st1 w b' st2) : Taken E M0 w0 c st w (b ++ b') st2 := by
  refine ⟨h'.inv, h'.n.trans h.n, fun i hi => h.sub i (h'.sub i hi), fun k hk => ?_, fun k hk i hi ho => ?_, List.nodup_append.2 ⟨h.nodup, h'.nodup, fun x hx y hy e => ?_⟩⟩
  · rcases List.mem_append.1 hk with hk | hk
    · exact h.from_ k hk
    · obtain ⟨i, h1, h2, h3⟩ := h'.from_ k hk
      exact ⟨i, by rw [← h.n]; exact h1, h.sub i h2, h3⟩
  · rcases List.mem_append.1 hk with hk | hk
    · exact h.gone k hk i hi (h'.sub i ho)
    · exact h'.gone k hk i (by rw [h.n]; exact hi) ho
  · subst e
    obtain ⟨i, h1, h2, h3⟩ := h'.from_ x hy
    exact h.gone x hx i (by rw [← h.n]; exact h1) h2 h3.symm
theorem Taken.free {b : List Nat} {st1 : St} (h : Taken E M0 w0 c st w b st1) (hI : Inv E M0 w0 c st w) {k : Nat} (hk : k ∈ b) : k < w.heap.size ∧ ¬ c.F k ∧ (M0 k ∨ w0.heap.size ≤ k) := by
  obtain ⟨i, h1, h2, rfl⟩ := h.from_ k hk
  exact hI.own i h1 h2
theorem ownL_nodup (v : Value) (l : Nat) : (ownL v l).Nodup := by unfold ownL; split <;> simp

theorem base_taken (hI : Inv E M0 w0 c st w) {e : Nat} {s : SV} {v : Value} {xs : List T} {st1 : St} (hz : 0 < (E.ty e).size) (hr : Rel c w s v) (h : st.base e s = some (xs, st1)) : ∃ l, RowV E c.F w e xs v l ∧ Taken E M0 w0 c st w (ownL v l) st1 := by
  obtain ⟨B, k, rfl, b1, b2, b3, b4, b4', b4'', b4c, b5, b6, b7⟩ := base_ok hI hr h
  by_cases hk : k = 0
  · subst hk
    refine ⟨0, ⟨hz, ⟨B, 0, rfl, b1, b2⟩, b5, b6, fun A n k hv hk => ?_⟩, ?_⟩
    · injection hv with _ _ e3
      exact absurd e3.symm hk
    · have : ownL (.slice B xs.length 0) 0 = [] := by simp [ownL, capV]
      rw [this]
      exact ⟨b3, b4, b4c, by simp, by simp, by simp⟩
  · obtain ⟨l, o, vs, lo, hi, rfl, e2, e3, e4, e5, e6, e7, e8, e9, r, r1, r2, r3⟩ := b7 hk
    refine ⟨l, ⟨hz, ⟨_, k, rfl, b1, b2⟩, b5, b6, fun A n k' hv hk' => ?_⟩, ?_⟩
    · injection hv with q1 q2 q3
      subst q1; subst q2; subst q3
      exact ⟨o, vs, lo, hi, rfl, e2, e3, e4, e5⟩
    · have : ownL (.slice (some ⟨l, o, none⟩) xs.length k) l = [l] := by simp [ownL, capV, hk]
      rw [this]
      refine ⟨b3, b4, b4c, fun k hk => ?_, fun k hk i hi ho => ?_, by simp⟩
      · simp at hk; subst hk; exact ⟨r, r1, r2, r3⟩
      · simp at hk; subst hk; exact e9 i (by rw [b4]; exact hi) ho
theorem row_size (hI : Inv E M0 w0 c st w) {r e : Nat} {xs : List T} {live : Bool} (hr : r < c.n) (ho : st.o r = .row e xs live) : 0 < (E.ty e).size := by
  have hob := hI.obs r (by rw [← hI.n]; exact hr)
  rw [ho] at hob
  rw [← hob.1]; exact hob.2.1
theorem takeCell_ok (hI : Inv E M0 w0 c st w) {s : SV} {v : Value} {x : X} {st1 : St} (hr : Rel c w s v) (h : st.takeCell s = some (x, st1)) : ∃ b, XC E c.F w x v b ∧ Taken E M0 w0 c st w b st1 := by
  unfold St.takeCell at h
  split at h
  · rename_i r
    split at h
    · rename_i e xs ho
      simp only [Option.some.injEq, Prod.mk.injEq] at h
      obtain ⟨rfl, rfl⟩ := h
      have hrn : r < c.n := by cases hr; assumption
      obtain ⟨l, h1, h2⟩ := base_taken (e := e) (xs := xs) (st1 := st.setO r .dead) hI (row_size hI hrn ho) hr (by simp [St.base, ho])
      exact ⟨_, .row h1, h2⟩
    · rename_i e xs ho
      simp only [Option.some.injEq, Prod.mk.injEq] at h
      obtain ⟨rfl, rfl⟩ := h
      cases hr with
      | row _ hrn =>
        have hob := hI.obs r (by rw [← hI.n]; exact hrn)
        rw [ho] at hob
        exact ⟨[], .t (frozen_RD hob) rfl, .refl hI⟩
    · cases h
  · rename_i r lo hi
    split at h
    · rename_i e xs ho
      split at h
      · rename_i hc
        simp only [Option.some.injEq, Prod.mk.injEq] at h
        obtain ⟨rfl, rfl⟩ := h
        have hrn : r < c.n := by cases hr; assumption
        obtain ⟨l, h1, h2⟩ := base_taken (e := e) (xs := (xs.take hi).drop lo) (st1 := st.setO r .dead) hI (row_size hI hrn ho) hr (by simp [St.base, ho, hc])
        exact ⟨_, .row h1, h2⟩
      · cases h
    · rename_i e xs ho
      simp only [Option.some.injEq, Prod.mk.injEq] at h
      obtain ⟨rfl, rfl⟩ := h
      have := (peek1_RD hI hr (t := .list ((xs.take hi).drop lo)) (by simp [St.peek1, ho])).1
      refine ⟨[], .t (this.mono (fun k hk => ?_) (fun _ _ => rfl)) rfl, .refl hI⟩
      rcases hk with hk | ⟨i, hi, _, ho', _⟩
      · exact hk
      · simp [rowIds] at hi
        subst hi
        rw [ho] at ho'
        exact ho'.elim
    · cases h
  · simp only [Option.some.injEq, Prod.mk.injEq] at h
    obtain ⟨rfl, rfl⟩ := h
    cases hr with
    | nil A => exact ⟨[], .nil A, .refl hI⟩
  · split at h
    · rename_i h1
      simp only [Option.some.injEq, Prod.mk.injEq] at h
      obtain ⟨rfl, rfl⟩ := h
      cases hr with
      | t hr => exact ⟨[], .t hr h1, .refl hI⟩
    · cases h
  · cases h
theorem takeCells_ok : ∀ {l : List SV} {st st1 : St} {vs : List Value} {xs : List X}, Inv E M0 w0 c st w → vs.length = l.length → (∀ (i : Nat) s v, l[i]? = some s → vs[i]? = some v → Rel c w s v) → st.takeCells l = some (xs, st1) → ∃ b, XCs E c.F w xs vs b ∧ Taken E M0 w0 c st w b st1
  | [], st, st1, vs, xs, hI, hl, hr, h => by
    simp only [St.takeCells, Option.some.injEq, Prod.mk.injEq] at h
    obtain ⟨rfl, rfl⟩ := h
    obtain rfl : vs = [] := List.eq_nil_of_length_eq_zero hl
    exact ⟨[], .nil, .refl hI⟩
  | s :: r, st, st1, vs, xs, hI, hl, hr, h => by
    cases vs with
    | nil => simp at hl
    | cons v vs =>
      unfold St.takeCells at h
      split at h
      · cases h
      · rename_i x st2 h1
        split at h
        · cases h
        · rename_i ys st3 h2
          simp only [Option.some.injEq, Prod.mk.injEq] at h
          obtain ⟨rfl, rfl⟩ := h
          obtain ⟨b, g1, g2⟩ := takeCell_ok hI (hr 0 s v rfl rfl) h1
          obtain ⟨b', k1, k2⟩ := takeCells_ok (vs := vs) g2.inv (by simpa using hl) (fun i s v hs hv => hr (i + 1) s v (by simpa using hs) (by simpa using hv)) h2
          exact ⟨b ++ b', .cons g1 k1, g2.trans k2⟩
theorem takeCell_box {s : SV} {x : X} {st1 : St} {b ty : Nat} {cells : List SV} (ho : st.o b = .box ty cells) (h : st.takeCell s = some (x, st1)) : st1.o b = .box ty cells := by
  have key : ∀ r e xs live, st.o r = .row e xs live → (st.setO r .dead).o b = .box ty cells := by
    intro r e xs live hr
    have hne : b ≠ r := by
      intro e; subst e
      rw [ho] at hr; cases hr
    have : (st.setO r .dead).o b = st.o b := upd_ne _ _ hne
    rw [this]; exact ho
  unfold St.takeCell at h
  repeat' split at h
  all_goals first
    | (cases h; done)
    | (simp only [Option.some.injEq, Prod.mk.injEq] at h
       obtain ⟨rfl, rfl⟩ := h
       first | exact ho | (apply key; assumption))
theorem takeCells_box : ∀ {l : List SV} {st st1 : St} {xs : List X} {b ty : Nat} {cells : List SV}, st.o b = .box ty cells → st.takeCells l = some (xs, st1) → st1.o b = .box ty cells
  | [], st, st1, xs, b, ty, cells, ho, h => by
    simp only [St.takeCells, Option.some.injEq, Prod.mk.injEq] at h
    obtain ⟨rfl, rfl⟩ := h
    exact ho
  | s :: r, st, st1, xs, b, ty, cells, ho, h => by
    unfold St.takeCells at h
    split at h
    · cases h
    · rename_i x st2 h1
      split at h
      · cases h
      · rename_i ys st3 h2
        simp only [Option.some.injEq, Prod.mk.injEq] at h
        obtain ⟨rfl, rfl⟩ := h
        exact takeCells_box (takeCell_box ho h1) h2
theorem XC.up {F : Nat → Prop} {x : X} {v : Value} {b : List Nat} (h : XC E F w x v b) : XV E F w x v b := by
  cases h with
  | t h h1 => exact .t h
  | nil A => exact .nil A
  | row h => exact .row h
theorem take_ok (hI : Inv E M0 w0 c st w) {s : SV} {v : Value} {x : X} {st1 : St} (hr : Rel c w s v) (h : st.take s = some (x, st1)) : ∃ b, XV E c.F w x v b ∧ Taken E M0 w0 c st w b st1 := by
  unfold St.take at h
  split at h
  · rename_i cs
    split at h
    · cases h
    · rename_i xs st2 h1
      simp only [Option.some.injEq, Prod.mk.injEq] at h
      obtain ⟨rfl, rfl⟩ := h
      cases hr with
      | agg _ vs hl h1' hr =>
        obtain ⟨b, g1, g2⟩ := takeCells_ok (vs := vs.toList) hI (by simpa using hl.symm) (fun i s v hs hv => hr i s v hs (by simpa using hv)) h1
        exact ⟨b, .agg g1, g2⟩
  · obtain ⟨b, g1, g2⟩ := takeCell_ok hI hr h
    exact ⟨b, g1.up, g2⟩
theorem takeAll_ok : ∀ {l : List SV} {st st1 : St} {vs : List Value} {xs : List X}, Inv E M0 w0 c st w → vs.length = l.length → (∀ (i : Nat) s v, l[i]? = some s → vs[i]? = some v → Rel c w s v) → st.takeAll l = some (xs, st1) → ∃ b, XVs E c.F w xs vs b ∧ Taken E M0 w0 c st w b st1
  | [], st, st1, vs, xs, hI, hl, hr, h => by
    simp only [St.takeAll, Option.some.injEq, Prod.mk.injEq] at h
    obtain ⟨rfl, rfl⟩ := h
    obtain rfl : vs = [] := List.eq_nil_of_length_eq_zero hl
    exact ⟨[], .nil, .refl hI⟩
  | s :: r, st, st1, vs, xs, hI, hl, hr, h => by
    cases vs with
    | nil => simp at hl
    | cons v vs =>
      unfold St.takeAll at h
      split at h
      · cases h
      · rename_i x st2 h1
        split at h
        · cases h
        · rename_i ys st3 h2
          simp only [Option.some.injEq, Prod.mk.injEq] at h
          obtain ⟨rfl, rfl⟩ := h
          obtain ⟨b, g1, g2⟩ := take_ok hI (hr 0 s v rfl rfl) h1
          obtain ⟨b', k1, k2⟩ := takeAll_ok (vs := vs) g2.inv (by simpa using hl) (fun i s v hs hv => hr (i + 1) s v (by simpa using hs) (by simpa using hv)) h2
          exact ⟨b ++ b', .cons g1 k1, g2.trans k2⟩

inductive XOs (E : Env) (F : Nat → Prop) (w : World) : List (Option X) → List Value → List Nat → Prop
  | nil : XOs E F w [] [] []
  | some {x : X} {v : Value} {b : List Nat} {xs : List (Option X)} {vs : List Value} {bs : List Nat} (h : XV E F w x v b) (r : XOs E F w xs vs bs) : XOs E F w (some x :: xs) (v :: vs) (b ++ bs)
  | none {v : Value} {xs : List (Option X)} {vs : List Value} {bs : List Nat} (r : XOs E F w xs vs bs) : XOs E F w (none :: xs) (v :: vs) bs
theorem backOne_ok (hI : Inv E M0 w0 c st w) {s : SV} {v : Value} (hr : Rel c w s v) : ∃ b, Taken E M0 w0 c st w b (st.backOne s).2 ∧ ∀ xs vs bs, XOs E c.F w xs vs bs → XOs E c.F w ((st.backOne s).1 :: xs) (v :: vs) (b ++ bs) := by
  unfold St.backOne
  split
  · rename_i r
    split
    · rename_i e xs ho
      have hrn : r < c.n := by cases hr; assumption
      obtain ⟨l, h1, h2⟩ := base_taken (e := e) (xs := xs) (st1 := st.setO r .dead) hI (row_size hI hrn ho) hr (by simp [St.base, ho])
      exact ⟨_, h2, fun xs vs bs h => .some (.row h1) h⟩
    · exact ⟨[], .refl hI, fun xs vs bs h => .none h⟩
  · cases hr with
    | nil A => exact ⟨[], .refl hI, fun xs vs bs h => .some (b := []) (.nil A) h⟩
  · rename_i b
    split
    · rename_i ty cells ho
      split
      · rename_i xs st2 h1
        cases hr with
        | ptr _ _ hb =>
          have hb' : b < st.n := by rw [← hI.n]; exact hb
          have hob := hI.obs b hb'
          rw [ho] at hob
          obtain ⟨vs, e1, e2, e3, e4⟩ := hob
          obtain ⟨bb, g1, g2⟩ := takeCells_ok (vs := vs.toList) hI (by simpa using e2) (fun i s v hs hv => e4 i s v hs (by simpa using hv)) h1
          have hown : Owns c b (st.o b) := by rw [ho]; trivial
          have hnot : c.loc b ∉ bb := by
            intro hm
            exact g2.gone _ hm b hb' (by rw [takeCells_box ho h1]; trivial) rfl
          refine ⟨c.loc b :: bb, ⟨g2.inv.kill1 b, g2.n, fun i hi => g2.sub i (own_kill b i hi), fun k hk => ?_, fun k hk i hi ho' => ?_, List.nodup_cons.2 ⟨hnot, g2.nodup⟩⟩, fun xs' vs' bs h => .some (.ref e1 g1) h⟩
          · rcases List.mem_cons.1 hk with rfl | hk
            · exact ⟨b, hb', hown, rfl⟩
            · exact g2.from_ k hk
          · rcases List.mem_cons.1 hk with rfl | hk
            · intro e
              have := hI.inj i b hi hb' (g2.sub i (own_kill b i ho')) hown e
              subst this
              have : (st2.setO i .dead).o i = .dead := upd_self _ _ _
              rw [this] at ho'
              exact ho'
            · exact g2.gone k hk i hi (own_kill b i ho')
      · exact ⟨[], .refl hI, fun xs vs bs h => .none h⟩
    · exact ⟨[], .refl hI, fun xs vs bs h => .none h⟩
  · exact ⟨[], .refl hI, fun xs vs bs h => .none h⟩
theorem backAll_ok : ∀ {l : List SV} {st : St} {vs : List Value}, Inv E M0 w0 c st w → vs.length = l.length → (∀ (i : Nat) s v, l[i]? = some s → vs[i]? = some v → Rel c w s v) → ∃ b, XOs E c.F w (st.backAll l).1 vs b ∧ Taken E M0 w0 c st w b (st.backAll l).2
  | [], st, vs, hI, hl, hr => by
    obtain rfl : vs = [] := List.eq_nil_of_length_eq_zero hl
    exact ⟨[], .nil, .refl hI⟩
  | s :: r, st, vs, hI, hl, hr => by
    cases vs with
    | nil => simp at hl
    | cons v vs =>
      obtain ⟨b, g1, g2⟩ := backOne_ok hI (hr 0 s v rfl rfl)
      obtain ⟨b', k1, k2⟩ := backAll_ok (vs := vs) g1.inv (by simpa using hl) (fun i s v hs hv => hr (i + 1) s v (by simpa using hs) (by simpa using hv))
      exact ⟨b ++ b', g2 _ _ _ k1, g1.trans k2⟩
end
end Go.Ev
/- Behind a call. -/
set_option linter.unusedSimpArgs false
set_option linter.unusedVariables false
namespace Go.Ev
section
variable {E : Env} {P : Program} {M0 : Nat → Prop} {w0 : World} {c : Ctx} {st st' : St} {a : Act} {w w' : World}

theorem kill_get : ∀ (ids : List Nat) (st : St) (i : Nat), (kill ids st).o i = if i ∈ ids then .dead else st.o i
  | [], st, i => by simp [kill]
  | j :: l, st, i => by
    have h : kill (j :: l) st = kill l (st.setO j .dead) := rfl
    rw [h, kill_get l (st.setO j .dead) i]
    by_cases hi : i ∈ l
    · simp [hi]
    · by_cases hj : i = j
      · subst hj
        have : (st.setO i .dead).o i = .dead := upd_self _ _ _
        simp [hi, this]
      · have : (st.setO j .dead).o i = st.o i := upd_ne _ _ hj
        simp [hi, hj, this]
theorem kill_rest : ∀ (ids : List Nat) (st : St), (kill ids st).n = st.n ∧ (kill ids st).s = st.s ∧ (kill ids st).N = st.N
  | [], st => ⟨rfl, rfl, rfl⟩
  | j :: l, st => kill_rest l (st.setO j .dead)
theorem Inv.kill (hI : Inv E M0 w0 c st w) : ∀ (ids : List Nat), Inv E M0 w0 c (kill ids st) w := by
  intro ids
  induction ids generalizing st with
  | nil => exact hI
  | cons j l ih => exact ih (hI.kill1 j)
/-- The world changes where no object of the state stands. -/
theorem Inv.world (hI : Inv E M0 w0 c st w) {S : Nat → Prop} (hs : Same w w' S) (h1 : ∀ k, S k → ¬ c.F k ∧ (M0 k ∨ w0.heap.size ≤ k)) (h2 : ∀ i, i < st.n → Owns c i (st.o i) → ¬ S (c.loc i)) : Inv E M0 w0 c st w' := by
  have hF : ∀ k, c.F k → w'.heap[k]? = w.heap[k]? := fun k hk => hs.blk k (hI.F k hk) (fun e => (h1 k e).1 hk)
  refine ⟨hI.n, fun i hi => ?_, hI.dead, hI.inj, fun i hi ho => ?_, fun k hk => Nat.lt_of_lt_of_le (hI.F k hk) hs.size, hI.one, hI.same.trans hs (fun k hk e => ?_), hI.bnd⟩
  · exact (hI.obs i hi).mono (Ctx.Le.refl c) (by rw [hI.n]; exact hi) hF (fun ho => hs.blk _ (hI.own i hi ho).1 (h2 i hi ho))
  · obtain ⟨l1, l2, l3⟩ := hI.own i hi ho
    exact ⟨Nat.lt_of_lt_of_le l1 hs.size, l2, l3⟩
  · rcases (h1 k e).2 with h | h
    · exact h
    · omega
/-- More may be read. -/
theorem Inv.moreF (hI : Inv E M0 w0 c st w) {F : Nat → Prop} (h0 : ∀ k, c.F k → F k) (h1 : ∀ k, F k → k < w.heap.size ∧ (c.F0 k ∨ M0 k ∨ w0.heap.size ≤ k)) (h2 : ∀ i, i < st.n → Owns c i (st.o i) → ¬ F (c.loc i)) : Inv E M0 w0 (c.withF F) st w := by
  have hle : c.Le (c.withF F) := Ctx.le_withF h0
  refine ⟨hI.n, fun i hi => (hI.obs i hi).mono hle (by rw [hI.n]; exact hi) (fun _ _ => rfl) (fun _ => rfl), hI.dead, fun i j hi hj oi oj e => ?_, fun i hi ho => ?_, fun k hk => (h1 k hk).1, hI.one, hI.same, fun k hk => (h1 k hk).2⟩
  · exact hI.inj i j hi hj (oi.mono hle (by rw [hI.n]; exact hi)) (oj.mono hle (by rw [hI.n]; exact hj)) e
  · have ho' := ho.mono hle (by rw [hI.n]; exact hi)
    obtain ⟨l1, l2, l3⟩ := hI.own i hi ho'
    exact ⟨l1, h2 i hi ho', l3⟩

theorem freeze_get (st : St) (r i : Nat) : (i ≠ r → (st.freeze r).o i = st.o i) ∧ (st.rowAt i = true → (st.freeze r).rowAt i = true) ∧ (st.freeze r).n = st.n ∧ (st.freeze r).s = st.s ∧ (st.freeze r).N = st.N := by
  unfold St.freeze
  split
  · rename_i e xs live ho
    refine ⟨fun h => upd_ne _ _ h, fun h => ?_, rfl, rfl, rfl⟩
    by_cases hi : i = r
    · subst hi
      have : (st.setO i (.row e xs false)).o i = .row e xs false := upd_self _ _ _
      simp [St.rowAt, this]
    · have : (st.setO r (.row e xs false)).o i = st.o i := upd_ne _ _ hi
      simp only [St.rowAt, this]
      exact h
  · exact ⟨fun _ => rfl, fun h => h, rfl, rfl, rfl⟩
theorem freeze_own (r i : Nat) (h : Owns c i ((st.freeze r).o i)) : Owns c i (st.o i) := by
  by_cases hi : i = r
  · subst hi
    unfold St.freeze at h
    split at h
    · rename_i e xs live ho
      have : (st.setO i (.row e xs false)).o i = .row e xs false := upd_self _ _ _
      rw [this] at h
      exact h.elim
    · exact h
  · rw [(freeze_get st r i).1 hi] at h
    exact h
theorem freezeAll_ok : ∀ {ids : List Nat} {c : Ctx} {st : St}, Inv E M0 w0 c st w → ids.all st.rowAt = true → ∃ F, Inv E M0 w0 (c.withF F) (freezeAll ids st) w ∧ (∀ k, c.F k → F k) ∧ (∀ k, FP c st ids k → F k) ∧ (∀ k, F k → FP c st ids k) ∧ (freezeAll ids st).n = st.n ∧ (freezeAll ids st).s = st.s ∧ (freezeAll ids st).N = st.N ∧ ∀ i, Owns c i ((freezeAll ids st).o i) → Owns c i (st.o i)
  | [], c, st, hI, h => ⟨c.F, hI, fun _ h => h, fun k hk => hk.elim id (fun ⟨i, hi, _⟩ => by simp at hi), fun k hk => .inl hk, rfl, rfl, rfl, fun _ h => h⟩
  | r :: l, c, st, hI, h => by
    simp only [List.all_cons, Bool.and_eq_true] at h
    obtain ⟨h1, h2⟩ := h
    obtain ⟨F1, g1, g2, g3, g4⟩ := hI.freeze r (fun ty cells hb => by simp [St.rowAt, hb] at h1)
    have hall : l.all (st.freeze r).rowAt = true := by
      rw [List.all_eq_true] at h2 ⊢
      exact fun i hi => (freeze_get st r i).2.1 (h2 i hi)
    obtain ⟨F2, k1, k2, k3, k3', k4, k5, k6, k7⟩ := freezeAll_ok g1 hall
    have hfz : freezeAll (r :: l) st = freezeAll l (st.freeze r) := rfl
    rw [hfz]
    obtain ⟨_, _, n1, n2, n3⟩ := freeze_get st r 0
    refine ⟨F2, k1, fun k hk => k2 k (g2 k hk), fun k hk => ?_, fun k hk => ?_, k4.trans n1, k5.trans n2, k6.trans n3, fun i hi => freeze_own r i (k7 i hi)⟩
    rotate_left
    · rcases k3' k hk with hk | ⟨i, hi, hi2, hi3, hi4⟩
      · exact FP.sub (fun i hi => by simp at hi; simp [hi]) k (g4 k hk)
      · exact .inr ⟨i, List.mem_cons_of_mem _ hi, by rw [← n1]; exact hi2, freeze_own r i hi3, hi4⟩
    rcases hk with hk | ⟨i, hi, hi2, hi3, hi4⟩
    · exact k2 k (g2 k hk)
    · by_cases hir : i = r
      · subst hir
        exact k2 k (g3 k (.inr ⟨i, by simp, hi2, hi3, hi4⟩))
      · rcases List.mem_cons.1 hi with rfl | hi
        · exact absurd rfl hir
        · refine k3 k (.inr ⟨i, hi, by rw [n1]; exact hi2, ?_, hi4⟩)
          rw [(freeze_get st r i).1 hir]; exact hi3

/-- An object has its own again. -/
theorem revive (hI : Inv E M0 w0 c st w) {r : Nat} {ob : Ob} {bl : List Nat} (hr : r < st.n) (hob : ObOK E c w r ob) (hf : Owns c r ob → c.loc r ∈ bl ∧ Free M0 w0 c st w (c.loc r)) : Bound E M0 w0 c st w bl c (st.setO r ob) := by
  have hset : ∀ i, i ≠ r → (st.setO r ob).o i = st.o i := fun i hi => upd_ne _ _ hi
  have hsetr : (st.setO r ob).o r = ob := upd_self _ _ _
  refine ⟨Ctx.Le.refl c, rfl, ⟨hI.n, fun i hi => ?_, fun i hi => ?_, fun i j hi hj oi oj e => ?_, fun i hi ho => ?_, hI.F, hI.one, hI.same, hI.bnd⟩, rfl, rfl, Nat.le_refl _, fun i hi ho => ?_⟩
  · by_cases h : i = r
    · subst h; rw [hsetr]; exact hob
    · rw [hset i h]; exact hI.obs i hi
  · have hi' : st.n ≤ i := hi
    rw [hset i (by omega)]; exact hI.dead i hi'
  · by_cases h : i = r
    · by_cases h' : j = r
      · rw [h, h']
      · subst h
        rw [hsetr] at oi
        rw [hset j h'] at oj
        exact absurd e.symm ((hf oi).2.2.2.2 j hj oj)
    · rw [hset i h] at oi
      by_cases h' : j = r
      · subst h'
        rw [hsetr] at oj
        exact absurd e ((hf oj).2.2.2.2 i hi oi)
      · rw [hset j h'] at oj
        exact hI.inj i j hi hj oi oj e
  · by_cases h : i = r
    · subst h
      rw [hsetr] at ho
      obtain ⟨f1, f2, f3, _⟩ := (hf ho).2
      exact ⟨f1, f2, f3⟩
    · rw [hset i h] at ho
      exact hI.own i hi ho
  · by_cases h : i = r
    · subst h
      rw [hsetr] at ho
      exact .inr (hf ho).1
    · rw [hset i h] at ho
      exact .inl ⟨hi, ho⟩
theorem Bound.widen {b b' : List Nat} {c' : Ctx} (h : Bound E M0 w0 c st w b c' st') (hs : ∀ l ∈ b, l ∈ b') : Bound E M0 w0 c st w b' c' st' :=
  ⟨h.le, h.F, h.inv, h.s, h.N, h.n, fun i hi ho => (h.own i hi ho).imp id (hs _)⟩
/-- What the rows of a state say of their places. -/
def Olds (E : Env) (c : Ctx) (st0 : St) : Prop := ∀ r e xs, st0.o r = .row e xs true → c.sz r = (E.ty e).size ∧ ∀ A n k, c.val r = .slice A n k → k ≠ 0 → ∃ o, A = some ⟨c.loc r, o, none⟩
theorem Inv.olds (hI : Inv E M0 w0 c st w) : Olds E c st := by
  intro r e xs ho
  have hr : r < st.n := by
    by_cases h : r < st.n
    · exact h
    · rw [hI.dead r (by omega)] at ho; cases ho
  have hob := hI.obs r hr
  rw [ho] at hob
  obtain ⟨h1, h2, h3, h4, h5, h6⟩ := hob
  refine ⟨h1, fun A n k hv hk => ?_⟩
  obtain ⟨o, _, _, _, e1, _⟩ := h6 A n k hv hk
  exact ⟨o, e1⟩
theorem Olds.mono {c' : Ctx} {st0 : St} (h : Olds E c st0) (hle : c.Le c') (hn : ∀ r e xs, st0.o r = .row e xs true → r < c.n) : Olds E c' st0 := by
  intro r e xs ho
  have hr := hn r e xs ho
  obtain ⟨h1, h2⟩ := h r e xs ho
  rw [hle.sz r hr, hle.val r hr, hle.loc r hr]
  exact ⟨h1, h2⟩
theorem regain_ok (hI : Inv E M0 w0 c st w) {st0 st1 : St} {s : SV} {v : Value} {x : X} {b : List Nat} (h0 : Olds E c st0) (hr : Rel c w s v) (hx : XV E c.F w x v b) (hn : b.Nodup) (hf : ∀ k ∈ b, Free M0 w0 c st w k) (h : st.regain st0 s (some x) = some st1) : ∃ c', Bound E M0 w0 c st w b c' st1 := by
  unfold St.regain at h
  split at h
  · cases ‹some x = none›
  · rename_i r e xs heq
    obtain rfl := Option.some.inj heq
    split at h
    · rename_i e' ys ho
      split at h
      · rename_i hee
        subst hee
        obtain rfl := Option.some.inj h
        cases hr with
        | row _ hrn =>
          obtain ⟨o1, o2⟩ := h0 r e' ys ho
          cases hx with
          | @row _ _ _ l hx =>
            have hll : capV (c.val r) ≠ 0 → l = c.loc r := by
              intro hk
              obtain ⟨h1, ⟨A, k, hv, h2⟩, _, _, h5⟩ := hx
              rw [hv] at hk
              obtain ⟨o, _, _, _, e1, _⟩ := h5 A _ k hv hk
              obtain ⟨o', e2⟩ := o2 A _ k hv hk
              rw [e1] at e2
              injection e2 with e2
              injection e2 with e2
            refine ⟨c, revive hI (by rw [← hI.n]; exact hrn) (obOK_row.2 ⟨o1, ?_⟩) (fun ho' => ?_)⟩
            · by_cases hk : capV (c.val r) = 0
              · obtain ⟨h1, h2, h3, h4, h5⟩ := hx
                refine ⟨h1, h2, h3, h4, fun A n k hv hk' => ?_⟩
                rw [hv] at hk; exact absurd hk hk'
              · rw [← hll hk]; exact hx
            · obtain ⟨A, n, k, hv, hk⟩ := ho'
              have hk' : capV (c.val r) ≠ 0 := by rw [hv]; exact hk
              have hl := hll hk'
              subst hl
              have hm : c.loc r ∈ ownL (c.val r) (c.loc r) := by simp [ownL, hk']
              exact ⟨hm, hf _ hm⟩
      · cases h
    · cases h
  · obtain rfl := Option.some.inj h
    exact ⟨c, .refl hI _⟩
  · rename_i bx ty xs heq
    obtain rfl := Option.some.inj heq
    split at h <;> try (cases h; done)
    obtain rfl := Option.some.inj h
    cases hr with
    | ptr _ _ hb =>
      cases hx with
      | @ref _ _ _ vs bb hh hx =>
        obtain ⟨hn1, hn2⟩ := List.nodup_cons.1 hn
        obtain ⟨c1, b1, l1, o1, r1⟩ := bindCells_ok hI hx hn2 (fun k hk => hf k (List.mem_cons_of_mem _ hk))
        have hfl := b1.free hI (hf (c.loc bx) (by simp)) hn1
        have hloc := b1.le.loc bx hb
        have hbn : bx < (st.bindCells xs).2.n := Nat.lt_of_lt_of_le (by rw [← hI.n]; exact hb) b1.n
        refine ⟨c1, b1.trans (revive (bl := [c.loc bx]) b1.inv hbn ⟨vs, by rw [hloc]; exact hh, by simpa using l1.symm, o1, fun j s v hs hv => r1 j s v hs (by simpa using hv)⟩ (fun _ => ?_)) (fun k hk => List.mem_cons_of_mem _ hk) (fun k hk => by simp at hk; simp [hk])⟩
        rw [hloc]
        exact ⟨by simp, hfl⟩
  · cases h
theorem regainAll_ok : ∀ {ss : List SV} {c : Ctx} {st st0 st1 : St} {vs : List Value} {xs : List (Option X)} {b : List Nat}, Inv E M0 w0 c st w → Olds E c st0 → (∀ r e xs, st0.o r = .row e xs true → r < c.n) → vs.length = ss.length → (∀ (i : Nat) s v, ss[i]? = some s → vs[i]? = some v → Rel c w s v) → XOs E c.F w xs vs b → b.Nodup → (∀ k ∈ b, Free M0 w0 c st w k) →
    st.regainAll st0 ss xs = some st1 → ∃ c', Bound E M0 w0 c st w b c' st1
  | [], c, st, st0, st1, vs, xs, b, hI, h0, hc, hl, hr, hx, hn, hf, h => by
    cases xs with
    | nil =>
      simp only [St.regainAll, Option.some.injEq] at h
      subst h
      exact ⟨c, .refl hI _⟩
    | cons x xs => simp [St.regainAll] at h
  | s :: r, c, st, st0, st1, vs, xs, b, hI, h0, hc, hl, hr, hx, hn, hf, h => by
    cases xs with
    | nil => simp [St.regainAll] at h
    | cons x xs =>
      cases vs with
      | nil => simp at hl
      | cons v vs =>
        simp only [St.regainAll] at h
        split at h
        · rename_i st2 h1
          have hl' : vs.length = r.length := by simpa using hl
          cases hx with
          | @some x _ b _ _ bs hx1 hx2 =>
            obtain ⟨hn1, hn2, hn3⟩ := List.nodup_append.1 hn
            obtain ⟨c1, b1⟩ := regain_ok hI h0 (hr 0 s v rfl rfl) hx1 hn1 (fun k hk => hf k (List.mem_append_left _ hk)) h1
            have hx2' : XOs E c1.F w xs vs bs := by rw [b1.F]; exact hx2
            obtain ⟨c2, b2⟩ := regainAll_ok b1.inv (h0.mono b1.le hc) (fun r e xs ho => Nat.lt_of_lt_of_le (hc r e xs ho) b1.le.n) hl' (fun i s v hs hv => (hr (i + 1) s v (by simpa using hs) (by simpa using hv)).mono b1.le (fun _ _ => rfl)) hx2' hn2 (fun k hk => b1.free hI (hf k (List.mem_append_right _ hk)) (fun hk' => hn3 k hk' k hk rfl)) h
            exact ⟨c2, b1.trans b2 (fun l hl => List.mem_append_left _ hl) (fun l hl => List.mem_append_right _ hl)⟩
          | none hx2 =>
            have : st.regain st0 s none = some st := by cases s <;> rfl
            rw [this] at h1
            obtain rfl := Option.some.inj h1
            exact regainAll_ok hI h0 hc hl' (fun i s v hs hv => hr (i + 1) s v (by simpa using hs) (by simpa using hv)) hx2 hn hf h
        · cases h
end
end Go.Ev
/- A call, seen by its caller. -/
set_option linter.unusedSimpArgs false
set_option linter.unusedVariables false
namespace Go.Ev

def resV : List Value → Value
  | [u] => u
  | us => .tuple us.toArray
/-- How a call of f goes: entered, or answered at once. -/
def Goes (P : Program) (f : Nat) (vals : Array Value) (w : World) (R : Ending → World → Prop) : Prop :=
  ((callFunc f vals).run P w = .ok (.enter f vals) w ∧ Calls P f vals w R) ∨ ∃ v w', (callFunc f vals).run P w = .ok (.value v) w' ∧ R (.returned v) w'
def Leaves (E : Env) (F : Nat → Prop) (w : World) (bl : List Nat) (mv : List Value) (rs : List X) (bs : List (Option X)) (us : List Value) (w' : World) : Prop :=
  ∃ (F' : Nat → Prop) (br bb : List Nat), Same w w' (fun k => k ∈ bl) ∧ (∀ k, F k → F' k) ∧ (∀ k, F' k → F k ∨ k ∈ bl ∨ w.heap.size ≤ k) ∧ (∀ k, F' k → k < w'.heap.size) ∧ XVs E F' w' rs us br ∧ XOs E F' w' bs mv bb ∧ (br ++ bb).Nodup ∧
    ∀ k ∈ br ++ bb, k < w'.heap.size ∧ ¬ F' k ∧ (k ∈ bl ∨ w.heap.size ≤ k)
/-- What is said of a call. -/
def CallOK (E : Env) (P : Program) (f : Nat) (args rs : List X) (bs : List (Option X)) : Prop :=
  (E.flat f = true → X.flats rs = true ∧ backFlat bs = true ∧ X.quiets rs = true) ∧ ∀ (F : Nat → Prop) (w : World) (vals : Array Value) (bl : List Nat), XVs E F w args vals.toList bl → bl.Nodup → (∀ k ∈ bl, k < w.heap.size ∧ ¬ F k) → (∀ k, F k → k < w.heap.size) →
    Goes P f vals w (fun e w' => ∃ us, e = .returned (resV us) ∧ Leaves E F w bl (muts (E.md f) vals.toList) rs bs us w')

section
variable {E : Env} {P : Program} {M0 : Nat → Prop} {w0 : World} {c : Ctx} {st st' : St} {a : Act} {w w' : World}

theorem Goes.mono {f : Nat} {vals : Array Value} {R R' : Ending → World → Prop} (h : Goes P f vals w R) (hr : ∀ e w', R e w' → R' e w') : Goes P f vals w R' := by
  rcases h with ⟨h1, h2⟩ | ⟨v, w', h1, h2⟩
  · exact .inl ⟨h1, h2.mono hr⟩
  · exact .inr ⟨v, w', h1, hr _ _ h2⟩
theorem flats_mem : ∀ {l : List T}, T.flats l = true → ∀ x ∈ l, x.flat = true
  | [], _, x, hx => by simp at hx
  | y :: r, h, x, hx => by
    simp only [T.flats, Bool.and_eq_true] at h
    rcases List.mem_cons.1 hx with rfl | hx
    · exact h.1
    · exact flats_mem h.2 x hx
theorem flat_cells {t : T} (h : t.flat = true) : ∀ y ∈ t.cells, y.flat = true := by
  cases t with
  | agg cs =>
    have h' : T.flats cs = true := by simpa [T.flat] using h
    exact fun y hy => flats_mem h' y hy
  | _ => intro y hy; simp [T.cells] at hy; subst hy; exact h
theorem RowV.flat {F F' : Nat → Prop} {e l : Nat} {xs : List T} {v : Value} (h : RowV E F w e xs v l) (hf : T.flats xs = true) : RowV E F' w e xs v l := by
  obtain ⟨h1, h2, h3, h4, h5⟩ := h
  refine ⟨h1, h2, h3, h4, fun A n k hv hk => ?_⟩
  obtain ⟨o, vs, lo, hi, e1, e2, e3, e4, e5⟩ := h5 A n k hv hk
  refine ⟨o, vs, lo, hi, e1, e2, e3, e4, fun j x t y hx hy => ?_⟩
  obtain ⟨u, u1, u2⟩ := e5 j x t y hx hy
  exact ⟨u, u1, u2.flat (flat_cells (flats_mem hf x (List.mem_of_getElem? hx)) y (List.mem_of_getElem? hy))⟩
theorem XC.flat {F F' : Nat → Prop} {x : X} {v : Value} {b : List Nat} (h : XC E F w x v b) (hf : x.flat = true) : XC E F' w x v b := by
  cases h with
  | t h h1 => exact .t (h.flat (by simpa [X.flat] using hf)) h1
  | nil A => exact .nil A
  | row h => exact .row (h.flat (by simpa [X.flat] using hf))
theorem XCs.flat {F F' : Nat → Prop} {xs : List X} {vs : List Value} {b : List Nat} (h : XCs E F w xs vs b) (hf : X.flats xs = true) : XCs E F' w xs vs b := by
  induction h with
  | nil => exact .nil
  | cons h r ih =>
    simp only [X.flats, Bool.and_eq_true] at hf
    exact .cons (h.flat hf.1) (ih hf.2)
theorem XV.flat {F F' : Nat → Prop} {x : X} {v : Value} {b : List Nat} (h : XV E F w x v b) (hf : x.flat = true) : XV E F' w x v b := by
  cases h with
  | t h => exact .t (h.flat (by simpa [X.flat] using hf))
  | nil A => exact .nil A
  | row h => exact .row (h.flat (by simpa [X.flat] using hf))
  | agg h => exact .agg (h.flat (by simpa [X.flat] using hf))
  | ref hh h => exact .ref hh (h.flat (by simpa [X.flat] using hf))
  | dref h => simp [X.flat] at hf
  | fn hl h => simp [X.flat] at hf
theorem XVs.flat {F F' : Nat → Prop} {xs : List X} {vs : List Value} {b : List Nat} (h : XVs E F w xs vs b) (hf : X.flats xs = true) : XVs E F' w xs vs b := by
  induction h with
  | nil => exact .nil
  | cons h r ih =>
    simp only [X.flats, Bool.and_eq_true] at hf
    exact .cons (h.flat hf.1) (ih hf.2)
theorem XOs.flat {F F' : Nat → Prop} {xs : List (Option X)} {vs : List Value} {b : List Nat} (h : XOs E F w xs vs b) (hf : backFlat xs = true) : XOs E F' w xs vs b := by
  induction h with
  | nil => exact .nil
  | some h r ih =>
    simp only [backFlat, Bool.and_eq_true] at hf
    exact .some (h.flat hf.1) (ih hf.2)
  | none r ih => exact .none (ih (by simpa [backFlat] using hf))
theorem XOs.mono {F F' : Nat → Prop} {xs : List (Option X)} {vs : List Value} {b : List Nat} (h : XOs E F w xs vs b) (hF : ∀ k, F k → F' k) : XOs E F' w xs vs b := by
  induction h with
  | nil => exact .nil
  | some h r ih => exact .some (h.mono hF (fun _ _ => rfl) (fun _ _ => rfl)) ih
  | none r ih => exact .none ih

theorem muts_rel : ∀ {md : List Bool} {ss : List SV} {vs : List Value}, vs.length = ss.length → (∀ (i : Nat) s v, ss[i]? = some s → vs[i]? = some v → Rel c w s v) →
    (muts md vs).length = (muts md ss).length ∧ ∀ (i : Nat) s v, (muts md ss)[i]? = some s → (muts md vs)[i]? = some v → Rel c w s v
  | md, [], vs, hl, hr => by
    obtain rfl : vs = [] := List.eq_nil_of_length_eq_zero hl
    have h1 : muts md ([] : List SV) = [] := by cases md <;> rfl
    have h2 : muts md ([] : List Value) = [] := by cases md <;> rfl
    rw [h1, h2]
    exact ⟨rfl, fun i s v hs => by simp at hs⟩
  | md, s :: r, vs, hl, hr => by
    cases vs with
    | nil => simp at hl
    | cons v vs =>
      obtain ⟨g1, g2⟩ := muts_rel (md := md.tail) (vs := vs) (by simpa using hl) (fun i s v hs hv => hr (i + 1) s v (by simpa using hs) (by simpa using hv))
      cases hm : md.headD false with
      | true =>
        have e1 : muts md (s :: r) = s :: muts md.tail r := by simp only [muts, hm, if_true]
        have e2 : muts md (v :: vs) = v :: muts md.tail vs := by simp only [muts, hm, if_true]
        rw [e1, e2]
        refine ⟨by simp [g1], fun i s' v' hs hv => ?_⟩
        cases i with
        | zero => simp at hs hv; subst hs; subst hv; exact hr 0 _ _ rfl rfl
        | succ i => exact g2 i s' v' (by simpa using hs) (by simpa using hv)
      | false =>
        have e1 : muts md (s :: r) = muts md.tail r := by simp only [muts, hm, Bool.false_eq_true, if_false]
        have e2 : muts md (v :: vs) = muts md.tail vs := by simp only [muts, hm, Bool.false_eq_true, if_false]
        rw [e1, e2]
        exact ⟨g1, g2⟩

theorem tup_rel {ss : List SV} {us : List Value} (hl : ss.length = us.length) (hr : ∀ (i : Nat) s v, ss[i]? = some s → us[i]? = some v → Rel c w s v) : Rel c w (tupOf ss) (resV us) := by
  match ss, us, hl with
  | [s], [u], _ => exact hr 0 s u rfl rfl
  | [], [], _ => exact .tup [] #[] rfl (fun i s v hs => by simp at hs)
  | s :: s' :: r, u :: u' :: q, hl =>
    refine .tup _ _ (by simpa using hl) (fun i s v hs hv => hr i s v hs (by simpa using hv))

/-- The caller behind the call: what was handed over is gone, what was looked at is frozen. -/
theorem mid_ok (hI : Inv E M0 w0 c st w) {g : Nat} {vs : List SV} {F' : Nat → Prop} {st0 : St} (hd : ∀ i ∈ st.roAll (ros (E.md g) vs), i ∉ st.mutAll (muts (E.md g) vs)) (hm : callMid E st g vs = some st0)
    (hs : Same w w' (fun k => k ∈ bids c st (st.mutAll (muts (E.md g) vs)))) (hF1 : ∀ k, FP c st (st.roAll (ros (E.md g) vs)) k → F' k) (hF2 : ∀ k, F' k → FP c st (st.roAll (ros (E.md g) vs)) k ∨ k ∈ bids c st (st.mutAll (muts (E.md g) vs)) ∨ w.heap.size ≤ k) (hF3 : ∀ k, F' k → k < w'.heap.size) :
    ∃ F2, Inv E M0 w0 (c.withF F2) st0 w' ∧ (∀ k, c.F k → F2 k) ∧ (∀ k, F2 k → F' k) ∧ (E.flat g = false → ∀ k, F' k → F2 k) ∧ st0.n = st.n ∧ st0.s = st.s ∧ st0.N = st.N ∧ (∀ i, Owns c i (st0.o i) → Owns c i (st.o i) ∧ i ∉ st.mutAll (muts (E.md g) vs)) := by
  generalize hmi : st.mutAll (muts (E.md g) vs) = mi at *
  generalize hri : st.roAll (ros (E.md g) vs) = ri at *
  have hbl : ∀ k ∈ bids c st mi, ∃ i ∈ mi, i < st.n ∧ Owns c i (st.o i) ∧ k = c.loc i := fun k hk => bids_mem hI hk
  have hkown : ∀ i, Owns c i ((kill mi st).o i) → Owns c i (st.o i) ∧ i ∉ mi := by
    intro i hi
    rw [kill_get] at hi
    split at hi
    · exact hi.elim
    · rename_i h; exact ⟨hi, h⟩
  obtain ⟨kn, ks, kN⟩ := kill_rest mi st
  have hnot : ∀ i, i < st.n → Owns c i (st.o i) → i ∉ mi → c.loc i ∉ bids c st mi := by
    intro i hi ho hni hk
    obtain ⟨j, hj, j1, j2, j3⟩ := hbl _ hk
    have := hI.inj i j hi j1 ho j2 j3
    subst this
    exact hni hj
  have hstk : Inv E M0 w0 c (kill mi st) w' := by
    refine (hI.kill mi).world hs (fun k hk => ?_) (fun i hi ho => ?_)
    · obtain ⟨i, _, i1, i2, rfl⟩ := hbl k hk
      exact (hI.own i i1 i2).2
    · obtain ⟨o1, o2⟩ := hkown i ho
      exact hnot i (by rw [← kn]; exact hi) o1 o2
  unfold callMid at hm
  rw [hmi, hri] at hm
  split at hm
  · rename_i hfl
    obtain rfl := Option.some.inj hm
    exact ⟨c.F, hstk, fun _ h => h, fun k hk => hF1 k (.inl hk), fun h => by simp [hfl] at h, kn, ks, kN, hkown⟩
  · split at hm
    · rename_i hall
      obtain rfl := Option.some.inj hm
      obtain ⟨F1, f1, f2, f3, f3', f4, f5, f6, f7⟩ := freezeAll_ok hstk hall
      have hF1up : ∀ k, F1 k → FP c st ri k := by
        intro k hk
        rcases f3' k hk with hk | ⟨i, hi, h1, h2, h3⟩
        · exact .inl hk
        · exact .inr ⟨i, hi, by rw [← kn]; exact h1, (hkown i h2).1, h3⟩
      have hown0 : ∀ i, Owns c i ((freezeAll ri (kill mi st)).o i) → Owns c i (st.o i) ∧ i ∉ mi := fun i hi => hkown i (f7 i hi)
      refine ⟨fun k => F1 k ∨ F' k, ?_, fun k hk => .inl (f2 k hk), fun k hk => hk.elim (fun h => hF1 k (hF1up k h)) id, fun _ k hk => .inr hk, f4.trans kn, f5.trans ks, f6.trans kN, hown0⟩
      have hmore := f1.moreF (F := fun k => F1 k ∨ F' k) (fun k hk => .inl hk) (fun k hk => ?_) (fun i hi ho hk => ?_)
      · exact hmore
      · have hb : ∀ k, FP c st ri k → c.F0 k ∨ M0 k ∨ w0.heap.size ≤ k := by
          intro k hk
          rcases hk with hk | ⟨i, _, h1, h2, rfl⟩
          · exact hI.bnd k hk
          · exact .inr (hI.own i h1 h2).2.2
        rcases hk with hk | hk
        · exact ⟨f1.F k hk, f1.bnd k hk⟩
        · refine ⟨hF3 k hk, ?_⟩
          rcases hF2 k hk with h | h | h
          · exact hb k h
          · obtain ⟨i, _, i1, i2, rfl⟩ := hbl k h
            exact .inr (hI.own i i1 i2).2.2
          · exact .inr (.inr (Nat.le_trans hI.same.size h))
      · have hi' : i < st.n := by rw [← kn, ← f4]; exact hi
        obtain ⟨o1, o2⟩ := hown0 i ho
        obtain ⟨_, l2, _⟩ := f1.own i hi ho
        rcases hk with hk | hk
        · exact l2 hk
        · rcases hF2 _ hk with h | h | h
          · rcases h with h | ⟨j, hj, j1, j2, j3⟩
            · exact l2 (f2 _ h)
            · have := hI.inj i j hi' j1 o1 j2 j3
              subst this
              refine l2 (f3 _ (.inr ⟨i, hj, by rw [kn]; exact hi', ?_, rfl⟩))
              rw [kill_get, if_neg o2]; exact o1
          · exact hnot i hi' o1 o2 h
          · have h' : w.heap.size ≤ c.loc i := h
            have := (hI.own i hi' o1).1
            omega
    · cases hm

theorem call_ok (hI : Inv E M0 w0 c st w) {f : SV} {vs : List SV} {fv : Value} {us : List Value} {g : Nat} {xs rs : List X} {bs : List (Option X)} {r : SV} {st1 : St} (hf : Rel c w f fv) (hl : us.length = vs.length) (hr : ∀ (i : Nat) s v, vs[i]? = some s → us[i]? = some v → Rel c w s v)
    (hp : callPrep E st f vs = some (g, xs)) (hc : CallOK E P g xs rs bs) (hb : callBack E st f vs rs bs = some (r, st1)) :
    ∃ caps : Array Value, fv = .func (.func g) #[] caps ∧ Goes P g (us.toArray ++ caps) w (fun e w' => ∃ u, e = .returned u ∧ ∃ c', Step E M0 w0 c st w r st1 c' u w') := by
  unfold callPrep at hp
  split at hp
  · rename_i g' caps
    split at hp
    · rename_i hcond
      obtain ⟨hnd, hdis⟩ := hcond
      simp only [Option.map_eq_some_iff, Prod.mk.injEq] at hp
      obtain ⟨xs', hgive, rfl, rfl⟩ := hp
      cases hf with
      | fn _ _ cvs hcl hcr =>
        refine ⟨cvs, rfl, ?_⟩
        have hall : (us.toArray ++ cvs).toList = us ++ cvs.toList := by simp
        have hlen : (us ++ cvs.toList).length = (vs ++ caps).length := by simp [hl, hcl]
        have hrel : ∀ (i : Nat) s v, (vs ++ caps)[i]? = some s → (us ++ cvs.toList)[i]? = some v → Rel c w s v := by
          intro i s v hs hv
          rw [List.getElem?_append] at hs hv
          rw [hl] at hv
          split at hs
          · rename_i hi; rw [if_pos hi] at hv; exact hr i s v hs hv
          · rename_i hi; rw [if_neg hi] at hv; exact hcr _ s v hs (by simpa using hv)
        have hgx := give_ok hI (ids := st.roAll (ros (E.md g') (vs ++ caps))) hgive hlen hrel (fun _ h => h)
        have hbl : ∀ k ∈ bids c st (st.mutAll (muts (E.md g') (vs ++ caps))), ∃ i ∈ st.mutAll (muts (E.md g') (vs ++ caps)), i < st.n ∧ Owns c i (st.o i) ∧ k = c.loc i := fun k hk => bids_mem hI hk
        have hFP : ∀ k, FP c st (st.roAll (ros (E.md g') (vs ++ caps))) k → k < w.heap.size := by
          intro k hk
          rcases hk with hk | ⟨i, _, h1, h2, rfl⟩
          · exact hI.F k hk
          · exact (hI.own i h1 h2).1
        obtain ⟨hcf, hco⟩ := hc
        have hgo := hco (FP c st (st.roAll (ros (E.md g') (vs ++ caps)))) w (us.toArray ++ cvs) (bids c st (st.mutAll (muts (E.md g') (vs ++ caps)))) (by rw [hall]; exact hgx) (bids_nodup hI hnd) (fun k hk => by
          obtain ⟨i, i0, i1, i2, rfl⟩ := hbl k hk
          obtain ⟨l1, l2, l3⟩ := hI.own i i1 i2
          refine ⟨l1, fun hk => ?_⟩
          rcases hk with hk | ⟨j, j0, j1, j2, j3⟩
          · exact l2 hk
          · have := hI.inj i j i1 j1 i2 j2 j3
            subst this
            exact hdis i j0 i0) hFP
        refine hgo.mono ?_
        rintro e w' ⟨rus, rfl, F', br, bb, s1, s2, s3, s4, s5, s6, s7, s8⟩
        refine ⟨_, rfl, ?_⟩
        unfold callBack at hb
        simp only at hb
        split at hb
        · cases hb
        · rename_i st0 hmid
          split at hb
          · cases hb
          · rename_i st2 hreg
            simp only [Option.some.injEq, Prod.mk.injEq] at hb
            obtain ⟨rfl, rfl⟩ := hb
            obtain ⟨F2, m1, m2, m3, m4, m5, m6, m7, m8⟩ := mid_ok hI hdis hmid s1 s2 s3 s4
            have hkeep : ∀ k, c.F k → w'.heap[k]? = w.heap[k]? := fun k hk => s1.blk k (hI.F k hk) (fun hk' => by
              obtain ⟨i, _, i1, i2, rfl⟩ := hbl k hk'
              exact (hI.own i i1 i2).2.1 hk)
            have hle : c.Le (c.withF F2) := Ctx.le_withF m2
            -- what comes, in the caller's reading
            have hrs : XVs E F2 w' rs rus br := by
              cases hfl : E.flat g' with
              | true => exact s5.flat (hcf hfl).1
              | false => exact s5.mono (m4 hfl) (fun _ _ => rfl) (fun _ _ => rfl)
            have hbs : XOs E F2 w' bs (muts (E.md g') (us ++ cvs.toList)) bb := by
              rw [hall] at s6
              cases hfl : E.flat g' with
              | true => exact s6.flat (hcf hfl).2.1
              | false => exact s6.mono (m4 hfl)
            obtain ⟨nd1, nd2, nd3⟩ := List.nodup_append.1 s7
            have hfree : ∀ k ∈ br ++ bb, Free M0 w0 (c.withF F2) st0 w' k := by
              intro k hk
              obtain ⟨k1, k2, k3⟩ := s8 k hk
              refine ⟨k1, fun h => k2 (m3 k h), ?_, fun i hi ho e => ?_⟩
              · rcases k3 with h | h
                · obtain ⟨i, _, i1, i2, rfl⟩ := hbl k h
                  exact (hI.own i i1 i2).2.2
                · exact .inr (Nat.le_trans hI.same.size h)
              · have hi' : i < st.n := by rw [← m5]; exact hi
                obtain ⟨o1, o2⟩ := m8 i (ho.mono hle (by rw [hI.n]; exact hi'))
                have e' : c.loc i = k := e
                rcases k3 with h | h
                · obtain ⟨j, j0, j1, j2, j3⟩ := hbl k h
                  have := hI.inj i j hi' j1 o1 j2 (e'.trans j3)
                  subst this
                  exact o2 j0
                · have := (hI.own i hi' o1).1
                  omega
            obtain ⟨q1, q2⟩ := muts_rel (md := E.md g') hlen hrel
            have hrows : ∀ r e xs, st.o r = .row e xs true → r < c.n := by
              intro r e xs ho
              rw [hI.n]
              by_cases h : r < st.n
              · exact h
              · rw [hI.dead r (by omega)] at ho; cases ho
            obtain ⟨c2, b2⟩ := regainAll_ok (c := c.withF F2) (st := st0) (st0 := st) m1 (hI.olds.mono hle hrows) hrows q1 (fun i s v hs hv => (q2 i s v hs hv).mono hle hkeep) hbs nd2 (fun k hk => hfree k (List.mem_append_right _ hk)) hreg
            have hrs2 : XVs E c2.F w' rs rus br := by rw [b2.F]; exact hrs
            obtain ⟨c3, b3, l3, r3⟩ := bindAll_ok b2.inv hrs2 nd1 (fun k hk => b2.free m1 (hfree k (List.mem_append_left _ hk)) (fun hk' => nd3 k hk k hk' rfl))
            exact ⟨c3, (hle.trans b2.le).trans b3.le, b3.inv, hkeep, b3.s.trans (b2.s.trans m6), b3.N.trans (b2.N.trans m7), tup_rel l3 r3⟩
    · cases hp
  · cases hp
end
end Go.Ev
/- An operation looks at no other slots than its own. -/
set_option linter.unusedSimpArgs false
set_option linter.unusedVariables false
namespace Go.Ev

/-- Other slots. -/
def St.ss (st : St) (s : Nat → SV) : St := { st with s := s }
def onSt {α : Type} (s : Nat → SV) (p : α × St) : α × St := (p.1, p.2.ss s)
section
variable (E : Env) (st : St) (s : Nat → SV)
theorem ss_peek1 (v : SV) : (st.ss s).peek1 v = st.peek1 v := by cases v <;> rfl
theorem ss_peekL : ∀ (l : List SV), (st.ss s).peekL l = st.peekL l
  | [] => rfl
  | v :: r => by simp only [St.peekL, ss_peek1, ss_peekL r]
theorem ss_peek (v : SV) : (st.ss s).peek v = st.peek v := by
  cases v <;> simp only [St.peek, ss_peek1, ss_peekL]
theorem ss_elems (v : SV) : (st.ss s).elems v = st.elems v := by simp only [St.elems, ss_peek1]
theorem ss_alloc (ob : Ob) : (st.ss s).alloc ob = (st.alloc ob).ss s := rfl
theorem ss_setO (i : Nat) (ob : Ob) : (st.ss s).setO i ob = (st.setO i ob).ss s := rfl
theorem ss_freeze (r : Nat) : (st.ss s).freeze r = (st.freeze r).ss s := by
  unfold St.freeze
  have ho : (st.ss s).o r = st.o r := rfl
  rw [ho]
  cases st.o r <;> rfl
theorem ss_absorb1 (v : SV) : (st.ss s).absorb1 v = (st.absorb1 v).map (onSt s) := by
  unfold St.absorb1
  rw [ss_peek1]
  cases st.peek1 v with
  | none => rfl
  | some t => cases v <;> simp [ss_freeze, onSt]
theorem ss_absorbL : ∀ (l : List SV) (st : St), (st.ss s).absorbL l = (st.absorbL l).map (onSt s)
  | [], st => rfl
  | v :: r, st => by
    simp only [St.absorbL, ss_absorb1]
    cases st.absorb1 v with
    | none => rfl
    | some p =>
      simp only [Option.map_some, onSt, ss_absorbL r p.2]
      cases p.2.absorbL r <;> rfl
theorem ss_absorb (v : SV) : (st.ss s).absorb v = (st.absorb v).map (onSt s) := by
  unfold St.absorb
  split
  · rw [ss_absorbL]
    cases st.absorbL _ <;> rfl
  · exact ss_absorb1 st s _
theorem ss_absorbAll : ∀ (l : List SV) (st : St), (st.ss s).absorbAll l = (st.absorbAll l).map (onSt s)
  | [], st => rfl
  | v :: r, st => by
    simp only [St.absorbAll, ss_absorb]
    cases st.absorb v with
    | none => rfl
    | some p =>
      simp only [Option.map_some, onSt, ss_absorbAll r p.2]
      cases p.2.absorbAll r <;> rfl
theorem ss_slen (v : SV) : (st.ss s).slen v = st.slen v := by cases v <;> rfl
theorem ss_part (t : Nat) (v : SV) (l h : Nat) : (st.ss s).part E t v l h = st.part E t v l h := by cases v <;> rfl
theorem ss_loadAt (t : Nat) (v : SV) : (st.ss s).loadAt E t v = st.loadAt E t v := by
  unfold St.loadAt
  split
  · rfl
  · cases v <;> rfl
theorem ss_indexAt (t : Nat) (v i : SV) : (st.ss s).indexAt E t v i = st.indexAt E t v i := by
  unfold St.indexAt
  split
  · split
    · rfl
    · cases v <;> rfl
  · rfl
theorem ss_base (e : Nat) (v : SV) : (st.ss s).base e v = (st.base e v).map (onSt s) := by
  unfold St.base
  cases v <;> try rfl
  · rename_i r
    dsimp only
    have ho : (st.ss s).o r = st.o r := rfl
    rw [ho]
    cases st.o r with
    | row e' xs live =>
      cases live with
      | false => rfl
      | true => dsimp only; split <;> rfl
    | _ => rfl
  · rename_i r lo hi
    dsimp only
    have ho : (st.ss s).o r = st.o r := rfl
    rw [ho]
    cases st.o r with
    | row e' xs live =>
      cases live with
      | false => rfl
      | true => dsimp only; split <;> rfl
    | _ => rfl
theorem ss_moreOf (v : SV) : (st.ss s).moreOf v = st.moreOf v := by
  unfold St.moreOf
  split
  · rfl
  · exact ss_elems st s _
theorem ss_fits (e : Nat) (v : SV) (ys : List T) : (st.ss s).fits E e v ys = st.fits E e v ys := by
  cases v <;> try rfl
theorem ss_append (sT xT : Nat) (v u : SV) : (st.ss s).append E sT xT v u = (st.append E sT xT v u).map (onSt s) := by
  unfold St.append
  split
  · rw [ss_moreOf, ss_base]
    cases st.moreOf u with
    | none => rfl
    | some ys =>
      cases st.base (E.ty sT).elem v with
      | none => rfl
      | some p =>
        simp only [Option.map_some, onSt, ss_fits]
        split <;> rfl
  · rfl
theorem ss_storeAt (t : Nat) (a v : SV) : (st.ss s).storeAt E t a v = (st.storeAt E t a v).map (fun st => st.ss s) := by
  unfold St.storeAt
  split
  · cases a <;> try rfl
    · rename_i b off
      dsimp only
      have ho : (st.ss s).o b = st.o b := rfl
      rw [ho]
      cases st.o b with
      | box ty cells => dsimp only; split <;> rfl
      | _ => rfl
    · rename_i r i off
      simp only [ss_absorbL]
      cases st.absorbL v.cells with
      | none => rfl
      | some p =>
        simp only [Option.map_some, onSt]
        have ho : (p.2.ss s).o r = p.2.o r := rfl
        rw [ho]
        cases p.2.o r with
        | row e xs live =>
          cases live with
          | false => rfl
          | true =>
            simp only
            cases xs[i]? with
            | none => rfl
            | some x => simp only; cases x.setCells off p.1 <;> rfl
        | _ => rfl
  · rfl
theorem ss_convert (a b : Nat) (v : SV) : (st.ss s).convert E a b v = (st.convert E a b v).map (onSt s) := by
  unfold St.convert
  split
  · rfl
  · rfl
  · split
    · split <;> rfl
    · rfl
  · rw [ss_elems]
    split
    · split <;> rfl
    · rfl
  · rfl
theorem ss_lenOf (t : Nat) (v : SV) : (st.ss s).lenOf E t v = st.lenOf E t v := by
  unfold St.lenOf
  split
  · rfl
  · exact ss_slen st s _
  · rfl
theorem ss_builtin (b : Builtin) (ts : List Nat) (vs : List SV) : (st.ss s).builtin E b ts vs = (st.builtin E b ts vs).map (onSt s) := by
  unfold St.builtin
  split
  · rw [ss_lenOf]
    cases st.lenOf E _ _ <;> rfl
  · exact ss_append E st s _ _ _ _
  · cases pickMin true _ _ <;> rfl
  · cases pickMin false _ _ <;> rfl
  · rfl
theorem ss_bin (eqT : Nat → List TK) (kT : Nat → TK) (op : BinOp) (t : Nat) (x y : SV) : (st.ss s).bin eqT kT op t x y = st.bin eqT kT op t x y := by
  unfold St.bin
  split <;> try rfl
  simp only [ss_peekL]

/-- What an operation looks at. -/
def reads1 : Operand → List Nat
  | .tmp i => [i]
  | _ => []
def readsO : Option Operand → List Nat
  | some x => reads1 x
  | none => []
def readsP (ps : List (Nat × Operand)) : List Nat := (ps.map fun p => reads1 p.2).flatten
def readsL (ps : List Operand) : List Nat := (ps.map reads1).flatten
def reads : Op → List Nat
  | .move x | .assign x => reads1 x
  | .pick c a b => reads1 c ++ (reads1 a ++ reads1 b)
  | .alloc _ => []
  | .box _ x => reads1 x
  | .build _ ps => readsP ps.toList
  | .buildSlice _ _ ps => readsP ps.toList
  | .load _ a => reads1 a
  | .store _ a x => reads1 a ++ reads1 x
  | .nilCheck x => reads1 x
  | .binOp _ _ x y _ => reads1 x ++ reads1 y
  | .unOp _ _ x => reads1 x
  | .convert _ _ x => reads1 x
  | .makeFunc _ _ caps => readsL caps.toList
  | .makeSlice _ l c => reads1 l ++ reads1 c
  | .slice _ x lo hi mx => reads1 x ++ (readsO lo ++ (readsO hi ++ readsO mx))
  | .fieldAddr _ x _ => reads1 x
  | .indexAddr _ x i => reads1 x ++ reads1 i
  | .field _ x _ => reads1 x
  | .index _ x i => reads1 x ++ reads1 i
  | .extract x _ => reads1 x
  | .call c => (match c.callee with
    | .value f => reads1 f
    | _ => []) ++ readsL c.args.toList
  | _ => []
variable {s}
theorem ss_val (x : Operand) (h : ∀ i ∈ reads1 x, s i = st.s i) : (st.ss s).val x = st.val x := by
  cases x with
  | tmp i =>
    have := h i (by simp [reads1])
    simp only [St.val, St.ss, this]
  | _ => rfl
theorem ss_boundOr (d : Nat) (x : Option Operand) (h : ∀ i ∈ readsO x, s i = st.s i) : (st.ss s).boundOr d x = st.boundOr d x := by
  cases x with
  | none => rfl
  | some x => simp only [St.boundOr, ss_val st x h]
theorem ss_vals (l : List Operand) (h : ∀ i ∈ readsL l, s i = st.s i) : l.map (st.ss s).val = l.map st.val := by
  refine List.map_congr_left (fun x hx => ss_val st x (fun i hi => h i ?_))
  exact List.mem_flatten.2 ⟨_, List.mem_map.2 ⟨x, hx, rfl⟩, hi⟩
theorem ss_valsP {α : Type} (f : Nat → SV → α) (l : List (Nat × Operand)) (h : ∀ i ∈ readsP l, s i = st.s i) : (l.map fun p => f p.1 ((st.ss s).val p.2)) = l.map fun p => f p.1 (st.val p.2) := by
  refine List.map_congr_left (fun p hp => ?_)
  rw [ss_val st p.2 (fun i hi => h i (List.mem_flatten.2 ⟨_, List.mem_map.2 ⟨p, hp, rfl⟩, hi⟩))]
theorem ss_op (op : Op) (h : ∀ i ∈ reads op, s i = st.s i) : (st.ss s).op E op = (st.op E op).map (onSt s) := by
  cases op with
  | move x | assign x => simp only [St.op, ss_val st x h, Option.map_some, onSt]
  | pick c a b =>
    simp only [reads, List.mem_append] at h
    simp only [St.op, ss_val st c (fun i hi => h i (.inl hi)), ss_val st a (fun i hi => h i (.inr (.inl hi))), ss_val st b (fun i hi => h i (.inr (.inr hi)))]
    split <;> rfl
  | alloc e => simp only [St.op]; split <;> rfl
  | box e x => simp only [St.op, ss_val st x h]; split <;> rfl
  | build t ps =>
    simp only [St.op, ss_valsP st (fun i v => (i, v)) ps.toList h]
    split
    · cases fillP _ _ _ _ <;> rfl
    · rfl
  | buildSlice t n ps =>
    simp only [St.op, ss_valsP st (fun _ v => v) ps.toList h, ss_absorbAll]
    split
    · cases st.absorbAll _ <;> rfl
    · rfl
  | load t a => simp only [St.op, ss_val st a h, ss_loadAt]; cases st.loadAt E t _ <;> rfl
  | store t a x =>
    simp only [reads, List.mem_append] at h
    simp only [St.op, ss_val st a (fun i hi => h i (.inl hi)), ss_val st x (fun i hi => h i (.inr hi)), ss_storeAt]
    cases st.storeAt E t _ _ <;> rfl
  | nilCheck x => simp only [St.op, ss_val st x h]; split <;> rfl
  | binOp op t x y z =>
    simp only [reads, List.mem_append] at h
    simp only [St.op, ss_val st x (fun i hi => h i (.inl hi)), ss_val st y (fun i hi => h i (.inr hi)), ss_bin]
    cases st.bin _ _ _ _ _ _ <;> rfl
  | unOp op t x => simp only [St.op, ss_val st x h]; cases un op _ <;> rfl
  | convert a b x => simp only [St.op, ss_val st x h, ss_convert]
  | makeFunc f fst caps =>
    cases f with
    | func g =>
      simp only [St.op, ss_vals st caps.toList h]
      split <;> rfl
    | _ => rfl
  | makeSlice t l c =>
    simp only [reads, List.mem_append] at h
    simp only [St.op, ss_val st l (fun i hi => h i (.inl hi)), ss_val st c (fun i hi => h i (.inr hi)), ss_peekL]
    split
    · split
      · split
        · split <;> rfl
        · rfl
      · rfl
    · rfl
  | slice t x lo hi mx =>
    simp only [reads, List.mem_append] at h
    have hv := ss_val st x (fun i hi => h i (.inl hi))
    have hm : ∀ m, mx = some m → (st.ss s).val m = st.val m := fun m e => ss_val st m (fun i hi => h i (.inr (.inr (.inr (by rw [e]; exact hi)))))
    have hlo : ∀ d, (st.ss s).boundOr d lo = st.boundOr d lo := fun d => ss_boundOr st d lo (fun i hi => h i (.inr (.inl hi)))
    have hhi : ∀ d, (st.ss s).boundOr d hi = st.boundOr d hi := fun d => ss_boundOr st d hi (fun i hi => h i (.inr (.inr (.inl hi))))
    have : (st.ss s).sliceAt E t (st.val x) lo hi mx = st.sliceAt E t (st.val x) lo hi mx := by
      unfold St.sliceAt
      simp only [hlo, hhi, ss_slen, ss_part]
      cases mx with
      | none => rfl
      | some m => simp only [hm m rfl]
    simp only [St.op, hv, this]
    cases st.sliceAt E t _ lo hi mx <;> rfl
  | fieldAddr t x f => simp only [St.op, ss_val st x h]; cases fieldAt E t _ f <;> rfl
  | indexAddr t x i =>
    simp only [reads, List.mem_append] at h
    simp only [St.op, ss_val st x (fun i hi => h i (.inl hi)), ss_val st i (fun i hi => h i (.inr hi)), ss_indexAt]
    cases st.indexAt E t _ _ <;> rfl
  | field t x f =>
    simp only [St.op, ss_val st x h]
    split
    · split
      · cases mkSV _ _ <;> rfl
      · rfl
    · rfl
  | index t x i =>
    simp only [reads, List.mem_append] at h
    simp only [St.op, ss_val st x (fun i hi => h i (.inl hi)), ss_val st i (fun i hi => h i (.inr hi))]
    split
    · rw [Option.map_map]; rfl
    · rfl
  | extract x i =>
    simp only [St.op, ss_val st x h]
    split
    · rw [Option.map_map]; rfl
    · rfl
  | call c =>
    simp only [reads, List.mem_append] at h
    simp only [St.op, ss_vals st c.args.toList (fun i hi => h i (.inr hi)), ss_builtin]
    split <;> rfl
  | _ => rfl
end
end Go.Ev
/- Operations that may change places. -/
set_option linter.unusedSimpArgs false
set_option linter.unusedVariables false
namespace Go.Ev

section slots
variable (E : Env) (st : St) (s : Nat → SV)
theorem ss_liveIds : ∀ (l : List SV), liveIds (st.ss s) l = liveIds st l
  | [] => rfl
  | v :: r => by
    cases v <;> simp only [liveIds, ss_liveIds r]
    rename_i q
    have ho : (st.ss s).o q = st.o q := rfl
    rw [ho]
theorem ss_mutIds (v : SV) : (st.ss s).mutIds v = st.mutIds v := by
  cases v <;> simp only [St.mutIds, ss_liveIds]
  rename_i b off
  have ho : (st.ss s).o b = st.o b := rfl
  rw [ho]
theorem ss_capIds : ∀ (l : List SV), (st.ss s).capIds l = st.capIds l
  | [] => rfl
  | v :: r => by
    cases v <;> simp only [St.capIds, ss_capIds r]
    rename_i b off
    have ho : (st.ss s).o b = st.o b := rfl
    rw [ho]
theorem ss_roIds (v : SV) : (st.ss s).roIds v = st.roIds v := by cases v <;> simp only [St.roIds, ss_capIds]
theorem ss_mutAll (l : List SV) : (st.ss s).mutAll l = st.mutAll l := by
  unfold St.mutAll
  congr 1
  exact List.map_congr_left (fun v _ => ss_mutIds st s v)
theorem ss_roAll (l : List SV) : (st.ss s).roAll l = st.roAll l := by
  unfold St.roAll
  congr 1
  exact List.map_congr_left (fun v _ => ss_roIds st s v)
theorem ss_go : ∀ (l : List SV), St.giveRo.go (st.ss s) l = St.giveRo.go st l
  | [] => rfl
  | v :: r => by
    unfold St.giveRo.go
    split <;> try rfl
    · rename_i b q heq
      injection heq with e1 e2
      subst e1; subst e2
      have ho : (st.ss s).o b = st.o b := rfl
      simp only [ho, ss_peekL, ss_go r]
    · rename_i cs q heq
      injection heq with e1 e2
      subst e1; subst e2
      simp only [ss_go r]
theorem ss_giveRo (v : SV) : (st.ss s).giveRo v = st.giveRo v := by
  cases v <;> simp only [St.giveRo, ss_go, ss_peek] <;> try rfl
  rename_i b off
  have ho : (st.ss s).o b = st.o b := rfl
  simp only [ho, ss_peekL]
theorem ss_giveCell (v : SV) : (st.ss s).giveCell v = st.giveCell v := by cases v <;> rfl
theorem ss_giveCells : ∀ (l : List SV), (st.ss s).giveCells l = st.giveCells l
  | [] => rfl
  | v :: r => by simp only [St.giveCells, ss_giveCell, ss_giveCells r]
theorem ss_giveMut (v : SV) : (st.ss s).giveMut v = st.giveMut v := by
  cases v with
  | ptr b off =>
    cases off with
    | zero =>
      have ho : (st.ss s).o b = st.o b := rfl
      simp only [St.giveMut, ho, ss_giveCells]
    | succ n => rfl
  | agg cs => simp only [St.giveMut, ss_giveCells]
  | _ => rfl
theorem ss_give : ∀ (md : List Bool) (l : List SV), (st.ss s).give md l = st.give md l
  | md, [] => by cases md <;> rfl
  | md, v :: r => by simp only [St.give, ss_giveMut, ss_giveRo, ss_give md.tail r]
theorem ss_callPrep (f : SV) (vs : List SV) : callPrep E (st.ss s) f vs = callPrep E st f vs := by
  cases f <;> simp only [callPrep, ss_mutAll, ss_roAll, ss_give]
theorem ss_kill : ∀ (ids : List Nat) (st : St), kill ids (st.ss s) = (kill ids st).ss s
  | [], st => rfl
  | i :: l, st => ss_kill l (st.setO i .dead)
theorem ss_freezeAll : ∀ (ids : List Nat) (st : St), freezeAll ids (st.ss s) = (freezeAll ids st).ss s
  | [], st => rfl
  | i :: l, st => by
    show freezeAll l ((st.ss s).freeze i) = (freezeAll l (st.freeze i)).ss s
    rw [ss_freeze, ss_freezeAll l]
theorem ss_bindCell (x : X) : (st.ss s).bindCell x = ((st.bindCell x).1, (st.bindCell x).2.ss s) := by cases x <;> rfl
theorem ss_bindCells : ∀ (l : List X) (st : St), (st.ss s).bindCells l = ((st.bindCells l).1, (st.bindCells l).2.ss s)
  | [], st => rfl
  | x :: r, st => by simp only [St.bindCells, ss_bindCell, ss_bindCells r]
theorem ss_bind (x : X) : (st.ss s).bind x = ((st.bind x).1, (st.bind x).2.ss s) := by
  cases x <;> simp only [St.bind, ss_bindCells] <;> rfl
theorem ss_bindAll : ∀ (l : List X) (st : St), (st.ss s).bindAll l = ((st.bindAll l).1, (st.bindAll l).2.ss s)
  | [], st => rfl
  | x :: r, st => by simp only [St.bindAll, ss_bind, ss_bindAll r]
theorem ss_regain (st0 : St) (v : SV) (x : Option X) : (st.ss s).regain (st0.ss s) v x = (st.regain st0 v x).map (fun st => st.ss s) := by
  cases x with
  | none => cases v <;> rfl
  | some x =>
    cases v with
    | row r =>
      cases x <;> try rfl
      have ho : (st0.ss s).o r = st0.o r := rfl
      simp only [St.regain, ho]
      cases st0.o r with
      | row e xs live =>
        cases live with
        | false => rfl
        | true => dsimp only; split <;> rfl
      | _ => rfl
    | ptr b off =>
      cases off with
      | zero =>
        cases x <;> try rfl
        have ho : (st0.ss s).o b = st0.o b := rfl
        simp only [St.regain, ss_bindCells, ho]
        cases st0.o b <;> rfl
      | succ n => cases x <;> rfl
    | _ => cases x <;> rfl
theorem ss_regainAll (st0 : St) : ∀ (l : List SV) (xs : List (Option X)) (st : St), (st.ss s).regainAll (st0.ss s) l xs = (st.regainAll st0 l xs).map (fun st => st.ss s)
  | [], [], st => rfl
  | [], _ :: _, st => rfl
  | _ :: _, [], st => rfl
  | v :: r, x :: q, st => by
    simp only [St.regainAll, ss_regain]
    cases st.regain st0 v x with
    | none => rfl
    | some st1 => exact ss_regainAll st0 r q st1
theorem ss_callMid (g : Nat) (vs : List SV) : callMid E (st.ss s) g vs = (callMid E st g vs).map (fun st => st.ss s) := by
  unfold callMid
  rw [ss_mutAll, ss_roAll, ss_kill]
  split
  · rfl
  · have : ((kill (st.mutAll (muts (E.md g) vs)) st).ss s).rowAt = (kill (st.mutAll (muts (E.md g) vs)) st).rowAt := rfl
    rw [this, ss_freezeAll]
    split <;> rfl
theorem ss_callBack (f : SV) (vs : List SV) (rs : List X) (bs : List (Option X)) : callBack E (st.ss s) f vs rs bs = (callBack E st f vs rs bs).map (onSt s) := by
  cases f <;> try rfl
  rename_i g caps
  simp only [callBack, ss_callMid]
  cases callMid E st g (vs ++ caps) with
  | none => rfl
  | some st0 =>
    simp only [Option.map_some, ss_regainAll]
    cases st0.regainAll st (muts (E.md g) (vs ++ caps)) bs with
    | none => rfl
    | some st1 =>
      simp only [Option.map_some, ss_bindAll]
      rfl
end slots

/-! ### What stays as it was -/
def WF (st : St) : Prop := ∀ i, st.n ≤ i → st.o i = .dead
def sameC : Ob → Ob → Prop
  | .dead, .dead => True
  | .box t c, .box t' c' => t' = t ∧ c' = c
  | .row e xs _, .row e' xs' _ => e' = e ∧ xs' = xs
  | _, _ => False
theorem sameC.refl (o : Ob) : sameC o o := by cases o <;> simp [sameC]
theorem sameC.trans {a b c : Ob} (h : sameC a b) (k : sameC b c) : sameC a c := by
  cases a <;> cases b <;> simp [sameC] at h <;> cases c <;> simp [sameC] at k ⊢
  · exact ⟨k.1.trans h.1, k.2.trans h.2⟩
  · exact ⟨k.1.trans h.1, k.2.trans h.2⟩
structure Grown (st st1 : St) : Prop where
  n : st.n ≤ st1.n
  ob : ∀ i, i < st.n → sameC (st.o i) (st1.o i)
theorem Grown.refl (st : St) : Grown st st := ⟨Nat.le_refl _, fun _ _ => sameC.refl _⟩
theorem Grown.trans {a b c : St} (h : Grown a b) (k : Grown b c) : Grown a c := ⟨Nat.le_trans h.n k.n, fun i hi => (h.ob i hi).trans (k.ob i (Nat.lt_of_lt_of_le hi h.n))⟩
section
variable {E : Env} {st st1 : St}
theorem WF.lt (hw : WF st) {i : Nat} (h : st.o i ≠ .dead) : i < st.n := by
  by_cases hi : i < st.n
  · exact hi
  · exact absurd (hw i (by omega)) h
theorem Grown.row (hg : Grown st st1) (hw : WF st) {r e : Nat} {xs : List T} {l : Bool} (h : st.o r = .row e xs l) : ∃ l', st1.o r = .row e xs l' := by
  have := hg.ob r (hw.lt (by rw [h]; simp))
  rw [h] at this
  cases h1 : st1.o r <;> rw [h1] at this <;> simp [sameC] at this
  obtain ⟨rfl, rfl⟩ := this
  exact ⟨_, rfl⟩
theorem Grown.box (hg : Grown st st1) (hw : WF st) {b t : Nat} {cs : List SV} (h : st.o b = .box t cs) : st1.o b = .box t cs := by
  have := hg.ob b (hw.lt (by rw [h]; simp))
  rw [h] at this
  cases h1 : st1.o b <;> rw [h1] at this <;> simp [sameC] at this
  obtain ⟨rfl, rfl⟩ := this
  rfl
theorem peek1_grown (hg : Grown st st1) (hw : WF st) {v : SV} {t : T} (h : st.peek1 v = some t) : st1.peek1 v = some t := by
  cases v <;> try exact h
  · rename_i r
    simp only [St.peek1] at h ⊢
    split at h
    · rename_i ho
      obtain ⟨l', h1⟩ := hg.row hw ho
      rw [h1]; exact h
    · cases h
  · rename_i r lo hi
    simp only [St.peek1] at h ⊢
    split at h
    · rename_i ho
      obtain ⟨l', h1⟩ := hg.row hw ho
      rw [h1]; exact h
    · cases h
theorem peekL_grown (hg : Grown st st1) (hw : WF st) : ∀ {l : List SV} {ts : List T}, st.peekL l = some ts → st1.peekL l = some ts
  | [], ts, h => h
  | v :: r, ts, h => by
    simp only [St.peekL] at h ⊢
    split at h
    · cases h
    · rename_i t h1
      split at h
      · cases h
      · rename_i ts' h2
        rw [peek1_grown hg hw h1]
        simp only [peekL_grown hg hw h2]
        exact h
theorem loadAt_grown (hg : Grown st st1) (hw : WF st) {t : Nat} {v r : SV} (h : st.loadAt E t v = some r) : st1.loadAt E t v = some r := by
  unfold St.loadAt at h ⊢
  split at h
  · cases h
  · rename_i hk
    rw [if_neg hk]
    cases v <;> try exact h
    · rename_i b off
      dsimp only at h ⊢
      split at h
      · rename_i ho
        rw [hg.box hw ho]; exact h
      · cases h
    · rename_i q i off
      dsimp only at h ⊢
      split at h
      · rename_i ho
        obtain ⟨l', h1⟩ := hg.row hw ho
        rw [h1]; exact h
      · cases h
theorem indexAt_grown (hg : Grown st st1) (hw : WF st) {t : Nat} {v i r : SV} (h : st.indexAt E t v i = some r) : st1.indexAt E t v i = some r := by
  unfold St.indexAt at h ⊢
  split at h
  · rename_i hc
    rw [if_pos hc]
    split at h
    · cases h
    · rename_i i' hi
      cases v with
      | row q =>
        dsimp only at h ⊢
        split at h
        · rename_i ho
          obtain ⟨l', h1⟩ := hg.row hw ho
          rw [h1]; exact h
        · cases h
      | view q lo hi =>
        dsimp only at h ⊢
        split at h
        · rename_i ho
          obtain ⟨l', h1⟩ := hg.row hw ho
          rw [h1]; exact h
        · cases h
      | t x => cases x <;> exact h
      | _ => exact h
  · cases h
theorem slen_grown (hg : Grown st st1) (hw : WF st) {v : SV} {n : Nat} (h : st.slen v = some n) : st1.slen v = some n := by
  cases v with
  | row r =>
    simp only [St.slen] at h ⊢
    split at h
    · rename_i ho
      obtain ⟨l', h1⟩ := hg.row hw ho
      rw [h1]; exact h
    · cases h
  | t x => cases x <;> exact h
  | _ => exact h
theorem part_grown (hg : Grown st st1) (hw : WF st) {t l k : Nat} {v r : SV} (h : st.part E t v l k = some r) : st1.part E t v l k = some r := by
  cases v with
  | row q =>
    simp only [St.part] at h ⊢
    split at h
    · rename_i ho
      obtain ⟨l', h1⟩ := hg.row hw ho
      rw [h1]; exact h
    · cases h
  | view q lo hi =>
    simp only [St.part] at h ⊢
    split at h
    · rename_i ho
      obtain ⟨l', h1⟩ := hg.row hw ho
      rw [h1]; exact h
    · cases h
  | t x => cases x <;> exact h
  | _ => exact h
end
end Go.Ev
/- Operations that may change places: the swap. -/
set_option linter.unusedSimpArgs false
set_option linter.unusedVariables false
namespace Go.Ev

def isReader : Op → Bool
  | .move _ | .assign _ | .pick .. | .load .. | .nilCheck _ | .binOp .. | .unOp .. | .slice .. | .fieldAddr .. | .indexAddr .. | .field .. | .index .. | .extract .. => true
  | _ => false
def isPure (E : Env) : Op → Bool
  | .move _ | .assign _ | .pick .. | .nilCheck _ | .unOp .. | .fieldAddr .. | .field .. | .index .. | .extract .. => true
  | .binOp _ t _ _ _ => match (E.ty t).k with
    | .struct => false
    | _ => true
  | .slice t .. => match (E.ty t).k with
    | .str => true
    | _ => false
  | _ => false
def isGrow (E : Env) : Op → Bool
  | .alloc _ | .box .. => true
  | .call c => match c.callee with
    | .value (.func g) => (E.md g).isEmpty
    | _ => false
  | _ => false
section
variable {E : Env} {st st1 st2 : St} {v : SV}
theorem val_same (hs : st2.s = st.s) (hN : st2.N = st.N) (x : Operand) : st2.val x = st.val x := by
  cases x <;> simp only [St.val, hs, hN]
theorem reader_same {op : Op} (hr : isReader op = true) (h : st.op E op = some (v, st1)) : st1 = st := by
  cases op <;> simp only [isReader] at hr <;> try contradiction
  all_goals simp only [St.op] at h
  all_goals first
    | (simp only [Option.some.injEq, Prod.mk.injEq] at h; exact h.2.symm)
    | (simp only [Option.map_eq_some_iff, Prod.mk.injEq] at h; obtain ⟨_, _, _, e⟩ := h; exact e.symm)
    | (split at h
       · simp only [Option.some.injEq, Prod.mk.injEq] at h; exact h.2.symm
       · cases h)
    | (split at h
       · simp only [Option.some.injEq, Prod.mk.injEq] at h; exact h.2.symm
       · simp only [Option.some.injEq, Prod.mk.injEq] at h; exact h.2.symm
       · simp only [Option.some.injEq, Prod.mk.injEq] at h; exact h.2.symm
       · cases h)
    | (split at h
       · split at h
         · simp only [Option.map_eq_some_iff, Prod.mk.injEq] at h; obtain ⟨_, _, _, e⟩ := h; exact e.symm
         · cases h
       · cases h)
    | (split at h
       · simp only [Option.map_eq_some_iff, Prod.mk.injEq] at h; obtain ⟨_, _, _, e⟩ := h; exact e.symm
       · cases h)
theorem bin_grown (hw : WF st) (hg : Grown st st2) {eqT : Nat → List TK} {kT : Nat → TK} {op : BinOp} {t : Nat} {x y : SV} {r : T} (h : st.bin eqT kT op t x y = some r) : st2.bin eqT kT op t x y = some r := by
  unfold St.bin at h ⊢
  split at h
  · exact h
  · exact h
  · exact h
  · split at h
    · rename_i h0 h1 h2
      simp only [h0, peekL_grown hg hw h1, peekL_grown hg hw h2]
      exact h
    · cases h
  · cases h
theorem bin_pure {eqT : Nat → List TK} {kT : Nat → TK} {op : BinOp} {t : Nat} {x y : SV} (hk : kT t ≠ .struct) : st2.bin eqT kT op t x y = st.bin eqT kT op t x y := by
  unfold St.bin
  split <;> try rfl
  cases h : kT t <;> first | rfl | exact absurd h hk
theorem boundOr_same (hs : st2.s = st.s) (hN : st2.N = st.N) (d : Nat) (x : Option Operand) : st2.boundOr d x = st.boundOr d x := by
  cases x with
  | none => rfl
  | some x => simp only [St.boundOr, val_same hs hN]
theorem sliceAt_grown (hw : WF st) (hg : Grown st st2) (hs : st2.s = st.s) (hN : st2.N = st.N) {t : Nat} {x r : SV} {lo hi mx : Option Operand} (h : st.sliceAt E t x lo hi mx = some r) : st2.sliceAt E t x lo hi mx = some r := by
  unfold St.sliceAt at h ⊢
  simp only [boundOr_same hs hN, val_same hs hN]
  split at h
  · exact h
  · split at h
    · cases h
    · rename_i hk
      rw [if_neg hk]
      split at h
      · cases h
      · rename_i n hn
        simp only [slen_grown hg hw hn]
        split at h
        · split at h
          · rename_i hc
            rw [if_pos hc]
            split at h
            · exact h
            · exact part_grown hg hw h
          · cases h
        · cases h
  · cases h
theorem reader_grown {op : Op} (hr : isReader op = true) (hw : WF st) (hg : Grown st st2) (hs : st2.s = st.s) (hN : st2.N = st.N) (h : st.op E op = some (v, st)) : st2.op E op = some (v, st2) := by
  have hv := val_same hs hN
  cases op <;> simp only [isReader] at hr <;> try contradiction
  case move x => simp only [St.op, hv, Option.some.injEq, Prod.mk.injEq] at h ⊢; exact ⟨h.1, trivial⟩
  case assign x => simp only [St.op, hv, Option.some.injEq, Prod.mk.injEq] at h ⊢; exact ⟨h.1, trivial⟩
  case pick a b c =>
    simp only [St.op, hv] at h ⊢
    split at h
    · simp only [Option.some.injEq, Prod.mk.injEq] at h ⊢; exact ⟨h.1, trivial⟩
    · cases h
  case load t a =>
    simp only [St.op, hv, Option.map_eq_some_iff, Prod.mk.injEq] at h ⊢
    obtain ⟨r, h1, rfl, _⟩ := h
    exact ⟨r, loadAt_grown hg hw h1, rfl, trivial⟩
  case nilCheck x =>
    simp only [St.op, hv] at h ⊢
    split at h <;> first
      | (simp only [Option.some.injEq, Prod.mk.injEq] at h ⊢; exact ⟨h.1, trivial⟩)
      | cases h
  case binOp o t x y z =>
    simp only [St.op, hv, Option.map_eq_some_iff, Prod.mk.injEq] at h ⊢
    obtain ⟨r, h1, rfl, _⟩ := h
    exact ⟨r, bin_grown hw hg h1, rfl, trivial⟩
  case unOp o t x =>
    simp only [St.op, hv, Option.map_eq_some_iff, Prod.mk.injEq] at h ⊢
    obtain ⟨r, h1, rfl, _⟩ := h
    exact ⟨r, h1, rfl, trivial⟩
  case slice t x lo hi mx =>
    simp only [St.op, hv, Option.map_eq_some_iff, Prod.mk.injEq] at h ⊢
    obtain ⟨r, h1, rfl, _⟩ := h
    exact ⟨r, sliceAt_grown hw hg hs hN h1, rfl, trivial⟩
  case fieldAddr t x f =>
    simp only [St.op, hv, Option.map_eq_some_iff, Prod.mk.injEq] at h ⊢
    obtain ⟨r, h1, rfl, _⟩ := h
    exact ⟨r, h1, rfl, trivial⟩
  case indexAddr t x i =>
    simp only [St.op, hv, Option.map_eq_some_iff, Prod.mk.injEq] at h ⊢
    obtain ⟨r, h1, rfl, _⟩ := h
    exact ⟨r, indexAt_grown hg hw h1, rfl, trivial⟩
  case field t x f =>
    simp only [St.op, hv] at h ⊢
    split at h
    · split at h
      · rename_i hc
        rw [if_pos hc]
        simp only [Option.map_eq_some_iff, Prod.mk.injEq] at h ⊢
        obtain ⟨r, h1, rfl, _⟩ := h
        exact ⟨r, h1, rfl, trivial⟩
      · cases h
    · cases h
  case index t x i =>
    simp only [St.op, hv] at h ⊢
    split at h
    · simp only [Option.map_eq_some_iff, Prod.mk.injEq] at h ⊢
      obtain ⟨r, h1, rfl, _⟩ := h
      exact ⟨r, h1, rfl, trivial⟩
    · cases h
  case extract x i =>
    simp only [St.op, hv] at h ⊢
    split at h
    · simp only [Option.map_eq_some_iff, Prod.mk.injEq] at h ⊢
      obtain ⟨r, h1, rfl, _⟩ := h
      exact ⟨r, h1, rfl, trivial⟩
    · cases h
theorem pure_any {op : Op} (hp : isPure E op = true) (hs : st2.s = st.s) (hN : st2.N = st.N) (h : st.op E op = some (v, st1)) : st1 = st ∧ st2.op E op = some (v, st2) := by
  have hv := val_same hs hN
  have hr : isReader op = true := by cases op <;> first | rfl | simp [isPure] at hp
  have h1 := reader_same hr h
  subst h1
  refine ⟨rfl, ?_⟩
  cases op <;> simp only [isPure] at hp <;> try contradiction
  case move x => simp only [St.op, hv, Option.some.injEq, Prod.mk.injEq] at h ⊢; exact ⟨h.1, trivial⟩
  case assign x => simp only [St.op, hv, Option.some.injEq, Prod.mk.injEq] at h ⊢; exact ⟨h.1, trivial⟩
  case pick a b c =>
    simp only [St.op, hv] at h ⊢
    split at h
    · simp only [Option.some.injEq, Prod.mk.injEq] at h ⊢; exact ⟨h.1, trivial⟩
    · cases h
  case nilCheck x =>
    simp only [St.op, hv] at h ⊢
    split at h <;> first
      | (simp only [Option.some.injEq, Prod.mk.injEq] at h ⊢; exact ⟨h.1, trivial⟩)
      | cases h
  case binOp o t x y z =>
    simp only [St.op, hv, Option.map_eq_some_iff, Prod.mk.injEq] at h ⊢
    obtain ⟨r, h1, rfl, _⟩ := h
    refine ⟨r, ?_, rfl, trivial⟩
    rw [← h1]
    refine bin_pure (fun e => ?_)
    have e' : (E.ty t).k = .struct := e
    simp [e'] at hp
  case unOp o t x =>
    simp only [St.op, hv, Option.map_eq_some_iff, Prod.mk.injEq] at h ⊢
    obtain ⟨r, h1, rfl, _⟩ := h
    exact ⟨r, h1, rfl, trivial⟩
  case slice t x lo hi mx =>
    have hk : (E.ty t).k = .str := by
      cases hk : (E.ty t).k <;> simp [hk] at hp ⊢
    simp only [St.op, hv, Option.map_eq_some_iff, Prod.mk.injEq] at h ⊢
    obtain ⟨r, h1, rfl, _⟩ := h
    refine ⟨r, ?_, rfl, trivial⟩
    rw [← h1]
    unfold St.sliceAt
    simp only [boundOr_same hs hN, hk]
    generalize st1.val x = q
    cases q with
    | t y => cases y <;> rfl
    | _ => rfl
  case fieldAddr t x f =>
    simp only [St.op, hv, Option.map_eq_some_iff, Prod.mk.injEq] at h ⊢
    obtain ⟨r, h1, rfl, _⟩ := h
    exact ⟨r, h1, rfl, trivial⟩
  case field t x f =>
    simp only [St.op, hv] at h ⊢
    split at h
    · split at h
      · rename_i hc
        rw [if_pos hc]
        simp only [Option.map_eq_some_iff, Prod.mk.injEq] at h ⊢
        obtain ⟨r, h1, rfl, _⟩ := h
        exact ⟨r, h1, rfl, trivial⟩
      · cases h
    · cases h
  case index t x i =>
    simp only [St.op, hv] at h ⊢
    split at h
    · simp only [Option.map_eq_some_iff, Prod.mk.injEq] at h ⊢
      obtain ⟨r, h1, rfl, _⟩ := h
      exact ⟨r, h1, rfl, trivial⟩
    · cases h
  case extract x i =>
    simp only [St.op, hv] at h ⊢
    split at h
    · simp only [Option.map_eq_some_iff, Prod.mk.injEq] at h ⊢
      obtain ⟨r, h1, rfl, _⟩ := h
      exact ⟨r, h1, rfl, trivial⟩
    · cases h

/-! ### slots, growth and order of a whole operation -/
structure Keeps (st st1 : St) : Prop where
  s : st1.s = st.s
  N : st1.N = st.N
  wf : WF st → WF st1
  n : st.n ≤ st1.n
theorem Keeps.refl (st : St) : Keeps st st := ⟨rfl, rfl, id, Nat.le_refl _⟩
theorem Keeps.trans {a b c : St} (h : Keeps a b) (k : Keeps b c) : Keeps a c := ⟨k.s.trans h.s, k.N.trans h.N, fun w => k.wf (h.wf w), Nat.le_trans h.n k.n⟩
theorem keeps_alloc (st : St) (ob : Ob) : Keeps st (st.alloc ob) := ⟨rfl, rfl, fun w i hi => by
  have hi' : st.n + 1 ≤ i := hi
  show upd st.o st.n ob i = .dead
  rw [upd_ne _ _ (by omega)]
  exact w i (by omega), Nat.le_succ _⟩
theorem keeps_setO (st : St) (i : Nat) (ob : Ob) (h : WF st → i < st.n ∨ ob = .dead) : Keeps st (st.setO i ob) := ⟨rfl, rfl, fun w j hj => by
  have hj' : st.n ≤ j := hj
  show upd st.o i ob j = .dead
  by_cases hji : j = i
  · subst hji
    rw [upd_self]
    rcases h w with h | h
    · omega
    · exact h
  · rw [upd_ne _ _ hji]; exact w j hj', Nat.le_refl _⟩
theorem keeps_dead (st : St) (i : Nat) : Keeps st (st.setO i .dead) := keeps_setO st i .dead (fun _ => .inr rfl)
theorem keeps_freeze (st : St) (r : Nat) : Keeps st (st.freeze r) := by
  unfold St.freeze
  split
  · rename_i ho
    exact keeps_setO st r _ (fun w => .inl (w.lt (by rw [ho]; simp)))
  · exact .refl st
theorem grown_freeze (st : St) (r : Nat) : Grown st (st.freeze r) := by
  obtain ⟨h1, h2, h3, _⟩ := freeze_get st r r
  refine ⟨by rw [h3]; exact Nat.le_refl _, fun i hi => ?_⟩
  by_cases hir : i = r
  · subst hir
    unfold St.freeze
    split
    · rename_i e xs live ho
      have : (st.setO i (.row e xs false)).o i = .row e xs false := upd_self _ _ _
      rw [this, ho]
      exact ⟨rfl, rfl⟩
    · exact sameC.refl _
  · rw [(freeze_get st r i).1 hir]
    exact sameC.refl _
theorem grown_alloc (st : St) (ob : Ob) : Grown st (st.alloc ob) := ⟨Nat.le_succ _, fun i hi => by
  have : (st.alloc ob).o i = st.o i := upd_ne _ _ (by omega)
  rw [this]; exact sameC.refl _⟩
end
end Go.Ev
/- Operations that may change places: whole operations, the swap, the orders. -/
set_option linter.unusedSimpArgs false
set_option linter.unusedVariables false
namespace Go.Ev
section
variable {E : Env} {st st1 st2 : St} {v : SV}

theorem keeps_absorb1 {t : T} (h : st.absorb1 v = some (t, st1)) : Keeps st st1 := by
  unfold St.absorb1 at h
  split at h
  · cases h
  · split at h <;> simp only [Option.some.injEq, Prod.mk.injEq] at h <;> obtain ⟨_, rfl⟩ := h
    · exact keeps_freeze st _
    · exact keeps_freeze st _
    · exact .refl st
theorem keeps_absorbL : ∀ {l : List SV} {st st1 : St} {ts : List T}, st.absorbL l = some (ts, st1) → Keeps st st1
  | [], st, st1, ts, h => by
    simp only [St.absorbL, Option.some.injEq, Prod.mk.injEq] at h
    obtain ⟨_, rfl⟩ := h
    exact .refl st
  | s :: r, st, st1, ts, h => by
    unfold St.absorbL at h
    split at h
    · cases h
    · rename_i h1
      split at h
      · cases h
      · rename_i h2
        simp only [Option.some.injEq, Prod.mk.injEq] at h
        obtain ⟨_, rfl⟩ := h
        exact (keeps_absorb1 h1).trans (keeps_absorbL h2)
theorem keeps_absorb {t : T} (h : st.absorb v = some (t, st1)) : Keeps st st1 := by
  unfold St.absorb at h
  split at h
  · split at h
    · cases h
    · rename_i h1
      simp only [Option.some.injEq, Prod.mk.injEq] at h
      obtain ⟨_, rfl⟩ := h
      exact keeps_absorbL h1
  · exact keeps_absorb1 h
theorem keeps_absorbAll : ∀ {l : List SV} {st st1 : St} {ts : List T}, st.absorbAll l = some (ts, st1) → Keeps st st1
  | [], st, st1, ts, h => by
    simp only [St.absorbAll, Option.some.injEq, Prod.mk.injEq] at h
    obtain ⟨_, rfl⟩ := h
    exact .refl st
  | s :: r, st, st1, ts, h => by
    unfold St.absorbAll at h
    split at h
    · cases h
    · rename_i h1
      split at h
      · cases h
      · rename_i h2
        simp only [Option.some.injEq, Prod.mk.injEq] at h
        obtain ⟨_, rfl⟩ := h
        exact (keeps_absorb h1).trans (keeps_absorbAll h2)
theorem keeps_base {e : Nat} {xs : List T} (h : st.base e v = some (xs, st1)) : Keeps st st1 := by
  unfold St.base at h
  split at h
  · simp only [Option.some.injEq, Prod.mk.injEq] at h
    obtain ⟨_, rfl⟩ := h
    exact .refl st
  · split at h
    · split at h
      · simp only [Option.some.injEq, Prod.mk.injEq] at h
        obtain ⟨_, rfl⟩ := h
        exact keeps_dead st _
      · cases h
    · cases h
  · split at h
    · split at h
      · simp only [Option.some.injEq, Prod.mk.injEq] at h
        obtain ⟨_, rfl⟩ := h
        exact keeps_dead st _
      · cases h
    · cases h
  · cases h
theorem keeps_append {sT xT : Nat} {s x : SV} (h : st.append E sT xT s x = some (v, st1)) : Keeps st st1 := by
  unfold St.append at h
  split at h
  · split at h
    · rename_i h2
      split at h
      · simp only [Option.some.injEq, Prod.mk.injEq] at h
        obtain ⟨_, rfl⟩ := h
        exact (keeps_base h2).trans (keeps_alloc _ _)
      · cases h
    · cases h
  · cases h
theorem keeps_storeAt {t : Nat} {a : SV} (h : st.storeAt E t a v = some st1) : Keeps st st1 := by
  unfold St.storeAt at h
  split at h
  · split at h
    · split at h
      · rename_i ho
        split at h
        · obtain rfl := Option.some.inj h
          exact keeps_setO st _ _ (fun w => .inl (w.lt (by rw [ho]; simp)))
        · cases h
      · cases h
    · split at h
      · rename_i hab
        split at h
        · rename_i ho
          split at h
          · split at h
            · obtain rfl := Option.some.inj h
              exact (keeps_absorbL hab).trans (keeps_setO _ _ _ (fun w => .inl (w.lt (by rw [ho]; simp))))
            · cases h
          · cases h
        · cases h
      · cases h
    · cases h
  · cases h
theorem keeps_convert {a b : Nat} {x : SV} (h : st.convert E a b x = some (v, st1)) : Keeps st st1 := by
  unfold St.convert at h
  split at h
  · simp only [Option.some.injEq, Prod.mk.injEq] at h; obtain ⟨_, rfl⟩ := h; exact .refl st
  · simp only [Option.some.injEq, Prod.mk.injEq] at h; obtain ⟨_, rfl⟩ := h; exact .refl st
  · split at h
    · split at h
      · simp only [Option.some.injEq, Prod.mk.injEq] at h; obtain ⟨_, rfl⟩ := h; exact keeps_alloc _ _
      · cases h
    · cases h
  · split at h
    · split at h
      · simp only [Option.some.injEq, Prod.mk.injEq] at h; obtain ⟨_, rfl⟩ := h; exact .refl st
      · cases h
    · cases h
  · cases h
theorem keeps_builtin {b : Builtin} {ts : List Nat} {vs : List SV} (h : st.builtin E b ts vs = some (v, st1)) : Keeps st st1 := by
  unfold St.builtin at h
  split at h
  · simp only [Option.map_eq_some_iff, Prod.mk.injEq] at h; obtain ⟨_, _, _, rfl⟩ := h; exact .refl st
  · exact keeps_append h
  · simp only [Option.map_eq_some_iff, Prod.mk.injEq] at h; obtain ⟨_, _, _, rfl⟩ := h; exact .refl st
  · simp only [Option.map_eq_some_iff, Prod.mk.injEq] at h; obtain ⟨_, _, _, rfl⟩ := h; exact .refl st
  · cases h
theorem keeps_op {op : Op} (h : st.op E op = some (v, st1)) : Keeps st st1 := by
  cases hr : isReader op with
  | true => rw [reader_same hr h]; exact .refl st
  | false =>
    cases op <;> simp only [isReader] at hr <;> try contradiction
    all_goals simp only [St.op] at h
    all_goals try (cases h; done)
    case alloc e =>
      split at h
      · simp only [Option.some.injEq, Prod.mk.injEq] at h; obtain ⟨_, rfl⟩ := h; exact keeps_alloc _ _
      · cases h
    case box e x =>
      split at h
      · simp only [Option.some.injEq, Prod.mk.injEq] at h; obtain ⟨_, rfl⟩ := h; exact keeps_alloc _ _
      · cases h
    case build t ps =>
      split at h
      · simp only [Option.map_eq_some_iff, Prod.mk.injEq] at h; obtain ⟨_, _, _, rfl⟩ := h; exact .refl st
      · cases h
    case buildSlice t n ps =>
      split at h
      · split at h
        · rename_i hab
          simp only [Option.some.injEq, Prod.mk.injEq] at h
          obtain ⟨_, rfl⟩ := h
          exact (keeps_absorbAll hab).trans (keeps_alloc _ _)
        · cases h
      · cases h
    case store t a x =>
      simp only [Option.map_eq_some_iff, Prod.mk.injEq] at h
      obtain ⟨st2, h1, _, rfl⟩ := h
      exact keeps_storeAt h1
    case convert a b x => exact keeps_convert h
    case makeFunc f fst caps =>
      cases f <;> simp only [St.op] at h <;> try (cases h; done)
      split at h
      · simp only [Option.some.injEq, Prod.mk.injEq] at h; obtain ⟨_, rfl⟩ := h; exact .refl st
      · cases h
    case makeSlice t l c =>
      split at h
      · split at h
        · split at h
          · split at h
            · simp only [Option.some.injEq, Prod.mk.injEq] at h; obtain ⟨_, rfl⟩ := h; exact keeps_alloc _ _
            · cases h
          · cases h
        · cases h
      · cases h
    case call c =>
      split at h
      · exact keeps_builtin h
      · cases h
theorem keeps_kill : ∀ (ids : List Nat) (st : St), Keeps st (kill ids st)
  | [], st => .refl st
  | i :: l, st => (keeps_dead st i).trans (keeps_kill l _)
theorem keeps_freezeAll : ∀ (ids : List Nat) (st : St), Keeps st (freezeAll ids st)
  | [], st => .refl st
  | i :: l, st => (keeps_freeze st i).trans (keeps_freezeAll l _)
theorem grown_freezeAll : ∀ (ids : List Nat) (st : St), Grown st (freezeAll ids st)
  | [], st => .refl st
  | i :: l, st => (grown_freeze st i).trans (grown_freezeAll l _)
theorem keeps_bindCell (x : X) (st : St) : Keeps st (st.bindCell x).2 ∧ Grown st (st.bindCell x).2 := by
  cases x <;> first | exact ⟨.refl st, .refl st⟩ | exact ⟨keeps_alloc _ _, grown_alloc _ _⟩
theorem keeps_bindCells : ∀ (l : List X) (st : St), Keeps st (st.bindCells l).2 ∧ Grown st (st.bindCells l).2
  | [], st => ⟨.refl st, .refl st⟩
  | x :: r, st => by
    obtain ⟨a1, a2⟩ := keeps_bindCell x st
    obtain ⟨b1, b2⟩ := keeps_bindCells r (st.bindCell x).2
    exact ⟨a1.trans b1, a2.trans b2⟩
theorem keeps_bind (x : X) (st : St) : Keeps st (st.bind x).2 ∧ Grown st (st.bind x).2 := by
  cases x with
  | row e xs => exact ⟨keeps_alloc _ _, grown_alloc _ _⟩
  | agg cs => exact keeps_bindCells cs st
  | ref ty cs =>
    obtain ⟨a1, a2⟩ := keeps_bindCells cs st
    exact ⟨a1.trans (keeps_alloc _ _), a2.trans (grown_alloc _ _)⟩
  | _ => exact ⟨.refl st, .refl st⟩
theorem keeps_bindAll : ∀ (l : List X) (st : St), Keeps st (st.bindAll l).2 ∧ Grown st (st.bindAll l).2
  | [], st => ⟨.refl st, .refl st⟩
  | x :: r, st => by
    obtain ⟨a1, a2⟩ := keeps_bind x st
    obtain ⟨b1, b2⟩ := keeps_bindAll r (st.bind x).2
    exact ⟨a1.trans b1, a2.trans b2⟩
theorem muts_nil {α : Type} : ∀ (l : List α), muts [] l = []
  | [] => rfl
  | x :: r => by simp only [muts, List.headD_nil, Bool.false_eq_true, if_false, List.tail_nil, muts_nil r]
theorem keeps_regain {st0 : St} {x : Option X} (h0 : WF st → WF st0) (hn : st0.n ≤ st.n) (h : st.regain st0 v x = some st1) : Keeps st st1 := by
  cases x with
  | none =>
    have : st.regain st0 v none = some st := by cases v <;> rfl
    rw [this] at h
    obtain rfl := Option.some.inj h
    exact .refl st
  | some x =>
    cases v with
    | row r =>
      cases x <;> try (simp [St.regain] at h; done)
      rename_i e xs
      simp only [St.regain] at h
      split at h
      · rename_i ho
        split at h
        · obtain rfl := Option.some.inj h
          refine keeps_setO st _ _ (fun w => .inl ?_)
          have := (h0 w).lt (i := r) (by rw [ho]; simp)
          omega
        · cases h
      · cases h
    | nil =>
      simp only [St.regain, Option.some.injEq] at h
      subst h; exact .refl st
    | ptr b off =>
      cases off with
      | succ n => cases x <;> simp [St.regain] at h
      | zero =>
        cases x <;> try (simp [St.regain] at h; done)
        rename_i ty xs
        simp only [St.regain] at h
        split at h
        · rename_i ho
          obtain rfl := Option.some.inj h
          have hk := (keeps_bindCells xs st).1
          refine ⟨hk.s, hk.N, fun w => ?_, hk.n⟩
          refine (keeps_setO (st.bindCells xs).2 b _ (fun _ => .inl ?_)).wf (hk.wf w)
          have := (h0 w).lt (i := b) (by rw [ho]; simp)
          have := hk.n
          omega
        · cases h
    | _ => cases x <;> simp [St.regain] at h
theorem keeps_regainAll {st0 : St} : ∀ {l : List SV} {xs : List (Option X)} {st st1 : St}, (WF st → WF st0) → st0.n ≤ st.n → WF st → st.regainAll st0 l xs = some st1 → Keeps st st1
  | [], [], st, st1, h0, hn, w, h => by
    simp only [St.regainAll, Option.some.injEq] at h
    subst h; exact .refl st
  | [], _ :: _, st, st1, h0, hn, w, h => by simp [St.regainAll] at h
  | _ :: _, [], st, st1, h0, hn, w, h => by simp [St.regainAll] at h
  | v :: r, x :: q, st, st1, h0, hn, w, h => by
    simp only [St.regainAll] at h
    split at h
    · rename_i st2 h1
      have k := keeps_regain h0 hn h1
      exact k.trans (keeps_regainAll (fun _ => h0 w) (Nat.le_trans hn k.n) (k.wf w) h)
    · cases h
theorem callMid_keeps {g : Nat} {vs : List SV} (h : callMid E st g vs = some st1) : Keeps st st1 := by
  unfold callMid at h
  split at h
  · obtain rfl := Option.some.inj h
    exact keeps_kill _ _
  · split at h
    · obtain rfl := Option.some.inj h
      exact (keeps_kill _ _).trans (keeps_freezeAll _ _)
    · cases h
theorem keeps_callBack {f : SV} {vs : List SV} {rs : List X} {bs : List (Option X)} (w : WF st) (h : callBack E st f vs rs bs = some (v, st1)) : Keeps st st1 := by
  unfold callBack at h
  split at h
  · split at h
    · cases h
    · rename_i st0 hm
      split at h
      · cases h
      · rename_i st2 hr
        simp only [Option.some.injEq, Prod.mk.injEq] at h
        obtain ⟨_, rfl⟩ := h
        have k := callMid_keeps hm
        exact (k.trans (keeps_regainAll (fun _ => w) k.n (k.wf w) hr)).trans (keeps_bindAll rs st2).1
  · cases h
theorem grown_callBack {g : Nat} {caps : List SV} {vs : List SV} {rs : List X} {bs : List (Option X)} (hm : (E.md g).isEmpty = true) (h : callBack E st (.fn g caps) vs rs bs = some (v, st1)) : Grown st st1 := by
  have hm' : E.md g = [] := by simpa using hm
  unfold callBack at h
  simp only [hm', muts_nil] at h
  split at h
  · cases h
  · rename_i st0 hmid
    split at h
    · cases h
    · rename_i st2 hr
      simp only [Option.some.injEq, Prod.mk.injEq] at h
      obtain ⟨_, rfl⟩ := h
      have h2 : st2 = st0 := by
        cases bs with
        | nil => simpa [St.regainAll, eq_comm] using hr
        | cons b bs => simp [St.regainAll] at hr
      subst h2
      refine Grown.trans ?_ (keeps_bindAll rs st2).2
      unfold callMid at hmid
      simp only [hm', muts_nil] at hmid
      have hk : kill (st.mutAll []) st = st := rfl
      rw [hk] at hmid
      split at hmid
      · obtain rfl := Option.some.inj hmid
        exact .refl st
      · split at hmid
        · obtain rfl := Option.some.inj hmid
          exact grown_freezeAll _ _
        · cases hmid

/-- What an operation does to a state: its value, and the state without it. -/
inductive Eff (E : Env) (C : Nat → List X → List X → List (Option X) → Prop) (o : Oper) (st : St) : SV → St → Prop
  | op {v : SV} {st1 : St} (h : st.op E o.op = some (v, st1)) : Eff E C o st v st1
  | call {v : SV} {st1 : St} {cl : Call} {f : Operand} {g : Nat} {xs rs : List X} {bs : List (Option X)} (ho : o.op = .call cl) (hc : cl.callee = .value f) (hp : callPrep E st (st.val f) (cl.args.toList.map st.val) = some (g, xs)) (hC : C g xs rs bs)
      (hb : callBack E st (st.val f) (cl.args.toList.map st.val) rs bs = some (v, st1)) : Eff E C o st v st1
variable {C : Nat → List X → List X → List (Option X) → Prop} {o : Oper}
theorem Eff.keeps (h : Eff E C o st v st1) (w : WF st) : Keeps st st1 := by
  cases h with
  | op h => exact keeps_op h
  | call _ _ _ _ hb => exact keeps_callBack w hb
theorem Eff.ss (h : Eff E C o st v st1) {s : Nat → SV} (hs : ∀ i ∈ reads o.op, s i = st.s i) : Eff E C o (st.ss s) v (st1.ss s) := by
  cases h with
  | op h =>
    refine .op ?_
    rw [ss_op E st o.op hs, h]; rfl
  | @call cl f g xs rs bs ho hc hp hC hb =>
    rw [ho] at hs
    simp only [reads, hc, List.mem_append] at hs
    have e1 := ss_val st f (fun i hi => hs i (.inl hi))
    have e2 := ss_vals st cl.args.toList (fun i hi => hs i (.inr hi))
    refine .call ho hc (g := g) (xs := xs) (rs := rs) (bs := bs) ?_ hC ?_
    · rw [e1, e2, ss_callPrep]; exact hp
    · rw [e1, e2, ss_callBack, hb]; rfl
theorem Eff.grown (h : Eff E C o st v st1) (hg : isGrow E o.op = true) : Grown st st1 := by
  cases h with
  | op h =>
    cases hop : o.op <;> rw [hop] at hg h <;> simp only [isGrow] at hg <;> try contradiction
    · simp only [St.op] at h
      split at h
      · simp only [Option.some.injEq, Prod.mk.injEq] at h; obtain ⟨_, rfl⟩ := h; exact grown_alloc _ _
      · cases h
    · simp only [St.op] at h
      split at h
      · simp only [Option.some.injEq, Prod.mk.injEq] at h; obtain ⟨_, rfl⟩ := h; exact grown_alloc _ _
      · cases h
    · rename_i c
      simp only [St.op] at h
      split at hg
      · rename_i hc
        rw [hc] at h
        cases h
      · cases hg
  | @call cl f g xs rs bs ho hc hp hC hb =>
    rw [ho] at hg
    simp only [isGrow, hc] at hg
    cases f with
    | func g' =>
      have : st.val (.func g') = .fn g' [] := rfl
      rw [this] at hb
      exact grown_callBack (by simpa using hg) hb
    | _ => simp at hg

/-- The two may change places: the first stands ahead in the evaluator's order. -/
def disjointS (x y : Oper) : Bool :=
  (match x.dst with
    | none => true
    | some d => !(reads y.op).contains d && (y.dst != some d)) &&
  (match y.dst with
    | none => true
    | some d => !(reads x.op).contains d)
def isQuiet (E : Env) : Op → Bool
  | .call c => match c.callee with
    | .value (.func g) => (E.md g).isEmpty && E.flat g
    | _ => false
  | _ => false
def still (E : Env) (op : Op) : Bool := isReader op || isQuiet E op
def mayPass (E : Env) (x y : Oper) : Bool :=
  disjointS x y && ((still E x.op && (isPure E x.op || still E y.op || isGrow E y.op)) || isPure E y.op)
theorem put_ss (st : St) (d : Option Nat) (v : SV) : st.put d v = st.ss (st.put d v).s := by cases d <;> rfl
theorem put_off {d : Option Nat} {v : SV} {i : Nat} (h : d ≠ some i) : (st.put d v).s i = st.s i := by
  cases d with
  | none => rfl
  | some d => exact upd_ne _ _ (fun e => h (by rw [e]))
theorem put_comm {a b : Option Nat} {u : SV} (h : ∀ d, a = some d → b ≠ some d) : ((st.put a v).put b u) = ((st.put b u).put a v) := by
  cases a with
  | none => rfl
  | some a =>
    cases b with
    | none => rfl
    | some b =>
      have hab : b ≠ a := fun e => h a rfl (by rw [e])
      simp only [St.put]
      congr 1
      funext j
      simp only [upd]
      by_cases h1 : j = a <;> by_cases h2 : j = b <;> simp [h1, h2]
      · subst h1; exact absurd h2.symm hab
      · intro e; exact absurd e.symm hab
      · intro e; exact absurd e hab
end
end Go.Ev
/- Operations that may change places: the swap, and runs of lists. -/
set_option linter.unusedSimpArgs false
set_option linter.unusedVariables false
namespace Go.Ev
section
variable {E : Env} {C : Nat → List X → List X → List (Option X) → Prop}

/-- One operation, done. -/
def StepE (E : Env) (C : Nat → List X → List X → List (Option X) → Prop) (o : Oper) (st st' : St) : Prop :=
  dstOk st o = true ∧ ∃ v st1, Eff E C o st v st1 ∧ st' = st1.put o.dst v
theorem disj_x {x y : Oper} (h : disjointS x y = true) : (∀ d, x.dst = some d → d ∉ reads y.op ∧ y.dst ≠ some d) ∧ ∀ d, y.dst = some d → d ∉ reads x.op := by
  unfold disjointS at h
  rw [Bool.and_eq_true] at h
  obtain ⟨h1, h2⟩ := h
  constructor
  · intro d hd
    rw [hd] at h1
    simp only [Bool.and_eq_true, Bool.not_eq_true', bne_iff_ne, ne_eq] at h1
    exact ⟨by simpa using h1.1, h1.2⟩
  · intro d hd
    rw [hd] at h2
    simpa using h2
theorem put_reads {st : St} {d : Option Nat} {v : SV} {op : Op} (h : ∀ e, d = some e → e ∉ reads op) : ∀ i ∈ reads op, (st.put d v).s i = st.s i :=
  fun i hi => put_off (fun e => h i e hi)
theorem put_st (st : St) (d : Option Nat) (v : SV) : (st.put d v).N = st.N ∧ (st.put d v).n = st.n ∧ (st.put d v).o = st.o := by cases d <;> exact ⟨rfl, rfl, rfl⟩
theorem dstOk_N {st st1 : St} {o : Oper} (h : st1.N = st.N) : dstOk st1 o = dstOk st o := by
  unfold dstOk
  cases o.dst <;> simp [h]
theorem ss_ss (st : St) (s s' : Nat → SV) : (st.ss s).ss s' = st.ss s' := rfl
theorem ss_self (st : St) : st.ss st.s = st := rfl
theorem bindCell_quiet {x : X} (h : x.quiet = true) (st : St) : (st.bindCell x).2 = st ∧ ∀ st2 : St, (st2.bindCell x).1 = (st.bindCell x).1 := by
  cases x <;> simp [X.quiet] at h <;> exact ⟨rfl, fun _ => rfl⟩
theorem bindCells_quiet : ∀ {l : List X}, X.quiets l = true → ∀ (st : St), (st.bindCells l).2 = st ∧ ∀ st2 : St, (st2.bindCells l).1 = (st.bindCells l).1
  | [], _, st => ⟨rfl, fun _ => rfl⟩
  | x :: r, h, st => by
    simp only [X.quiets, Bool.and_eq_true] at h
    obtain ⟨a1, a2⟩ := bindCell_quiet h.1 st
    have b := fun st => bindCells_quiet h.2 st
    refine ⟨?_, fun st2 => ?_⟩
    · simp only [St.bindCells, a1, (b st).1]
    · simp only [St.bindCells, a1, a2 st2]
      obtain ⟨a3, _⟩ := bindCell_quiet h.1 st2
      rw [a3, (b st).2 st2]
theorem bind_quiet {x : X} (h : x.quiet = true) (st : St) : (st.bind x).2 = st ∧ ∀ st2 : St, (st2.bind x).1 = (st.bind x).1 := by
  cases x with
  | t t => exact ⟨rfl, fun _ => rfl⟩
  | nil => exact ⟨rfl, fun _ => rfl⟩
  | agg cs =>
    obtain ⟨a1, a2⟩ := bindCells_quiet (by simpa [X.quiet] using h) st
    exact ⟨a1, fun st2 => by simp only [St.bind, a2 st2]⟩
  | _ => simp [X.quiet] at h
theorem bindAll_quiet : ∀ {l : List X}, X.quiets l = true → ∀ (st : St), (st.bindAll l).2 = st ∧ ∀ st2 : St, (st2.bindAll l).1 = (st.bindAll l).1
  | [], _, st => ⟨rfl, fun _ => rfl⟩
  | x :: r, h, st => by
    simp only [X.quiets, Bool.and_eq_true] at h
    obtain ⟨a1, a2⟩ := bind_quiet h.1 st
    have b := fun st => bindAll_quiet h.2 st
    refine ⟨?_, fun st2 => ?_⟩
    · simp only [St.bindAll, a1, (b st).1]
    · simp only [St.bindAll, a1, a2 st2]
      obtain ⟨a3, _⟩ := bind_quiet h.1 st2
      rw [a3, (b st).2 st2]
theorem go_grown {st st2 : St} (hw : WF st) (hg : Grown st st2) : ∀ {l : List SV} {xs : List (List T)}, St.giveRo.go st l = some xs → St.giveRo.go st2 l = some xs
  | [], xs, h => h
  | v :: r, xs, h => by
    cases v with
    | ptr b off =>
      cases off with
      | zero =>
        simp only [St.giveRo.go] at h ⊢
        split at h
        · rename_i ho
          rw [hg.box hw ho]
          split at h
          · rename_i hp
            simp only [peekL_grown hg hw hp]
            simp only [Option.map_eq_some_iff] at h ⊢
            obtain ⟨ys, h1, h2⟩ := h
            exact ⟨ys, go_grown hw hg h1, h2⟩
          · cases h
        · cases h
      | succ n => simp [St.giveRo.go] at h
    | dptr cs =>
      simp only [St.giveRo.go, Option.map_eq_some_iff] at h ⊢
      obtain ⟨ys, h1, h2⟩ := h
      exact ⟨ys, go_grown hw hg h1, h2⟩
    | _ => simp [St.giveRo.go] at h
theorem peek_grown {st st2 : St} (hw : WF st) (hg : Grown st st2) {v : SV} {t : T} (h : st.peek v = some t) : st2.peek v = some t := by
  unfold St.peek at h ⊢
  split at h
  · split at h
    · cases h
    · rename_i h1
      simp only [peekL_grown hg hw h1]
      exact h
  · exact peek1_grown hg hw h
theorem giveRo_grown {st st2 : St} (hw : WF st) (hg : Grown st st2) {v : SV} {x : X} (h : st.giveRo v = some x) : st2.giveRo v = some x := by
  cases v with
  | fn g caps =>
    simp only [St.giveRo, Option.map_eq_some_iff] at h ⊢
    obtain ⟨ys, h1, h2⟩ := h
    exact ⟨ys, go_grown hw hg h1, h2⟩
  | ptr b off =>
    simp only [St.giveRo] at h ⊢
    split at h
    · rename_i ho
      rw [hg.box hw ho]
      simp only [Option.map_eq_some_iff] at h ⊢
      obtain ⟨ys, h1, h2⟩ := h
      exact ⟨ys, peekL_grown hg hw h1, h2⟩
    · cases h
  | eptr r i off =>
    simp only [St.giveRo] at h ⊢
    split at h
    · rename_i ho
      obtain ⟨l', h1⟩ := hg.row hw ho
      rw [h1]; exact h
    · cases h
  | dptr cs => exact h
  | _ =>
    simp only [St.giveRo, Option.map_eq_some_iff] at h ⊢
    obtain ⟨t, h1, h2⟩ := h
    exact ⟨t, peek_grown hw hg h1, h2⟩
theorem give_grown {st st2 : St} (hw : WF st) (hg : Grown st st2) : ∀ {l : List SV} {xs : List X}, st.give [] l = some xs → st2.give [] l = some xs
  | [], xs, h => h
  | v :: r, xs, h => by
    simp only [St.give, List.headD_nil, Bool.false_eq_true, if_false, List.tail_nil] at h ⊢
    split at h
    · rename_i h1 h2
      simp only [giveRo_grown hw hg h1, give_grown hw hg h2]
      exact h
    · cases h
/-- What a call tells of its results where the callee is flat. -/
def Tells (E : Env) (C : Nat → List X → List X → List (Option X) → Prop) : Prop := ∀ g xs rs bs, C g xs rs bs → E.flat g = true → X.quiets rs = true
theorem quiet_back {st st1 : St} {v : SV} {g : Nat} {caps vs : List SV} {rs : List X} {bs : List (Option X)} (hm : (E.md g).isEmpty = true) (hf : E.flat g = true) (hq : X.quiets rs = true) (h : callBack E st (.fn g caps) vs rs bs = some (v, st1)) : st1 = st ∧ ∀ st2, callBack E st2 (.fn g caps) vs rs bs = some (v, st2) := by
  have hm' : E.md g = [] := by simpa using hm
  have hk : ∀ st : St, kill (st.mutAll []) st = st := fun _ => rfl
  have hmid : ∀ st : St, callMid E st g (vs ++ caps) = some st := by
    intro st
    unfold callMid
    simp only [hf, hm', muts_nil, hk]
  unfold callBack at h
  simp only [hmid, hm', muts_nil] at h
  split at h
  · cases h
  · rename_i st2 hr
    cases bs with
    | cons b bs => simp [St.regainAll] at hr
    | nil =>
      simp only [St.regainAll, Option.some.injEq] at hr
      subst hr
      obtain ⟨b1, b2⟩ := bindAll_quiet hq st
      simp only [Option.some.injEq, Prod.mk.injEq] at h
      obtain ⟨rfl, rfl⟩ := h
      refine ⟨b1, fun st2 => ?_⟩
      unfold callBack
      simp only [hmid, hm', muts_nil, St.regainAll, b2 st2, (bindAll_quiet hq st2).1]
theorem still_same {o : Oper} {st st1 : St} {v : SV} (hT : Tells E C) (hs : still E o.op = true) (h : Eff E C o st v st1) : st1 = st := by
  unfold still at hs
  rw [Bool.or_eq_true] at hs
  cases h with
  | op h =>
    rcases hs with hs | hs
    · exact reader_same hs h
    · cases ho : o.op <;> rw [ho] at hs h <;> simp only [isQuiet] at hs <;> try contradiction
      rename_i c
      simp only [St.op] at h
      split at hs
      · rename_i hc
        rw [hc] at h
        cases h
      · cases hs
  | @call cl f g xs rs bs ho hc hp hC hb =>
    rcases hs with hs | hs
    · rw [ho] at hs; simp [isReader] at hs
    · rw [ho] at hs
      simp only [isQuiet, hc] at hs
      cases f with
      | func g' =>
        have hv : st.val (.func g') = .fn g' [] := rfl
        rw [hv] at hb hp
        simp only [Bool.and_eq_true] at hs
        have hgg : g = g' := by
          unfold callPrep at hp
          simp only at hp
          split at hp
          · simp only [Option.map_eq_some_iff, Prod.mk.injEq] at hp
            obtain ⟨_, _, e, _⟩ := hp
            exact e.symm
          · cases hp
        subst hgg
        exact (quiet_back hs.1 hs.2 (hT _ _ _ _ hC hs.2) hb).1
      | _ => simp at hs
theorem still_grown {o : Oper} {st st2 : St} {v : SV} (hT : Tells E C) (hs : still E o.op = true) (w : WF st) (hg : Grown st st2) (h1 : st2.s = st.s) (h2 : st2.N = st.N) (h : Eff E C o st v st) : Eff E C o st2 v st2 := by
  have hs0 := hs
  unfold still at hs
  rw [Bool.or_eq_true] at hs
  cases h with
  | op h =>
    rcases hs with hs | hs
    · exact .op (reader_grown hs w hg h1 h2 h)
    · cases ho : o.op <;> rw [ho] at hs h <;> simp only [isQuiet] at hs <;> try contradiction
      rename_i c
      simp only [St.op] at h
      split at hs
      · rename_i hc
        rw [hc] at h
        cases h
      · cases hs
  | @call cl f g xs rs bs ho hc hp hC hb =>
    rcases hs with hs | hs
    · rw [ho] at hs; simp [isReader] at hs
    · rw [ho] at hs
      simp only [isQuiet, hc] at hs
      cases f with
      | func g' =>
        have hv : ∀ st : St, st.val (.func g') = .fn g' [] := fun _ => rfl
        rw [hv] at hb hp
        simp only [Bool.and_eq_true] at hs
        have hm' : E.md g' = [] := by simpa using hs.1
        unfold callPrep at hp
        simp only [hm', muts_nil] at hp
        split at hp
        · simp only [Option.map_eq_some_iff, Prod.mk.injEq] at hp
          obtain ⟨xs', hx, rfl, rfl⟩ := hp
          have hvs : cl.args.toList.map st2.val = cl.args.toList.map st.val := List.map_congr_left (fun x _ => val_same h1 h2 x)
          refine .call ho hc (g := g') (xs := xs') (rs := rs) (bs := bs) ?_ hC ?_
          · rw [hv, hvs]
            unfold callPrep
            simp only [hm', muts_nil, give_grown w hg hx]
            rw [if_pos ⟨by simp [St.mutAll], fun i _ => by simp [St.mutAll]⟩]
            rfl
          · rw [hv, hvs]
            exact (quiet_back hs.1 hs.2 (hT _ _ _ _ hC hs.2) hb).2 st2
        · cases hp
      | _ => simp at hs
theorem swapE (hT : Tells E C) {x y : Oper} {st s1 s2 : St} (hm : mayPass E x y = true) (w : WF st) (hx : StepE E C x st s1) (hy : StepE E C y s1 s2) : ∃ t1, StepE E C y st t1 ∧ StepE E C x t1 s2 := by
  obtain ⟨dx, v, a1, ex, rfl⟩ := hx
  obtain ⟨dy, u, b1, ey, rfl⟩ := hy
  unfold mayPass at hm
  rw [Bool.and_eq_true] at hm
  obtain ⟨hd, hm⟩ := hm
  obtain ⟨hd1, hd2⟩ := disj_x hd
  have kx := ex.keeps w
  have hcomm : ∀ (q : St), ((q.put y.dst u).put x.dst v) = ((q.put x.dst v).put y.dst u) := fun q => (put_comm (fun d hd => (hd1 d hd).2)).symm
  have hNx : (a1.put x.dst v).N = st.N := (put_st a1 x.dst v).1.trans kx.N
  rw [dstOk_N hNx] at dy
  rw [Bool.or_eq_true] at hm
  have caseA : still E x.op = true → (isPure E x.op = true ∨ still E y.op = true ∨ isGrow E y.op = true) → ∃ t1, StepE E C y st t1 ∧ StepE E C x t1 ((b1.put y.dst u)) := by
    intro hr hor
    have := still_same hT hr ex
    subst this
    -- y from the state that x stood in
    have ey' := ey.ss (s := a1.s) (fun i hi => ((put_reads (st := a1) (d := x.dst) (v := v) (op := y.op) (fun e he => (hd1 e he).1)) i hi).symm)
    have h0 : (a1.put x.dst v).ss a1.s = a1 := by cases x.dst <;> rfl
    rw [h0] at ey'
    have ky := ey'.keeps w
    refine ⟨(b1.ss a1.s).put y.dst u, ⟨dy, u, _, ey', rfl⟩, ?_, v, (b1.ss a1.s).put y.dst u, ?_, ?_⟩
    · rw [dstOk_N ((put_st _ _ _).1.trans ky.N)]; exact dx
    · -- x in the new state
      have hin : Eff E C x (b1.ss a1.s) v (b1.ss a1.s) := by
        rcases hor with hp | hp | hp
        · have hxr : isReader x.op = true := by cases hx : x.op <;> rw [hx] at hp <;> first | rfl | simp [isPure] at hp
          have hxop : a1.op E x.op = some (v, a1) := by
            cases ex with
            | op h => exact h
            | call ho => rw [ho] at hxr; simp [isReader] at hxr
          exact .op (pure_any (st := a1) (st2 := b1.ss a1.s) hp rfl ky.N hxop).2
        · rw [still_same hT hp ey']; exact ex
        · exact still_grown (st := a1) (st2 := b1.ss a1.s) hT hr w (ey'.grown hp) rfl ky.N ex
      have := hin.ss (s := ((b1.ss a1.s).put y.dst u).s) (put_reads hd2)
      rw [← put_ss] at this
      exact this
    · rw [hcomm]
      -- the slots
      have hb : b1 = (b1.ss a1.s).put x.dst v := by
        have hs : b1.s = (a1.put x.dst v).s := (ey.keeps (by intro i hi; rw [(put_st a1 x.dst v).2.2]; rw [(put_st a1 x.dst v).2.1] at hi; exact w i hi)).s
        cases hxd : x.dst with
        | none =>
          rw [hxd] at hs
          show b1 = b1.ss a1.s
          have hs' : b1.s = a1.s := hs
          rw [← hs']; rfl
        | some d =>
          rw [hxd] at hs
          have hs' : b1.s = upd a1.s d v := hs
          show b1 = { (b1.ss a1.s) with s := upd a1.s d v }
          rw [← hs']; rfl
      rw [← hb]
  rcases hm with hm | hp
  · rw [Bool.and_eq_true, Bool.or_eq_true, Bool.or_eq_true] at hm
    obtain ⟨h1, h2⟩ := hm
    exact caseA h1 (by rcases h2 with (h | h) | h <;> simp [h])
  · -- y is pure
    have hr : isReader y.op = true := by cases hy : y.op <;> rw [hy] at hp <;> first | rfl | simp [isPure] at hp
    have hyop : (a1.put x.dst v).op E y.op = some (u, b1) := by
      cases ey with
      | op h => exact h
      | call ho => rw [ho] at hr; simp [isReader] at hr
    have := reader_same hr hyop
    subst this
    have h1 : a1.op E y.op = some (u, a1) := by
      have h2 := ss_op E a1 y.op (s := (a1.put x.dst v).s) (put_reads (fun e he => (hd1 e he).1))
      rw [← put_ss, hyop] at h2
      cases h3 : a1.op E y.op with
      | none => rw [h3] at h2; cases h2
      | some p =>
        rw [h3] at h2
        simp only [Option.map_some, onSt, Option.some.injEq, Prod.mk.injEq] at h2
        have := reader_same hr (show a1.op E y.op = some (p.1, p.2) from h3)
        obtain ⟨p1, p2⟩ := p
        simp only at this h2
        rw [this, h2.1]
    have h2 : st.op E y.op = some (u, st) := (pure_any (st2 := st) hp kx.s.symm kx.N.symm h1).2
    refine ⟨st.put y.dst u, ⟨dy, u, st, .op h2, rfl⟩, ?_, v, (a1.put y.dst u), ?_, ?_⟩
    · rw [dstOk_N (put_st _ _ _).1]; exact dx
    · have := ex.ss (s := (st.put y.dst u).s) (put_reads hd2)
      rw [← put_ss] at this
      have he : a1.ss (st.put y.dst u).s = a1.put y.dst u := by
        cases y.dst with
        | none => show a1.ss st.s = a1; rw [← kx.s]; rfl
        | some d => show a1.ss (upd st.s d u) = _; rw [← kx.s]; rfl
      rwa [he] at this
    · rw [hcomm]

/-- The slot that a guard reads. -/
def gslot (all : Array Oper) (o : Oper) : Option Nat := o.guard.bind fun g => (all[g.1]?).bind (·.dst)
def guardsApart (all : Array Oper) (x y : Oper) : Bool :=
  (match gslot all y with
    | none => true
    | some d => x.dst != some d) &&
  (match gslot all x with
    | none => true
    | some d => y.dst != some d)
def mayPassG (E : Env) (all : Array Oper) (x y : Oper) : Bool := mayPass E x y && guardsApart all x y
theorem guard_same {all : Array Oper} {o : Oper} {st st1 : St} (hN : st1.N = st.N) (h : ∀ d, gslot all o = some d → st1.s d = st.s d) : guardOf all st1 o = guardOf all st o := by
  unfold guardOf
  cases hg : o.guard with
  | none => rfl
  | some g =>
    obtain ⟨j, want⟩ := g
    simp only
    cases hd : (all[j]?).bind (·.dst) with
    | none => rfl
    | some d =>
      have := h d (by simp [gslot, hg, hd])
      simp only [St.val, hN, this]
/-- One operation: done, or passed over. -/
def StepR (E : Env) (C : Nat → List X → List X → List (Option X) → Prop) (all : Array Oper) (o : Oper) (st st' : St) : Prop :=
  (guardOf all st o = some true ∧ StepE E C o st st') ∨ (guardOf all st o = some false ∧ dstOk st o = true ∧ st' = st.put o.dst (.tup []))
theorem StepE.keep {o : Oper} {st st1 : St} (h : StepE E C o st st1) (w : WF st) : st1.N = st.N ∧ ∀ d, o.dst ≠ some d → st1.s d = st.s d := by
  obtain ⟨_, v, a, ha, rfl⟩ := h
  have k := ha.keeps w
  exact ⟨(put_st _ _ _).1.trans k.N, fun d hd => (put_off hd).trans (by rw [k.s])⟩
theorem swap (hT : Tells E C) {all : Array Oper} {x y : Oper} {st s1 s2 : St} (hm : mayPassG E all x y = true) (w : WF st) (hx : StepR E C all x st s1) (hy : StepR E C all y s1 s2) : ∃ t1, StepR E C all y st t1 ∧ StepR E C all x t1 s2 := by
  unfold mayPassG at hm
  rw [Bool.and_eq_true] at hm
  obtain ⟨hm, hga⟩ := hm
  have gy : ∀ d, gslot all y = some d → x.dst ≠ some d := by
    intro d hd
    unfold guardsApart at hga
    rw [Bool.and_eq_true, hd] at hga
    simpa using hga.1
  have gx : ∀ d, gslot all x = some d → y.dst ≠ some d := by
    intro d hd
    unfold guardsApart at hga
    rw [Bool.and_eq_true, hd] at hga
    simpa using hga.2
  have hdj : disjointS x y = true := by
    unfold mayPass at hm
    rw [Bool.and_eq_true] at hm
    exact hm.1
  obtain ⟨hd1, hd2⟩ := disj_x hdj
  have hcomm : ∀ (q : St) (u v : SV), ((q.put y.dst u).put x.dst v) = ((q.put x.dst v).put y.dst u) := fun q u v => (put_comm (fun d hd => (hd1 d hd).2)).symm
  rcases hx with ⟨hgx, hx⟩ | ⟨hgx, dx, rfl⟩
  · obtain ⟨kN, ks⟩ := hx.keep w
    have e1 : guardOf all s1 y = guardOf all st y := guard_same kN (fun d hd => ks d (gy d hd))
    rcases hy with ⟨hgy, hy⟩ | ⟨hgy, dy, rfl⟩
    · obtain ⟨t1, h1, h2⟩ := swapE hT hm w hx hy
      obtain ⟨kN', ks'⟩ := h1.keep w
      have e2 : guardOf all t1 x = guardOf all st x := guard_same kN' (fun d hd => ks' d (gx d hd))
      exact ⟨t1, .inl ⟨e1 ▸ hgy, h1⟩, .inl ⟨e2.trans hgx, h2⟩⟩
    · have e2 : guardOf all (st.put y.dst (.tup [])) x = guardOf all st x := guard_same (put_st _ _ _).1 (fun d hd => put_off (gx d hd))
      refine ⟨st.put y.dst (.tup []), .inr ⟨e1 ▸ hgy, (dstOk_N kN).symm.trans dy, rfl⟩, .inl ⟨e2.trans hgx, ?_⟩⟩
      obtain ⟨dx, v, a1, ex, rfl⟩ := hx
      have k := ex.keeps w
      refine ⟨by rw [dstOk_N (put_st _ _ _).1]; exact dx, v, a1.ss (st.put y.dst (.tup [])).s, ?_, ?_⟩
      · have := ex.ss (s := (st.put y.dst (.tup [])).s) (put_reads hd2)
        rw [← put_ss] at this
        exact this
      · have he : a1.ss (st.put y.dst (.tup [])).s = a1.put y.dst (.tup []) := by
          cases y.dst with
          | none => show a1.ss st.s = a1; rw [← k.s]; rfl
          | some d => show a1.ss (upd st.s d (.tup [])) = _; rw [← k.s]; rfl
        rw [he, hcomm]
  · have e1 : guardOf all (st.put x.dst (.tup [])) y = guardOf all st y := guard_same (put_st _ _ _).1 (fun d hd => put_off (gy d hd))
    rcases hy with ⟨hgy, hy⟩ | ⟨hgy, dy, rfl⟩
    · obtain ⟨dy, u, b1, ey, rfl⟩ := hy
      have ey' := ey.ss (s := st.s) (fun i hi => ((put_reads (st := st) (d := x.dst) (v := .tup []) (op := y.op) (fun e he => (hd1 e he).1)) i hi).symm)
      have h0 : (st.put x.dst (.tup [])).ss st.s = st := by cases x.dst <;> rfl
      rw [h0] at ey'
      have ky := ey'.keeps w
      have hq : StepE E C y st ((b1.ss st.s).put y.dst u) := ⟨(dstOk_N (put_st _ _ _).1).symm.trans dy, u, _, ey', rfl⟩
      obtain ⟨kN', ks'⟩ := hq.keep w
      have e2 : guardOf all ((b1.ss st.s).put y.dst u) x = guardOf all st x := guard_same kN' (fun d hd => ks' d (gx d hd))
      refine ⟨_, .inl ⟨e1 ▸ hgy, hq⟩, .inr ⟨e2.trans hgx, (dstOk_N kN').trans dx, ?_⟩⟩
      rw [hcomm]
      have hb : b1 = (b1.ss st.s).put x.dst (.tup []) := by
        have hs : b1.s = (st.put x.dst (.tup [])).s := (ey.keeps (by intro i hi; rw [(put_st st x.dst (.tup [])).2.2]; rw [(put_st st x.dst (.tup [])).2.1] at hi; exact w i hi)).s
        cases hxd : x.dst with
        | none =>
          rw [hxd] at hs
          show b1 = b1.ss st.s
          have hs' : b1.s = st.s := hs
          rw [← hs']; rfl
        | some d =>
          rw [hxd] at hs
          have hs' : b1.s = upd st.s d (.tup []) := hs
          show b1 = { (b1.ss st.s) with s := upd st.s d (.tup []) }
          rw [← hs']; rfl
      rw [← hb]
    · have e2 : guardOf all (st.put y.dst (.tup [])) x = guardOf all st x := guard_same (put_st _ _ _).1 (fun d hd => put_off (gx d hd))
      exact ⟨st.put y.dst (.tup []), .inr ⟨e1 ▸ hgy, (dstOk_N (put_st _ _ _).1).symm.trans dy, rfl⟩, .inr ⟨e2.trans hgx, (dstOk_N (put_st _ _ _).1).trans dx, (hcomm st (.tup []) (.tup [])).symm⟩⟩

/-- A list of operations, one by one. -/
inductive OpsR (E : Env) (C : Nat → List X → List X → List (Option X) → Prop) (all : Array Oper) : List Oper → St → St → Prop
  | nil (st : St) : OpsR E C all [] st st
  | cons {o : Oper} {r : List Oper} {st st1 st2 : St} (h : StepR E C all o st st1) (k : OpsR E C all r st1 st2) : OpsR E C all (o :: r) st st2
theorem StepR.wf {all : Array Oper} {o : Oper} {st st1 : St} (h : StepR E C all o st st1) (w : WF st) : WF st1 := by
  rcases h with ⟨_, _, v, a, ha, rfl⟩ | ⟨_, _, rfl⟩
  · have := (ha.keeps w).wf w
    intro i hi
    rw [(put_st a o.dst v).2.1] at hi
    rw [(put_st a o.dst v).2.2]
    exact this i hi
  · intro i hi
    rw [(put_st st o.dst (.tup [])).2.1] at hi
    rw [(put_st st o.dst (.tup [])).2.2]
    exact w i hi
inductive Swaps (E : Env) (all : Array Oper) : List Oper → List Oper → Prop
  | refl (l : List Oper) : Swaps E all l l
  | cons {o : Oper} {l l' : List Oper} (h : Swaps E all l l') : Swaps E all (o :: l) (o :: l')
  | swap {x y : Oper} {l l' : List Oper} (h : mayPassG E all x y = true) (k : Swaps E all (y :: x :: l) l') : Swaps E all (x :: y :: l) l'
  | trans {a b c : List Oper} (h : Swaps E all a b) (k : Swaps E all b c) : Swaps E all a c
theorem OpsR.swaps (hT : Tells E C) {all : Array Oper} {l l' : List Oper} (hr : Swaps E all l l') : ∀ {st st' : St}, WF st → OpsR E C all l st st' → OpsR E C all l' st st' := by
  induction hr with
  | refl l => exact fun _ h => h
  | cons h ih =>
    intro st st' w h
    cases h with
    | cons h1 h2 => exact .cons h1 (ih (h1.wf w) h2)
  | swap hm k ih =>
    intro st st' w h
    cases h with
    | cons h1 h2 =>
      cases h2 with
      | cons h2 h3 =>
        obtain ⟨t1, k1, k2⟩ := Ev.swap hT hm w h1 h2
        exact ih w (.cons k1 (.cons k2 h3))
  | trans h k ih1 ih2 => exact fun w h => ih2 w (ih1 w h)
end
end Go.Ev
/- What the evaluator computes is what the program does. -/
set_option linter.unusedSimpArgs false
set_option linter.unusedVariables false
namespace Go.Ev

structure SOK (E : Env) (P : Program) : Prop where
  pok : POK E P
  name : ∀ (f : Nat) (fn : Func), P.funcs[f]? = some fn → fn.body.isSome = true → (fn.name == "runtime.NumGoroutine") = false
  ext : ∀ f g args rs bs, E.ext f = some g → g args = some (rs, bs) → CallOK E P f args rs bs
  draw : ∀ ops l, E.draw ops = some l → ∀ t, Swaps E ops l ((Region.schedule (P.follows .mixedOrders) ops t).filterMap (ops[·]?))

def LoopWp (P : Program) (c : Code) (Q : Exit → Act → World → Prop) (a : Act) (w : World) : Prop :=
  ∀ (b : Frame) (k : List Item) (cs : List Frame), ∃ e a' w', Q e a' w' ∧ Arrives P (lone (b.at a (.code c :: .inLoop c :: k)) cs w) b k cs e a' w'
theorem LoopWp.wp {P : Program} {c : Code} {Q : Exit → Act → World → Prop} {a : Act} {w : World} (h : LoopWp P c Q a w) : (Code.loop c).wp P Q a w :=
  fun b k cs => let ⟨e, a', w', q, r⟩ := h b k cs; ⟨e, a', w', q, .of_steps (.one step_loop) r⟩
theorem LoopWp.round {P : Program} {c : Code} {Q : Exit → Act → World → Prop} {a : Act} {w : World} (h : c.wp P (Exit.then (LoopWp P c Q) Q) a w) : LoopWp P c Q a w := by
  intro b k cs
  obtain ⟨e, a₁, w₁, hq, harr⟩ := h b (.inLoop c :: k) cs
  cases e with
  | normal =>
    obtain ⟨e₂, a₂, w₂, hq₂, harr₂⟩ := hq b k cs
    exact ⟨e₂, a₂, w₂, hq₂, .of_steps (Steps.trans harr (.one step_inLoop)) harr₂⟩
  | exit id => exact ⟨_, a₁, w₁, hq, .pass (x := .inLoop c) rfl (fun _ _ => .inl (by simp)) harr⟩
  | goto l => exact ⟨_, a₁, w₁, hq, .pass (x := .inLoop c) rfl (fun _ _ => .inl (by simp)) harr⟩
  | ret => exact ⟨_, a₁, w₁, hq, .pass (x := .inLoop c) rfl (fun _ _ => .inl (by simp)) harr⟩
  | panic ch => exact ⟨_, a₁, w₁, hq, .pass (x := .inLoop c) rfl (fun _ _ => .inl (by simp)) harr⟩
  | outgrown => exact ⟨_, a₁, w₁, hq, .pass (x := .inLoop c) rfl (fun _ _ => .inl (by simp)) harr⟩
def CodeWp (P : Program) : Code → (Exit → Act → World → Prop) → Act → World → Prop
  | .loop c => LoopWp P c
  | c => c.wp P
theorem CodeWp.wp {P : Program} {c : Code} {Q : Exit → Act → World → Prop} {a : Act} {w : World} (h : CodeWp P c Q a w) : c.wp P Q a w := by
  cases c <;> first | exact h | exact LoopWp.wp h

def ExOf : Ex → Exit
  | .normal => .normal
  | .exit id => .exit id
  | .ret => .ret
def Fine (E : Env) (M0 : Nat → Prop) (w0 : World) (c : Ctx) (e : Ex) (st' : St) : Exit → Act → World → Prop := fun x a' w' => x = ExOf e ∧ ∃ c', c.Le c' ∧ Inv E M0 w0 c' st' w' ∧ InvA c' st' a' w'
theorem Fine.mono {E : Env} {M0 : Nat → Prop} {w0 : World} {c c1 : Ctx} {e : Ex} {st' : St} {x : Exit} {a : Act} {w : World} (h : Fine E M0 w0 c1 e st' x a w) (hc : c.Le c1) : Fine E M0 w0 c e st' x a w := by
  obtain ⟨h1, c', h2, h3⟩ := h
  exact ⟨h1, c', hc.trans h2, h3⟩

inductive OpsG (E : Env) (C : Nat → List X → List X → List (Option X) → Prop) (all : Array Oper) : List Oper → St → St → Prop
  | nil (st : St) : OpsG E C all [] st st
  | skip {o : Oper} {r : List Oper} {st st2 : St} (hd : dstOk st o = true) (hg : guardOf all st o = some false) (k : OpsG E C all r (st.put o.dst (.tup [])) st2) : OpsG E C all (o :: r) st st2
  | cons {o : Oper} {r : List Oper} {st st1 st2 : St} {v : SV} (hd : dstOk st o = true) (hg : guardOf all st o = some true) (h : Eff E C o st v st1) (k : OpsG E C all r (st1.put o.dst v) st2) : OpsG E C all (o :: r) st st2
theorem OpsG.toR {E : Env} {C : Nat → List X → List X → List (Option X) → Prop} {all : Array Oper} {l : List Oper} {st st' : St} (h : OpsG E C all l st st') : OpsR E C all l st st' := by
  induction h with
  | nil st => exact .nil st
  | skip hd hg k ih => exact .cons (.inr ⟨hg, hd, rfl⟩) ih
  | cons hd hg h k ih => exact .cons (.inl ⟨hg, hd, _, _, h, rfl⟩) ih
def Sound (E : Env) (P : Program) : Task → Out → Prop
  | .code c st, .st e st' => ∀ M0 w0 ctx a w, Inv E M0 w0 ctx st w → InvA ctx st a w → CodeWp P c (Fine E M0 w0 ctx e st') a w
  | .ops all rest st, .st e st' => e = .normal ∧ OpsG E (CallOK E P) all rest st st'
  | .call f xs, .res rs bs => CallOK E P f xs rs bs
  | _, _ => True

section
variable {E : Env} {P : Program} {M0 : Nat → Prop} {w0 : World} {c : Ctx} {st st' : St} {a : Act} {w w' : World}

theorem Inv.slots (hI : Inv E M0 w0 c st w) (s : Nat → SV) (N : Nat) : Inv E M0 w0 c { st with s := s, N := N } w := ⟨hI.n, hI.obs, hI.dead, hI.inj, hI.own, hI.F, hI.one, hI.same, hI.bnd⟩
theorem Inv.put (hI : Inv E M0 w0 c st w) (d : Option Nat) (v : SV) : Inv E M0 w0 c (st.put d v) w := by
  cases d with
  | none => exact hI
  | some d => exact ⟨hI.n, hI.obs, hI.dead, hI.inj, hI.own, hI.F, hI.one, hI.same, hI.bnd⟩
theorem Inv.drawn (hI : Inv E M0 w0 c st w) (d : Nat) : Inv E M0 w0 c st { w with drawn := d } := by
  refine hI.world (S := fun _ => False) ⟨Nat.le_refl _, fun _ _ _ => rfl, rfl, rfl, rfl⟩ (fun _ h => h.elim) (fun _ _ _ h => h)
theorem InvA.drawn (hA : InvA c st a w) (d : Nat) : InvA c st a { w with drawn := d } := hA.mono (Ctx.Le.refl c) (fun _ _ => rfl) rfl rfl

theorem rel_skip : Rel c w (.tup []) undef := .tup [] #[] rfl (fun i s v hs _ => by simp at hs)
theorem wanted_of (hA : InvA c st a w) {all : Array Oper} {o : Oper} {b : Bool} (h : guardOf all st o = some b) : Region.wanted o (yielded all a.tmps) = b := by
  unfold guardOf at h
  unfold Region.wanted
  split at h
  · rename_i hg
    obtain rfl := Option.some.inj h
    rw [hg]
  · rename_i j want hg
    rw [hg]
    split at h
    · cases h
    · rename_i d hd
      split at h
      · rename_i x hx
        obtain rfl := Option.some.inj h
        have hlt : d < st.N := by
          by_cases hlt : d < st.N
          · exact hlt
          · simp [St.val, hlt] at hx
        have hr := val_rel hA (.tmp d)
        rw [hx] at hr
        have he := hr.bool
        have hsz : d < a.tmps.size := by rw [hA.size]; exact hlt
        have hg : a.tmps[d]? = some (.bool x) := by
          simp only [Act.eval, Array.getD, hsz, dif_pos] at he
          rw [Array.getElem?_eq_getElem hsz]
          exact congrArg some he
        simp only [yielded, hd, Option.bind_some, hg]
        cases x <;> cases want <;> rfl
      · rename_i hx
        obtain rfl := Option.some.inj h
        have hr := val_rel hA (.tmp d)
        rw [hx] at hr
        have he : a.eval (.tmp d) = .tuple #[] := by
          generalize a.eval (.tmp d) = v at hr
          cases hr with
          | tup cs vs hl hh =>
            have : vs = #[] := by
              cases vs with
              | mk l => cases l with
                | nil => rfl
                | cons x l => simp at hl
            rw [this]
        have hg : ((all[j]?).bind (·.dst)).bind (a.tmps[·]?) = none ∨ ((all[j]?).bind (·.dst)).bind (a.tmps[·]?) = some (.tuple #[]) := by
          rw [hd, Option.bind_some]
          by_cases hsz : d < a.tmps.size
          · right
            simp only [Act.eval, Array.getD, hsz, dif_pos] at he
            rw [Array.getElem?_eq_getElem hsz]
            exact congrArg some he
          · left
            exact Array.getElem?_eq_none (Nat.le_of_not_lt hsz)
        rcases hg with hg | hg <;> simp [yielded, hg]
      · cases h

theorem resVals_ok (hP : POK E P) (hI : Inv E M0 w0 c st w) (hA : InvA c st a w) : ∀ {rvs : List ResultVar} {ss : List SV}, st.resVals E rvs = some ss → ∃ us : List Value, us.length = ss.length ∧ (∀ (i : Nat) s v, ss[i]? = some s → us[i]? = some v → Rel c w s v) ∧
    (rvs.mapM (fun | .tmp t => pure (a.tmps.getD t undef) | .cell x t => do loadVar t (← asAddr (a.tmps.getD x undef)) : ResultVar → Sem Value)).run P w = .ok us w
  | [], ss, h => by
    simp only [St.resVals, Option.some.injEq] at h
    subst h
    exact ⟨[], rfl, fun i s v hs => by simp at hs, rfl⟩
  | .tmp t :: r, ss, h => by
    simp only [St.resVals, Option.map_eq_some_iff] at h
    obtain ⟨ss', h1, rfl⟩ := h
    obtain ⟨us, g1, g2, g3⟩ := resVals_ok hP hI hA h1
    refine ⟨a.tmps.getD t undef :: us, by simp [g1], fun i s v hs hv => ?_, ?_⟩
    · cases i with
      | zero => simp at hs hv; subst hs; subst hv; simpa [Act.eval] using val_rel hA (.tmp t)
      | succ i => exact g2 i s v (by simpa using hs) (by simpa using hv)
    · simp only [List.mapM_cons, Sem.run_bind, Sem.run_pure, Result.andThen_ok, g3]
  | .cell x t :: r, ss, h => by
    simp only [St.resVals] at h
    split at h
    · rename_i s ss' h1 h2
      obtain rfl := Option.some.inj h
      obtain ⟨us, g1, g2, g3⟩ := resVals_ok hP hI hA h2
      have hr := val_rel hA (.tmp x)
      obtain ⟨u, u1, u2⟩ := load_run (P := P) hP hI hr h1
      have hu : (do loadVar t (← asAddr (a.tmps.getD x undef)) : Sem Value).run P w = .ok u w := by
        have : a.eval (.tmp x) = a.tmps.getD x undef := rfl
        rw [this] at u1
        unfold Instr.loadAt at u1
        generalize a.tmps.getD x undef = p at u1
        cases p with
        | pointer p =>
          cases p with
          | some A => exact u1
          | none => simp [Instr.sureAddr, stuck] at u1
        | _ => simp [Instr.sureAddr, stuck] at u1
      refine ⟨u :: us, by simp [g1], fun i s v hs hv => ?_, ?_⟩
      · cases i with
        | zero => simp at hs hv; subst hs; subst hv; exact u2
        | succ i => exact g2 i s v (by simpa using hs) (by simpa using hv)
      · simp only [List.mapM_cons, Sem.run_bind] at hu ⊢
        rw [hu]
        simp only [Result.andThen_ok, g3, Sem.run_pure]
    · cases h
theorem results_ok (hP : POK E P) (hI : Inv E M0 w0 c st w) (hA : InvA c st a w) {fn : Func} {ss : List SV} (h : st.resVals E fn.results.toList = some ss) : ∃ us : List Value, us.length = ss.length ∧ (∀ (i : Nat) s v, ss[i]? = some s → us[i]? = some v → Rel c w s v) ∧ (results fn a.tmps).run P w = .ok (resV us) w := by
  obtain ⟨us, g1, g2, g3⟩ := resVals_ok hP hI hA h
  refine ⟨us, g1, g2, ?_⟩
  unfold results
  rw [Array.mapM_eq_mapM_toList]
  simp only [Sem.run_bind]
  have : (List.toArray <$> (fn.results.toList.mapM (fun | .tmp t => pure (a.tmps.getD t undef) | .cell x t => do loadVar t (← asAddr (a.tmps.getD x undef)) : ResultVar → Sem Value))).run P w = .ok us.toArray w := by
    simp only [map_eq_pure_bind, Sem.run_bind, g3, Result.andThen_ok, Sem.run_pure]
  erw [this]
  simp only [Result.andThen_ok, Sem.run_pure]
  match us with
  | [u] => rfl
  | [] => rfl
  | u :: u' :: r => simp [resV]

theorem bindAll_length : ∀ (l : List X) (st : St), (st.bindAll l).1.length = l.length
  | [], st => rfl
  | x :: r, st => by simp [St.bindAll, bindAll_length r]
/-- A function's body gives the call. -/
theorem body_ok (hE : SOK E P) {f : Nat} {fn : Func} {cd : Code} {args rs : List X} {bs : List (Option X)} {e : Ex} {st : St} (hf : P.funcs[f]? = some fn) (hb : fn.body = some cd)
    (hw : Sound E P (.code cd (initSt fn.ntmps (emptySt.bindAll args).1 (emptySt.bindAll args).2)) (.st e st)) (he : (e = .normal ∨ e = .ret) ∧ args.length ≤ fn.ntmps)
    (hfin : st.finish E (E.flat f) fn.results.toList (muts (E.md f) (emptySt.bindAll args).1) = some (rs, bs)) : CallOK E P f args rs bs := by
  unfold St.finish at hfin
  split at hfin
  · cases hfin
  · rename_i ss hss
    split at hfin
    · cases hfin
    · rename_i rs' st2 htake
      simp only at hfin
      split at hfin
      · rename_i hflat
        simp only [Option.some.injEq, Prod.mk.injEq] at hfin
        obtain ⟨rfl, rfl⟩ := hfin
        refine ⟨fun h => by simpa [h] using hflat, fun F w vals bl hx hn hfr hF => .inl ⟨?_, ?_⟩⟩
        · have hnm := hE.name f fn hf (by rw [hb]; rfl)
          have hnm' : ¬ fn.name = "runtime.NumGoroutine" := by simpa using hnm
          simp [callFunc, hf, hnm', hb]
        · have h0 : Inv E (fun k => k ∈ bl) w ⟨0, fun _ => 0, fun _ => undef, fun _ => 0, F, F⟩ emptySt w :=
            ⟨rfl, fun i hi => (by cases hi), fun _ _ => rfl, fun i j hi => (by cases hi), fun i hi => (by cases hi), hF, fun i hi => (by cases hi), Same.refl _ _, fun k hk => .inl hk⟩
          obtain ⟨c1, b1, l1, r1⟩ := bindAll_ok h0 hx hn (fun k hk => ⟨(hfr k hk).1, (hfr k hk).2, .inl hk, fun i hi => by cases hi⟩)
          have hF1 : c1.F = F := b1.F
          have hsz : vals.size = (emptySt.bindAll args).1.length := by rw [l1]; simp
          have hal : (emptySt.bindAll args).1.length = args.length := bindAll_length args emptySt
          have hA1 : InvA c1 (initSt fn.ntmps (emptySt.bindAll args).1 (emptySt.bindAll args).2) { tmps := vals ++ Array.replicate (fn.ntmps - vals.size) undef, defers := [] } w := by
            refine ⟨?_, rfl, fun i hi => ?_⟩
            · show (vals ++ Array.replicate (fn.ntmps - vals.size) undef).size = fn.ntmps
              simp only [Array.size_append, Array.size_replicate]
              omega
            · show Rel c1 w ((emptySt.bindAll args).1.getD i .undef) _
              by_cases hlt : i < (emptySt.bindAll args).1.length
              · have hlt2 : i < vals.size := by omega
                have := r1 i _ vals[i] (List.getElem?_eq_getElem hlt) (by simp [hlt2])
                simp only [List.getD_eq_getElem?_getD, List.getElem?_eq_getElem hlt, Option.getD_some]
                have hg : (vals ++ Array.replicate (fn.ntmps - vals.size) undef).getD i undef = vals[i] := by
                  rw [Array.getD_eq_getD_getElem?, Array.getElem?_append, if_pos hlt2, Array.getElem?_eq_getElem hlt2]
                  rfl
                rw [hg]
                exact this
              · simp only [List.getD_eq_getElem?_getD, List.getElem?_eq_none (Nat.le_of_not_lt hlt), Option.getD_none]
                exact .undef _
          have hcode := (hw _ _ _ _ _ (b1.inv.slots _ _) hA1).wp
          refine calls_of_wp hf hb (wp_mono hcode ?_)
          rintro x a' w' ⟨rfl, c2, hle, hI2, hA2⟩
          obtain ⟨us, u1, u2, u3⟩ := results_ok hE.pok hI2 hA2 hss
          obtain ⟨br, t1, t2⟩ := takeAll_ok (vs := us) hI2 u1 u2 htake
          have hkeep : ∀ k, c1.F k → w'.heap[k]? = w.heap[k]? := fun k hk => hI2.same.blk k (hF k (hF1 ▸ hk)) (fun hm => (hfr k hm).2 (hF1 ▸ hk))
          have hms := muts_rel (c := c1) (w := w) (md := E.md f) (ss := (emptySt.bindAll args).1) (vs := vals.toList) (by rw [l1]) r1
          obtain ⟨bb, k1, k2⟩ := backAll_ok (vs := muts (E.md f) vals.toList) t2.inv hms.1 (fun i s v hs hv => (hms.2 i s v hs hv).mono hle hkeep)
          have htk := t2.trans k2
          have hpost : ∃ us', Ending.returned (resV us) = .returned (resV us') ∧ Leaves E F w bl (muts (E.md f) vals.toList) rs' (st2.backAll (muts (E.md f) (emptySt.bindAll args).1)).1 us' w' := by
            refine ⟨us, rfl, c2.F, br, bb, hI2.same, fun k hk => hle.F k (by rw [hF1]; exact hk), fun k hk => ?_, hI2.F, t1, k1, htk.nodup, fun k hk => ?_⟩
            · rcases hI2.bnd k hk with h | h
              · exact .inl (b1.le.F0 k (hle.F0 k h))
              · exact .inr h
            · exact htk.free hI2 hk
          rcases he.1 with rfl | rfl
          · exact ⟨hA2.dfr, _, u3, hpost⟩
          · exact ⟨hA2.dfr, _, u3, hpost⟩
      · cases hfin

/-- One operation. -/
theorem op_wp (hE : SOK E P) (hI : Inv E M0 w0 c st w) (hA : InvA c st a w) {o : Oper} {r : SV} {st1 : St} (h : st.op E o.op = some (r, st1)) {K : Act → World → Prop} {Q : Exit → Act → World → Prop}
    (hK : ∀ c' a' w', c.Le c' → Inv E M0 w0 c' (st1.put o.dst r) w' → InvA c' (st1.put o.dst r) a' w' → K a' w') : o.wp P a w K Q := by
  obtain ⟨n, w', h1, c', x, hx, hs⟩ := op_sound (P := P) hE.pok hI hA h
  have hA' := (hA.mono hs.le hs.keep hs.hs hs.hN)
  unfold Oper.wp
  rw [h1]
  rcases hx with rfl | ⟨rfl, rfl⟩
  · exact hK c' _ w' hs.le (hs.inv.put _ _) (hA'.put hs.rel)
  · exact hK c' _ w' hs.le (hs.inv.put _ _) (hA'.put hs.rel)
/-- One call. -/
theorem call_wp (hI : Inv E M0 w0 c st w) (hA : InvA c st a w) {o : Oper} {cl : Call} {f : Operand} {g : Nat} {xs rs : List X} {bs : List (Option X)} {r : SV} {st1 : St} (ho : o.op = .call cl) (hcl : cl.callee = .value f)
    (hp : callPrep E st (st.val f) (cl.args.toList.map st.val) = some (g, xs)) (hc : CallOK E P g xs rs bs) (hb : callBack E st (st.val f) (cl.args.toList.map st.val) rs bs = some (r, st1)) {K : Act → World → Prop} {Q : Exit → Act → World → Prop}
    (hK : ∀ c' a' w', c.Le c' → Inv E M0 w0 c' (st1.put o.dst r) w' → InvA c' (st1.put o.dst r) a' w' → K a' w') : o.wp P a w K Q := by
  obtain ⟨caps, hfv, hgo⟩ := call_ok (us := cl.args.toList.map a.eval) hI (val_rel hA f) (by simp) (fun i s v hs hv => by
    rw [List.getElem?_map, Option.map_eq_some_iff] at hs hv
    obtain ⟨p, hp, rfl⟩ := hs
    obtain ⟨p', hp', rfl⟩ := hv
    rw [hp] at hp'
    obtain rfl := Option.some.inj hp'
    exact val_rel hA _) hp hc hb
  have hargs : (cl.args.toList.map a.eval).toArray = cl.args.map a.eval := by apply Array.ext'; simp
  rw [hargs] at hgo
  have hrun : (execOp a.eval o).run P w = (callFunc g (cl.args.map a.eval ++ caps)).run P w := by
    unfold execOp
    simp only [ho, resolve, hcl, hfv, Deferred.ofValue, Sem.run_bind, Sem.run_pure, Result.andThen_ok, invoke]
    congr 2
    simp
  have hnext : ∀ e w', (∃ u, e = Ending.returned u ∧ ∃ c', Step E M0 w0 c st w r st1 c' u w') → ∃ u, e = .returned u ∧ K (a.put o.dst u) w' := by
    rintro e w' ⟨u, rfl, c', hs⟩
    exact ⟨u, rfl, hK c' _ w' hs.le (hs.inv.put _ _) ((hA.mono hs.le hs.keep hs.hs hs.hN).put hs.rel)⟩
  unfold Oper.wp
  rw [hrun]
  rcases hgo with ⟨h1, h2⟩ | ⟨v, w', h1, h2⟩
  · rw [h1, Oper.upon_enter]
    refine h2.mono (fun e w' he => ?_)
    obtain ⟨u, rfl, h⟩ := hnext e w' he
    exact h
  · rw [h1, Oper.upon_value]
    obtain ⟨u, he, h⟩ := hnext _ w' h2
    injection he with he
    subst he
    exact h
theorem wpList_cons {all : Array Oper} {o : Oper} {rest : List Oper} {Q : Exit → Act → World → Prop} (hA : InvA c st a w) (hg : guardOf all st o = some true) (h : o.wp P a w (wpList P all Q rest) Q) : wpList P all Q (o :: rest) a w := by
  simp only [wpList, wanted_of hA hg, if_true]
  exact .inl h
theorem wpList_skip {all : Array Oper} {o : Oper} {rest : List Oper} {Q : Exit → Act → World → Prop} (hA : InvA c st a w) (hg : guardOf all st o = some false) (h : wpList P all Q rest (a.put o.dst undef) w) : wpList P all Q (o :: rest) a w := by
  simp only [wpList, wanted_of hA hg, Bool.false_eq_true, if_false]
  exact h
theorem wpList_mono {all : Array Oper} {Q Q' : Exit → Act → World → Prop} (hq : ∀ e a w, Q e a w → Q' e a w) : ∀ {rest : List Oper} {a : Act} {w : World}, wpList P all Q rest a w → wpList P all Q' rest a w
  | [], a, w, h => hq _ _ _ h
  | o :: rest, a, w, h => by
    simp only [wpList] at h ⊢
    split at h
    · rename_i hw
      simp only [hw, if_true]
      rcases h with h | ⟨h, a0, w0, h0⟩
      · refine .inl ?_
        unfold Oper.wp at h ⊢
        cases hr : (execOp a.eval o).run P w with
        | ok n w' =>
          rw [hr] at h
          cases n with
          | value v => exact wpList_mono hq h
          | skip => exact wpList_mono hq h
          | defer d => exact wpList_mono hq h
          | enter f args =>
            refine Calls.mono h (fun e w'' he => ?_)
            cases e with
            | returned v => exact wpList_mono hq he
            | panicked ch => exact hq _ _ _ he
            | outgrown =>
              obtain ⟨a1, w1, h1⟩ := he
              exact ⟨a1, w1, hq _ _ _ h1⟩
          | row row args => exact Rows.mono h (fun v w'' he => wpList_mono hq he)
          | _ => exact h
        | halt hh w' =>
          rw [hr] at h
          cases hh with
          | panic v => exact hq _ _ _ h
          | _ => exact h
      · exact .inr ⟨h, a0, w0, hq _ _ _ h0⟩
    · rename_i hw
      simp only [hw, Bool.false_eq_true, if_false]
      exact wpList_mono hq h

theorem eff_wp (hE : SOK E P) (hI : Inv E M0 w0 c st w) (hA : InvA c st a w) {o : Oper} {r : SV} {st1 : St} (h : Eff E (CallOK E P) o st r st1) {K : Act → World → Prop} {Q : Exit → Act → World → Prop}
    (hK : ∀ c' a' w', c.Le c' → Inv E M0 w0 c' (st1.put o.dst r) w' → InvA c' (st1.put o.dst r) a' w' → K a' w') : o.wp P a w K Q := by
  cases h with
  | op h => exact op_wp hE hI hA h hK
  | call ho hc hp hC hb => exact call_wp hI hA ho hc hp hC hb hK
theorem opsG_wp (hE : SOK E P) {all : Array Oper} {l : List Oper} {st st' : St} (h : OpsG E (CallOK E P) all l st st') : ∀ {c : Ctx} {a : Act} {w : World}, Inv E M0 w0 c st w → InvA c st a w → wpList P all (Fine E M0 w0 c .normal st') l a w := by
  induction h with
  | nil st => exact fun hI hA => wpList_nil ⟨rfl, _, Ctx.Le.refl _, hI, hA⟩
  | skip hd hg k ih => exact fun hI hA => wpList_skip hA hg (ih (hI.put _ _) (hA.put rel_skip))
  | cons hd hg h k ih =>
    intro c a w hI hA
    refine wpList_cons hA hg (eff_wp hE hI hA h (fun c' a' w' hle hI' hA' => ?_))
    exact wpList_mono (fun e a w h => h.mono hle) (ih hI' hA')
theorem wpOps_mono {ops : Array Oper} {Q Q' : Exit → Act → World → Prop} (hq : ∀ e a w, Q e a w → Q' e a w) : ∀ {l : List Nat} {a : Act} {w : World}, wpOps P ops Q l a w → wpOps P ops Q' l a w
  | [], a, w, h => hq _ _ _ h
  | i :: rest, a, w, h => by
    simp only [wpOps] at h ⊢
    split at h
    · exact wpOps_mono hq h
    · rename_i o ho
      split at h
      · rename_i hw
        simp only [hw, if_true]
        rcases h with h | ⟨h, a0, w0, h0⟩
        · refine .inl ?_
          unfold Oper.wp at h ⊢
          cases hr : (execOp a.eval o).run P w with
          | ok n w' =>
            rw [hr] at h
            cases n with
            | value v => exact wpOps_mono hq h
            | skip => exact wpOps_mono hq h
            | defer d => exact wpOps_mono hq h
            | enter f args =>
              refine Calls.mono h (fun e w'' he => ?_)
              cases e with
              | returned v => exact wpOps_mono hq he
              | panicked ch => exact hq _ _ _ he
              | outgrown =>
                obtain ⟨a1, w1, h1⟩ := he
                exact ⟨a1, w1, hq _ _ _ h1⟩
            | row row args => exact Rows.mono h (fun v w'' he => wpOps_mono hq he)
            | _ => exact h
          | halt hh w' =>
            rw [hr] at h
            cases hh with
            | panic v => exact hq _ _ _ h
            | _ => exact h
        · exact .inr ⟨h, a0, w0, hq _ _ _ h0⟩
      · rename_i hw
        simp only [hw, Bool.false_eq_true, if_false]
        exact wpOps_mono hq h
theorem opsR_wp (hE : SOK E P) {ops : Array Oper} : ∀ (is : List Nat) {st st' : St} {c : Ctx} {a : Act} {w : World}, OpsR E (CallOK E P) ops (is.filterMap (ops[·]?)) st st' → Inv E M0 w0 c st w → InvA c st a w → wpOps P ops (Fine E M0 w0 c .normal st') is a w
  | [], st, st', c, a, w, h, hI, hA => by
    cases h
    exact ⟨rfl, c, Ctx.Le.refl c, hI, hA⟩
  | i :: is, st, st', c, a, w, h, hI, hA => by
    simp only [wpOps]
    cases ho : ops[i]? with
    | none =>
      simp only
      have : (i :: is).filterMap (ops[·]?) = is.filterMap (ops[·]?) := by simp [List.filterMap_cons, ho]
      rw [this] at h
      exact opsR_wp hE is h hI hA
    | some o =>
      simp only
      have : (i :: is).filterMap (ops[·]?) = o :: is.filterMap (ops[·]?) := by simp [List.filterMap_cons, ho]
      rw [this] at h
      cases h with
      | cons h1 h2 =>
        rcases h1 with ⟨hg, hd, v, st1, he, rfl⟩ | ⟨hg, hd, rfl⟩
        · have hw := wanted_of hA hg
          simp only [hw, if_true]
          refine .inl (eff_wp hE hI hA he (fun c' a' w' hle hI' hA' => ?_))
          exact wpOps_mono (fun e a w h => h.mono hle) (opsR_wp hE is h2 hI' hA')
        · have hw := wanted_of hA hg
          simp only [hw, Bool.false_eq_true, if_false]
          exact opsR_wp hE is h2 (hI.put _ _) (hA.put rel_skip)

theorem sound (hE : SOK E P) : ∀ t out, run E t = some out → Sound E P t out := by
  refine run.partial_correctness E (Sound E P) ?_
  intro rn IH t out h
  unfold body at h
  split at h
  · -- code
    rename_i cd st
    split at h
    · obtain rfl := Option.some.inj h
      exact fun M0 w0 ctx a w hI hA => wp_skip ⟨rfl, ctx, Ctx.Le.refl ctx, hI, hA⟩
    · rename_i id ops draw
      cases draw with
      | false =>
        simp only at h
        have ih := IH _ _ h
        cases out with
        | res rs bs => trivial
        | st e st' =>
          obtain ⟨rfl, ih⟩ := ih
          intro M0 w0 ctx a w hI hA
          exact wp_region_list (opsG_wp hE ih hI hA)
      | true =>
        simp only at h
        split at h
        · cases h
        · rename_i l hl
          have ih := IH _ _ h
          cases out with
          | res rs bs => trivial
          | st e st' =>
            obtain ⟨rfl, ih⟩ := ih
            intro M0 w0 ctx a w hI hA
            have hr := hE.draw ops l hl
            have hR := ih.toR
            exact wp_region_draw (fun t => opsR_wp hE _ (hR.swaps (fun g xs rs bs hc hf => (hc.1 hf).2.2) (hr t) hI.dead) (hI.drawn _) (hA.drawn _))
    · -- seq
      rename_i x y
      cases h1 : rn (.code x st) with
      | none => simp [h1] at h
      | some o1 =>
        rw [h1] at h
        have ih1 := IH _ _ h1
        simp only [Option.bind_eq_bind, Option.bind_some] at h
        split at h
        · rename_i st1
          have ih2 := IH _ _ h
          cases out with
          | res rs bs => trivial
          | st e st' =>
            intro M0 w0 ctx a w hI hA
            refine wp_seq (wp_mono (CodeWp.wp (ih1 M0 w0 ctx a w hI hA)) ?_)
            rintro x a' w' ⟨rfl, c', hle, hI', hA'⟩
            exact wp_mono (CodeWp.wp (ih2 M0 w0 c' a' w' hI' hA')) (fun e a w h => h.mono hle)
        · rename_i hne
          obtain rfl := Option.some.inj h
          cases o1 with
          | res rs bs => trivial
          | st e st' =>
            intro M0 w0 ctx a w hI hA
            refine wp_seq (wp_mono (CodeWp.wp (ih1 M0 w0 ctx a w hI hA)) ?_)
            intro x a' w' hf
            cases e with
            | normal => exact absurd rfl (hne st')
            | exit id => obtain ⟨rfl, hf⟩ := hf; exact ⟨rfl, hf⟩
            | ret => obtain ⟨rfl, hf⟩ := hf; exact ⟨rfl, hf⟩
    · -- cond
      rename_i cnd x y
      split at h
      · rename_i b hb
        have hx : ∀ ctx a w, InvA ctx st a w → a.eval cnd = .bool b := by
          intro ctx a w hA
          have := val_rel hA cnd
          rw [hb] at this
          exact this.bool
        cases out with
        | res rs bs => trivial
        | st e st' =>
          intro M0 w0 ctx a w hI hA
          cases b with
          | true =>
            simp only [if_true] at h
            exact wp_cond_true (hx ctx a w hA) (CodeWp.wp (IH _ _ h M0 w0 ctx a w hI hA))
          | false =>
            simp only [Bool.false_eq_true, if_false] at h
            exact wp_cond_false (hx ctx a w hA) (CodeWp.wp (IH _ _ h M0 w0 ctx a w hI hA))
      · cases h
    · -- block
      rename_i id x
      cases h1 : rn (.code x st) with
      | none => simp [h1] at h
      | some o1 =>
        rw [h1] at h
        have ih1 := IH _ _ h1
        simp only [Option.bind_eq_bind, Option.bind_some] at h
        cases o1 with
        | res rs bs =>
          simp only [Option.some.injEq] at h
          subst h
          trivial
        | st e1 st1 =>
          cases out with
          | res rs bs => trivial
          | st e st' =>
            intro M0 w0 ctx a w hI hA
            refine wp_block (wp_mono (CodeWp.wp (ih1 M0 w0 ctx a w hI hA)) ?_)
            rintro x a' w' ⟨rfl, hf⟩
            cases e1 with
            | normal =>
              simp only [Option.some.injEq, Out.st.injEq] at h
              obtain ⟨rfl, rfl⟩ := h
              exact ⟨rfl, hf⟩
            | ret =>
              simp only [Option.some.injEq, Out.st.injEq] at h
              obtain ⟨rfl, rfl⟩ := h
              exact ⟨rfl, hf⟩
            | exit j =>
              simp only at h
              by_cases hj : j = id
              · rw [if_pos hj] at h
                simp only [Option.some.injEq, Out.st.injEq] at h
                obtain ⟨rfl, rfl⟩ := h
                simp only [ExOf, Exit.inBlock, hj, if_true]
                exact ⟨rfl, hf⟩
              · rw [if_neg hj] at h
                simp only [Option.some.injEq, Out.st.injEq] at h
                obtain ⟨rfl, rfl⟩ := h
                simp only [ExOf, Exit.inBlock, hj, if_false]
                exact ⟨rfl, hf⟩
    · -- loop
      rename_i x
      cases h1 : rn (.code x st) with
      | none => simp [h1] at h
      | some o1 =>
        rw [h1] at h
        have ih1 := IH _ _ h1
        simp only [Option.bind_eq_bind, Option.bind_some] at h
        split at h
        · rename_i st1
          have ih2 := IH _ _ h
          cases out with
          | res rs bs => trivial
          | st e st' =>
            intro M0 w0 ctx a w hI hA
            refine LoopWp.round (wp_mono (CodeWp.wp (ih1 M0 w0 ctx a w hI hA)) ?_)
            rintro y a' w' ⟨rfl, c', hle, hI', hA'⟩
            have := ih2 M0 w0 c' a' w' hI' hA'
            intro b k cs
            obtain ⟨e2, a2, w2, q, r⟩ := this b k cs
            exact ⟨e2, a2, w2, q.mono hle, r⟩
        · rename_i hne
          obtain rfl := Option.some.inj h
          cases o1 with
          | res rs bs => trivial
          | st e st' =>
            intro M0 w0 ctx a w hI hA
            refine LoopWp.round (wp_mono (CodeWp.wp (ih1 M0 w0 ctx a w hI hA)) ?_)
            intro y a' w' hf
            cases e with
            | normal => exact absurd rfl (hne st')
            | exit id => obtain ⟨rfl, hf⟩ := hf; exact ⟨rfl, hf⟩
            | ret => obtain ⟨rfl, hf⟩ := hf; exact ⟨rfl, hf⟩
    · obtain rfl := Option.some.inj h
      exact fun M0 w0 ctx a w hI hA => wp_exit ⟨rfl, ctx, Ctx.Le.refl ctx, hI, hA⟩
    · obtain rfl := Option.some.inj h
      exact fun M0 w0 ctx a w hI hA => wp_ret ⟨rfl, ctx, Ctx.Le.refl ctx, hI, hA⟩
    · cases h
  · -- ops
    rename_i all l st
    split at h
    · obtain rfl := Option.some.inj h
      exact ⟨rfl, .nil _⟩
    · rename_i o rest
      split at h
      · cases h
      · rename_i hd
        have hd' : dstOk st o = true := by simpa using hd
        split at h
        · cases h
        · rename_i hg
          have ih := IH _ _ h
          cases out with
          | res rs bs => trivial
          | st e st' =>
            obtain ⟨rfl, ih⟩ := ih
            exact ⟨rfl, .skip hd' hg ih⟩
        · rename_i hg
          split at h
          · rename_i f args at' hop
            split at h
            · cases h
            · rename_i g xs hp
              cases h1 : rn (.call g xs) with
              | none => simp [h1] at h
              | some o1 =>
                rw [h1] at h
                have ih1 := IH _ _ h1
                simp only [Option.bind_eq_bind, Option.bind_some] at h
                split at h
                · rename_i rs bs
                  split at h
                  · cases h
                  · rename_i v st1 hb
                    have ih := IH _ _ h
                    cases out with
                    | res rs bs => trivial
                    | st e st' =>
                      obtain ⟨rfl, ih⟩ := ih
                      exact ⟨rfl, .cons hd' hg (.call hop rfl hp ih1 hb) ih⟩
                · cases h
          · split at h
            · cases h
            · rename_i v st1 hop
              have ih := IH _ _ h
              cases out with
              | res rs bs => trivial
              | st e st' =>
                obtain ⟨rfl, ih⟩ := ih
                exact ⟨rfl, .cons hd' hg (.op hop) ih⟩
  · -- call
    rename_i f args
    split at h
    · rename_i g hg
      simp only [Option.map_eq_some_iff] at h
      obtain ⟨⟨rs, bs⟩, hp, rfl⟩ := h
      exact hE.ext f g args rs bs hg hp
    · split at h
      · cases h
      · rename_i fn hf
        rw [hE.pok.fn] at hf
        split at h
        · cases h
        · rename_i cd hb
          simp only at h
          cases h1 : rn (.code cd (initSt fn.ntmps (emptySt.bindAll args).1 (emptySt.bindAll args).2)) with
          | none => simp [h1] at h
          | some o1 =>
            rw [h1] at h
            have ih := IH _ _ h1
            simp only [Option.bind_eq_bind, Option.bind_some] at h
            split at h
            · rename_i e st1
              split at h
              · rename_i he
                simp only [Option.map_eq_some_iff] at h
                obtain ⟨⟨rs, bs⟩, hfin, rfl⟩ := h
                exact body_ok hE hf hb ih he hfin
              · cases h
            · cases h
end
end Go.Ev
/- What a row's inputs are, as trees. -/
set_option linter.unusedSimpArgs false
set_option linter.unusedVariables false
namespace Go.Ev
open Go.RowKit

def contig (E : Env) (size : Nat) : Nat → List (Nat × Nat) → Bool
  | o, [] => o == size
  | o, p :: r => p.1 == o && contig E size (o + (E.ty p.2).size) r
def plainTy (E : Env) : Nat → Nat → Bool
  | 0, _ => false
  | n + 1, t => match (E.ty t).k with
    | .int _ | .bool | .str => true
    | .slice => plainTy E n (E.ty t).elem
    | .struct => contig E (E.ty t).size 0 (E.ty t).fields && (E.ty t).fields.all fun p => plainTy E n p.2
    | _ => false
def typed (E : Env) : Nat → Nat → List T → Prop
  | 0, _, _ => False
  | n + 1, t, ts => match (E.ty t).k, ts with
    | .int k, [.int k' m] => k' = k ∧ (Lit.int k m).wf = true
    | .bool, [.bool _] => True
    | .str, [.str s] => s.length ≤ 140737488351232
    | .slice, [.list xs] => xs.length * (E.ty (E.ty t).elem).bytes ≤ 140737488351232 ∧ ∀ x ∈ xs, ∃ cs, x = (if (E.ty (E.ty t).elem).agg then T.agg cs else (cs.headD (.bool false))) ∧ cs.length = (E.ty (E.ty t).elem).size ∧ typed E n (E.ty t).elem cs
    | .struct, cs => cs.length = (E.ty t).size ∧ ∀ p ∈ (E.ty t).fields, typed E n p.2 ((cs.drop p.1).take (E.ty p.2).size)
    | _, _ => False

section
variable {H : Type} {enc : TypeId × Value → H} {E : Env} {P : Program} {w : World} {base : Nat} {spare : Nat → Bool} {held : Bool}

theorem weights_all {e : TypeId} {d : DataW H} {x : Nat} : ∀ {l : List (DataW H)}, d ∈ l → x ∈ d.weights P e → x ∈ DataW.weightsAll P e l
  | y :: r, hd, hx => by
    simp only [DataW.weightsAll, List.mem_append]
    rcases List.mem_cons.1 hd with rfl | hd
    · exact .inl hx
    · exact .inr (weights_all hd hx)

/-- Read trees, cell by cell. -/
def Reads (w : World) (ts : List T) (cs : List Value) : Prop :=
  ts.length = cs.length ∧ (∀ y ∈ ts, y.one = true) ∧ ∀ (i : Nat) y v, ts[i]? = some y → cs[i]? = some v → RD (fun k => k < w.heap.size) w y v
theorem Reads.append {ts ts' : List T} {cs cs' : List Value} (h : Reads w ts cs) (h' : Reads w ts' cs') : Reads w (ts ++ ts') (cs ++ cs') := by
  obtain ⟨h1, h2, h3⟩ := h
  obtain ⟨k1, k2, k3⟩ := h'
  refine ⟨by simp [h1, k1], fun y hy => (List.mem_append.1 hy).elim (h2 y) (k2 y), fun i y v hy hv => ?_⟩
  rw [List.getElem?_append] at hy hv
  rw [← h1] at hv
  split at hy
  · rename_i hi; rw [if_pos hi] at hv; exact h3 i y v hy hv
  · rename_i hi; rw [if_neg hi] at hv; exact k3 _ y v hy hv
theorem reads_one {t : T} {v : Value} (h1 : t.one = true) (h : RD (fun k => k < w.heap.size) w t v) : Reads w [t] [v] := by
  refine ⟨rfl, by simpa using h1, fun i y u hy hu => ?_⟩
  cases i with
  | zero => simp at hy hu; subst hy; subst hu; exact h
  | succ i => simp at hy
theorem struct_reads {n : Nat} {cs : List Value} : ∀ (l : List (Nat × Nat)) (o : Nat), contig E cs.length o l = true → (∀ p ∈ l, ∃ ts, ts.length = (E.ty p.2).size ∧ typed E n p.2 ts ∧ Reads w ts ((cs.drop p.1).take (E.ty p.2).size)) →
    ∃ ts, Reads w ts (cs.drop o) ∧ ∀ p ∈ l, o ≤ p.1 ∧ typed E n p.2 ((ts.drop (p.1 - o)).take (E.ty p.2).size)
  | [], o, h, _ => by
    have : o = cs.length := by simpa [contig] using h
    subst this
    exact ⟨[], by simp [Reads], by simp⟩
  | p :: r, o, h, hp => by
    simp only [contig, Bool.and_eq_true, beq_iff_eq] at h
    obtain ⟨rfl, h⟩ := h
    obtain ⟨ts, h1, h2, h3⟩ := hp p (by simp)
    obtain ⟨ts', k1, k2⟩ := struct_reads r (p.1 + (E.ty p.2).size) h (fun p hp' => hp p (List.mem_cons_of_mem _ hp'))
    refine ⟨ts ++ ts', ?_, fun q hq => ?_⟩
    · have : cs.drop p.1 = (cs.drop p.1).take (E.ty p.2).size ++ cs.drop (p.1 + (E.ty p.2).size) := by
        rw [← List.drop_drop, List.take_append_drop]
      rw [this]
      exact h3.append k1
    · rcases List.mem_cons.1 hq with rfl | hq
      · refine ⟨Nat.le_refl _, ?_⟩
        rw [Nat.sub_self, List.drop_zero, ← h1, List.take_left]
        exact h2
      · obtain ⟨g1, g2⟩ := k2 q hq
        refine ⟨by omega, ?_⟩
        have : q.1 - p.1 = ts.length + (q.1 - (p.1 + (E.ty p.2).size)) := by omega
        rw [this, List.drop_append]
        have hz : ts.drop (ts.length + (q.1 - (p.1 + (E.ty p.2).size))) = [] := by simp
        rw [hz, List.nil_append, Nat.add_sub_cancel_left]
        exact g2

theorem cellsOf_ok (hP : POK E P) {t : Nat} (hk : (E.ty t).k ≠ .other) : P.cellsOf t = (E.ty t).size ∧ P.bytesOf t = (E.ty t).bytes := by
  obtain ⟨q, z, h1, h2, h3, _⟩ := (hP.ty t).info hk
  simp [Program.cellsOf, Program.bytesOf, h1, h2, h3]
theorem plain_known {n t : Nat} (h : plainTy E n t = true) : (E.ty t).k ≠ .other := by
  cases n with
  | zero => cases h
  | succ n =>
    intro e
    simp [plainTy, e] at h

theorem trod_typed (hP : POK E P) : ∀ (n t fuel : Nat) (cs : List Value) (d : DataW H) (ps : List MemPlace), plainTy E n t = true → DataW.trod enc P w base spare held fuel t cs = some (d, ps) → (∀ x ∈ d.weights P t, x ≤ reachBytes) →
    ∃ ts, ts.length = (E.ty t).size ∧ typed E n t ts ∧ Reads w ts cs
  | 0, t, fuel, cs, d, ps, hp, h, hw => by cases hp
  | n + 1, t, fuel, cs, d, ps, hp, h, hw => by
    have hne := plain_known hp
    obtain ⟨q, z, i1, i2, i3, i4, i5, i6, i7, i8, i9, i10⟩ := (hP.ty t).info hne
    have hu := (hP.ty t).und
    have hone : (E.ty t).k ≠ .struct → (E.ty t).size = 1 := fun h => i10 (by unfold TI.agg; split <;> first | contradiction | rfl)
    cases hk : (E.ty t).k with
    | int k =>
      rw [hk] at hu
      obtain ⟨m, rfl, _, hwf⟩ := DataW.trod_int hu h
      exact ⟨[.int k m], by rw [hone (by simp [hk])]; rfl, by simp [typed, hk, hwf], reads_one rfl (.int _ _)⟩
    | bool =>
      rw [hk] at hu
      obtain ⟨b, rfl, _⟩ := DataW.trod_bool hu h
      exact ⟨[.bool b], by rw [hone (by simp [hk])]; rfl, by simp [typed, hk], reads_one rfl (.bool _)⟩
    | str =>
      rw [hk] at hu
      obtain ⟨s, rfl, hx, hs⟩ := DataW.trod_string hu h
      obtain ⟨⟨l⟩⟩ := s
      simp only [Prod.mk.injEq] at hx
      obtain ⟨rfl, rfl⟩ := hx
      have := hw l.length (by simp [DataW.weights])
      exact ⟨[.str l], by rw [hone (by simp [hk])]; rfl, by simp only [typed, hk]; exact this, reads_one rfl (.str _)⟩
    | slice =>
      rw [hk] at hu
      simp only at hu
      simp only [plainTy, hk] at hp
      have hke := plain_known hp
      obtain ⟨ce, be⟩ := cellsOf_ok hP hke
      obtain ⟨q', z', j1, j2, j3, j4, j5, j6, j7, j8, j9, j10⟩ := (hP.ty (E.ty t).elem).info hke
      rcases DataW.trod_slice hu h with ⟨rfl, _⟩ | ⟨a, len, cap, elems, rest, m, _, rfl, hx, hb, hl, hm, hlen, hel, _, _⟩
      · refine ⟨[.list []], by rw [hone (by simp [hk])]; rfl, by simp [typed, hk], reads_one rfl ?_⟩
        exact .list [] none 0 1 (fun _ _ => undef) (Nat.le_refl _) (by decide) (by omega) (by simp) (by simp) (fun h => absurd rfl h) (fun j x i y hx => by simp at hx)
      · simp only [Prod.mk.injEq] at hx
        obtain ⟨rfl, rfl⟩ := hx
        -- each element
        have each : ∀ i, i < len → ∃ (cs' : List Value) (ts : List T), w.cells? base (a.add (i * (E.ty (E.ty t).elem).size)) (E.ty (E.ty t).elem).size = some cs' ∧ ts.length = (E.ty (E.ty t).elem).size ∧ typed E n (E.ty t).elem ts ∧ Reads w ts cs' := by
          intro i hi
          have h1 := hel i hi
          rw [ce] at h1
          have hil : i < elems.length := by omega
          rw [List.getElem?_eq_getElem hil, Option.bind_eq_some_iff] at h1
          obtain ⟨cs', g1, g2⟩ := h1
          obtain ⟨ts, k1, k2, k3⟩ := trod_typed hP n (E.ty t).elem m cs' elems[i].1 elems[i].2 hp g2 (fun x hx => hw x (by
            simp only [DataW.weights, hu]
            refine List.mem_cons_of_mem _ (List.mem_append_left _ (weights_all (d := elems[i].1) (List.mem_map.2 ⟨_, List.getElem_mem hil, rfl⟩) hx))))
          exact ⟨cs', ts, g1, k1, k2, k3⟩
        have hbw : len * (E.ty (E.ty t).elem).bytes ≤ 140737488351232 := by
          have := hw ((elems.length + rest.length) * P.bytesOf (E.ty t).elem) (by simp [DataW.weights, hu])
          rw [be, hlen] at this
          have h2 := Nat.mul_le_mul_right (E.ty (E.ty t).elem).bytes (Nat.le_add_right len rest.length)
          exact Nat.le_trans h2 this
        -- the trees
        have hch : ∃ f : Nat → List T, ∀ i, i < len → ∃ cs', w.cells? base (a.add (i * (E.ty (E.ty t).elem).size)) (E.ty (E.ty t).elem).size = some cs' ∧ (f i).length = (E.ty (E.ty t).elem).size ∧ typed E n (E.ty t).elem (f i) ∧ Reads w (f i) cs' := by
          refine ⟨fun i => if h : i < len then (each i h).choose_spec.choose else [], fun i hi => ⟨(each i hi).choose, ?_⟩⟩
          simp only [dif_pos hi]
          exact (each i hi).choose_spec.choose_spec
        obtain ⟨f, hf⟩ := hch
        let el : List T → T := fun cs => if (E.ty (E.ty t).elem).agg then T.agg cs else cs.headD (.bool false)
        have hcells : ∀ i, i < len → (el (f i)).cells = f i := by
          intro i hi
          obtain ⟨cs', g1, g2, g3, g4⟩ := hf i hi
          simp only [el]
          split
          · rfl
          · rename_i hag
            have : (E.ty (E.ty t).elem).size = 1 := j10 (by simpa using hag)
            rw [this] at g2
            match hfi : f i, g2 with
            | [y], _ => exact one_cells (g4.2.1 y (by rw [hfi]; simp))
        refine ⟨[.list ((List.range len).map fun i => el (f i))], by rw [hone (by simp [hk])]; rfl, ?_, reads_one rfl ?_⟩
        · simp only [typed, hk]
          refine ⟨by simpa using hbw, fun x hx => ?_⟩
          obtain ⟨i, hi, rfl⟩ := List.mem_map.1 hx
          obtain ⟨cs', g1, g2, g3, g4⟩ := hf i (by simpa using hi)
          exact ⟨f i, rfl, g2, g3⟩
        · have hlen2 : ((List.range len).map fun i => el (f i)).length = len := by simp
          have hget : ∀ (j : Nat) x, ((List.range len).map fun i => el (f i))[j]? = some x → j < len ∧ x = el (f j) := by
            intro j x hx
            have hj := (List.getElem?_eq_some_iff.1 hx).1
            rw [hlen2] at hj
            rw [List.getElem?_map, List.getElem?_range hj] at hx
            exact ⟨hj, by simpa using hx.symm⟩
          have hmem : ∀ x ∈ ((List.range len).map fun i => el (f i)), ∃ j, j < len ∧ x = el (f j) := by
            intro x hx
            obtain ⟨j, hj⟩ := List.mem_iff_getElem?.1 hx
            exact ⟨j, hget j x hj⟩
          have hcell : ∀ j i, j < len → i < (E.ty (E.ty t).elem).size → ∃ v, w.cell? (a.add (j * (E.ty (E.ty t).elem).size + i)) = some v ∧ ∀ y, (f j)[i]? = some y → RD (fun k => k < w.heap.size) w y v := by
            intro j i hj hi
            obtain ⟨cs', g1, g2, g3, g4⟩ := hf j hj
            have hlen3 : cs'.length = (E.ty (E.ty t).elem).size := by rw [← g4.1, g2]
            have hcv := (World.cells?_some g1).2.2 i hi
            rw [add_add] at hcv
            have hi3 : i < cs'.length := by omega
            rw [List.getElem?_eq_getElem hi3] at hcv
            exact ⟨_, hcv, fun y hy => g4.2.2 i y _ hy (List.getElem?_eq_getElem hi3)⟩
          have hval := RD.list (F := fun k => k < w.heap.size) (w := w) ((List.range len).map fun i => el (f i)) (some a) cap (E.ty (E.ty t).elem).size (fun j i => (w.cell? (a.add (j * (E.ty (E.ty t).elem).size + i))).getD undef) (by rw [hlen2]; exact hl) hm j7
            (fun x hx => by
              obtain ⟨j, hj, rfl⟩ := hmem x hx
              obtain ⟨cs', g1, g2, g3, g4⟩ := hf j hj
              rw [hcells j hj, g2])
            (fun x hx y hy => by
              obtain ⟨j, hj, rfl⟩ := hmem x hx
              obtain ⟨cs', g1, g2, g3, g4⟩ := hf j hj
              rw [hcells j hj] at hy
              exact g4.2.1 y hy)
            (fun hne => by
              have hpos : 0 < len := by
                rw [← hlen2]; exact List.length_pos_iff.2 hne
              obtain ⟨v, hv, _⟩ := hcell 0 0 hpos j7
              obtain ⟨g, o, sp⟩ := a
              cases sp with
              | some sp =>
                exfalso
                have ha : (⟨g, o, some sp⟩ : Addr).add (0 * (E.ty (E.ty t).elem).size + 0) = ⟨g, o, some sp⟩ := by simp [Addr.add]
                rw [ha] at hv
                simp only [World.cell?] at hv
                split at hv <;> simp at hv
              | none =>
                refine ⟨g, o, rfl, ?_, fun j i hj hi => ?_⟩
                · rw [add_at] at hv
                  simp only [World.cell?] at hv
                  by_cases hg : g < w.heap.size
                  · exact hg
                  · rw [Array.getElem?_eq_none (Nat.le_of_not_lt hg)] at hv
                    simp at hv
                · rw [hlen2] at hj
                  obtain ⟨v, hv, _⟩ := hcell j i hj hi
                  have hv' := hv
                  rw [add_at] at hv'
                  rw [hv', hv]
                  rfl)
            (fun j x i y hx hy => by
              obtain ⟨hj, rfl⟩ := hget j x hx
              rw [hcells j hj] at hy
              have hi := (List.getElem?_eq_some_iff.1 hy).1
              obtain ⟨cs', g1, g2, g3, g4⟩ := hf j hj
              rw [g2] at hi
              obtain ⟨v, hv, hr⟩ := hcell j i hj hi
              rw [hv]
              exact hr y hy)
          rw [hlen2] at hval
          exact hval
    | struct =>
      rw [hk] at hu
      obtain ⟨fs, hu, hsz, hfs⟩ := hu
      simp only [plainTy, hk, Bool.and_eq_true] at hp
      obtain ⟨hp1, hp2⟩ := hp
      have hp2' := List.all_eq_true.1 hp2
      obtain ⟨xs, m, _, hx, hcl, hxl, hxs⟩ := DataW.trod_struct hu h
      simp only [Prod.mk.injEq] at hx
      obtain ⟨rfl, rfl⟩ := hx
      rw [(cellsOf_ok hP hne).1] at hcl
      rw [← hcl] at hp1
      obtain ⟨ts, k1, k2⟩ := struct_reads (E := E) (w := w) (n := n) (cs := cs) (E.ty t).fields 0 hp1 (fun p hp => by
        obtain ⟨j, hj⟩ := List.mem_iff_getElem?.1 hp
        obtain ⟨f, e1, e2, e3⟩ := hfs j p.1 p.2 hj
        have hpl := hp2' p hp
        have h1 := hxs j f e1
        rw [e2, e3, (cellsOf_ok hP (plain_known hpl)).1] at h1
        have hjf := (Array.getElem?_eq_some_iff.1 e1).1
        have hjx : j < xs.length := by omega
        rw [List.getElem?_eq_getElem hjx] at h1
        obtain ⟨ts, k1, k2, k3⟩ := trod_typed hP n p.2 m _ xs[j].1 xs[j].2 hpl h1 (fun x hx => hw x (by
          simp only [DataW.weights, hu]
          refine DataW.weights_mem_each (j := j) (t := p.2) (d := xs[j].1) ?_ ?_ x hx
          · rw [List.getElem?_map, Array.getElem?_toList, e1]; simp [e3]
          · rw [List.getElem?_map, List.getElem?_eq_getElem hjx]; rfl))
        exact ⟨ts, k1, k2, k3⟩)
      rw [List.drop_zero] at k1
      have hl : ts.length = (E.ty t).size := by rw [k1.1, hcl]
      refine ⟨ts, hl, ?_, k1⟩
      simp only [typed, hk]
      exact ⟨hl, fun p hp => by simpa using (k2 p hp).2⟩
    | flat => simp [plainTy, hk] at hp
    | other => simp [plainTy, hk] at hp

theorem run_calls (hE : SOK E P) {f : Nat} {fn : Func} {xs : List X} {vals : Array Value} {bs : List (Option X)} (hf : P.funcs[f]? = some fn) (hb : fn.body.isSome = true) (hx : XVs E (fun k => k < w.heap.size) w xs vals.toList []) (h : run E (.call f xs) = some (.res [.t (.bool true)] bs)) :
    Calls P f vals w (fun e w' => e = .returned (.bool true) ∧ Below w.heap.size w w') := by
  obtain ⟨_, hc⟩ := sound hE _ _ h
  have := hc (fun k => k < w.heap.size) w vals [] hx (by simp) (by simp) (fun _ h => h)
  have hnm := hE.name f fn hf hb
  have hnm' : ¬ fn.name = "runtime.NumGoroutine" := by simpa using hnm
  have hbn : fn.body.isNone = false := by
    cases hbb : fn.body with
    | none => rw [hbb] at hb; simp at hb
    | some c => rfl
  have hrun : (callFunc f vals).run P w = .ok (.enter f vals) w := by
    cases hbb : fn.body with
    | none => rw [hbb] at hb; simp at hb
    | some c => simp [callFunc, hf, hnm', hbb]
  rcases this with ⟨_, h2⟩ | ⟨v, w', h1, _⟩
  · refine h2.mono ?_
    rintro e w' ⟨us, rfl, F', br, bb, s1, _, _, _, s5, _⟩
    cases s5 with
    | cons h r =>
      cases r
      cases h with
      | t h =>
        cases h
        exact ⟨rfl, s1.os, s1.tape, s1.out, s1.size, fun k hk => s1.blk k hk (by simp)⟩
  · rw [hrun] at h1
    simp at h1
theorem one_of_okWide (hP : POK E P) {n t b0 : Nat} {r : Reach} {v : Value} (hp : plainTy E n t = true) (ha : (E.ty t).agg = false) (hv : Value.okWide P w r b0 t v) : oneV v = true := by
  have hu := (hP.ty t).und
  cases n with
  | zero => cases hp
  | succ n =>
    cases hk : (E.ty t).k <;> rw [hk] at hu <;> simp only at hu
    all_goals first
      | (simp [plainTy, hk] at hp; done)
      | (simp [TI.agg, hk] at ha; done)
      | (simp only [Value.okWide, hu, Cell.okWide] at hv
         cases v <;> first | rfl | (simp [Cell.ok, hu] at hv; done))
def pack (E : Env) (t : Nat) (ts : List T) : T := if (E.ty t).agg then .agg ts else ts.headD (.bool false)
theorem reads_value (hP : POK E P) {n t b0 : Nat} {r : Reach} {v : Value} {ts : List T} (hp : plainTy E n t = true) (hv : Value.okWide P w r b0 t v) (hl : ts.length = (E.ty t).size) (h : Reads w ts v.cells.toList) : RD (fun k => k < w.heap.size) w (pack E t ts) v := by
  obtain ⟨q, z, i1, i2, i3, i4, i5, i6, i7, i8, i9, i10⟩ := (hP.ty t).info (plain_known hp)
  unfold pack
  cases ha : (E.ty t).agg with
  | true =>
    have hk : (E.ty t).k = .struct := by
      unfold TI.agg at ha
      split at ha
      · assumption
      · cases ha
    have hu := (hP.ty t).und
    rw [hk] at hu
    obtain ⟨fs, hu, _⟩ := hu
    simp only [Value.okWide, hu] at hv
    obtain ⟨cs, rfl, _, _⟩ := hv
    obtain ⟨h1, h2, h3⟩ := h
    simp only [if_true]
    exact .agg ts cs (by simpa [Value.cells] using h1) h2 (fun i c v hc hv => h3 i c v hc (by simpa [Value.cells] using hv))
  | false =>
    have h1 := oneV_cells (one_of_okWide hP hp ha hv)
    rw [i10 ha] at hl
    rw [h1] at h
    simp only [Bool.false_eq_true, if_false]
    match ts, hl with
    | [y], _ => exact h.2.2 0 y v rfl rfl
def TypedAll (E : Env) (n : Nat) : List Nat → List (List T) → Prop
  | [], [] => True
  | t :: ts, y :: ys => typed E n t y ∧ TypedAll E n ts ys
  | _, _ => False
def packs (E : Env) : List Nat → List (List T) → List X
  | t :: ts, y :: ys => .t (pack E t y) :: packs E ts ys
  | _, _ => []
theorem args_ok (hP : POK E P) {n b0 : Nat} {r : Reach} : ∀ {ts : List Nat} {vs : List Value} {ds : List (DataW H)} {ps : List MemPlace}, (∀ t ∈ ts, plainTy E n t = true) → DataW.TrodAll enc P w base spare held ts vs ds ps → (∀ (j : Nat) t v, ts[j]? = some t → vs[j]? = some v → Value.okWide P w r b0 t v) →
    (∀ x ∈ DataW.weightsEach P ts ds, x ≤ reachBytes) → ∃ tss, TypedAll E n ts tss ∧ XVs E (fun k => k < w.heap.size) w (packs E ts tss) vs []
  | [], vs, ds, ps, hp, h, hv, hw => by
    cases vs <;> cases ds <;> simp [DataW.TrodAll] at h
    exact ⟨[], trivial, .nil⟩
  | t :: ts, vs, ds, ps, hp, h, hv, hw => by
    cases vs <;> cases ds <;> simp [DataW.TrodAll] at h
    rename_i v vs d ds
    obtain ⟨p, ⟨fuel, hf⟩, q, hq, _⟩ := h
    simp only [DataW.weightsEach, List.mem_append] at hw
    obtain ⟨y, y1, y2, y3⟩ := trod_typed hP n t fuel _ d p (hp t (by simp)) hf (fun x hx => hw x (.inl hx))
    obtain ⟨ys, k1, k2⟩ := args_ok hP (fun t ht => hp t (List.mem_cons_of_mem _ ht)) hq (fun j t v ht hv' => hv (j + 1) t v (by simpa using ht) (by simpa using hv')) (fun x hx => hw x (.inr hx))
    exact ⟨y :: ys, ⟨y2, k1⟩, .cons (b := []) (.t (reads_value hP (hp t (by simp)) (hv 0 t v rfl rfl) y1 y3)) k2⟩
theorem trodAll_back {w' : World} (hl : laidOutB P = true) : ∀ {ts : List Nat} {vs : List Value} {ds : List (DataW H)} {ps : List MemPlace}, (∀ t ∈ ts, P.readableRec t = true ∧ t < P.types.size) → DataW.TrodAll enc P w 0 (fun _ => true) true ts vs ds ps → Below w.heap.size w w' →
    DataW.TrodAll enc P w' 0 (fun b => decide (b < w.heap.size)) true ts vs ds ps
  | [], vs, ds, ps, hr, h, hb => by
    cases vs <;> cases ds <;> simp [DataW.TrodAll] at h ⊢
    exact h
  | t :: ts, vs, ds, ps, hr, h, hb => by
    cases vs <;> cases ds <;> simp [DataW.TrodAll] at h ⊢
    obtain ⟨p, hp, q, hq, e⟩ := h
    refine ⟨p, Below.trod hl (hr t (by simp)).1 (hr t (by simp)).2 hp hb ?_, q, trodAll_back hl (fun t ht => hr t (List.mem_cons_of_mem _ ht)) hq hb, e⟩
    obtain ⟨m, hm⟩ := hp
    exact DataW.trod_lt m _ _ _ hm
end
end Go.Ev
/- The type table of a program, read off the program; the table is true. -/
set_option linter.unusedSimpArgs false
set_option linter.unusedVariables false
namespace Go.Ev

def TI.none : TI := { k := .other, size := 0, bytes := 0, zero := [], elem := 0, fields := [] }
def kindOf : TypeDesc → TK
  | .int k => .int k
  | .bool => .bool
  | .string => .str
  | .slice _ => .slice
  | .struct _ => .struct
  | .array _ _ => .other
  | _ => .flat
def elemOf : TypeDesc → Nat
  | .slice e => e
  | _ => 0
def fieldsOf : TypeDesc → List (Nat × Nat)
  | .struct fs => fs.toList.map fun f => (f.offset, f.type)
  | _ => []
def isAggV : Value → Bool
  | .agg _ => true
  | _ => false
def tyMk (d : TypeDesc) (q : TypeInfo) (z : Value) : TI := { k := kindOf d, size := q.size, bytes := q.bytes, zero := z.cells.toList.map ofConst, elem := elemOf d, fields := fieldsOf d }
def tyGood (i : TI) (z : Value) : Bool := (z.cells.size == i.size) && decide (0 < i.size) && i.zero.all SV.one && (isAggV z == i.agg) && (i.agg || i.size == 1)
def tyOf (P : Program) (t : Nat) : TI :=
  match P.underlying t, P.info? t with
  | some d, some q => match q.zero with
    | some z => if tyGood (tyMk d q z) z = true then tyMk d q z else .none
    | none => .none
  | _, _ => .none

theorem tyOK_none (P : Program) (t : Nat) : TyOK P t .none := ⟨trivial, fun h => absurd rfl h⟩
theorem tyOf_ok (P : Program) (t : Nat) : TyOK P t (tyOf P t) := by
  unfold tyOf
  split
  · rename_i d q hd hq
    split
    · rename_i z hz
      split
      · rename_i hg
        simp only [tyGood, Bool.and_eq_true, beq_iff_eq, decide_eq_true_eq, Bool.or_eq_true] at hg
        obtain ⟨⟨⟨⟨g1, g2⟩, g3⟩, g4⟩, g5⟩ := hg
        refine ⟨?_, fun _ => ⟨q, z, hq, rfl, rfl, hz, by simp [tyMk], by simpa [tyMk] using g1, g2, fun j s v hs hv => ?_, ?_, fun ha => ?_⟩⟩
        · cases d <;> simp only [tyMk, kindOf, elemOf, fieldsOf] <;> first
            | exact hd
            | exact ⟨_, hd, trivial⟩
            | exact trivial
            | (refine ⟨_, hd, by simp, fun j o ft hj => ?_⟩
               rw [List.getElem?_map, Option.map_eq_some_iff] at hj
               obtain ⟨f, hf, e⟩ := hj
               simp only [Prod.mk.injEq] at e
               exact ⟨f, by simpa using hf, e.1, e.2⟩)
        · simp only [tyMk, List.getElem?_map, Option.map_eq_some_iff] at hs
          obtain ⟨u, hu, rfl⟩ := hs
          rw [Array.getElem?_toList, hv] at hu
          obtain rfl := Option.some.inj hu
          refine ⟨rfl, List.all_eq_true.1 g3 _ ?_⟩
          simp only [tyMk, List.mem_map]
          exact ⟨v, by simpa using Array.mem_of_getElem? hv, rfl⟩
        · cases z <;> simp only [isAggV] at g4 ⊢ <;> exact g4.symm
        · rcases g5 with g5 | g5
          · rw [ha] at g5; cases g5
          · exact g5
      · exact tyOK_none P t
    · exact tyOK_none P t
  · exact tyOK_none P t
end Go.Ev
/- Equality of flat structs; the evaluator's surroundings of a program. -/
set_option linter.unusedSimpArgs false
set_option linter.unusedVariables false
namespace Go.Ev

def kindAt (P : Program) (t : Nat) : TK := match P.underlying t with
  | some d => kindOf d
  | none => .other
def flatKind : TK → Bool
  | .int _ | .bool | .str => true
  | _ => false
def eqGood (P : Program) : Nat → List Field → Bool
  | _, [] => true
  | i, f :: r => f.offset == i && f.name != "_" && flatKind (kindAt P f.type) && eqGood P (i + 1) r
def eqKinds (P : Program) (t : Nat) : List TK := match P.underlying t with
  | some (.struct fs) => if !P.stoodInHeld t && !P.eqGuardType P.depth t && eqGood P 0 fs.toList then fs.toList.map fun f => kindAt P f.type else []
  | _ => []
theorem kindAt_und {P : Program} {t : Nat} (h : flatKind (kindAt P t) = true) : (∃ k, kindAt P t = .int k ∧ P.underlying t = some (.int k)) ∨ (kindAt P t = .bool ∧ P.underlying t = some .bool) ∨ (kindAt P t = .str ∧ P.underlying t = some .string) := by
  unfold kindAt at *
  cases hd : P.underlying t with
  | none => simp [hd, flatKind] at h
  | some d =>
    cases d <;> simp [hd, kindOf, flatKind] at h ⊢

section
variable {P : Program} {w : World}
theorem eqOne {d t : Nat} {F : Nat → Prop} {x y : T} {u v : Value} {r q : List T} {b : Bool} (hf : flatKind (kindAt P t) = true) (hx : RD F w x u) (hy : RD F w y v) (ks : List TK) (hk : kindsOK (kindAt P t :: ks) (x :: r) = true) (hk' : kindsOK (kindAt P t :: ks) (y :: q) = true) (h : eqCells (x :: r) (y :: q) = some b) :
    ∃ b1 b2, (Op.equalIn (d + 1) t u v).run P w = .ok b1 w ∧ eqCells r q = some b2 ∧ b = (b1 && b2) ∧ kindsOK ks r = true ∧ kindsOK ks q = true ∧ (isAgg t).run P w = .ok false w := by
  rcases kindAt_und hf with ⟨k, h1, h2⟩ | ⟨h1, h2⟩ | ⟨h1, h2⟩ <;> rw [h1] at hk hk'
  · cases x <;> simp only [kindsOK] at hk <;> first | contradiction | skip
    cases y <;> simp only [kindsOK] at hk' <;> first | contradiction | skip
    cases hx; cases hy
    simp only [eqCells] at h
    split at h
    · rename_i hkk
      subst hkk
      rw [Option.map_eq_some_iff] at h
      obtain ⟨b2, e1, e2⟩ := h
      exact ⟨_, b2, by simp [Op.equalIn, und_run h2], e1, e2.symm, hk, hk', by simp [isAgg, und_run h2]⟩
    · cases h
  · cases x <;> simp only [kindsOK] at hk <;> first | contradiction | skip
    cases y <;> simp only [kindsOK] at hk' <;> first | contradiction | skip
    cases hx; cases hy
    simp only [eqCells] at h
    rw [Option.map_eq_some_iff] at h
    obtain ⟨b2, e1, e2⟩ := h
    exact ⟨_, b2, by simp [Op.equalIn, und_run h2], e1, e2.symm, hk, hk', by simp [isAgg, und_run h2]⟩
  · cases x <;> simp only [kindsOK] at hk <;> first | contradiction | skip
    cases y <;> simp only [kindsOK] at hk' <;> first | contradiction | skip
    cases hx; cases hy
    simp only [eqCells] at h
    rw [Option.map_eq_some_iff] at h
    obtain ⟨b2, e1, e2⟩ := h
    rename_i s1 s2
    refine ⟨s1 == s2, b2, ?_, e1, e2.symm, hk, hk', by simp [isAgg, und_run h2]⟩
    have := run_equalIn_string (P := P) w d t ⟨⟨s1⟩⟩ ⟨⟨s2⟩⟩ h2
    rwa [toList_mk, toList_mk] at this

theorem eqFields_run {d : Nat} {F : Nat → Prop} {vs us : Array Value} : ∀ (fs : List Field) (i : Nat) (xs ys : List T) (b : Bool), eqGood P i fs = true → kindsOK (fs.map fun f => kindAt P f.type) xs = true → kindsOK (fs.map fun f => kindAt P f.type) ys = true → eqCells xs ys = some b →
    (∀ (j : Nat) x, xs[j]? = some x → ∃ v, vs[i + j]? = some v ∧ RD F w x v) → (∀ (j : Nat) x, ys[j]? = some x → ∃ v, us[i + j]? = some v ∧ RD F w x v) → (Op.eqFields (d + 1) vs us fs).run P w = .ok b w
  | [], i, xs, ys, b, hg, hk, hk', h, hx, hy => by
    cases xs <;> simp [kindsOK] at hk
    cases ys <;> simp [kindsOK] at hk'
    simp [eqCells] at h
    subst h
    simp [Op.eqFields]
  | f :: fs, i, xs, ys, b, hg, hk, hk', h, hx, hy => by
    simp only [eqGood, Bool.and_eq_true, beq_iff_eq, bne_iff_ne] at hg
    obtain ⟨⟨⟨g1, g2⟩, g3⟩, g4⟩ := hg
    cases xs with
    | nil => rw [List.map_cons] at hk; cases hkk : kindAt P f.type <;> simp [hkk, kindsOK] at hk
    | cons x xs =>
      cases ys with
      | nil => rw [List.map_cons] at hk'; cases hkk : kindAt P f.type <;> simp [hkk, kindsOK] at hk'
      | cons y ys =>
        obtain ⟨v, hv, rv⟩ := hx 0 x rfl
        obtain ⟨u, hu, ru⟩ := hy 0 y rfl
        rw [Nat.add_zero] at hv hu
        obtain ⟨b1, b2, e1, e2, rfl, k1, k2, hag⟩ := eqOne (d := d) (b := b) (r := xs) (q := ys) g3 rv ru (fs.map fun f => kindAt P f.type) (by simpa using hk) (by simpa using hk') h
        have ih := eqFields_run (d := d) (F := F) (vs := vs) (us := us) fs (i + 1) xs ys b2 g4 k1 k2 e2 (fun j x hj => by
          obtain ⟨v, hv, rv⟩ := hx (j + 1) x (by simpa using hj)
          exact ⟨v, by rw [← hv]; congr 1; omega, rv⟩) (fun j x hj => by
          obtain ⟨v, hv, rv⟩ := hy (j + 1) x (by simpa using hj)
          exact ⟨v, by rw [← hv]; congr 1; omega, rv⟩)
        have p1 : (part f.type vs f.offset).run P w = .ok v w := by simp [part, hag, g1, hv]
        have p2 : (part f.type us f.offset).run P w = .ok u w := by simp [part, hag, g1, hu]
        rw [Op.eqFields]
        simp only [if_pos g2, Sem.run_bind, p1, p2, e1, Result.andThen_ok]
        cases b1
        · simp
        · simpa using ih
theorem eqT_ok (t : Nat) (hne : eqKinds P t ≠ []) (x y : Operand) (F : Nat → Prop) (xs ys : List T) (vs us : Array Value) (b : Bool) (hx : RD F w (.agg xs) (.agg vs)) (hy : RD F w (.agg ys) (.agg us)) (hk : kindsOK (eqKinds P t) xs = true) (hk' : kindsOK (eqKinds P t) ys = true) (h : eqCells xs ys = some b) :
    ((do eqGuard .eql t x y (.agg vs) (.agg us); binOp .eql t (.agg vs) (.agg us)) : Sem Value).run P w = .ok (.bool b) w ∧ ((do eqGuard .neq t x y (.agg vs) (.agg us); binOp .neq t (.agg vs) (.agg us)) : Sem Value).run P w = .ok (.bool (!b)) w := by
  have hk0 := hk
  unfold eqKinds at hne hk hk'
  split at hne
  · rename_i fs hu
    split at hne
    · rename_i hc
      rw [hu] at hk hk'
      simp only at hk hk'
      rw [if_pos hc] at hk hk'
      simp only [Bool.and_eq_true, Bool.not_eq_true'] at hc
      obtain ⟨⟨c1, c2⟩, c3⟩ := hc
      have hrel : ∀ {zs : List T} {ws : Array Value}, RD F w (.agg zs) (.agg ws) → ∀ (j : Nat) z, zs[j]? = some z → ∃ v, ws[0 + j]? = some v ∧ RD F w z v := by
        intro zs ws hz j z hj
        cases hz with
        | agg _ _ hl h1 hr =>
          have hlt := (List.getElem?_eq_some_iff.1 hj).1
          have hlt2 : j < ws.size := by omega
          exact ⟨ws[j], by simp [hlt2], hr j z _ hj (Array.getElem?_eq_getElem hlt2)⟩
      have hrun := eqFields_run (P := P) (w := w) (d := 9998) fs.toList 0 xs ys b c3 hk hk' h (hrel hx) (hrel hy)
      have heq : (Op.equal t (.agg vs) (.agg us)).run P w = .ok b w := by
        show (Op.equalIn (9999 + 1) t (.agg vs) (.agg us)).run P w = _
        have hf : P.fieldsOf t = fs := by simp [Program.fieldsOf, hu]
        rw [run_equalIn_struct (P := P) w 9999 t vs us (by rw [hf]; exact hu) c1, hf]
        exact hrun
      have hg : ∀ op, (eqGuard op t x y (.agg vs) (.agg us)).run P w = .ok () w := by
        intro op
        unfold eqGuard
        cases op <;> simp [c2]
      have e1 : (binOp .eql t (.agg vs) (.agg us)).run P w = .ok (.bool b) w := by
        show ((do pure (.bool (← Op.equal t (.agg vs) (.agg us)))) : Sem Value).run P w = _
        simp only [Sem.run_bind, heq, Result.andThen_ok, Sem.run_pure]
      have e2 : (binOp .neq t (.agg vs) (.agg us)).run P w = .ok (.bool (!b)) w := by
        show ((do pure (.bool (!(← Op.equal t (.agg vs) (.agg us))))) : Sem Value).run P w = _
        simp only [Sem.run_bind, heq, Result.andThen_ok, Sem.run_pure]
      exact ⟨by simp only [Sem.run_bind, hg, Result.andThen_ok, e1], by simp only [Sem.run_bind, hg, Result.andThen_ok, e2]⟩
    · exact absurd rfl hne
  · exact absurd rfl hne
end

/-- The surroundings of a program. -/
def envOf (P : Program) (md : Nat → List Bool) (flat : Nat → Bool) (ext : Nat → Option (List X → Option (List X × List (Option X)))) (draw : Array Oper → Option (List Oper)) : Env :=
  { ty := tyOf P, eqT := eqKinds P, fn := fun f => P.funcs[f]?, md := md, flat := flat, ext := ext, draw := draw }
theorem envOf_pok (P : Program) (md : Nat → List Bool) (flat : Nat → Bool) (ext : Nat → Option (List X → Option (List X × List (Option X)))) (draw : Array Oper → Option (List Oper)) : POK (envOf P md flat ext draw) P :=
  ⟨tyOf_ok P, fun _ => rfl, fun t hne x y F w xs ys vs us b hx hy hk hk' h => eqT_ok t hne x y F xs ys vs us b hx hy hk hk' h⟩
def namesOK (P : Program) : Bool := P.funcs.all fun fn => !(fn.body.isSome && fn.name == "runtime.NumGoroutine")
theorem namesOK_name {P : Program} (h : namesOK P = true) (f : Nat) (fn : Func) (hf : P.funcs[f]? = some fn) (hb : fn.body.isSome = true) : (fn.name == "runtime.NumGoroutine") = false := by
  unfold namesOK at h
  rw [Array.all_eq_true'] at h
  have := h fn (Array.mem_of_getElem? hf)
  simpa [hb] using this
end Go.Ev
/- How the evaluator goes, rule by rule: for 'simp'. -/
set_option linter.unusedSimpArgs false
set_option linter.unusedVariables false
namespace Go.Ev

noncomputable def thenOps (E : Env) (all : Array Oper) (r : List Oper) (o : Option St) : Option Out := match o with
  | none => none
  | some st => run E (.ops all r st)
noncomputable def thenSeq (E : Env) (b : Code) (o : Option Out) : Option Out := match o with
  | none => none
  | some (.st .normal st) => run E (.code b st)
  | some o => some o
def thenBlock (id : Nat) (o : Option Out) : Option Out := match o with
  | none => none
  | some (.st (.exit j) st) => if j = id then some (.st .normal st) else some (.st (.exit j) st)
  | some o => some o
noncomputable def thenLoop (E : Env) (c : Code) (o : Option Out) : Option Out := match o with
  | none => none
  | some (.st .normal st) => run E (.code (.loop c) st)
  | some o => some o
noncomputable def thenCall (E : Env) (fl : Bool) (rvs : List ResultVar) (ms : List SV) (o : Option Out) : Option Out := match o with
  | some (.st e st) => if e = .normal ∨ e = .ret then (st.finish E fl rvs ms).map fun p => .res p.1 p.2 else none
  | _ => none
noncomputable def thenBack (E : Env) (st : St) (f : SV) (vs : List SV) (dst : Option Nat) (o : Option Out) : Option St := match o with
  | some (.res rs bs) => match callBack E st f vs rs bs with
    | none => none
    | some q => some (q.2.put dst q.1)
  | _ => none
noncomputable def thenGo (E : Env) (st : St) (f : SV) (vs : List SV) (dst : Option Nat) (o : Option (Nat × List X)) : Option St := match o with
  | none => none
  | some p => thenBack E st f vs dst (run E (.call p.1 p.2))
def thenPut (dst : Option Nat) (o : Option (SV × St)) : Option St := match o with
  | none => none
  | some q => some (q.2.put dst q.1)

section
variable (E : Env) (all : Array Oper) (r : List Oper) (b c : Code) (st : St) (id j f : Nat) (fn : Func) (args : List X) (sv : SV) (vs : List SV) (dst : Option Nat) (p : Prop) [Decidable p]
theorem thenOps_some : thenOps E all r (some st) = run E (.ops all r st) := rfl
theorem thenOps_ite (x y : Option St) : thenOps E all r (if p then x else y) = if p then thenOps E all r x else thenOps E all r y := by split <;> rfl
theorem thenSeq_normal : thenSeq E b (some (.st .normal st)) = run E (.code b st) := rfl
theorem thenSeq_exit : thenSeq E b (some (.st (.exit j) st)) = some (.st (.exit j) st) := rfl
theorem thenSeq_ret : thenSeq E b (some (.st .ret st)) = some (.st .ret st) := rfl
theorem thenSeq_ite (x y : Option Out) : thenSeq E b (if p then x else y) = if p then thenSeq E b x else thenSeq E b y := by split <;> rfl
theorem thenBlock_normal : thenBlock id (some (.st .normal st)) = some (.st .normal st) := rfl
theorem thenBlock_exit : thenBlock id (some (.st (.exit j) st)) = if j = id then some (.st .normal st) else some (.st (.exit j) st) := rfl
theorem thenBlock_ret : thenBlock id (some (.st .ret st)) = some (.st .ret st) := rfl
theorem thenBlock_ite (x y : Option Out) : thenBlock id (if p then x else y) = if p then thenBlock id x else thenBlock id y := by split <;> rfl
theorem thenLoop_normal : thenLoop E c (some (.st .normal st)) = run E (.code (.loop c) st) := rfl
theorem thenLoop_exit : thenLoop E c (some (.st (.exit j) st)) = some (.st (.exit j) st) := rfl
theorem thenLoop_ret : thenLoop E c (some (.st .ret st)) = some (.st .ret st) := rfl
theorem thenLoop_ite (x y : Option Out) : thenLoop E c (if p then x else y) = if p then thenLoop E c x else thenLoop E c y := by split <;> rfl
theorem thenCall_normal (fl : Bool) (rvs : List ResultVar) (ms : List SV) : thenCall E fl rvs ms (some (.st .normal st)) = (st.finish E fl rvs ms).map fun p => .res p.1 p.2 := by simp [thenCall]
theorem thenCall_ret (fl : Bool) (rvs : List ResultVar) (ms : List SV) : thenCall E fl rvs ms (some (.st .ret st)) = (st.finish E fl rvs ms).map fun p => .res p.1 p.2 := by simp [thenCall]
theorem thenCall_ite (fl : Bool) (rvs : List ResultVar) (ms : List SV) (x y : Option Out) : thenCall E fl rvs ms (if p then x else y) = if p then thenCall E fl rvs ms x else thenCall E fl rvs ms y := by split <;> rfl
theorem thenBack_res (rs : List X) (bs : List (Option X)) : thenBack E st sv vs dst (some (.res rs bs)) = thenPut dst (callBack E st sv vs rs bs) := by
  simp only [thenBack, thenPut]
theorem thenBack_ite (x y : Option Out) : thenBack E st sv vs dst (if p then x else y) = if p then thenBack E st sv vs dst x else thenBack E st sv vs dst y := by split <;> rfl
theorem thenGo_some (q : Nat × List X) : thenGo E st sv vs dst (some q) = thenBack E st sv vs dst (run E (.call q.1 q.2)) := rfl
theorem thenPut_some (q : SV × St) : thenPut dst (some q) = some (q.2.put dst q.1) := rfl
theorem thenPut_ite (x y : Option (SV × St)) : thenPut dst (if p then x else y) = if p then thenPut dst x else thenPut dst y := by split <;> rfl

noncomputable def stepO (o : Oper) : Option St :=
  if dstOk st o = false then none else match guardOf all st o with
          | none => none
          | some false => some (st.put o.dst (.tup []))
          | some true => match o.op with
            | .call c => match c.callee with
              | .value f => thenGo E st (st.val f) (c.args.toList.map st.val) o.dst (callPrep E st (st.val f) (c.args.toList.map st.val))
              | .builtin b => thenPut o.dst (st.builtin E b c.argTypes.toList (c.args.toList.map st.val))
              | _ => none
            | op => thenPut o.dst (st.op E op)
theorem run_call {fn : Func} {c : Code} {n : Nat} {rvs : List ResultVar} (hx : E.ext f = none) (hf : E.fn f = some fn) (hb : fn.body = some c) (hn : fn.ntmps = n) (hr : fn.results.toList = rvs) (hl : args.length ≤ n) :
    run E (.call f args) = thenCall E (E.flat f) rvs (muts (E.md f) (emptySt.bindAll args).1) (run E (.code c (initSt n (emptySt.bindAll args).1 (emptySt.bindAll args).2))) := by
  rw [run_eq]; unfold body; simp only [hx, hf, hb]
  subst hn; subst hr
  unfold thenCall
  cases run E (.code c (initSt fn.ntmps (emptySt.bindAll args).1 (emptySt.bindAll args).2)) with
  | none => rfl
  | some o => cases o with
    | st e s => simp [hl]
    | res rs bs => rfl
theorem run_seq (a : Code) : run E (.code (.seq a b) st) = thenSeq E b (run E (.code a st)) := by
  rw [run_eq]; unfold body
  dsimp only
  unfold thenSeq
  cases run E (.code a st) with
  | none => rfl
  | some o => cases o with
    | st e s => cases e <;> rfl
    | res rs bs => rfl
theorem run_region (id : Nat) (ops : Array Oper) : run E (.code (.region id ops false) st) = run E (.ops ops ops.toList st) := by rw [run_eq]; rfl
theorem run_region_draw (id : Nat) (ops : Array Oper) {l : List Oper} (h : E.draw ops = some l) : run E (.code (.region id ops true) st) = run E (.ops ops l st) := by rw [run_eq]; unfold body; simp [h]
theorem run_cond (c : Operand) (a : Code) : run E (.code (.cond c a b) st) = match st.val c with
      | .t (.bool x) => if x = true then run E (.code a st) else run E (.code b st)
      | _ => none := by rw [run_eq]; rfl
theorem run_ret : run E (.code .ret st) = some (.st .ret st) := by rw [run_eq]; rfl
theorem run_skip : run E (.code .skip st) = some (.st .normal st) := by rw [run_eq]; rfl
theorem run_exit (id : Nat) : run E (.code (.exit id) st) = some (.st (.exit id) st) := by rw [run_eq]; rfl
theorem run_block (id : Nat) : run E (.code (.block id c) st) = thenBlock id (run E (.code c st)) := by
  rw [run_eq]; unfold body
  dsimp only
  unfold thenBlock
  cases run E (.code c st) with
  | none => rfl
  | some o => cases o with
    | st e s => cases e <;> rfl
    | res rs bs => rfl
theorem run_loop : run E (.code (.loop c) st) = thenLoop E c (run E (.code c st)) := by
  conv => lhs; rw [run_eq]; unfold body
  dsimp only
  unfold thenLoop
  cases run E (.code c st) with
  | none => rfl
  | some o => cases o with
    | st e s => cases e <;> rfl
    | res rs bs => rfl
theorem run_nil : run E (.ops all [] st) = some (.st .normal st) := by rw [run_eq]; rfl
theorem run_ext {g : List X → Option (List X × List (Option X))} (hx : E.ext f = some g) : run E (.call f args) = (g args).map fun p => .res p.1 p.2 := by
  rw [run_eq]; unfold body; simp only [hx]
theorem run_cons (o : Oper) : run E (.ops all (o :: r) st) = thenOps E all r (stepO E all st o) := by
  rw [run_eq]; unfold body
  unfold stepO thenOps
  simp only
  split
  · rfl
  · split
    · rename_i h; rw [h]
    · rename_i h; rw [h]
    · rename_i h0; rw [h0]
      split
      · rename_i f args _ h
        rw [h]
        simp only [thenGo]
        cases hp : callPrep E st (st.val f) (args.toList.map st.val) with
        | none => rfl
        | some p =>
          obtain ⟨g, xs⟩ := p
          simp only [thenBack]
          cases hc : run E (.call g xs) with
          | none => rfl
          | some out =>
            cases out with
            | st e s => rfl
            | res rs bs =>
              simp only [Option.bind_eq_bind, Option.bind_some]
              cases callBack E st (st.val f) (args.toList.map st.val) rs bs with
              | none => rfl
              | some q => rfl
      · rename_i hne
        have key : ∀ c, o.op = .call c → ∀ f, c.callee ≠ .value f := by
          intro c hc f hf
          obtain ⟨ce, ar, at_⟩ := c
          simp only at hf
          subst hf
          exact hne _ _ _ hc
        have hq : (match o.op with
            | .call c => match c.callee with
              | .value f => thenGo E st (st.val f) (c.args.toList.map st.val) o.dst (callPrep E st (st.val f) (c.args.toList.map st.val))
              | .builtin b => thenPut o.dst (st.builtin E b c.argTypes.toList (c.args.toList.map st.val))
              | _ => none
            | op => thenPut o.dst (st.op E op)) = thenPut o.dst (st.op E o.op) := by
          cases hop : o.op with
          | call c =>
            cases hcc : c.callee with
            | value f => exact absurd hcc (key c hop f)
            | builtin b => simp only [St.op, hcc]
            | invoke _ _ => simp only [St.op, hcc]; rfl
          | _ => rfl
        dsimp only at hq ⊢
        rw [hq]
        unfold thenPut
        cases St.op E st o.op <;> rfl
end
end Go.Ev
/- Every order that a region may draw comes of one order by swaps. -/
set_option linter.unusedSimpArgs false
set_option linter.unusedVariables false
namespace Go.Ev

def predsOf (m : Region.Mode) (ops : Array Oper) (i : Nat) : List Nat := match ops[i]? with
  | some o => (o.after.toList.filter (Region.binds m)).map (·.on)
  | none => []
def anc (m : Region.Mode) (ops : Array Oper) : Nat → Nat → Nat → Bool
  | 0, _, _ => false
  | f + 1, i, j => (predsOf m ops i).any fun k => k == j || anc m ops f k j
def passIx (E : Env) (ops : Array Oper) (j i : Nat) : Bool := match ops[j]?, ops[i]? with
  | some x, some y => mayPassG E ops x y
  | _, _ => false
def pairsOK (E : Env) (m : Region.Mode) (ops : Array Oper) : List Nat → Bool
  | [] => true
  | j :: r => (r.all fun i => passIx E ops j i || anc m ops ops.size i j) && pairsOK E m ops r
def backOK (m : Region.Mode) (ops : Array Oper) : Bool := (List.range ops.size).all fun i => (predsOf m ops i).all fun k => decide (k < i)

section
variable {E : Env} {ops : Array Oper} {m : Region.Mode}
theorem pairs_at {pre post : List Nat} {i : Nat} : ∀ {l : List Nat}, pairsOK E m ops l = true → l = pre ++ i :: post → ∀ j ∈ pre, passIx E ops j i = true ∨ anc m ops ops.size i j = true := by
  induction pre with
  | nil => intro l _ _ j hj; cases hj
  | cons p ps ih =>
    intro l h e j hj
    subst e
    simp only [List.cons_append, pairsOK, Bool.and_eq_true] at h
    rcases List.mem_cons.1 hj with rfl | hj
    · have := List.all_eq_true.1 h.1 i (by simp)
      simpa using this
    · exact ih h.2 rfl j hj
theorem pairs_drop {pre post : List Nat} {i : Nat} (h : pairsOK E m ops (pre ++ i :: post) = true) : pairsOK E m ops (pre ++ post) = true := by
  induction pre with
  | nil => simp only [List.nil_append, pairsOK, Bool.and_eq_true] at h ⊢; exact h.2
  | cons p ps ih =>
    simp only [List.cons_append, pairsOK, Bool.and_eq_true] at h ⊢
    refine ⟨?_, ih h.2⟩
    rw [List.all_eq_true] at h ⊢
    intro x hx
    refine h.1 x ?_
    rcases List.mem_append.1 hx with hx | hx
    · exact List.mem_append_left _ hx
    · exact List.mem_append_right _ (List.mem_cons_of_mem _ hx)
theorem swaps_front {i : Nat} {o : Oper} (ho : ops[i]? = some o) : ∀ {pre post : List Nat}, (∀ j ∈ pre, passIx E ops j i = true) → Swaps E ops ((pre ++ i :: post).filterMap (ops[·]?)) (o :: (pre ++ post).filterMap (ops[·]?))
  | [], post, _ => by
    have : (i :: post).filterMap (ops[·]?) = o :: post.filterMap (ops[·]?) := by simp [List.filterMap_cons, ho]
    simp only [List.nil_append, this]
    exact .refl _
  | p :: ps, post, h => by
    have hp := h p (by simp)
    unfold passIx at hp
    split at hp
    · rename_i x y hx hy
      rw [ho] at hy
      obtain rfl := Option.some.inj hy
      have h1 := swaps_front (post := post) ho (fun j hj => h j (List.mem_cons_of_mem _ hj))
      have e1 : (p :: ps ++ i :: post).filterMap (ops[·]?) = x :: (ps ++ i :: post).filterMap (ops[·]?) := by simp [List.filterMap_cons, hx]
      have e2 : (p :: ps ++ post).filterMap (ops[·]?) = x :: (ps ++ post).filterMap (ops[·]?) := by simp [List.filterMap_cons, hx]
      rw [e1, e2]
      exact (Swaps.cons h1).trans (.swap hp (.refl _))
    · cases hp
/-- What is listed has all that it stands behind listed. -/
def Closed (m : Region.Mode) (ops : Array Oper) (listed : Array Bool) : Prop := ∀ i, listed.getD i true = true → i < ops.size → ∀ k ∈ predsOf m ops i, k < ops.size → listed.getD k true = true
theorem anc_listed {listed : Array Bool} (hc : Closed m ops listed) (hb : backOK m ops = true) : ∀ (f i j : Nat), i < ops.size → (∀ k ∈ predsOf m ops i, listed.getD k true = true) → anc m ops f i j = true → listed.getD j true = true
  | 0, i, j, hi, hp, h => by cases h
  | f + 1, i, j, hi, hp, h => by
    simp only [anc, List.any_eq_true, Bool.or_eq_true, beq_iff_eq] at h
    obtain ⟨k, hk, h⟩ := h
    rcases h with rfl | h
    · exact hp k hk
    · have hlt : k < i := by
        have := List.all_eq_true.1 hb i (by simpa using hi)
        have := List.all_eq_true.1 this k hk
        simpa using this
      exact anc_listed hc hb f k j (by omega) (fun q hq => hc k (hp k hk) (by omega) q hq (by
        have := List.all_eq_true.1 hb k (by simp; omega)
        have := List.all_eq_true.1 this q hq
        simp at this
        omega)) h
theorem ready_iff {listed : Array Bool} {i : Nat} : i ∈ Region.ready m ops listed ↔ i < ops.size ∧ listed.getD i true = false ∧ ∃ o, ops[i]? = some o ∧ o.after.all (fun e => !Region.binds m e || listed.getD e.on false) = true := by
  unfold Region.ready
  rw [List.mem_filter, List.mem_range]
  constructor
  · rintro ⟨h1, h2⟩
    simp only [Bool.and_eq_true, Bool.not_eq_true'] at h2
    refine ⟨h1, h2.1, ops[i], Array.getElem?_eq_getElem h1, ?_⟩
    have := h2.2
    rw [Array.getElem?_eq_getElem h1] at this
    simpa using this
  · rintro ⟨h1, h2, o, ho, h3⟩
    refine ⟨h1, ?_⟩
    simp only [Bool.and_eq_true, Bool.not_eq_true']
    refine ⟨h2, ?_⟩
    rw [ho]
    simpa using h3
theorem preds_listed {listed : Array Bool} {o : Oper} {i : Nat} (hsz : listed.size = ops.size) (ho : ops[i]? = some o) (h : o.after.all (fun e => !Region.binds m e || listed.getD e.on false) = true) : ∀ k ∈ predsOf m ops i, listed.getD k true = true := by
  intro k hk
  simp only [predsOf, ho, List.mem_map, List.mem_filter] at hk
  obtain ⟨e, ⟨he, hb⟩, rfl⟩ := hk
  rw [Array.all_eq_true'] at h
  have := h e (by simpa using he)
  simp only [hb, Bool.not_true, Bool.false_or] at this
  simp only [Array.getD_eq_getD_getElem?] at this ⊢
  cases hg : listed[e.on]? with
  | none => rfl
  | some b => rw [hg] at this; simpa using this
theorem getD_set_true' {listed : Array Bool} {i j : Nat} (h : listed.getD j true = true) : (listed.setIfInBounds i true).getD j true = true := by
  simp only [Array.getD_eq_getD_getElem?, Array.getElem?_setIfInBounds] at h ⊢
  split
  · split <;> rfl
  · exact h
theorem least_of : ∀ {l : List Nat}, l ≠ [] → ∃ i ∈ l, ∀ j ∈ l, i ≤ j
  | [], h => absurd rfl h
  | [x], _ => ⟨x, by simp, by simp⟩
  | x :: y :: r, _ => by
    obtain ⟨i, hi, hj⟩ := least_of (l := y :: r) (by simp)
    by_cases hxi : x ≤ i
    · refine ⟨x, by simp, fun j hj' => ?_⟩
      rcases List.mem_cons.1 hj' with rfl | h
      · exact Nat.le_refl _
      · exact Nat.le_trans hxi (hj j h)
    · refine ⟨i, List.mem_cons_of_mem _ hi, fun j hj' => ?_⟩
      rcases List.mem_cons.1 hj' with rfl | h
      · omega
      · exact hj j h
theorem go_swaps (hb : backOK m ops = true) : ∀ (fuel t : Nat) (listed : Array Bool) (l : List Nat), listed.size = ops.size → l.Nodup → (∀ i, i ∈ l ↔ i < ops.size ∧ listed.getD i true = false) → l.length ≤ fuel → Closed m ops listed → pairsOK E m ops l = true →
    Swaps E ops (l.filterMap (ops[·]?)) ((Region.linearise.go m ops fuel t listed []).filterMap (ops[·]?))
  | 0, t, listed, l, hsz, hn, hl, hf, hc, hp => by
    have : l = [] := List.eq_nil_of_length_eq_zero (by omega)
    subst this
    exact .refl _
  | fuel + 1, t, listed, l, hsz, hn, hl, hf, hc, hp => by
    simp only [Region.linearise.go]
    have hrs : ((List.range ops.size).filter fun i => !listed.getD i true && ((ops[i]?).map (·.after.all fun e => !Region.binds m e || listed.getD e.on false)).getD false) = Region.ready m ops listed := rfl
    rw [hrs]
    split
    · rename_i i hi
      have him := List.mem_of_getElem? hi
      obtain ⟨h1, h2, o, ho, h3⟩ := ready_iff.1 him
      have hil := (hl i).2 ⟨h1, h2⟩
      obtain ⟨pre, post, rfl⟩ := List.append_of_mem hil
      have hpl := preds_listed hsz ho h3
      have hpass : ∀ j ∈ pre, passIx E ops j i = true := by
        intro j hj
        rcases pairs_at hp rfl j hj with h | h
        · exact h
        · have := anc_listed hc hb _ i j h1 hpl h
          have hj' := ((hl j).1 (List.mem_append_left _ hj)).2
          rw [hj'] at this; cases this
      have hsw := swaps_front (E := E) (post := post) ho hpass
      rw [linearise_go_acc]
      have e1 : ([i].reverse ++ Region.linearise.go m ops fuel (t / (Region.ready m ops listed).length) (listed.setIfInBounds i true) []).filterMap (ops[·]?) = o :: (Region.linearise.go m ops fuel (t / (Region.ready m ops listed).length) (listed.setIfInBounds i true) []).filterMap (ops[·]?) := by
        simp [List.filterMap_cons, ho]
      rw [e1]
      refine hsw.trans (.cons (go_swaps hb fuel _ (listed.setIfInBounds i true) (pre ++ post) (by simp [hsz]) ?_ (fun k => ?_) ?_ ?_ (pairs_drop hp)))
      · rw [List.nodup_append] at hn ⊢
        obtain ⟨n1, n2, n3⟩ := hn
        exact ⟨n1, (List.nodup_cons.1 n2).2, fun a ha b hb => n3 a ha b (List.mem_cons_of_mem _ hb)⟩
      · have hni : i ∉ pre ++ post := by
          rw [List.nodup_append] at hn
          obtain ⟨n1, n2, n3⟩ := hn
          intro h
          rcases List.mem_append.1 h with h | h
          · exact n3 i h i (by simp) rfl
          · exact (List.nodup_cons.1 n2).1 h
        have hk := hl k
        have hiff : k ∈ pre ++ i :: post ↔ k = i ∨ k ∈ pre ++ post := by simp; constructor <;> (intro h; rcases h with h | h | h <;> simp [h])
        by_cases hki : k = i
        · subst hki
          constructor
          · intro h; exact absurd h hni
          · rintro ⟨_, h⟩
            have : (listed.setIfInBounds k true).getD k true = true := by
              simp [Array.getD_eq_getD_getElem?, Array.getElem?_setIfInBounds, hsz, h1]
            rw [this] at h; cases h
        · rw [getD_set_ne true (fun e => hki e.symm)]
          rw [← hk, hiff]
          constructor
          · intro h; exact .inr h
          · rintro (h | h)
            · exact absurd h hki
            · exact h
      · simp at hf ⊢; omega
      · intro q hq hqs k hk hks
        by_cases hqi : q = i
        · subst hqi
          exact getD_set_true' (hpl k hk)
        · rw [getD_set_ne true (fun e => hqi e.symm)] at hq
          exact getD_set_true' (hc q hq hqs k hk hks)
    · rename_i hnone
      -- nothing is ready: nothing is left
      have hr0 : Region.ready m ops listed = [] := by
        cases hr : Region.ready m ops listed with
        | nil => rfl
        | cons x xs =>
          exfalso
          rw [hr] at hnone
          have : t % (x :: xs).length < (x :: xs).length := Nat.mod_lt _ (by simp)
          rw [List.getElem?_eq_getElem this] at hnone
          cases hnone
      have : l = [] := by
        by_cases hl0 : l = []
        · exact hl0
        · exfalso
          have hmin := least_of hl0
          obtain ⟨i, hi, hj⟩ := hmin
          obtain ⟨h1, h2⟩ := (hl i).1 hi
          have : i ∈ Region.ready m ops listed := by
            refine ready_iff.2 ⟨h1, h2, ops[i], Array.getElem?_eq_getElem h1, ?_⟩
            rw [Array.all_eq_true']
            intro e he
            cases hbe : Region.binds m e with
            | false => rfl
            | true =>
              have hpm : e.on ∈ predsOf m ops i := by
                simp only [predsOf, Array.getElem?_eq_getElem h1, List.mem_map, List.mem_filter]
                exact ⟨e, ⟨by simpa using he, hbe⟩, rfl⟩
              have hlt : e.on < i := by
                have := List.all_eq_true.1 hb i (by simpa using h1)
                have := List.all_eq_true.1 this e.on hpm
                simpa using this
              have hnl : e.on ∉ l := fun h => by have := hj e.on h; omega
              have hon : e.on < ops.size := by omega
              have : listed.getD e.on true = true := by
                cases hg : listed.getD e.on true with
                | true => rfl
                | false => exact absurd ((hl e.on).2 ⟨hon, hg⟩) hnl
              simp only [Bool.not_true, Bool.false_or]
              rw [Array.getD_eq_getD_getElem?] at this ⊢
              rw [Array.getElem?_eq_getElem (by omega)] at this ⊢
              exact this
          rw [hr0] at this
          cases this
      subst this
      exact .refl _
end
end Go.Ev
/- One order for a region that draws; the whole surroundings of a program. -/
set_option linter.unusedSimpArgs false
set_option linter.unusedVariables false
namespace Go.Ev

/-- Readers as early as they may stand. -/
def canon (ops : Array Oper) : Nat → Array Bool → List Nat
  | 0, _ => []
  | f + 1, listed =>
    let rs := Region.ready .any ops listed
    match rs.find? (fun i => match ops[i]? with
      | some o => isReader o.op
      | none => false) with
    | some i => i :: canon ops f (listed.setIfInBounds i true)
    | none => match rs with
      | [] => []
      | i :: _ => i :: canon ops f (listed.setIfInBounds i true)
def nodupB : List Nat → Bool
  | [] => true
  | x :: r => !r.contains x && nodupB r
theorem nodupB_ok : ∀ {l : List Nat}, nodupB l = true → l.Nodup
  | [], _ => by simp
  | x :: r, h => by
    simp only [nodupB, Bool.and_eq_true, Bool.not_eq_true'] at h
    exact List.nodup_cons.2 ⟨by simpa using h.1, nodupB_ok h.2⟩
def drawGood (E : Env) (ops : Array Oper) (l : List Nat) : Bool :=
  backOK .any ops && pairsOK E .any ops l && nodupB l && l.all (fun i => decide (i < ops.size)) && (List.range ops.size).all (fun i => l.contains i)
def drawOf (E : Env) (ops : Array Oper) : Option (List Oper) :=
  if drawGood E ops (canon ops ops.size (Array.replicate ops.size false)) = true then some ((canon ops ops.size (Array.replicate ops.size false)).filterMap (ops[·]?)) else none
theorem Swaps.env {E E' : Env} {all : Array Oper} (h : ∀ x y, mayPass E x y = mayPass E' x y) {l l' : List Oper} (k : Swaps E all l l') : Swaps E' all l l' := by
  induction k with
  | refl l => exact .refl l
  | cons _ ih => exact .cons ih
  | swap hm _ ih => exact .swap (by unfold mayPassG at hm ⊢; rw [← h]; exact hm) ih
  | trans _ _ ih1 ih2 => exact .trans ih1 ih2
theorem drawOf_ok {E : Env} {P : Program} (hm : P.follows .mixedOrders = true) {ops : Array Oper} {l : List Oper} (h : drawOf E ops = some l) : ∀ t, Swaps E ops l ((Region.schedule (P.follows .mixedOrders) ops t).filterMap (ops[·]?)) := by
  unfold drawOf at h
  split at h
  · rename_i hg
    obtain rfl := Option.some.inj h
    simp only [drawGood, Bool.and_eq_true] at hg
    obtain ⟨⟨⟨⟨g2, g3⟩, g4⟩, g5⟩, g6⟩ := hg
    have hnd := nodupB_ok g4
    · intro t
      rw [hm]
      have hs : Region.schedule true ops t = Region.linearise.go .any ops ops.size t (Array.replicate ops.size false) [] := by
        simp [Region.schedule, Region.linearise]
      rw [hs]
      have hmem : ∀ i, i ∈ canon ops ops.size (Array.replicate ops.size false) ↔ i < ops.size := by
        intro i
        constructor
        · intro hi
          have := List.all_eq_true.1 g5 i hi
          simpa using this
        · intro hi
          have := List.all_eq_true.1 g6 i (by simpa using hi)
          simpa using this
      refine go_swaps g2 ops.size t _ _ (by simp) hnd (fun i => ?_) ?_ ?_ g3
      · rw [hmem]
        constructor
        · intro hi
          refine ⟨hi, ?_⟩
          simp [Array.getD_eq_getD_getElem?, hi]
        · exact fun h => h.1
      · have hsub : (canon ops ops.size (Array.replicate ops.size false)) ⊆ List.range ops.size := fun i hi => by simpa using (hmem i).1 hi
        have := hnd.length_le_of_subset hsub
        simpa using this
      · intro i hi his
        have : (Array.replicate ops.size false).getD i true = false := by simp [Array.getD_eq_getD_getElem?, his]
        rw [this] at hi; cases hi
  · cases h

/-- The surroundings of a program, whole. -/
def envD (P : Program) (md : Nat → List Bool) (flat : Nat → Bool) (ext : Nat → Option (List X → Option (List X × List (Option X)))) : Env :=
  envOf P md flat ext (drawOf (envOf P md flat ext (fun _ => none)))
theorem envD_sok {P : Program} {md : Nat → List Bool} {flat : Nat → Bool} {ext : Nat → Option (List X → Option (List X × List (Option X)))} (hm : P.follows .mixedOrders = true) (hn : namesOK P = true)
    (hx : ∀ f g args rs bs, ext f = some g → g args = some (rs, bs) → CallOK (envD P md flat ext) P f args rs bs) : SOK (envD P md flat ext) P :=
  ⟨envOf_pok P md flat ext _, namesOK_name hn, hx, fun ops l h => by
    have h2 := drawOf_ok hm (show drawOf (envOf P md flat ext (fun _ => none)) ops = some l from h)
    exact fun t => Swaps.env (E := envOf P md flat ext (fun _ => none)) (E' := envD P md flat ext) (fun x y => rfl) (h2 t)⟩
end Go.Ev
