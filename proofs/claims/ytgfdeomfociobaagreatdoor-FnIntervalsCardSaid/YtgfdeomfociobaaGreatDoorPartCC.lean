/- What a function takes with it at its end, and what its caller regains. -/
import Derived.Test.YtgfdeomfociobaaGreatDoorPartCB
set_option linter.unusedSimpArgs false
set_option linter.unusedVariables false
namespace Go.Ev
section
variable {E : Env} {P : Program} {M0 : Nat → Prop} {w0 : World} {c : Ctx} {st st' : St} {a : Act} {w w' : World}

structure Taken (E : Env) (M0 : Nat → Prop) (w0 : World) (c : Ctx) (st : St) (w : World) (b : List Nat) (st1 : St) : Prop where
  inv : Inv E M0 w0 c st1 w
  n : st1.n = st.n
  sub : ∀ i, Owns c i (st1.o i) → Owns c i (st.o i)
  from_ : ∀ k ∈ b, ∃ i, i < st.n ∧ Owns c i (st.o i) ∧ k = c.loc i
  gone : ∀ k ∈ b, ∀ i, i < st.n → Owns c i (st1.o i) → c.loc i ≠ k
  nodup : b.Nodup
theorem Taken.refl (hI : Inv E M0 w0 c st w) : Taken E M0 w0 c st w [] st := ⟨hI, rfl, fun _ h => h, by simp, by simp, by simp⟩
theorem Taken.trans {b b' : List Nat} {st1 st2 : St} (h : Taken E M0 w0 c st w b st1) (h' : Taken E M0 w0 c st1 w b' st2) : Taken E M0 w0 c st w (b ++ b') st2 := by
  refine ⟨h'.inv, h'.n.trans h.n, fun i hi => h.sub i (h'.sub i hi), fun k hk => ?_, fun k hk i hi ho => ?_, List.nodup_append.2 ⟨h.nodup, h'.nodup, fun x hx y hy e => ?_⟩⟩
  · rcases List.mem_append.1 hk with hk | hk
    · exact h.from_ k hk
    · obtain ⟨i, h1, h2, h3⟩ := h'.from_ k hk
      exact ⟨i, by rw [← h.n]; exact h1, h.sub i h2, h3⟩
  · rcases List.mem_append.1 hk with hk | hk
    · exact h.gone k hk i hi (h'.sub i ho)
    · exact h'.gone k hk i (by rw [h.n]; exact hi) ho
  · subst e
    obtain ⟨i, h1, h2, h3⟩ := h'.from_ x hy
    exact h.gone x hx i (by rw [← h.n]; exact h1) h2 h3.symm
theorem Taken.free {b : List Nat} {st1 : St} (h : Taken E M0 w0 c st w b st1) (hI : Inv E M0 w0 c st w) {k : Nat} (hk : k ∈ b) : k < w.heap.size ∧ ¬ c.F k ∧ (M0 k ∨ w0.heap.size ≤ k) := by
  obtain ⟨i, h1, h2, rfl⟩ := h.from_ k hk
  exact hI.own i h1 h2
theorem base_taken (hI : Inv E M0 w0 c st w) {e : Nat} {s : SV} {v : Value} {xs : List T} {st1 : St} (hz : 0 < (E.ty e).size) (hr : Rel c w s v) (h : st.base e s = some (xs, st1)) : ∃ l, RowV E c.F w e xs v l ∧ Taken E M0 w0 c st w (ownL v l) st1 := by
  obtain ⟨B, k, rfl, b1, b2, b3, b4, b4', b4'', b4c, b5, b6, b7⟩ := base_ok hI hr h
  by_cases hk : k = 0
  · subst hk
    refine ⟨0, ⟨hz, ⟨B, 0, rfl, b1, b2⟩, b5, b6, fun A n k hv hk => ?_⟩, ?_⟩
    · injection hv with _ _ e3
      exact absurd e3.symm hk
    · have : ownL (.slice B xs.length 0) 0 = [] := by simp [ownL, capV]
      rw [this]
      exact ⟨b3, b4, b4c, by simp, by simp, by simp⟩
  · obtain ⟨l, o, vs, lo, hi, rfl, e2, e3, e4, e5, e6, e7, e8, e9, r, r1, r2, r3⟩ := b7 hk
    refine ⟨l, ⟨hz, ⟨_, k, rfl, b1, b2⟩, b5, b6, fun A n k' hv hk' => ?_⟩, ?_⟩
    · injection hv with q1 q2 q3
      subst q1; subst q2; subst q3
      exact ⟨o, vs, lo, hi, rfl, e2, e3, e4, e5⟩
    · have : ownL (.slice (some ⟨l, o, none⟩) xs.length k) l = [l] := by simp [ownL, capV, hk]
      rw [this]
      refine ⟨b3, b4, b4c, fun k hk => ?_, fun k hk i hi ho => ?_, by simp⟩
      · simp at hk; subst hk; exact ⟨r, r1, r2, r3⟩
      · simp at hk; subst hk; exact e9 i (by rw [b4]; exact hi) ho
theorem row_size (hI : Inv E M0 w0 c st w) {r e : Nat} {xs : List T} {live : Bool} (hr : r < c.n) (ho : st.o r = .row e xs live) : 0 < (E.ty e).size := by
  have hob := hI.obs r (by rw [← hI.n]; exact hr)
  rw [ho] at hob
  rw [← hob.1]; exact hob.2.1
theorem takeCell_ok (hI : Inv E M0 w0 c st w) {s : SV} {v : Value} {x : X} {st1 : St} (hr : Rel c w s v) (h : st.takeCell s = some (x, st1)) : ∃ b, XC E c.F w x v b ∧ Taken E M0 w0 c st w b st1 := by
  unfold St.takeCell at h
  split at h
  · rename_i r
    split at h
    · rename_i e xs ho
      simp only [Option.some.injEq, Prod.mk.injEq] at h
      obtain ⟨rfl, rfl⟩ := h
      have hrn : r < c.n := by cases hr; assumption
      obtain ⟨l, h1, h2⟩ := base_taken (e := e) (xs := xs) (st1 := st.setO r .dead) hI (row_size hI hrn ho) hr (by simp [St.base, ho])
      exact ⟨_, .row h1, h2⟩
    · rename_i e xs ho
      simp only [Option.some.injEq, Prod.mk.injEq] at h
      obtain ⟨rfl, rfl⟩ := h
      cases hr with
      | row _ hrn =>
        have hob := hI.obs r (by rw [← hI.n]; exact hrn)
        rw [ho] at hob
        exact ⟨[], .t (frozen_RD hob) rfl, .refl hI⟩
    · cases h
  · rename_i r lo hi
    split at h
    · rename_i e xs ho
      split at h
      · rename_i hc
        simp only [Option.some.injEq, Prod.mk.injEq] at h
        obtain ⟨rfl, rfl⟩ := h
        have hrn : r < c.n := by cases hr; assumption
        obtain ⟨l, h1, h2⟩ := base_taken (e := e) (xs := (xs.take hi).drop lo) (st1 := st.setO r .dead) hI (row_size hI hrn ho) hr (by simp [St.base, ho, hc])
        exact ⟨_, .row h1, h2⟩
      · cases h
    · rename_i e xs ho
      simp only [Option.some.injEq, Prod.mk.injEq] at h
      obtain ⟨rfl, rfl⟩ := h
      have := (peek1_RD hI hr (t := .list ((xs.take hi).drop lo)) (by simp [St.peek1, ho])).1
      refine ⟨[], .t (this.mono (fun k hk => ?_) (fun _ _ => rfl)) rfl, .refl hI⟩
      rcases hk with hk | ⟨i, hi, _, ho', _⟩
      · exact hk
      · simp [rowIds] at hi
        subst hi
        rw [ho] at ho'
        exact ho'.elim
    · cases h
  · simp only [Option.some.injEq, Prod.mk.injEq] at h
    obtain ⟨rfl, rfl⟩ := h
    cases hr with
    | nil A => exact ⟨[], .nil A, .refl hI⟩
  · split at h
    · rename_i h1
      simp only [Option.some.injEq, Prod.mk.injEq] at h
      obtain ⟨rfl, rfl⟩ := h
      cases hr with
      | t hr => exact ⟨[], .t hr h1, .refl hI⟩
    · cases h
  · cases h
theorem takeCells_ok : ∀ {l : List SV} {st st1 : St} {vs : List Value} {xs : List X}, Inv E M0 w0 c st w → vs.length = l.length → (∀ (i : Nat) s v, l[i]? = some s → vs[i]? = some v → Rel c w s v) → st.takeCells l = some (xs, st1) → ∃ b, XCs E c.F w xs vs b ∧ Taken E M0 w0 c st w b st1
  | [], st, st1, vs, xs, hI, hl, hr, h => by
    simp only [St.takeCells, Option.some.injEq, Prod.mk.injEq] at h
    obtain ⟨rfl, rfl⟩ := h
    obtain rfl : vs = [] := List.eq_nil_of_length_eq_zero hl
    exact ⟨[], .nil, .refl hI⟩
  | s :: r, st, st1, vs, xs, hI, hl, hr, h => by
    cases vs with
    | nil => simp at hl
    | cons v vs =>
      unfold St.takeCells at h
      split at h
      · cases h
      · rename_i x st2 h1
        split at h
        · cases h
        · rename_i ys st3 h2
          simp only [Option.some.injEq, Prod.mk.injEq] at h
          obtain ⟨rfl, rfl⟩ := h
          obtain ⟨b, g1, g2⟩ := takeCell_ok hI (hr 0 s v rfl rfl) h1
          obtain ⟨b', k1, k2⟩ := takeCells_ok (vs := vs) g2.inv (by simpa using hl) (fun i s v hs hv => hr (i + 1) s v (by simpa using hs) (by simpa using hv)) h2
          exact ⟨b ++ b', .cons g1 k1, g2.trans k2⟩
theorem takeCell_box {s : SV} {x : X} {st1 : St} {b ty : Nat} {cells : List SV} (ho : st.o b = .box ty cells) (h : st.takeCell s = some (x, st1)) : st1.o b = .box ty cells := by
  have key : ∀ r e xs live, st.o r = .row e xs live → (st.setO r .dead).o b = .box ty cells := by
    intro r e xs live hr
    have hne : b ≠ r := by
      intro e; subst e
      rw [ho] at hr; cases hr
    have : (st.setO r .dead).o b = st.o b := upd_ne _ _ hne
    rw [this]; exact ho
  unfold St.takeCell at h
  repeat' split at h
  all_goals first
    | (cases h; done)
    | (simp only [Option.some.injEq, Prod.mk.injEq] at h
       obtain ⟨rfl, rfl⟩ := h
       first | exact ho | (apply key; assumption))
theorem takeCells_box : ∀ {l : List SV} {st st1 : St} {xs : List X} {b ty : Nat} {cells : List SV}, st.o b = .box ty cells → st.takeCells l = some (xs, st1) → st1.o b = .box ty cells
  | [], st, st1, xs, b, ty, cells, ho, h => by
    simp only [St.takeCells, Option.some.injEq, Prod.mk.injEq] at h
    obtain ⟨rfl, rfl⟩ := h
    exact ho
  | s :: r, st, st1, xs, b, ty, cells, ho, h => by
    unfold St.takeCells at h
    split at h
    · cases h
    · rename_i x st2 h1
      split at h
      · cases h
      · rename_i ys st3 h2
        simp only [Option.some.injEq, Prod.mk.injEq] at h
        obtain ⟨rfl, rfl⟩ := h
        exact takeCells_box (takeCell_box ho h1) h2
theorem XC.up {F : Nat → Prop} {x : X} {v : Value} {b : List Nat} (h : XC E F w x v b) : XV E F w x v b := by
  cases h with
  | t h h1 => exact .t h
  | nil A => exact .nil A
  | row h => exact .row h
theorem take_ok (hI : Inv E M0 w0 c st w) {s : SV} {v : Value} {x : X} {st1 : St} (hr : Rel c w s v) (h : st.take s = some (x, st1)) : ∃ b, XV E c.F w x v b ∧ Taken E M0 w0 c st w b st1 := by
  unfold St.take at h
  split at h
  · rename_i cs
    split at h
    · cases h
    · rename_i xs st2 h1
      simp only [Option.some.injEq, Prod.mk.injEq] at h
      obtain ⟨rfl, rfl⟩ := h
      cases hr with
      | agg _ vs hl h1' hr =>
        obtain ⟨b, g1, g2⟩ := takeCells_ok (vs := vs.toList) hI (by simpa using hl.symm) (fun i s v hs hv => hr i s v hs (by simpa using hv)) h1
        exact ⟨b, .agg g1, g2⟩
  · rename_i b
    split at h
    · rename_i ty cells ho
      split at h
      · rename_i xs st2 h1
        simp only [Option.some.injEq, Prod.mk.injEq] at h
        obtain ⟨rfl, rfl⟩ := h
        cases hr with
        | ptr _ _ hb =>
          have hb' : b < st.n := by rw [← hI.n]; exact hb
          have hob := hI.obs b hb'
          rw [ho] at hob
          obtain ⟨vs, e1, e2, e3, e4⟩ := hob
          obtain ⟨bb, g1, g2⟩ := takeCells_ok (vs := vs.toList) hI (by simpa using e2) (fun i s v hs hv => e4 i s v hs (by simpa using hv)) h1
          have hown : Owns c b (st.o b) := by rw [ho]; trivial
          have hnot : c.loc b ∉ bb := by
            intro hm
            exact g2.gone _ hm b hb' (by rw [takeCells_box ho h1]; trivial) rfl
          refine ⟨c.loc b :: bb, .ref e1 g1, ⟨g2.inv.kill1 b, g2.n, fun i hi => g2.sub i (own_kill b i hi), fun k hk => ?_, fun k hk i hi ho' => ?_, List.nodup_cons.2 ⟨hnot, g2.nodup⟩⟩⟩
          · rcases List.mem_cons.1 hk with rfl | hk
            · exact ⟨b, hb', hown, rfl⟩
            · exact g2.from_ k hk
          · rcases List.mem_cons.1 hk with rfl | hk
            · intro e
              have := hI.inj i b hi hb' (g2.sub i (own_kill b i ho')) hown e
              subst this
              have : (st2.setO i .dead).o i = .dead := upd_self _ _ _
              rw [this] at ho'
              exact ho'
            · exact g2.gone k hk i hi (own_kill b i ho')
      · cases h
    · cases h
  · obtain ⟨b, g1, g2⟩ := takeCell_ok hI hr h
    exact ⟨b, g1.up, g2⟩
theorem takeAll_ok : ∀ {l : List SV} {st st1 : St} {vs : List Value} {xs : List X}, Inv E M0 w0 c st w → vs.length = l.length → (∀ (i : Nat) s v, l[i]? = some s → vs[i]? = some v → Rel c w s v) → st.takeAll l = some (xs, st1) → ∃ b, XVs E c.F w xs vs b ∧ Taken E M0 w0 c st w b st1
  | [], st, st1, vs, xs, hI, hl, hr, h => by
    simp only [St.takeAll, Option.some.injEq, Prod.mk.injEq] at h
    obtain ⟨rfl, rfl⟩ := h
    obtain rfl : vs = [] := List.eq_nil_of_length_eq_zero hl
    exact ⟨[], .nil, .refl hI⟩
  | s :: r, st, st1, vs, xs, hI, hl, hr, h => by
    cases vs with
    | nil => simp at hl
    | cons v vs =>
      unfold St.takeAll at h
      split at h
      · cases h
      · rename_i x st2 h1
        split at h
        · cases h
        · rename_i ys st3 h2
          simp only [Option.some.injEq, Prod.mk.injEq] at h
          obtain ⟨rfl, rfl⟩ := h
          obtain ⟨b, g1, g2⟩ := take_ok hI (hr 0 s v rfl rfl) h1
          obtain ⟨b', k1, k2⟩ := takeAll_ok (vs := vs) g2.inv (by simpa using hl) (fun i s v hs hv => hr (i + 1) s v (by simpa using hs) (by simpa using hv)) h2
          exact ⟨b ++ b', .cons g1 k1, g2.trans k2⟩

inductive XOs (E : Env) (F : Nat → Prop) (w : World) : List (Option X) → List Value → List Nat → Prop
  | nil : XOs E F w [] [] []
  | some {x : X} {v : Value} {b : List Nat} {xs : List (Option X)} {vs : List Value} {bs : List Nat} (h : XV E F w x v b) (r : XOs E F w xs vs bs) : XOs E F w (some x :: xs) (v :: vs) (b ++ bs)
  | none {v : Value} {xs : List (Option X)} {vs : List Value} {bs : List Nat} (r : XOs E F w xs vs bs) : XOs E F w (none :: xs) (v :: vs) bs
theorem backOne_ok (hI : Inv E M0 w0 c st w) {s : SV} {v : Value} (hr : Rel c w s v) : ∃ b, Taken E M0 w0 c st w b (st.backOne s).2 ∧ ∀ xs vs bs, XOs E c.F w xs vs bs → XOs E c.F w ((st.backOne s).1 :: xs) (v :: vs) (b ++ bs) := by
  unfold St.backOne
  split
  · rename_i r
    split
    · rename_i e xs ho
      have hrn : r < c.n := by cases hr; assumption
      obtain ⟨l, h1, h2⟩ := base_taken (e := e) (xs := xs) (st1 := st.setO r .dead) hI (row_size hI hrn ho) hr (by simp [St.base, ho])
      exact ⟨_, h2, fun xs vs bs h => .some (.row h1) h⟩
    · exact ⟨[], .refl hI, fun xs vs bs h => .none h⟩
  · cases hr with
    | nil A => exact ⟨[], .refl hI, fun xs vs bs h => .some (b := []) (.nil A) h⟩
  · rename_i b
    split
    · rename_i ty cells ho
      split
      · rename_i xs st2 h1
        cases hr with
        | ptr _ _ hb =>
          have hb' : b < st.n := by rw [← hI.n]; exact hb
          have hob := hI.obs b hb'
          rw [ho] at hob
          obtain ⟨vs, e1, e2, e3, e4⟩ := hob
          obtain ⟨bb, g1, g2⟩ := takeCells_ok (vs := vs.toList) hI (by simpa using e2) (fun i s v hs hv => e4 i s v hs (by simpa using hv)) h1
          have hown : Owns c b (st.o b) := by rw [ho]; trivial
          have hnot : c.loc b ∉ bb := by
            intro hm
            exact g2.gone _ hm b hb' (by rw [takeCells_box ho h1]; trivial) rfl
          refine ⟨c.loc b :: bb, ⟨g2.inv.kill1 b, g2.n, fun i hi => g2.sub i (own_kill b i hi), fun k hk => ?_, fun k hk i hi ho' => ?_, List.nodup_cons.2 ⟨hnot, g2.nodup⟩⟩, fun xs' vs' bs h => .some (.ref e1 g1) h⟩
          · rcases List.mem_cons.1 hk with rfl | hk
            · exact ⟨b, hb', hown, rfl⟩
            · exact g2.from_ k hk
          · rcases List.mem_cons.1 hk with rfl | hk
            · intro e
              have := hI.inj i b hi hb' (g2.sub i (own_kill b i ho')) hown e
              subst this
              have : (st2.setO i .dead).o i = .dead := upd_self _ _ _
              rw [this] at ho'
              exact ho'
            · exact g2.gone k hk i hi (own_kill b i ho')
      · exact ⟨[], .refl hI, fun xs vs bs h => .none h⟩
    · exact ⟨[], .refl hI, fun xs vs bs h => .none h⟩
  · exact ⟨[], .refl hI, fun xs vs bs h => .none h⟩
theorem backAll_ok : ∀ {l : List SV} {st : St} {vs : List Value}, Inv E M0 w0 c st w → vs.length = l.length → (∀ (i : Nat) s v, l[i]? = some s → vs[i]? = some v → Rel c w s v) → ∃ b, XOs E c.F w (st.backAll l).1 vs b ∧ Taken E M0 w0 c st w b (st.backAll l).2
  | [], st, vs, hI, hl, hr => by
    obtain rfl : vs = [] := List.eq_nil_of_length_eq_zero hl
    exact ⟨[], .nil, .refl hI⟩
  | s :: r, st, vs, hI, hl, hr => by
    cases vs with
    | nil => simp at hl
    | cons v vs =>
      obtain ⟨b, g1, g2⟩ := backOne_ok hI (hr 0 s v rfl rfl)
      obtain ⟨b', k1, k2⟩ := backAll_ok (vs := vs) g1.inv (by simpa using hl) (fun i s v hs hv => hr (i + 1) s v (by simpa using hs) (by simpa using hv))
      exact ⟨b ++ b', g2 _ _ _ k1, g1.trans k2⟩
end
end Go.Ev
/- Behind a call. -/
set_option linter.unusedSimpArgs false
set_option linter.unusedVariables false
namespace Go.Ev
section
variable {E : Env} {P : Program} {M0 : Nat → Prop} {w0 : World} {c : Ctx} {st st' : St} {a : Act} {w w' : World}

theorem kill_get : ∀ (ids : List Nat) (st : St) (i : Nat), (kill ids st).o i = if i ∈ ids then .dead else st.o i
  | [], st, i => by simp [kill]
  | j :: l, st, i => by
    have h : kill (j :: l) st = kill l (st.setO j .dead) := rfl
    rw [h, kill_get l (st.setO j .dead) i]
    by_cases hi : i ∈ l
    · simp [hi]
    · by_cases hj : i = j
      · subst hj
        have : (st.setO i .dead).o i = .dead := upd_self _ _ _
        simp [hi, this]
      · have : (st.setO j .dead).o i = st.o i := upd_ne _ _ hj
        simp [hi, hj, this]
theorem kill_rest : ∀ (ids : List Nat) (st : St), (kill ids st).n = st.n ∧ (kill ids st).s = st.s ∧ (kill ids st).N = st.N
  | [], st => ⟨rfl, rfl, rfl⟩
  | j :: l, st => kill_rest l (st.setO j .dead)
theorem Inv.kill (hI : Inv E M0 w0 c st w) : ∀ (ids : List Nat), Inv E M0 w0 c (kill ids st) w := by
  intro ids
  induction ids generalizing st with
  | nil => exact hI
  | cons j l ih => exact ih (hI.kill1 j)
/-- The world changes where no object of the state stands. -/
theorem Inv.world (hI : Inv E M0 w0 c st w) {S : Nat → Prop} (hs : Same w w' S) (h1 : ∀ k, S k → ¬ c.F k ∧ (M0 k ∨ w0.heap.size ≤ k)) (h2 : ∀ i, i < st.n → Owns c i (st.o i) → ¬ S (c.loc i)) : Inv E M0 w0 c st w' := by
  have hF : ∀ k, c.F k → w'.heap[k]? = w.heap[k]? := fun k hk => hs.blk k (hI.F k hk) (fun e => (h1 k e).1 hk)
  refine ⟨hI.n, fun i hi => ?_, hI.dead, hI.inj, fun i hi ho => ?_, fun k hk => Nat.lt_of_lt_of_le (hI.F k hk) hs.size, hI.one, hI.same.trans hs (fun k hk e => ?_), hI.bnd⟩
  · exact (hI.obs i hi).mono (Ctx.Le.refl c) (by rw [hI.n]; exact hi) hF (fun ho => hs.blk _ (hI.own i hi ho).1 (h2 i hi ho))
  · obtain ⟨l1, l2, l3⟩ := hI.own i hi ho
    exact ⟨Nat.lt_of_lt_of_le l1 hs.size, l2, l3⟩
  · rcases (h1 k e).2 with h | h
    · exact h
    · omega
/-- More may be read. -/
theorem Inv.moreF (hI : Inv E M0 w0 c st w) {F : Nat → Prop} (h0 : ∀ k, c.F k → F k) (h1 : ∀ k, F k → k < w.heap.size ∧ (c.F0 k ∨ M0 k ∨ w0.heap.size ≤ k)) (h2 : ∀ i, i < st.n → Owns c i (st.o i) → ¬ F (c.loc i)) : Inv E M0 w0 (c.withF F) st w := by
  have hle : c.Le (c.withF F) := Ctx.le_withF h0
  refine ⟨hI.n, fun i hi => (hI.obs i hi).mono hle (by rw [hI.n]; exact hi) (fun _ _ => rfl) (fun _ => rfl), hI.dead, fun i j hi hj oi oj e => ?_, fun i hi ho => ?_, fun k hk => (h1 k hk).1, hI.one, hI.same, fun k hk => (h1 k hk).2⟩
  · exact hI.inj i j hi hj (oi.mono hle (by rw [hI.n]; exact hi)) (oj.mono hle (by rw [hI.n]; exact hj)) e
  · have ho' := ho.mono hle (by rw [hI.n]; exact hi)
    obtain ⟨l1, l2, l3⟩ := hI.own i hi ho'
    exact ⟨l1, h2 i hi ho', l3⟩

theorem freeze_get (st : St) (r i : Nat) : (i ≠ r → (st.freeze r).o i = st.o i) ∧ (st.rowAt i = true → (st.freeze r).rowAt i = true) ∧ (st.freeze r).n = st.n ∧ (st.freeze r).s = st.s ∧ (st.freeze r).N = st.N := by
  unfold St.freeze
  split
  · rename_i e xs live ho
    refine ⟨fun h => upd_ne _ _ h, fun h => ?_, rfl, rfl, rfl⟩
    by_cases hi : i = r
    · subst hi
      have : (st.setO i (.row e xs false)).o i = .row e xs false := upd_self _ _ _
      simp [St.rowAt, this]
    · have : (st.setO r (.row e xs false)).o i = st.o i := upd_ne _ _ hi
      simp only [St.rowAt, this]
      exact h
  · exact ⟨fun _ => rfl, fun h => h, rfl, rfl, rfl⟩
theorem freeze_own (r i : Nat) (h : Owns c i ((st.freeze r).o i)) : Owns c i (st.o i) := by
  by_cases hi : i = r
  · subst hi
    unfold St.freeze at h
    split at h
    · rename_i e xs live ho
      have : (st.setO i (.row e xs false)).o i = .row e xs false := upd_self _ _ _
      rw [this] at h
      exact h.elim
    · exact h
  · rw [(freeze_get st r i).1 hi] at h
    exact h
theorem freezeAll_ok : ∀ {ids : List Nat} {c : Ctx} {st : St}, Inv E M0 w0 c st w → ids.all st.rowAt = true → ∃ F, Inv E M0 w0 (c.withF F) (freezeAll ids st) w ∧ (∀ k, c.F k → F k) ∧ (∀ k, FP c st ids k → F k) ∧ (∀ k, F k → FP c st ids k) ∧ (freezeAll ids st).n = st.n ∧ (freezeAll ids st).s = st.s ∧ (freezeAll ids st).N = st.N ∧ ∀ i, Owns c i ((freezeAll ids st).o i) → Owns c i (st.o i)
  | [], c, st, hI, h => ⟨c.F, hI, fun _ h => h, fun k hk => hk.elim id (fun ⟨i, hi, _⟩ => by simp at hi), fun k hk => .inl hk, rfl, rfl, rfl, fun _ h => h⟩
  | r :: l, c, st, hI, h => by
    simp only [List.all_cons, Bool.and_eq_true] at h
    obtain ⟨h1, h2⟩ := h
    obtain ⟨F1, g1, g2, g3, g4⟩ := hI.freeze r (fun ty cells hb => by simp [St.rowAt, hb] at h1)
    have hall : l.all (st.freeze r).rowAt = true := by
      rw [List.all_eq_true] at h2 ⊢
      exact fun i hi => (freeze_get st r i).2.1 (h2 i hi)
    obtain ⟨F2, k1, k2, k3, k3', k4, k5, k6, k7⟩ := freezeAll_ok g1 hall
    have hfz : freezeAll (r :: l) st = freezeAll l (st.freeze r) := rfl
    rw [hfz]
    obtain ⟨_, _, n1, n2, n3⟩ := freeze_get st r 0
    refine ⟨F2, k1, fun k hk => k2 k (g2 k hk), fun k hk => ?_, fun k hk => ?_, k4.trans n1, k5.trans n2, k6.trans n3, fun i hi => freeze_own r i (k7 i hi)⟩
    rotate_left
    · rcases k3' k hk with hk | ⟨i, hi, hi2, hi3, hi4⟩
      · exact FP.sub (fun i hi => by simp at hi; simp [hi]) k (g4 k hk)
      · exact .inr ⟨i, List.mem_cons_of_mem _ hi, by rw [← n1]; exact hi2, freeze_own r i hi3, hi4⟩
    rcases hk with hk | ⟨i, hi, hi2, hi3, hi4⟩
    · exact k2 k (g2 k hk)
    · by_cases hir : i = r
      · subst hir
        exact k2 k (g3 k (.inr ⟨i, by simp, hi2, hi3, hi4⟩))
      · rcases List.mem_cons.1 hi with rfl | hi
        · exact absurd rfl hir
        · refine k3 k (.inr ⟨i, hi, by rw [n1]; exact hi2, ?_, hi4⟩)
          rw [(freeze_get st r i).1 hir]; exact hi3

/-- An object has its own again. -/
theorem revive (hI : Inv E M0 w0 c st w) {r : Nat} {ob : Ob} {bl : List Nat} (hr : r < st.n) (hob : ObOK E c w r ob) (hf : Owns c r ob → c.loc r ∈ bl ∧ Free M0 w0 c st w (c.loc r)) : Bound E M0 w0 c st w bl c (st.setO r ob) := by
  have hset : ∀ i, i ≠ r → (st.setO r ob).o i = st.o i := fun i hi => upd_ne _ _ hi
  have hsetr : (st.setO r ob).o r = ob := upd_self _ _ _
  refine ⟨Ctx.Le.refl c, rfl, ⟨hI.n, fun i hi => ?_, fun i hi => ?_, fun i j hi hj oi oj e => ?_, fun i hi ho => ?_, hI.F, hI.one, hI.same, hI.bnd⟩, rfl, rfl, Nat.le_refl _, fun i hi ho => ?_⟩
  · by_cases h : i = r
    · subst h; rw [hsetr]; exact hob
    · rw [hset i h]; exact hI.obs i hi
  · have hi' : st.n ≤ i := hi
    rw [hset i (by omega)]; exact hI.dead i hi'
  · by_cases h : i = r
    · by_cases h' : j = r
      · rw [h, h']
      · subst h
        rw [hsetr] at oi
        rw [hset j h'] at oj
        exact absurd e.symm ((hf oi).2.2.2.2 j hj oj)
    · rw [hset i h] at oi
      by_cases h' : j = r
      · subst h'
        rw [hsetr] at oj
        exact absurd e ((hf oj).2.2.2.2 i hi oi)
      · rw [hset j h'] at oj
        exact hI.inj i j hi hj oi oj e
  · by_cases h : i = r
    · subst h
      rw [hsetr] at ho
      obtain ⟨f1, f2, f3, _⟩ := (hf ho).2
      exact ⟨f1, f2, f3⟩
    · rw [hset i h] at ho
      exact hI.own i hi ho
  · by_cases h : i = r
    · subst h
      rw [hsetr] at ho
      exact .inr (hf ho).1
    · rw [hset i h] at ho
      exact .inl ⟨hi, ho⟩
/-- What the rows of a state say of their places. -/
def Olds (E : Env) (c : Ctx) (st0 : St) : Prop := ∀ r e xs, st0.o r = .row e xs true → c.sz r = (E.ty e).size ∧ ∀ A n k, c.val r = .slice A n k → k ≠ 0 → ∃ o, A = some ⟨c.loc r, o, none⟩
theorem Inv.olds (hI : Inv E M0 w0 c st w) : Olds E c st := by
  intro r e xs ho
  have hr : r < st.n := by
    by_cases h : r < st.n
    · exact h
    · rw [hI.dead r (by omega)] at ho; cases ho
  have hob := hI.obs r hr
  rw [ho] at hob
  obtain ⟨h1, h2, h3, h4, h5, h6⟩ := hob
  refine ⟨h1, fun A n k hv hk => ?_⟩
  obtain ⟨o, _, _, _, e1, _⟩ := h6 A n k hv hk
  exact ⟨o, e1⟩
theorem Olds.mono {c' : Ctx} {st0 : St} (h : Olds E c st0) (hle : c.Le c') (hn : ∀ r e xs, st0.o r = .row e xs true → r < c.n) : Olds E c' st0 := by
  intro r e xs ho
  have hr := hn r e xs ho
  obtain ⟨h1, h2⟩ := h r e xs ho
  rw [hle.sz r hr, hle.val r hr, hle.loc r hr]
  exact ⟨h1, h2⟩
theorem regain_ok (hI : Inv E M0 w0 c st w) {st0 st1 : St} {s : SV} {v : Value} {x : X} {b : List Nat} (h0 : Olds E c st0) (hr : Rel c w s v) (hx : XV E c.F w x v b) (hn : b.Nodup) (hf : ∀ k ∈ b, Free M0 w0 c st w k) (h : st.regain st0 s (some x) = some st1) : ∃ c', Bound E M0 w0 c st w b c' st1 := by
  unfold St.regain at h
  split at h
  · cases ‹some x = none›
  · rename_i r e xs heq
    obtain rfl := Option.some.inj heq
    split at h
    · rename_i e' ys ho
      split at h
      · rename_i hee
        subst hee
        obtain rfl := Option.some.inj h
        cases hr with
        | row _ hrn =>
          obtain ⟨o1, o2⟩ := h0 r e' ys ho
          cases hx with
          | @row _ _ _ l hx =>
            have hll : capV (c.val r) ≠ 0 → l = c.loc r := by
              intro hk
              obtain ⟨h1, ⟨A, k, hv, h2⟩, _, _, h5⟩ := hx
              rw [hv] at hk
              obtain ⟨o, _, _, _, e1, _⟩ := h5 A _ k hv hk
              obtain ⟨o', e2⟩ := o2 A _ k hv hk
              rw [e1] at e2
              injection e2 with e2
              injection e2 with e2
            refine ⟨c, revive hI (by rw [← hI.n]; exact hrn) (obOK_row.2 ⟨o1, ?_⟩) (fun ho' => ?_)⟩
            · by_cases hk : capV (c.val r) = 0
              · obtain ⟨h1, h2, h3, h4, h5⟩ := hx
                refine ⟨h1, h2, h3, h4, fun A n k hv hk' => ?_⟩
                rw [hv] at hk; exact absurd hk hk'
              · rw [← hll hk]; exact hx
            · obtain ⟨A, n, k, hv, hk⟩ := ho'
              have hk' : capV (c.val r) ≠ 0 := by rw [hv]; exact hk
              have hl := hll hk'
              subst hl
              have hm : c.loc r ∈ ownL (c.val r) (c.loc r) := by simp [ownL, hk']
              exact ⟨hm, hf _ hm⟩
      · cases h
    · cases h
  · obtain rfl := Option.some.inj h
    exact ⟨c, .refl hI _⟩
  · rename_i bx ty xs heq
    obtain rfl := Option.some.inj heq
    split at h <;> try (cases h; done)
    obtain rfl := Option.some.inj h
    cases hr with
    | ptr _ _ hb =>
      cases hx with
      | @ref _ _ _ vs bb hh hx =>
        obtain ⟨hn1, hn2⟩ := List.nodup_cons.1 hn
        obtain ⟨c1, b1, l1, o1, r1⟩ := bindCells_ok hI hx hn2 (fun k hk => hf k (List.mem_cons_of_mem _ hk))
        have hfl := b1.free hI (hf (c.loc bx) (by simp)) hn1
        have hloc := b1.le.loc bx hb
        have hbn : bx < (st.bindCells xs).2.n := Nat.lt_of_lt_of_le (by rw [← hI.n]; exact hb) b1.n
        refine ⟨c1, b1.trans (revive (bl := [c.loc bx]) b1.inv hbn ⟨vs, by rw [hloc]; exact hh, by simpa using l1.symm, o1, fun j s v hs hv => r1 j s v hs (by simpa using hv)⟩ (fun _ => ?_)) (fun k hk => List.mem_cons_of_mem _ hk) (fun k hk => by simp at hk; simp [hk])⟩
        rw [hloc]
        exact ⟨by simp, hfl⟩
  · cases h
theorem regainAll_ok : ∀ {ss : List SV} {c : Ctx} {st st0 st1 : St} {vs : List Value} {xs : List (Option X)} {b : List Nat}, Inv E M0 w0 c st w → Olds E c st0 → (∀ r e xs, st0.o r = .row e xs true → r < c.n) → vs.length = ss.length → (∀ (i : Nat) s v, ss[i]? = some s → vs[i]? = some v → Rel c w s v) → XOs E c.F w xs vs b → b.Nodup → (∀ k ∈ b, Free M0 w0 c st w k) →
    st.regainAll st0 ss xs = some st1 → ∃ c', Bound E M0 w0 c st w b c' st1
  | [], c, st, st0, st1, vs, xs, b, hI, h0, hc, hl, hr, hx, hn, hf, h => by
    cases xs with
    | nil =>
      simp only [St.regainAll, Option.some.injEq] at h
      subst h
      exact ⟨c, .refl hI _⟩
    | cons x xs => simp [St.regainAll] at h
  | s :: r, c, st, st0, st1, vs, xs, b, hI, h0, hc, hl, hr, hx, hn, hf, h => by
    cases xs with
    | nil => simp [St.regainAll] at h
    | cons x xs =>
      cases vs with
      | nil => simp at hl
      | cons v vs =>
        simp only [St.regainAll] at h
        split at h
        · rename_i st2 h1
          have hl' : vs.length = r.length := by simpa using hl
          cases hx with
          | @some x _ b _ _ bs hx1 hx2 =>
            obtain ⟨hn1, hn2, hn3⟩ := List.nodup_append.1 hn
            obtain ⟨c1, b1⟩ := regain_ok hI h0 (hr 0 s v rfl rfl) hx1 hn1 (fun k hk => hf k (List.mem_append_left _ hk)) h1
            have hx2' : XOs E c1.F w xs vs bs := by rw [b1.F]; exact hx2
            obtain ⟨c2, b2⟩ := regainAll_ok b1.inv (h0.mono b1.le hc) (fun r e xs ho => Nat.lt_of_lt_of_le (hc r e xs ho) b1.le.n) hl' (fun i s v hs hv => (hr (i + 1) s v (by simpa using hs) (by simpa using hv)).mono b1.le (fun _ _ => rfl)) hx2' hn2 (fun k hk => b1.free hI (hf k (List.mem_append_right _ hk)) (fun hk' => hn3 k hk' k hk rfl)) h
            exact ⟨c2, b1.trans b2 (fun l hl => List.mem_append_left _ hl) (fun l hl => List.mem_append_right _ hl)⟩
          | none hx2 =>
            have : st.regain st0 s none = some st := by cases s <;> rfl
            rw [this] at h1
            obtain rfl := Option.some.inj h1
            exact regainAll_ok hI h0 hc hl' (fun i s v hs hv => hr (i + 1) s v (by simpa using hs) (by simpa using hv)) hx2 hn hf h
        · cases h
end
end Go.Ev
/- A call, seen by its caller. -/
set_option linter.unusedSimpArgs false
set_option linter.unusedVariables false
namespace Go.Ev

def resV : List Value → Value
  | [u] => u
  | us => .tuple us.toArray
/-- How a call of f goes: entered, or answered at once. -/
def Goes (P : Program) (f : Nat) (vals : Array Value) (w : World) (R : Ending → World → Prop) : Prop :=
  ((callFunc f vals).run P w = .ok (.enter f vals) w ∧ Calls P f vals w R) ∨ ∃ v w', (callFunc f vals).run P w = .ok (.value v) w' ∧ R (.returned v) w'
def Leaves (E : Env) (F : Nat → Prop) (w : World) (bl : List Nat) (mv : List Value) (rs : List X) (bs : List (Option X)) (us : List Value) (w' : World) : Prop :=
  ∃ (F' : Nat → Prop) (br bb : List Nat), Same w w' (fun k => k ∈ bl) ∧ (∀ k, F k → F' k) ∧ (∀ k, F' k → F k ∨ k ∈ bl ∨ w.heap.size ≤ k) ∧ (∀ k, F' k → k < w'.heap.size) ∧ XVs E F' w' rs us br ∧ XOs E F' w' bs mv bb ∧ (br ++ bb).Nodup ∧
    ∀ k ∈ br ++ bb, k < w'.heap.size ∧ ¬ F' k ∧ (k ∈ bl ∨ w.heap.size ≤ k)
/-- What is said of a call. -/
def CallOK (E : Env) (P : Program) (f : Nat) (args rs : List X) (bs : List (Option X)) : Prop :=
  (E.flat f = true → X.flats rs = true ∧ backFlat bs = true ∧ X.quiets rs = true) ∧ ∀ (F : Nat → Prop) (w : World) (vals : Array Value) (bl : List Nat), XVs E F w args vals.toList bl → bl.Nodup → (∀ k ∈ bl, k < w.heap.size ∧ ¬ F k) → (∀ k, F k → k < w.heap.size) → Laid E F w →
    Goes P f vals w (fun e w' => ∃ us, e = .returned (resV us) ∧ Leaves E F w bl (muts (E.md f) vals.toList) rs bs us w')

section
variable {E : Env} {P : Program} {M0 : Nat → Prop} {w0 : World} {c : Ctx} {st st' : St} {a : Act} {w w' : World}

theorem Goes.mono {f : Nat} {vals : Array Value} {R R' : Ending → World → Prop} (h : Goes P f vals w R) (hr : ∀ e w', R e w' → R' e w') : Goes P f vals w R' := by
  rcases h with ⟨h1, h2⟩ | ⟨v, w', h1, h2⟩
  · exact .inl ⟨h1, h2.mono hr⟩
  · exact .inr ⟨v, w', h1, hr _ _ h2⟩
theorem flats_mem : ∀ {l : List T}, T.flats l = true → ∀ x ∈ l, x.flat = true
  | [], _, x, hx => by simp at hx
  | y :: r, h, x, hx => by
    simp only [T.flats, Bool.and_eq_true] at h
    rcases List.mem_cons.1 hx with rfl | hx
    · exact h.1
    · exact flats_mem h.2 x hx
theorem flat_cells {t : T} (h : t.flat = true) : ∀ y ∈ t.cells, y.flat = true := by
  cases t with
  | agg cs =>
    have h' : T.flats cs = true := by simpa [T.flat] using h
    exact fun y hy => flats_mem h' y hy
  | _ => intro y hy; simp [T.cells] at hy; subst hy; exact h
theorem RowV.flat {F F' : Nat → Prop} {e l : Nat} {xs : List T} {v : Value} (h : RowV E F w e xs v l) (hf : T.flats xs = true) : RowV E F' w e xs v l := by
  obtain ⟨h1, h2, h3, h4, h5⟩ := h
  refine ⟨h1, h2, h3, h4, fun A n k hv hk => ?_⟩
  obtain ⟨o, vs, lo, hi, e1, e2, e3, e4, e5⟩ := h5 A n k hv hk
  refine ⟨o, vs, lo, hi, e1, e2, e3, e4, fun j x t y hx hy => ?_⟩
  obtain ⟨u, u1, u2⟩ := e5 j x t y hx hy
  exact ⟨u, u1, u2.flat (flat_cells (flats_mem hf x (List.mem_of_getElem? hx)) y (List.mem_of_getElem? hy))⟩
theorem XC.flat {F F' : Nat → Prop} {x : X} {v : Value} {b : List Nat} (h : XC E F w x v b) (hf : x.flat = true) : XC E F' w x v b := by
  cases h with
  | t h h1 => exact .t (h.flat (by simpa [X.flat] using hf)) h1
  | nil A => exact .nil A
  | row h => exact .row (h.flat (by simpa [X.flat] using hf))
theorem XCs.flat {F F' : Nat → Prop} {xs : List X} {vs : List Value} {b : List Nat} (h : XCs E F w xs vs b) (hf : X.flats xs = true) : XCs E F' w xs vs b := by
  induction h with
  | nil => exact .nil
  | cons h r ih =>
    simp only [X.flats, Bool.and_eq_true] at hf
    exact .cons (h.flat hf.1) (ih hf.2)
theorem XV.flat {F F' : Nat → Prop} {x : X} {v : Value} {b : List Nat} (h : XV E F w x v b) (hf : x.flat = true) : XV E F' w x v b := by
  cases h with
  | t h => exact .t (h.flat (by simpa [X.flat] using hf))
  | nil A => exact .nil A
  | row h => exact .row (h.flat (by simpa [X.flat] using hf))
  | agg h => exact .agg (h.flat (by simpa [X.flat] using hf))
  | ref hh h => exact .ref hh (h.flat (by simpa [X.flat] using hf))
  | dref h => simp [X.flat] at hf
  | fn hl h => simp [X.flat] at hf
  | meth hl h => simp [X.flat] at hf
theorem XVs.flat {F F' : Nat → Prop} {xs : List X} {vs : List Value} {b : List Nat} (h : XVs E F w xs vs b) (hf : X.flats xs = true) : XVs E F' w xs vs b := by
  induction h with
  | nil => exact .nil
  | cons h r ih =>
    simp only [X.flats, Bool.and_eq_true] at hf
    exact .cons (h.flat hf.1) (ih hf.2)
theorem XOs.flat {F F' : Nat → Prop} {xs : List (Option X)} {vs : List Value} {b : List Nat} (h : XOs E F w xs vs b) (hf : backFlat xs = true) : XOs E F' w xs vs b := by
  induction h with
  | nil => exact .nil
  | some h r ih =>
    simp only [backFlat, Bool.and_eq_true] at hf
    exact .some (h.flat hf.1) (ih hf.2)
  | none r ih => exact .none (ih (by simpa [backFlat] using hf))
theorem XOs.mono {F F' : Nat → Prop} {xs : List (Option X)} {vs : List Value} {b : List Nat} (h : XOs E F w xs vs b) (hF : ∀ k, F k → F' k) : XOs E F' w xs vs b := by
  induction h with
  | nil => exact .nil
  | some h r ih => exact .some (h.mono hF (fun _ _ => rfl) (fun _ _ => rfl)) ih
  | none r ih => exact .none ih

theorem muts_rel : ∀ {md : List Bool} {ss : List SV} {vs : List Value}, vs.length = ss.length → (∀ (i : Nat) s v, ss[i]? = some s → vs[i]? = some v → Rel c w s v) →
    (muts md vs).length = (muts md ss).length ∧ ∀ (i : Nat) s v, (muts md ss)[i]? = some s → (muts md vs)[i]? = some v → Rel c w s v
  | md, [], vs, hl, hr => by
    obtain rfl : vs = [] := List.eq_nil_of_length_eq_zero hl
    have h1 : muts md ([] : List SV) = [] := by cases md <;> rfl
    have h2 : muts md ([] : List Value) = [] := by cases md <;> rfl
    rw [h1, h2]
    exact ⟨rfl, fun i s v hs => by simp at hs⟩
  | md, s :: r, vs, hl, hr => by
    cases vs with
    | nil => simp at hl
    | cons v vs =>
      obtain ⟨g1, g2⟩ := muts_rel (md := md.tail) (vs := vs) (by simpa using hl) (fun i s v hs hv => hr (i + 1) s v (by simpa using hs) (by simpa using hv))
      cases hm : md.headD false with
      | true =>
        have e1 : muts md (s :: r) = s :: muts md.tail r := by simp only [muts, hm, if_true]
        have e2 : muts md (v :: vs) = v :: muts md.tail vs := by simp only [muts, hm, if_true]
        rw [e1, e2]
        refine ⟨by simp [g1], fun i s' v' hs hv => ?_⟩
        cases i with
        | zero => simp at hs hv; subst hs; subst hv; exact hr 0 _ _ rfl rfl
        | succ i => exact g2 i s' v' (by simpa using hs) (by simpa using hv)
      | false =>
        have e1 : muts md (s :: r) = muts md.tail r := by simp only [muts, hm, Bool.false_eq_true, if_false]
        have e2 : muts md (v :: vs) = muts md.tail vs := by simp only [muts, hm, Bool.false_eq_true, if_false]
        rw [e1, e2]
        exact ⟨g1, g2⟩

theorem tup_rel {ss : List SV} {us : List Value} (hl : ss.length = us.length) (hr : ∀ (i : Nat) s v, ss[i]? = some s → us[i]? = some v → Rel c w s v) : Rel c w (tupOf ss) (resV us) := by
  match ss, us, hl with
  | [s], [u], _ => exact hr 0 s u rfl rfl
  | [], [], _ => exact .tup [] #[] rfl (fun i s v hs => by simp at hs)
  | s :: s' :: r, u :: u' :: q, hl =>
    refine .tup _ _ (by simpa using hl) (fun i s v hs hv => hr i s v hs (by simpa using hv))

/-- The caller behind the call: what was handed over is gone, what was looked at is frozen. -/
theorem mid_ok (hI : Inv E M0 w0 c st w) {g : Nat} {fb : Bool} {vs : List SV} {F' : Nat → Prop} {st0 : St} (hd : ∀ i ∈ st.roAll (ros (E.md g) vs), i ∉ st.mutAll (muts (E.md g) vs)) (hm : callMid E st g fb vs = some st0)
    (hs : Same w w' (fun k => k ∈ bids c st (st.mutAll (muts (E.md g) vs)))) (hF1 : ∀ k, FP c st (st.roAll (ros (E.md g) vs)) k → F' k) (hF2 : ∀ k, F' k → FP c st (st.roAll (ros (E.md g) vs)) k ∨ k ∈ bids c st (st.mutAll (muts (E.md g) vs)) ∨ w.heap.size ≤ k) (hF3 : ∀ k, F' k → k < w'.heap.size) :
    ∃ F2, Inv E M0 w0 (c.withF F2) st0 w' ∧ (∀ k, c.F k → F2 k) ∧ (∀ k, F2 k → F' k) ∧ (fb = false → ∀ k, F' k → F2 k) ∧ st0.n = st.n ∧ st0.s = st.s ∧ st0.N = st.N ∧ (∀ i, Owns c i (st0.o i) → Owns c i (st.o i) ∧ i ∉ st.mutAll (muts (E.md g) vs)) := by
  generalize hmi : st.mutAll (muts (E.md g) vs) = mi at *
  generalize hri : st.roAll (ros (E.md g) vs) = ri at *
  have hbl : ∀ k ∈ bids c st mi, ∃ i ∈ mi, i < st.n ∧ Owns c i (st.o i) ∧ k = c.loc i := fun k hk => bids_mem hI hk
  have hkown : ∀ i, Owns c i ((kill mi st).o i) → Owns c i (st.o i) ∧ i ∉ mi := by
    intro i hi
    rw [kill_get] at hi
    split at hi
    · exact hi.elim
    · rename_i h; exact ⟨hi, h⟩
  obtain ⟨kn, ks, kN⟩ := kill_rest mi st
  have hnot : ∀ i, i < st.n → Owns c i (st.o i) → i ∉ mi → c.loc i ∉ bids c st mi := by
    intro i hi ho hni hk
    obtain ⟨j, hj, j1, j2, j3⟩ := hbl _ hk
    have := hI.inj i j hi j1 ho j2 j3
    subst this
    exact hni hj
  have hstk : Inv E M0 w0 c (kill mi st) w' := by
    refine (hI.kill mi).world hs (fun k hk => ?_) (fun i hi ho => ?_)
    · obtain ⟨i, _, i1, i2, rfl⟩ := hbl k hk
      exact (hI.own i i1 i2).2
    · obtain ⟨o1, o2⟩ := hkown i ho
      exact hnot i (by rw [← kn]; exact hi) o1 o2
  unfold callMid at hm
  rw [hmi, hri] at hm
  cases hfl : fb with
  | true =>
    rw [hfl] at hm
    obtain rfl := Option.some.inj hm
    exact ⟨c.F, hstk, fun _ h => h, fun k hk => hF1 k (.inl hk), fun h => by simp at h, kn, ks, kN, hkown⟩
  | false =>
    rw [hfl] at hm
    simp only at hm
    split at hm
    · rename_i hall
      obtain rfl := Option.some.inj hm
      obtain ⟨F1, f1, f2, f3, f3', f4, f5, f6, f7⟩ := freezeAll_ok hstk hall
      have hF1up : ∀ k, F1 k → FP c st ri k := by
        intro k hk
        rcases f3' k hk with hk | ⟨i, hi, h1, h2, h3⟩
        · exact .inl hk
        · exact .inr ⟨i, hi, by rw [← kn]; exact h1, (hkown i h2).1, h3⟩
      have hown0 : ∀ i, Owns c i ((freezeAll ri (kill mi st)).o i) → Owns c i (st.o i) ∧ i ∉ mi := fun i hi => hkown i (f7 i hi)
      refine ⟨fun k => F1 k ∨ F' k, ?_, fun k hk => .inl (f2 k hk), fun k hk => hk.elim (fun h => hF1 k (hF1up k h)) id, fun _ k hk => .inr hk, f4.trans kn, f5.trans ks, f6.trans kN, hown0⟩
      have hmore := f1.moreF (F := fun k => F1 k ∨ F' k) (fun k hk => .inl hk) (fun k hk => ?_) (fun i hi ho hk => ?_)
      · exact hmore
      · have hb : ∀ k, FP c st ri k → c.F0 k ∨ M0 k ∨ w0.heap.size ≤ k := by
          intro k hk
          rcases hk with hk | ⟨i, _, h1, h2, rfl⟩
          · exact hI.bnd k hk
          · exact .inr (hI.own i h1 h2).2.2
        rcases hk with hk | hk
        · exact ⟨f1.F k hk, f1.bnd k hk⟩
        · refine ⟨hF3 k hk, ?_⟩
          rcases hF2 k hk with h | h | h
          · exact hb k h
          · obtain ⟨i, _, i1, i2, rfl⟩ := hbl k h
            exact .inr (hI.own i i1 i2).2.2
          · exact .inr (.inr (Nat.le_trans hI.same.size h))
      · have hi' : i < st.n := by rw [← kn, ← f4]; exact hi
        obtain ⟨o1, o2⟩ := hown0 i ho
        obtain ⟨_, l2, _⟩ := f1.own i hi ho
        rcases hk with hk | hk
        · exact l2 hk
        · rcases hF2 _ hk with h | h | h
          · rcases h with h | ⟨j, hj, j1, j2, j3⟩
            · exact l2 (f2 _ h)
            · have := hI.inj i j hi' j1 o1 j2 j3
              subst this
              refine l2 (f3 _ (.inr ⟨i, hj, by rw [kn]; exact hi', ?_, rfl⟩))
              rw [kill_get, if_neg o2]; exact o1
          · exact hnot i hi' o1 o2 h
          · have h' : w.heap.size ≤ c.loc i := h
            have := (hI.own i hi' o1).1
            omega
    · cases hm

theorem RowV.RD {F F' : Nat → Prop} {e l : Nat} {xs : List T} {v : Value} (h : RowV E F w e xs v l) (hF : ∀ k, F k → F' k) (hb : ∀ k ∈ ownL v l, F' k) : RD F' w (.list xs) v := by
  obtain ⟨h2, ⟨A, k, rfl, hk, hm⟩, h4, h5, h6⟩ := h
  by_cases hk0 : k = 0
  · obtain rfl : xs = [] := List.eq_nil_of_length_eq_zero (by omega)
    exact .list [] A k (E.ty e).size (fun _ _ => undef) hk hm h2 h4 h5 (fun h => absurd rfl h) (fun j x i y hx => by simp at hx)
  · obtain ⟨o, vs, lo, hi, e1, e2, e3, e4, e5⟩ := h6 A _ k rfl hk0
    have hcl : ∀ j, w.cell? ⟨l, o + j, none⟩ = vs[o + j]? := fun j => by simp [World.cell?, e2]
    refine .list xs A k (E.ty e).size (fun j t => (vs[o + (j * (E.ty e).size + t)]?).getD undef) hk hm h2 h4 h5 (fun hne => ⟨l, o, e1, hb l (by simp [ownL, capV, hk0]), fun j t hj ht => ?_⟩) (fun j x t y hx hy => ?_)
    · rw [hcl]
      have hx := List.getElem?_eq_getElem hj
      have hw := h4 _ (List.getElem_mem hj)
      obtain ⟨v, hv1, _⟩ := e5 j _ t _ hx (List.getElem?_eq_getElem (by rw [hw]; exact ht))
      rw [hv1]; rfl
    · obtain ⟨v, hv1, hv2⟩ := e5 j x t y hx hy
      rw [hv1]
      exact hv2.mono hF (fun _ _ => rfl)
theorem XC.data1 {F : Nat → Prop} {x : X} {v : Value} {b : List Nat} (h : XC E F w x v b) (hF : ∀ k, F k → c.F k) (hb : ∀ k ∈ b, c.F k) : Rel c w x.data1 v ∧ x.data1.one = true := by
  cases h with
  | t h h1 => exact ⟨.t (h.mono hF (fun _ _ => rfl)), h1⟩
  | nil A => exact ⟨.nil A, rfl⟩
  | row h => exact ⟨.t (h.RD hF hb), rfl⟩
theorem XCs.data1 {F : Nat → Prop} {xs : List X} {vs : List Value} {b : List Nat} (h : XCs E F w xs vs b) (hF : ∀ k, F k → c.F k) (hb : ∀ k ∈ b, c.F k) : xs.length = vs.length ∧ (∀ y ∈ xs.map X.data1, y.one = true) ∧ ∀ (i : Nat) s v, (xs.map X.data1)[i]? = some s → vs[i]? = some v → Rel c w s v := by
  induction h with
  | nil => exact ⟨rfl, fun y hy => (by simp at hy), fun i s v hs => (by simp at hs)⟩
  | cons h r ih =>
    obtain ⟨a1, a2⟩ := h.data1 (c := c) hF (fun k hk => hb k (List.mem_append_left _ hk))
    obtain ⟨b1, b2, b3⟩ := ih (fun k hk => hb k (List.mem_append_right _ hk))
    refine ⟨by simp [b1], fun y hy => ?_, fun i s v hs hv => ?_⟩
    · rw [List.map_cons] at hy
      rcases List.mem_cons.1 hy with rfl | hy
      · exact a2
      · exact b2 y hy
    · cases i with
      | zero => simp at hs hv; subst hs; subst hv; exact a1
      | succ i => exact b3 i s v (by simpa using hs) (by simpa using hv)
theorem XV.data {F : Nat → Prop} {x : X} {v : Value} {b : List Nat} (h : XV E F w x v b) (hF : ∀ k, F k → c.F k) (hb : ∀ k ∈ b, c.F k) : Rel c w x.data v := by
  cases h with
  | t h => exact ofT_rel (h.mono hF (fun _ _ => rfl))
  | nil A => exact .nil A
  | row h => exact .t (h.RD hF hb)
  | agg h =>
    obtain ⟨b1, b2, b3⟩ := h.data1 (c := c) hF hb
    exact .agg _ _ (by simpa using b1) b2 (fun i s v hs hv => b3 i s v hs (by simpa using hv))
  | ref hh h => exact .undef _
  | dref h => exact .undef _
  | fn hl h => exact .undef _
  | meth hl h => exact .undef _
theorem XVs.data {F : Nat → Prop} {xs : List X} {vs : List Value} {b : List Nat} (h : XVs E F w xs vs b) (hF : ∀ k, F k → c.F k) (hb : ∀ k ∈ b, c.F k) : (xs.map X.data).length = vs.length ∧ ∀ (i : Nat) s v, (xs.map X.data)[i]? = some s → vs[i]? = some v → Rel c w s v := by
  induction h with
  | nil => exact ⟨rfl, fun i s v hs => (by simp at hs)⟩
  | cons h r ih =>
    have a1 := h.data (c := c) hF (fun k hk => hb k (List.mem_append_left _ hk))
    obtain ⟨b1, b3⟩ := ih (fun k hk => hb k (List.mem_append_right _ hk))
    refine ⟨by simpa using b1, fun i s v hs hv => ?_⟩
    cases i with
    | zero => simp at hs hv; subst hs; subst hv; exact a1
    | succ i => exact b3 i s v (by simpa using hs) (by simpa using hv)
theorem ownB_flat {g : Nat} {rs : List X} {bs : List (Option X)} (h : E.flat g = true → X.flats rs = true ∧ backFlat bs = true) (ho : ownB E g rs bs = true) : X.flats rs = true ∧ backFlat bs = true := by
  unfold ownB at ho
  split at ho
  · rename_i hf; exact h hf
  · split at ho
    · cases ho
    · simpa [Bool.and_eq_true] using ho
theorem call_all (hI : Inv E M0 w0 c st w) (hL : Laid E c.F w) {as : List SV} {ws : Array Value} {g : Nat} {xs rs : List X} {bs : List (Option X)} {r : SV} {st1 : St} (hlen : ws.toList.length = as.length) (hrel : ∀ (i : Nat) s v, as[i]? = some s → ws.toList[i]? = some v → Rel c w s v)
    (hnd : (st.mutAll (muts (E.md g) as)).Nodup) (hdis : ∀ i ∈ st.roAll (ros (E.md g) as), i ∉ st.mutAll (muts (E.md g) as)) (hgive : st.give (E.md g) as = some xs) (hc : CallOK E P g xs rs bs)
    (hb : (match callMid E st g (ownB E g rs bs) as with
      | none => none
      | some st0 => match st0.regainAll st (muts (E.md g) as) bs with
        | none => none
        | some st1 => some (tupOf (st1.bindAll rs).1, (st1.bindAll rs).2)) = some (r, st1)) :
    Goes P g ws w (fun e w' => ∃ u, e = .returned u ∧ ∃ c', Step E M0 w0 c st w r st1 c' u w') := by
  have hgx := give_ok hI (ids := st.roAll (ros (E.md g) as)) hgive hlen hrel (fun _ h => h)
  have hbl : ∀ k ∈ bids c st (st.mutAll (muts (E.md g) as)), ∃ i ∈ st.mutAll (muts (E.md g) as), i < st.n ∧ Owns c i (st.o i) ∧ k = c.loc i := fun k hk => bids_mem hI hk
  have hFP : ∀ k, FP c st (st.roAll (ros (E.md g) as)) k → k < w.heap.size := by
    intro k hk
    rcases hk with hk | ⟨i, _, h1, h2, rfl⟩
    · exact hI.F k hk
    · exact (hI.own i h1 h2).1
  obtain ⟨hcf, hco⟩ := hc
  have hgo := hco (FP c st (st.roAll (ros (E.md g) as))) w ws (bids c st (st.mutAll (muts (E.md g) as))) (hgx) (bids_nodup hI hnd) (fun k hk => by
    obtain ⟨i, i0, i1, i2, rfl⟩ := hbl k hk
    obtain ⟨l1, l2, l3⟩ := hI.own i i1 i2
    refine ⟨l1, fun hk => ?_⟩
    rcases hk with hk | ⟨j, j0, j1, j2, j3⟩
    · exact l2 hk
    · have := hI.inj i j i1 j1 i2 j2 j3
      subst this
      exact hdis i j0 i0) hFP (hL.mono fun k hk => .inl hk)
  refine hgo.mono ?_
  rintro e w' ⟨rus, rfl, F', br, bb, s1, s2, s3, s4, s5, s6, s7, s8⟩
  refine ⟨_, rfl, ?_⟩
  split at hb
  · cases hb
  · rename_i st0 hmid
    split at hb
    · cases hb
    · rename_i st2 hreg
      simp only [Option.some.injEq, Prod.mk.injEq] at hb
      obtain ⟨rfl, rfl⟩ := hb
      obtain ⟨F2, m1, m2, m3, m4, m5, m6, m7, m8⟩ := mid_ok hI hdis hmid s1 s2 s3 s4
      have hkeep : ∀ k, c.F k → w'.heap[k]? = w.heap[k]? := fun k hk => s1.blk k (hI.F k hk) (fun hk' => by
        obtain ⟨i, _, i1, i2, rfl⟩ := hbl k hk'
        exact (hI.own i i1 i2).2.1 hk)
      have hle : c.Le (c.withF F2) := Ctx.le_withF m2
      -- what comes, in the caller's reading
      have hrs : XVs E F2 w' rs rus br := by
        cases hfl : ownB E g rs bs with
        | true => exact s5.flat (ownB_flat (fun h => ⟨(hcf h).1, (hcf h).2.1⟩) hfl).1
        | false => exact s5.mono (m4 hfl) (fun _ _ => rfl) (fun _ _ => rfl)
      have hbs : XOs E F2 w' bs (muts (E.md g) ws.toList) bb := by
        cases hfl : ownB E g rs bs with
        | true => exact s6.flat (ownB_flat (fun h => ⟨(hcf h).1, (hcf h).2.1⟩) hfl).2
        | false => exact s6.mono (m4 hfl)
      obtain ⟨nd1, nd2, nd3⟩ := List.nodup_append.1 s7
      have hfree : ∀ k ∈ br ++ bb, Free M0 w0 (c.withF F2) st0 w' k := by
        intro k hk
        obtain ⟨k1, k2, k3⟩ := s8 k hk
        refine ⟨k1, fun h => k2 (m3 k h), ?_, fun i hi ho e => ?_⟩
        · rcases k3 with h | h
          · obtain ⟨i, _, i1, i2, rfl⟩ := hbl k h
            exact (hI.own i i1 i2).2.2
          · exact .inr (Nat.le_trans hI.same.size h)
        · have hi' : i < st.n := by rw [← m5]; exact hi
          obtain ⟨o1, o2⟩ := m8 i (ho.mono hle (by rw [hI.n]; exact hi'))
          have e' : c.loc i = k := e
          rcases k3 with h | h
          · obtain ⟨j, j0, j1, j2, j3⟩ := hbl k h
            have := hI.inj i j hi' j1 o1 j2 (e'.trans j3)
            subst this
            exact o2 j0
          · have := (hI.own i hi' o1).1
            omega
      obtain ⟨q1, q2⟩ := muts_rel (md := E.md g) hlen hrel
      have hrows : ∀ r e xs, st.o r = .row e xs true → r < c.n := by
        intro r e xs ho
        rw [hI.n]
        by_cases h : r < st.n
        · exact h
        · rw [hI.dead r (by omega)] at ho; cases ho
      obtain ⟨c2, b2⟩ := regainAll_ok (c := c.withF F2) (st := st0) (st0 := st) m1 (hI.olds.mono hle hrows) hrows q1 (fun i s v hs hv => (q2 i s v hs hv).mono hle hkeep) hbs nd2 (fun k hk => hfree k (List.mem_append_right _ hk)) hreg
      have hrs2 : XVs E c2.F w' rs rus br := by rw [b2.F]; exact hrs
      obtain ⟨c3, b3, l3, r3⟩ := bindAll_ok b2.inv hrs2 nd1 (fun k hk => b2.free m1 (hfree k (List.mem_append_left _ hk)) (fun hk' => nd3 k hk k hk' rfl))
      exact ⟨c3, (hle.trans b2.le).trans b3.le, b3.inv, hkeep, b3.s.trans (b2.s.trans m6), b3.N.trans (b2.N.trans m7), tup_rel l3 r3⟩
theorem call_allD (hI : Inv E M0 w0 c st w) (hL : Laid E c.F w) {as : List SV} {ws : Array Value} {g : Nat} {xs rs : List X} {bs : List (Option X)} {r : SV} {st1 : St} (hlen : ws.toList.length = as.length) (hrel : ∀ (i : Nat) s v, as[i]? = some s → ws.toList[i]? = some v → Rel c w s v)
    (hnd : (st.mutAll (muts (E.md g) as)).Nodup) (hdis : ∀ i ∈ st.roAll (ros (E.md g) as), i ∉ st.mutAll (muts (E.md g) as)) (hgive : st.give (E.md g) as = some xs) (hc : CallOK E P g xs rs bs)
    (hb : dataBack E st g as rs bs = some (r, st1)) :
    Goes P g ws w (fun e w' => ∃ u, e = .returned u ∧ ∃ c', Step E M0 w0 c st w r st1 c' u w') := by
  have hgx := give_ok hI (ids := st.roAll (ros (E.md g) as)) hgive hlen hrel (fun _ h => h)
  have hbl : ∀ k ∈ bids c st (st.mutAll (muts (E.md g) as)), ∃ i ∈ st.mutAll (muts (E.md g) as), i < st.n ∧ Owns c i (st.o i) ∧ k = c.loc i := fun k hk => bids_mem hI hk
  have hFP : ∀ k, FP c st (st.roAll (ros (E.md g) as)) k → k < w.heap.size := by
    intro k hk
    rcases hk with hk | ⟨i, _, h1, h2, rfl⟩
    · exact hI.F k hk
    · exact (hI.own i h1 h2).1
  obtain ⟨hcf, hco⟩ := hc
  have hgo := hco (FP c st (st.roAll (ros (E.md g) as))) w ws (bids c st (st.mutAll (muts (E.md g) as))) (hgx) (bids_nodup hI hnd) (fun k hk => by
    obtain ⟨i, i0, i1, i2, rfl⟩ := hbl k hk
    obtain ⟨l1, l2, l3⟩ := hI.own i i1 i2
    refine ⟨l1, fun hk => ?_⟩
    rcases hk with hk | ⟨j, j0, j1, j2, j3⟩
    · exact l2 hk
    · have := hI.inj i j i1 j1 i2 j2 j3
      subst this
      exact hdis i j0 i0) hFP (hL.mono fun k hk => .inl hk)
  refine hgo.mono ?_
  rintro e w' ⟨rus, rfl, F', br, bb, s1, s2, s3, s4, s5, s6, s7, s8⟩
  refine ⟨_, rfl, ?_⟩
  unfold dataBack at hb
  split at hb
  · cases hb
  · rename_i st0 hmid
    split at hb
    · simp only [Option.some.injEq, Prod.mk.injEq] at hb
      obtain ⟨rfl, rfl⟩ := hb
      obtain ⟨F2, m1, m2, m3, m4, m5, m6, m7, m8⟩ := mid_ok hI hdis hmid s1 s2 s3 s4
      have hkeep : ∀ k, c.F k → w'.heap[k]? = w.heap[k]? := fun k hk => s1.blk k (hI.F k hk) (fun hk' => by
        obtain ⟨i, _, i1, i2, rfl⟩ := hbl k hk'
        exact (hI.own i i1 i2).2.1 hk)
      have hle : c.Le (c.withF F2) := Ctx.le_withF m2
      -- what comes, in the caller's reading
      have hrs : XVs E F2 w' rs rus br := by
        cases hfl : E.flat g with
        | true => exact s5.flat (hcf hfl).1
        | false => exact s5.mono (m4 hfl) (fun _ _ => rfl) (fun _ _ => rfl)
      obtain ⟨nd1, nd2, nd3⟩ := List.nodup_append.1 s7
      have hfree : ∀ k ∈ br ++ bb, Free M0 w0 (c.withF F2) st0 w' k := by
        intro k hk
        obtain ⟨k1, k2, k3⟩ := s8 k hk
        refine ⟨k1, fun h => k2 (m3 k h), ?_, fun i hi ho e => ?_⟩
        · rcases k3 with h | h
          · obtain ⟨i, _, i1, i2, rfl⟩ := hbl k h
            exact (hI.own i i1 i2).2.2
          · exact .inr (Nat.le_trans hI.same.size h)
        · have hi' : i < st.n := by rw [← m5]; exact hi
          obtain ⟨o1, o2⟩ := m8 i (ho.mono hle (by rw [hI.n]; exact hi'))
          have e' : c.loc i = k := e
          rcases k3 with h | h
          · obtain ⟨j, j0, j1, j2, j3⟩ := hbl k h
            have := hI.inj i j hi' j1 o1 j2 (e'.trans j3)
            subst this
            exact o2 j0
          · have := (hI.own i hi' o1).1
            omega
      have hF3 : ∀ k, F2 k → (F2 k ∨ k ∈ br) := fun k hk => .inl hk
      have hinv := m1.moreF (F := fun k => F2 k ∨ k ∈ br) hF3 (fun k hk => by
        rcases hk with hk | hk
        · exact ⟨m1.F k hk, m1.bnd k hk⟩
        · obtain ⟨l1, l2, l3, l4⟩ := hfree k (List.mem_append_left _ hk)
          exact ⟨l1, .inr l3⟩) (fun i hi ho hk => by
        rcases hk with hk | hk
        · exact (m1.own i hi ho).2.1 hk
        · exact (hfree _ (List.mem_append_left _ hk)).2.2.2 i hi ho rfl)
      obtain ⟨l3, r3⟩ := hrs.data (c := (c.withF F2).withF (fun k => F2 k ∨ k ∈ br)) hF3 (fun k hk => .inr hk)
      exact ⟨_, hle.trans (Ctx.le_withF hF3), hinv, hkeep, m6, m7, tup_rel l3 r3⟩
    · cases hb
theorem call_ok (hI : Inv E M0 w0 c st w) (hL : Laid E c.F w) {f : SV} {vs : List SV} {fv : Value} {us : List Value} {g : Nat} {xs rs : List X} {bs : List (Option X)} {r : SV} {st1 : St} (hf : Rel c w f fv) (hl : us.length = vs.length) (hr : ∀ (i : Nat) s v, vs[i]? = some s → us[i]? = some v → Rel c w s v)
    (hp : callPrep E st f vs = some (g, xs)) (hc : CallOK E P g xs rs bs) (hb : callBack E st f vs rs bs = some (r, st1)) :
    ∃ first caps : Array Value, fv = .func (.func g) first caps ∧ Goes P g (first ++ us.toArray ++ caps) w (fun e w' => ∃ u, e = .returned u ∧ ∃ c', Step E M0 w0 c st w r st1 c' u w') := by
  unfold callPrep at hp
  split at hp
  · rename_i g' caps
    split at hp
    · rename_i hcond
      obtain ⟨hnd, hdis⟩ := hcond
      simp only [Option.map_eq_some_iff, Prod.mk.injEq] at hp
      obtain ⟨xs', hgive, rfl, rfl⟩ := hp
      cases hf with
      | fn _ _ cvs hcl hcr =>
        refine ⟨#[], cvs, rfl, ?_⟩
        have hall : (#[] ++ us.toArray ++ cvs).toList = us ++ cvs.toList := by simp
        refine call_all hI hL (by rw [hall]; simp [hl, hcl]) (fun i s v hs hv => ?_) hnd hdis hgive hc hb
        rw [hall] at hv
        rw [List.getElem?_append] at hs hv
        rw [hl] at hv
        split at hs
        · rename_i hi; rw [if_pos hi] at hv; exact hr i s v hs hv
        · rename_i hi; rw [if_neg hi] at hv; exact hcr _ s v hs (by simpa using hv)
    · cases hp
  · rename_i g' ts
    split at hp
    · rename_i hcond
      obtain ⟨hnd, hdis⟩ := hcond
      simp only [Option.map_eq_some_iff, Prod.mk.injEq] at hp
      obtain ⟨xs', hgive, rfl, rfl⟩ := hp
      cases hf with
      | meth _ _ fvs hcl hcr =>
        refine ⟨fvs, #[], rfl, ?_⟩
        have hall : (fvs ++ us.toArray ++ #[]).toList = fvs.toList ++ us := by simp
        have hfl : (ts.map ofT).length = fvs.toList.length := by simp [hcl]
        refine call_all hI hL (by rw [hall]; simp [hl, hcl]) (fun i s v hs hv => ?_) hnd hdis hgive hc hb
        rw [hall] at hv
        rw [List.getElem?_append] at hs hv
        rw [hfl] at hs
        split at hs
        · rename_i hi
          rw [if_pos hi] at hv
          rw [List.getElem?_map, Option.map_eq_some_iff] at hs
          obtain ⟨t, ht, rfl⟩ := hs
          exact ofT_rel (hcr i t v ht (by simpa using hv))
        · rename_i hi; rw [if_neg hi] at hv; exact hr _ s v hs hv
    · cases hp
  · cases hp
theorem callS_ok (hI : Inv E M0 w0 c st w) (hL : Laid E c.F w) {f : SV} {vs : List SV} {fv : Value} {us : List Value} {g : Nat} {xs rs : List X} {bs : List (Option X)} {r : SV} {st1 : St} (hf : Rel c w f fv) (hl : us.length = vs.length) (hr : ∀ (i : Nat) s v, vs[i]? = some s → us[i]? = some v → Rel c w s v)
    (hp : callPrep E st f vs = some (g, xs)) (hc : CallOK E P g xs rs bs) (hb : callBackS E st f vs rs bs = some (r, st1)) :
    ∃ first caps : Array Value, fv = .func (.func g) first caps ∧ Goes P g (first ++ us.toArray ++ caps) w (fun e w' => ∃ u, e = .returned u ∧ ∃ c', Step E M0 w0 c st w r st1 c' u w') := by
  unfold callPrep at hp
  split at hp
  · rename_i g' caps
    split at hp
    · rename_i hcond
      obtain ⟨hnd, hdis⟩ := hcond
      simp only [Option.map_eq_some_iff, Prod.mk.injEq] at hp
      obtain ⟨xs', hgive, rfl, rfl⟩ := hp
      cases hf with
      | fn _ _ cvs hcl hcr =>
        refine ⟨#[], cvs, rfl, ?_⟩
        have hall : (#[] ++ us.toArray ++ cvs).toList = us ++ cvs.toList := by simp
        have hrel : ∀ (i : Nat) s v, (vs ++ caps)[i]? = some s → (#[] ++ us.toArray ++ cvs).toList[i]? = some v → Rel c w s v := by
          intro i s v hs hv
          rw [hall] at hv
          rw [List.getElem?_append] at hs hv
          rw [hl] at hv
          split at hs
          · rename_i hi; rw [if_pos hi] at hv; exact hr i s v hs hv
          · rename_i hi; rw [if_neg hi] at hv; exact hcr _ s v hs (by simpa using hv)
        simp only [callBackS] at hb
        split at hb
        · exact call_allD hI hL (by rw [hall]; simp [hl, hcl]) hrel hnd hdis hgive hc hb
        · exact call_all hI hL (by rw [hall]; simp [hl, hcl]) hrel hnd hdis hgive hc hb
    · cases hp
  · rename_i g' ts
    split at hp
    · rename_i hcond
      obtain ⟨hnd, hdis⟩ := hcond
      simp only [Option.map_eq_some_iff, Prod.mk.injEq] at hp
      obtain ⟨xs', hgive, rfl, rfl⟩ := hp
      cases hf with
      | meth _ _ fvs hcl hcr =>
        refine ⟨fvs, #[], rfl, ?_⟩
        have hall : (fvs ++ us.toArray ++ #[]).toList = fvs.toList ++ us := by simp
        have hfl : (ts.map ofT).length = fvs.toList.length := by simp [hcl]
        have hrel : ∀ (i : Nat) s v, (ts.map ofT ++ vs)[i]? = some s → (fvs ++ us.toArray ++ #[]).toList[i]? = some v → Rel c w s v := by
          intro i s v hs hv
          rw [hall] at hv
          rw [List.getElem?_append] at hs hv
          rw [hfl] at hs
          split at hs
          · rename_i hi
            rw [if_pos hi] at hv
            rw [List.getElem?_map, Option.map_eq_some_iff] at hs
            obtain ⟨t, ht, rfl⟩ := hs
            exact ofT_rel (hcr i t v ht (by simpa using hv))
          · rename_i hi; rw [if_neg hi] at hv; exact hr _ s v hs hv
        simp only [callBackS] at hb
        split at hb
        · exact call_allD hI hL (by rw [hall]; simp [hl, hcl]) hrel hnd hdis hgive hc hb
        · exact call_all hI hL (by rw [hall]; simp [hl, hcl]) hrel hnd hdis hgive hc hb
    · cases hp
  · cases hp
end
end Go.Ev
/- An operation looks at no other slots than its own. -/
set_option linter.unusedSimpArgs false
set_option linter.unusedVariables false
namespace Go.Ev

/-- Other slots. -/
def St.ss (st : St) (s : Nat → SV) : St := { st with s := s }
def onSt {α : Type} (s : Nat → SV) (p : α × St) : α × St := (p.1, p.2.ss s)
section
variable (E : Env) (st : St) (s : Nat → SV)
theorem ss_peek1 (v : SV) : (st.ss s).peek1 v = st.peek1 v := by cases v <;> rfl
theorem ss_peekL : ∀ (l : List SV), (st.ss s).peekL l = st.peekL l
  | [] => rfl
  | v :: r => by simp only [St.peekL, ss_peek1, ss_peekL r]
theorem ss_peek (v : SV) : (st.ss s).peek v = st.peek v := by
  cases v <;> simp only [St.peek, ss_peek1, ss_peekL]
theorem ss_elems (v : SV) : (st.ss s).elems v = st.elems v := by simp only [St.elems, ss_peek1]
theorem ss_freeze (r : Nat) : (st.ss s).freeze r = (st.freeze r).ss s := by
  unfold St.freeze
  have ho : (st.ss s).o r = st.o r := rfl
  rw [ho]
  cases st.o r <;> rfl
theorem ss_absorb1 (v : SV) : (st.ss s).absorb1 v = (st.absorb1 v).map (onSt s) := by
  unfold St.absorb1
  rw [ss_peek1]
  cases st.peek1 v with
  | none => rfl
  | some t => cases v <;> simp [ss_freeze, onSt]
theorem ss_absorbL : ∀ (l : List SV) (st : St), (st.ss s).absorbL l = (st.absorbL l).map (onSt s)
  | [], st => rfl
  | v :: r, st => by
    simp only [St.absorbL, ss_absorb1]
    cases st.absorb1 v with
    | none => rfl
    | some p =>
      simp only [Option.map_some, onSt, ss_absorbL r p.2]
      cases p.2.absorbL r <;> rfl
theorem ss_absorb (v : SV) : (st.ss s).absorb v = (st.absorb v).map (onSt s) := by
  unfold St.absorb
  split
  · rw [ss_absorbL]
    cases st.absorbL _ <;> rfl
  · exact ss_absorb1 st s _
theorem ss_absorbAll : ∀ (l : List SV) (st : St), (st.ss s).absorbAll l = (st.absorbAll l).map (onSt s)
  | [], st => rfl
  | v :: r, st => by
    simp only [St.absorbAll, ss_absorb]
    cases st.absorb v with
    | none => rfl
    | some p =>
      simp only [Option.map_some, onSt, ss_absorbAll r p.2]
      cases p.2.absorbAll r <;> rfl
theorem ss_slen (v : SV) : (st.ss s).slen v = st.slen v := by cases v <;> rfl
theorem ss_part (t : Nat) (v : SV) (l h : Nat) : (st.ss s).part E t v l h = st.part E t v l h := by cases v <;> rfl
theorem ss_loadAt (t : Nat) (v : SV) : (st.ss s).loadAt E t v = st.loadAt E t v := by
  unfold St.loadAt
  split
  · rfl
  · cases v <;> rfl
theorem ss_indexAt0 (t : Nat) (v i : SV) : (st.ss s).indexAt0 E t v i = st.indexAt0 E t v i := by
  unfold St.indexAt0
  split
  · split
    · rfl
    · cases v <;> rfl
  · rfl
theorem ss_indexAt (t : Nat) (v i : SV) : (st.ss s).indexAt E t v i = st.indexAt E t v i := by
  cases v <;> first | rfl | exact ss_indexAt0 t _ i
theorem ss_base (e : Nat) (v : SV) : (st.ss s).base e v = (st.base e v).map (onSt s) := by
  unfold St.base
  cases v <;> try rfl
  · rename_i r
    dsimp only
    have ho : (st.ss s).o r = st.o r := rfl
    rw [ho]
    cases st.o r with
    | row e' xs live =>
      cases live with
      | false => rfl
      | true => dsimp only; split <;> rfl
    | _ => rfl
  · rename_i r lo hi
    dsimp only
    have ho : (st.ss s).o r = st.o r := rfl
    rw [ho]
    cases st.o r with
    | row e' xs live =>
      cases live with
      | false => rfl
      | true => dsimp only; split <;> rfl
    | _ => rfl
theorem ss_moreOf (v : SV) : (st.ss s).moreOf v = st.moreOf v := by
  unfold St.moreOf
  split
  · rfl
  · exact ss_elems st s _
theorem ss_fits (e : Nat) (v : SV) (ys : List T) : (st.ss s).fits E e v ys = st.fits E e v ys := by
  cases v <;> try rfl
theorem ss_append (sT xT : Nat) (v u : SV) : (st.ss s).append E sT xT v u = (st.append E sT xT v u).map (onSt s) := by
  unfold St.append
  split
  · rw [ss_moreOf, ss_base]
    cases st.moreOf u with
    | none => rfl
    | some ys =>
      cases st.base (E.ty sT).elem v with
      | none => rfl
      | some p =>
        simp only [Option.map_some, onSt, ss_fits]
        split <;> rfl
  · rfl
theorem ss_storeAt (t : Nat) (a v : SV) : (st.ss s).storeAt E t a v = (st.storeAt E t a v).map (fun st => st.ss s) := by
  unfold St.storeAt
  split
  · cases a <;> try rfl
    · rename_i b off
      dsimp only
      have ho : (st.ss s).o b = st.o b := rfl
      rw [ho]
      cases st.o b with
      | box ty cells => dsimp only; split <;> rfl
      | _ => rfl
    · rename_i r i off
      simp only [ss_absorbL]
      cases st.absorbL v.cells with
      | none => rfl
      | some p =>
        simp only [Option.map_some, onSt]
        have ho : (p.2.ss s).o r = p.2.o r := rfl
        rw [ho]
        cases p.2.o r with
        | row e xs live =>
          cases live with
          | false => rfl
          | true =>
            simp only
            cases xs[i]? with
            | none => rfl
            | some x => simp only; cases x.setCells off p.1 <;> rfl
        | _ => rfl
  · rfl
theorem ss_convert (a b : Nat) (v : SV) : (st.ss s).convert E a b v = (st.convert E a b v).map (onSt s) := by
  unfold St.convert
  split
  · rfl
  · rfl
  · split
    · split <;> rfl
    · rfl
  · rw [ss_elems]
    split
    · split <;> rfl
    · rfl
  · rfl
theorem ss_lenOf (t : Nat) (v : SV) : (st.ss s).lenOf E t v = st.lenOf E t v := by
  unfold St.lenOf
  split
  · rfl
  · exact ss_slen st s _
  · rfl
theorem ss_builtin (b : Builtin) (ts : List Nat) (vs : List SV) : (st.ss s).builtin E b ts vs = (st.builtin E b ts vs).map (onSt s) := by
  unfold St.builtin
  split
  · rw [ss_lenOf]
    cases st.lenOf E _ _ <;> rfl
  · exact ss_append E st s _ _ _ _
  · cases pickMin true _ _ <;> rfl
  · cases pickMin false _ _ <;> rfl
  · rfl
theorem ss_bin (eqT : Nat → List TK) (kT : Nat → TK) (op : BinOp) (t : Nat) (x y : SV) : (st.ss s).bin eqT kT op t x y = st.bin eqT kT op t x y := by
  unfold St.bin
  split <;> try rfl
  simp only [ss_peekL]

/-- What an operation looks at. -/
def reads1 : Operand → List Nat
  | .tmp i => [i]
  | _ => []
def readsO : Option Operand → List Nat
  | some x => reads1 x
  | none => []
def readsP (ps : List (Nat × Operand)) : List Nat := (ps.map fun p => reads1 p.2).flatten
def readsL (ps : List Operand) : List Nat := (ps.map reads1).flatten
def reads : Op → List Nat
  | .move x | .assign x => reads1 x
  | .pick c a b => reads1 c ++ (reads1 a ++ reads1 b)
  | .alloc _ => []
  | .box _ x => reads1 x
  | .build _ ps => readsP ps.toList
  | .buildSlice _ _ ps => readsP ps.toList
  | .load _ a => reads1 a
  | .store _ a x => reads1 a ++ reads1 x
  | .nilCheck x => reads1 x
  | .binOp _ _ x y _ => reads1 x ++ reads1 y
  | .unOp _ _ x => reads1 x
  | .convert _ _ x => reads1 x
  | .makeFunc _ first caps => readsL first.toList ++ readsL caps.toList
  | .makeSlice _ l c => reads1 l ++ reads1 c
  | .slice _ x lo hi mx => reads1 x ++ (readsO lo ++ (readsO hi ++ readsO mx))
  | .fieldAddr _ x _ => reads1 x
  | .indexAddr _ x i => reads1 x ++ reads1 i
  | .field _ x _ => reads1 x
  | .index _ x i => reads1 x ++ reads1 i
  | .extract x _ => reads1 x
  | .call c => (match c.callee with
    | .value f => reads1 f
    | _ => []) ++ readsL c.args.toList
  | _ => []
variable {s}
theorem ss_val (x : Operand) (h : ∀ i ∈ reads1 x, s i = st.s i) : (st.ss s).val x = st.val x := by
  cases x with
  | tmp i =>
    have := h i (by simp [reads1])
    simp only [St.val, St.ss, this]
  | _ => rfl
theorem ss_boundOr (d : Nat) (x : Option Operand) (h : ∀ i ∈ readsO x, s i = st.s i) : (st.ss s).boundOr d x = st.boundOr d x := by
  cases x with
  | none => rfl
  | some x => simp only [St.boundOr, ss_val st x h]
theorem ss_vals (l : List Operand) (h : ∀ i ∈ readsL l, s i = st.s i) : l.map (st.ss s).val = l.map st.val := by
  refine List.map_congr_left (fun x hx => ss_val st x (fun i hi => h i ?_))
  exact List.mem_flatten.2 ⟨_, List.mem_map.2 ⟨x, hx, rfl⟩, hi⟩
theorem ss_valsP {α : Type} (f : Nat → SV → α) (l : List (Nat × Operand)) (h : ∀ i ∈ readsP l, s i = st.s i) : (l.map fun p => f p.1 ((st.ss s).val p.2)) = l.map fun p => f p.1 (st.val p.2) := by
  refine List.map_congr_left (fun p hp => ?_)
  rw [ss_val st p.2 (fun i hi => h i (List.mem_flatten.2 ⟨_, List.mem_map.2 ⟨p, hp, rfl⟩, hi⟩))]
theorem ss_op (op : Op) (h : ∀ i ∈ reads op, s i = st.s i) : (st.ss s).op E op = (st.op E op).map (onSt s) := by
  cases op with
  | move x | assign x => simp only [St.op, ss_val st x h, Option.map_some, onSt]
  | pick c a b =>
    simp only [reads, List.mem_append] at h
    simp only [St.op, ss_val st c (fun i hi => h i (.inl hi)), ss_val st a (fun i hi => h i (.inr (.inl hi))), ss_val st b (fun i hi => h i (.inr (.inr hi)))]
    split <;> rfl
  | alloc e => simp only [St.op]; split <;> rfl
  | box e x => simp only [St.op, ss_val st x h]; split <;> rfl
  | build t ps =>
    simp only [St.op, ss_valsP st (fun i v => (i, v)) ps.toList h]
    split
    · cases fillP _ _ _ _ <;> rfl
    · rfl
  | buildSlice t n ps =>
    simp only [St.op, ss_valsP st (fun _ v => v) ps.toList h, ss_absorbAll]
    split
    · cases st.absorbAll _ <;> rfl
    · rfl
  | load t a => simp only [St.op, ss_val st a h, ss_loadAt]; cases st.loadAt E t _ <;> rfl
  | store t a x =>
    simp only [reads, List.mem_append] at h
    simp only [St.op, ss_val st a (fun i hi => h i (.inl hi)), ss_val st x (fun i hi => h i (.inr hi)), ss_storeAt]
    cases st.storeAt E t _ _ <;> rfl
  | nilCheck x => simp only [St.op, ss_val st x h]; split <;> rfl
  | binOp op t x y z =>
    simp only [reads, List.mem_append] at h
    simp only [St.op, ss_val st x (fun i hi => h i (.inl hi)), ss_val st y (fun i hi => h i (.inr hi)), ss_bin]
    cases st.bin _ _ _ _ _ _ <;> rfl
  | unOp op t x => simp only [St.op, ss_val st x h]; cases un op _ <;> rfl
  | convert a b x => simp only [St.op, ss_val st x h, ss_convert]
  | makeFunc f fst caps =>
    cases f with
    | func g =>
      simp only [reads, List.mem_append] at h
      simp only [St.op, ss_vals st caps.toList (fun i hi => h i (.inr hi)), ss_vals st fst.toList (fun i hi => h i (.inl hi))]
      split
      · rfl
      · split
        · cases SV.plains _ <;> rfl
        · rfl
    | _ => rfl
  | makeSlice t l c =>
    simp only [reads, List.mem_append] at h
    simp only [St.op, ss_val st l (fun i hi => h i (.inl hi)), ss_val st c (fun i hi => h i (.inr hi)), ss_peekL]
    split
    · split
      · split
        · split <;> rfl
        · rfl
      · rfl
    · rfl
  | slice t x lo hi mx =>
    simp only [reads, List.mem_append] at h
    have hv := ss_val st x (fun i hi => h i (.inl hi))
    have hm : ∀ m, mx = some m → (st.ss s).val m = st.val m := fun m e => ss_val st m (fun i hi => h i (.inr (.inr (.inr (by rw [e]; exact hi)))))
    have hlo : ∀ d, (st.ss s).boundOr d lo = st.boundOr d lo := fun d => ss_boundOr st d lo (fun i hi => h i (.inr (.inl hi)))
    have hhi : ∀ d, (st.ss s).boundOr d hi = st.boundOr d hi := fun d => ss_boundOr st d hi (fun i hi => h i (.inr (.inr (.inl hi))))
    have : (st.ss s).sliceAt E t (st.val x) lo hi mx = st.sliceAt E t (st.val x) lo hi mx := by
      unfold St.sliceAt
      simp only [hlo, hhi, ss_slen, ss_part]
      cases mx with
      | none => rfl
      | some m => simp only [hm m rfl]
    simp only [St.op, hv, this]
    cases st.sliceAt E t _ lo hi mx <;> rfl
  | fieldAddr t x f => simp only [St.op, ss_val st x h]; cases fieldAt E t _ f <;> rfl
  | indexAddr t x i =>
    simp only [reads, List.mem_append] at h
    simp only [St.op, ss_val st x (fun i hi => h i (.inl hi)), ss_val st i (fun i hi => h i (.inr hi)), ss_indexAt]
    cases st.indexAt E t _ _ <;> rfl
  | field t x f =>
    simp only [St.op, ss_val st x h]
    split
    · split
      · cases mkSV _ _ <;> rfl
      · rfl
    · rfl
  | index t x i =>
    simp only [reads, List.mem_append] at h
    simp only [St.op, ss_val st x (fun i hi => h i (.inl hi)), ss_val st i (fun i hi => h i (.inr hi))]
    split
    · rw [Option.map_map]; rfl
    · rfl
  | extract x i =>
    simp only [St.op, ss_val st x h]
    split
    · rw [Option.map_map]; rfl
    · rfl
  | call c =>
    simp only [reads, List.mem_append] at h
    simp only [St.op, ss_vals st c.args.toList (fun i hi => h i (.inr hi)), ss_builtin]
    split <;> rfl
  | _ => rfl
end
end Go.Ev
/- Operations that may change places. -/
set_option linter.unusedSimpArgs false
set_option linter.unusedVariables false
namespace Go.Ev

section slots
variable (E : Env) (st : St) (s : Nat → SV)
theorem ss_liveIds : ∀ (l : List SV), liveIds (st.ss s) l = liveIds st l
  | [] => rfl
  | v :: r => by
    cases v <;> simp only [liveIds, ss_liveIds r]
    rename_i q
    have ho : (st.ss s).o q = st.o q := rfl
    rw [ho]
theorem ss_mutIds (v : SV) : (st.ss s).mutIds v = st.mutIds v := by
  cases v <;> simp only [St.mutIds, ss_liveIds]
  rename_i b off
  have ho : (st.ss s).o b = st.o b := rfl
  rw [ho]
theorem ss_capIds : ∀ (l : List SV), (st.ss s).capIds l = st.capIds l
  | [] => rfl
  | v :: r => by
    cases v <;> simp only [St.capIds, ss_capIds r]
    rename_i b off
    have ho : (st.ss s).o b = st.o b := rfl
    rw [ho]
theorem ss_roIds (v : SV) : (st.ss s).roIds v = st.roIds v := by cases v <;> simp only [St.roIds, ss_capIds]
theorem ss_mutAll (l : List SV) : (st.ss s).mutAll l = st.mutAll l := by
  unfold St.mutAll
  congr 1
  exact List.map_congr_left (fun v _ => ss_mutIds st s v)
theorem ss_roAll (l : List SV) : (st.ss s).roAll l = st.roAll l := by
  unfold St.roAll
  congr 1
  exact List.map_congr_left (fun v _ => ss_roIds st s v)
theorem ss_go : ∀ (l : List SV), St.giveRo.go (st.ss s) l = St.giveRo.go st l
  | [] => rfl
  | v :: r => by
    unfold St.giveRo.go
    split <;> try rfl
    · rename_i b q heq
      injection heq with e1 e2
      subst e1; subst e2
      have ho : (st.ss s).o b = st.o b := rfl
      simp only [ho, ss_peekL, ss_go r]
    · rename_i cs q heq
      injection heq with e1 e2
      subst e1; subst e2
      simp only [ss_go r]
theorem ss_giveRo (v : SV) : (st.ss s).giveRo v = st.giveRo v := by
  cases v <;> simp only [St.giveRo, ss_go, ss_peek] <;> try rfl
  rename_i b off
  have ho : (st.ss s).o b = st.o b := rfl
  simp only [ho, ss_peekL]
theorem ss_giveCell (v : SV) : (st.ss s).giveCell v = st.giveCell v := by cases v <;> rfl
theorem ss_giveCells : ∀ (l : List SV), (st.ss s).giveCells l = st.giveCells l
  | [] => rfl
  | v :: r => by simp only [St.giveCells, ss_giveCell, ss_giveCells r]
theorem ss_giveMut (v : SV) : (st.ss s).giveMut v = st.giveMut v := by
  cases v with
  | ptr b off =>
    cases off with
    | zero =>
      have ho : (st.ss s).o b = st.o b := rfl
      simp only [St.giveMut, ho, ss_giveCells]
    | succ n => rfl
  | agg cs => simp only [St.giveMut, ss_giveCells]
  | _ => rfl
theorem ss_give : ∀ (md : List Bool) (l : List SV), (st.ss s).give md l = st.give md l
  | md, [] => by cases md <;> rfl
  | md, v :: r => by simp only [St.give, ss_giveMut, ss_giveRo, ss_give md.tail r]
theorem ss_callPrep (f : SV) (vs : List SV) : callPrep E (st.ss s) f vs = callPrep E st f vs := by
  cases f <;> simp only [callPrep, ss_mutAll, ss_roAll, ss_give]
theorem ss_kill : ∀ (ids : List Nat) (st : St), kill ids (st.ss s) = (kill ids st).ss s
  | [], st => rfl
  | i :: l, st => ss_kill l (st.setO i .dead)
theorem ss_freezeAll : ∀ (ids : List Nat) (st : St), freezeAll ids (st.ss s) = (freezeAll ids st).ss s
  | [], st => rfl
  | i :: l, st => by
    show freezeAll l ((st.ss s).freeze i) = (freezeAll l (st.freeze i)).ss s
    rw [ss_freeze, ss_freezeAll l]
theorem ss_bindCell (x : X) : (st.ss s).bindCell x = ((st.bindCell x).1, (st.bindCell x).2.ss s) := by cases x <;> rfl
theorem ss_bindCells : ∀ (l : List X) (st : St), (st.ss s).bindCells l = ((st.bindCells l).1, (st.bindCells l).2.ss s)
  | [], st => rfl
  | x :: r, st => by simp only [St.bindCells, ss_bindCell, ss_bindCells r]
theorem ss_bind (x : X) : (st.ss s).bind x = ((st.bind x).1, (st.bind x).2.ss s) := by
  cases x <;> simp only [St.bind, ss_bindCells] <;> rfl
theorem ss_bindAll : ∀ (l : List X) (st : St), (st.ss s).bindAll l = ((st.bindAll l).1, (st.bindAll l).2.ss s)
  | [], st => rfl
  | x :: r, st => by simp only [St.bindAll, ss_bind, ss_bindAll r]
theorem ss_regain (st0 : St) (v : SV) (x : Option X) : (st.ss s).regain (st0.ss s) v x = (st.regain st0 v x).map (fun st => st.ss s) := by
  cases x with
  | none => cases v <;> rfl
  | some x =>
    cases v with
    | row r =>
      cases x <;> try rfl
      have ho : (st0.ss s).o r = st0.o r := rfl
      simp only [St.regain, ho]
      cases st0.o r with
      | row e xs live =>
        cases live with
        | false => rfl
        | true => dsimp only; split <;> rfl
      | _ => rfl
    | ptr b off =>
      cases off with
      | zero =>
        cases x <;> try rfl
        have ho : (st0.ss s).o b = st0.o b := rfl
        simp only [St.regain, ss_bindCells, ho]
        cases st0.o b <;> rfl
      | succ n => cases x <;> rfl
    | _ => cases x <;> rfl
theorem ss_regainAll (st0 : St) : ∀ (l : List SV) (xs : List (Option X)) (st : St), (st.ss s).regainAll (st0.ss s) l xs = (st.regainAll st0 l xs).map (fun st => st.ss s)
  | [], [], st => rfl
  | [], _ :: _, st => rfl
  | _ :: _, [], st => rfl
  | v :: r, x :: q, st => by
    simp only [St.regainAll, ss_regain]
    cases st.regain st0 v x with
    | none => rfl
    | some st1 => exact ss_regainAll st0 r q st1
theorem ss_callMid (g : Nat) (b : Bool) (vs : List SV) : callMid E (st.ss s) g b vs = (callMid E st g b vs).map (fun st => st.ss s) := by
  unfold callMid
  rw [ss_mutAll, ss_roAll, ss_kill]
  split
  · rfl
  · have : ((kill (st.mutAll (muts (E.md g) vs)) st).ss s).rowAt = (kill (st.mutAll (muts (E.md g) vs)) st).rowAt := rfl
    rw [this, ss_freezeAll]
    split <;> rfl
theorem ss_callBack (f : SV) (vs : List SV) (rs : List X) (bs : List (Option X)) : callBack E (st.ss s) f vs rs bs = (callBack E st f vs rs bs).map (onSt s) := by
  have key : ∀ (g : Nat) (as : List SV), (match callMid E (st.ss s) g (ownB E g rs bs) as with
      | none => none
      | some st0 => match st0.regainAll (st.ss s) (muts (E.md g) as) bs with
        | none => none
        | some st1 => some (tupOf (st1.bindAll rs).1, (st1.bindAll rs).2)) = (match callMid E st g (ownB E g rs bs) as with
      | none => none
      | some st0 => match st0.regainAll st (muts (E.md g) as) bs with
        | none => none
        | some st1 => some (tupOf (st1.bindAll rs).1, (st1.bindAll rs).2)).map (onSt s) := by
    intro g as
    simp only [ss_callMid]
    cases callMid E st g (ownB E g rs bs) as with
    | none => rfl
    | some st0 =>
      simp only [Option.map_some, ss_regainAll]
      cases st0.regainAll st (muts (E.md g) as) bs with
      | none => rfl
      | some st1 =>
        simp only [Option.map_some, ss_bindAll]
        rfl
  cases f <;> try rfl
  · exact key _ _
  · exact key _ _
end slots

/-! ### What stays as it was -/
def WF (st : St) : Prop := ∀ i, st.n ≤ i → st.o i = .dead
def sameC : Ob → Ob → Prop
  | .dead, .dead => True
  | .box t c, .box t' c' => t' = t ∧ c' = c
  | .row e xs _, .row e' xs' _ => e' = e ∧ xs' = xs
  | _, _ => False
theorem sameC.refl (o : Ob) : sameC o o := by cases o <;> simp [sameC]
theorem sameC.trans {a b c : Ob} (h : sameC a b) (k : sameC b c) : sameC a c := by
  cases a <;> cases b <;> simp [sameC] at h <;> cases c <;> simp [sameC] at k ⊢
  · exact ⟨k.1.trans h.1, k.2.trans h.2⟩
  · exact ⟨k.1.trans h.1, k.2.trans h.2⟩
structure Grown (st st1 : St) : Prop where
  n : st.n ≤ st1.n
  ob : ∀ i, i < st.n → sameC (st.o i) (st1.o i)
theorem Grown.refl (st : St) : Grown st st := ⟨Nat.le_refl _, fun _ _ => sameC.refl _⟩
theorem Grown.trans {a b c : St} (h : Grown a b) (k : Grown b c) : Grown a c := ⟨Nat.le_trans h.n k.n, fun i hi => (h.ob i hi).trans (k.ob i (Nat.lt_of_lt_of_le hi h.n))⟩
section
variable {E : Env} {st st1 : St}
theorem WF.lt (hw : WF st) {i : Nat} (h : st.o i ≠ .dead) : i < st.n := by
  by_cases hi : i < st.n
  · exact hi
  · exact absurd (hw i (by omega)) h
theorem Grown.row (hg : Grown st st1) (hw : WF st) {r e : Nat} {xs : List T} {l : Bool} (h : st.o r = .row e xs l) : ∃ l', st1.o r = .row e xs l' := by
  have := hg.ob r (hw.lt (by rw [h]; simp))
  rw [h] at this
  cases h1 : st1.o r <;> rw [h1] at this <;> simp [sameC] at this
  obtain ⟨rfl, rfl⟩ := this
  exact ⟨_, rfl⟩
theorem Grown.box (hg : Grown st st1) (hw : WF st) {b t : Nat} {cs : List SV} (h : st.o b = .box t cs) : st1.o b = .box t cs := by
  have := hg.ob b (hw.lt (by rw [h]; simp))
  rw [h] at this
  cases h1 : st1.o b <;> rw [h1] at this <;> simp [sameC] at this
  obtain ⟨rfl, rfl⟩ := this
  rfl
theorem peek1_grown (hg : Grown st st1) (hw : WF st) {v : SV} {t : T} (h : st.peek1 v = some t) : st1.peek1 v = some t := by
  cases v <;> try exact h
  · rename_i r
    simp only [St.peek1] at h ⊢
    split at h
    · rename_i ho
      obtain ⟨l', h1⟩ := hg.row hw ho
      rw [h1]; exact h
    · cases h
  · rename_i r lo hi
    simp only [St.peek1] at h ⊢
    split at h
    · rename_i ho
      obtain ⟨l', h1⟩ := hg.row hw ho
      rw [h1]; exact h
    · cases h
theorem peekL_grown (hg : Grown st st1) (hw : WF st) : ∀ {l : List SV} {ts : List T}, st.peekL l = some ts → st1.peekL l = some ts
  | [], ts, h => h
  | v :: r, ts, h => by
    simp only [St.peekL] at h ⊢
    split at h
    · cases h
    · rename_i t h1
      split at h
      · cases h
      · rename_i ts' h2
        rw [peek1_grown hg hw h1]
        simp only [peekL_grown hg hw h2]
        exact h
theorem loadAt_grown (hg : Grown st st1) (hw : WF st) {t : Nat} {v r : SV} (h : st.loadAt E t v = some r) : st1.loadAt E t v = some r := by
  unfold St.loadAt at h ⊢
  split at h
  · cases h
  · rename_i hk
    rw [if_neg hk]
    cases v <;> try exact h
    · rename_i b off
      dsimp only at h ⊢
      split at h
      · rename_i ho
        rw [hg.box hw ho]; exact h
      · cases h
    · rename_i q i off
      dsimp only at h ⊢
      split at h
      · rename_i ho
        obtain ⟨l', h1⟩ := hg.row hw ho
        rw [h1]; exact h
      · cases h
theorem indexAt0_grown (hg : Grown st st1) (hw : WF st) {t : Nat} {v i r : SV} (h : st.indexAt0 E t v i = some r) : st1.indexAt0 E t v i = some r := by
  unfold St.indexAt0 at h ⊢
  split at h
  · rename_i hc
    rw [if_pos hc]
    split at h
    · cases h
    · rename_i i' hi
      cases v with
      | row q =>
        dsimp only at h ⊢
        split at h
        · rename_i ho
          obtain ⟨l', h1⟩ := hg.row hw ho
          rw [h1]; exact h
        · cases h
      | view q lo hi =>
        dsimp only at h ⊢
        split at h
        · rename_i ho
          obtain ⟨l', h1⟩ := hg.row hw ho
          rw [h1]; exact h
        · cases h
      | t x => cases x <;> exact h
      | _ => exact h
  · cases h
theorem indexAt_grown (hg : Grown st st1) (hw : WF st) {t : Nat} {v i r : SV} (h : st.indexAt E t v i = some r) : st1.indexAt E t v i = some r := by
  cases v with
  | glob g => exact h
  | _ => simp only [St.indexAt] at h ⊢; exact indexAt0_grown hg hw h
theorem slen_grown (hg : Grown st st1) (hw : WF st) {v : SV} {n : Nat} (h : st.slen v = some n) : st1.slen v = some n := by
  cases v with
  | row r =>
    simp only [St.slen] at h ⊢
    split at h
    · rename_i ho
      obtain ⟨l', h1⟩ := hg.row hw ho
      rw [h1]; exact h
    · cases h
  | t x => cases x <;> exact h
  | _ => exact h
theorem part_grown (hg : Grown st st1) (hw : WF st) {t l k : Nat} {v r : SV} (h : st.part E t v l k = some r) : st1.part E t v l k = some r := by
  cases v with
  | row q =>
    simp only [St.part] at h ⊢
    split at h
    · rename_i ho
      obtain ⟨l', h1⟩ := hg.row hw ho
      rw [h1]; exact h
    · cases h
  | view q lo hi =>
    simp only [St.part] at h ⊢
    split at h
    · rename_i ho
      obtain ⟨l', h1⟩ := hg.row hw ho
      rw [h1]; exact h
    · cases h
  | t x => cases x <;> exact h
  | _ => exact h
end
end Go.Ev
/- Operations that may change places: the swap. -/
set_option linter.unusedSimpArgs false
set_option linter.unusedVariables false
namespace Go.Ev

def isReader (E : Env) : Op → Bool
  | .move _ | .assign _ | .pick .. | .load .. | .nilCheck _ | .binOp .. | .unOp .. | .slice .. | .fieldAddr .. | .indexAddr .. | .field .. | .index .. | .extract .. | .build .. | .makeFunc .. => true
  | .convert a b _ => match (E.ty a).k, (E.ty b).k with
    | .int _, .int _ => true
    | .str, .str => true
    | _, _ => false
  | .call c => match c.callee with
    | .builtin .len => true
    | .builtin .min => true
    | .builtin .max => true
    | _ => false
  | _ => false
def isPure (E : Env) : Op → Bool
  | .move _ | .assign _ | .pick .. | .nilCheck _ | .unOp .. | .fieldAddr .. | .field .. | .index .. | .extract .. | .build .. | .makeFunc .. => true
  | .convert a b _ => match (E.ty a).k, (E.ty b).k with
    | .int _, .int _ => true
    | .str, .str => true
    | _, _ => false
  | .binOp _ t _ _ _ => match (E.ty t).k with
    | .struct => false
    | _ => true
  | .slice t .. => match (E.ty t).k with
    | .str => true
    | _ => false
  | .call c => match c.callee with
    | .builtin .min => true
    | .builtin .max => true
    | _ => false
  | _ => false
def isGrow (E : Env) : Op → Bool
  | .alloc _ | .box .. | .makeSlice .. | .convert .. => true
  | .call c => match c.callee with
    | .value (.func g) => (E.md g).isEmpty
    | _ => false
  | _ => false
section
variable {E : Env} {st st1 st2 : St} {v : SV}
theorem val_same (hs : st2.s = st.s) (hN : st2.N = st.N) (x : Operand) : st2.val x = st.val x := by
  cases x <;> simp only [St.val, hs, hN]
theorem convert_same {a b : Nat} {x : SV} (hr : (match (E.ty a).k, (E.ty b).k with
    | .int _, .int _ => true
    | .str, .str => true
    | _, _ => false) = true) (h : st.convert E a b x = some (v, st1)) : st1 = st ∧ ∀ st2 : St, st2.convert E a b x = some (v, st2) := by
  unfold St.convert at h ⊢
  split at hr
  · rename_i k k' e1 e2
    simp only [e1, e2] at h ⊢
    cases x with
    | t x =>
      cases x with
      | int k n =>
        simp only [Option.some.injEq, Prod.mk.injEq] at h
        obtain ⟨rfl, rfl⟩ := h
        exact ⟨rfl, fun _ => rfl⟩
      | _ => cases h
    | _ => cases h
  · rename_i e1 e2
    simp only [e1, e2] at h ⊢
    cases x with
    | t x =>
      cases x with
      | str s =>
        simp only [Option.some.injEq, Prod.mk.injEq] at h
        obtain ⟨rfl, rfl⟩ := h
        exact ⟨rfl, fun _ => rfl⟩
      | _ => cases h
    | _ => cases h
  · cases hr
theorem makeFunc_same {f : Fn} {fst caps : Array Operand} (h : st.op E (.makeFunc f fst caps) = some (v, st1)) : st1 = st ∧ ∀ st2 : St, st2.s = st.s → st2.N = st.N → st2.op E (.makeFunc f fst caps) = some (v, st2) := by
  cases f <;> simp only [St.op] at h ⊢ <;> try (cases h; done)
  have hm : ∀ (st2 : St) (hs : st2.s = st.s) (hN : st2.N = st.N) (l : List Operand), l.map st2.val = l.map st.val := fun st2 hs hN l => List.map_congr_left (fun x _ => val_same hs hN x)
  split at h
  · rename_i h0
    simp only [Option.some.injEq, Prod.mk.injEq] at h
    obtain ⟨rfl, rfl⟩ := h
    exact ⟨rfl, fun st2 hs hN => by rw [if_pos h0, hm st2 hs hN]⟩
  · rename_i h0
    split at h
    · rename_i h1
      simp only [Option.map_eq_some_iff, Prod.mk.injEq] at h
      obtain ⟨ts, hts, rfl, rfl⟩ := h
      exact ⟨rfl, fun st2 hs hN => by rw [if_neg h0, if_pos h1, hm st2 hs hN, hts]; rfl⟩
    · cases h
theorem builtin_same {b : Builtin} {ts : List Nat} {vs : List SV} (hb : b = .len ∨ b = .min ∨ b = .max) (h : st.builtin E b ts vs = some (v, st1)) : st1 = st := by
  unfold St.builtin at h
  split at h
  · simp only [Option.map_eq_some_iff, Prod.mk.injEq] at h; obtain ⟨_, _, _, e⟩ := h; exact e.symm
  · rcases hb with h | h | h <;> cases h
  · simp only [Option.map_eq_some_iff, Prod.mk.injEq] at h; obtain ⟨_, _, _, e⟩ := h; exact e.symm
  · simp only [Option.map_eq_some_iff, Prod.mk.injEq] at h; obtain ⟨_, _, _, e⟩ := h; exact e.symm
  · cases h
theorem builtin_pure {b : Builtin} {ts : List Nat} {vs : List SV} (hb : b = .min ∨ b = .max) (h : st.builtin E b ts vs = some (v, st1)) : st2.builtin E b ts vs = some (v, st2) := by
  unfold St.builtin at h ⊢
  split at h
  · rcases hb with h | h <;> cases h
  · rcases hb with h | h <;> cases h
  · simp only [Option.map_eq_some_iff, Prod.mk.injEq] at h ⊢; obtain ⟨t, h1, h2, _⟩ := h; exact ⟨t, h1, h2, trivial⟩
  · simp only [Option.map_eq_some_iff, Prod.mk.injEq] at h ⊢; obtain ⟨t, h1, h2, _⟩ := h; exact ⟨t, h1, h2, trivial⟩
  · cases h
theorem builtin_grown (hw : WF st) (hg : Grown st st2) {b : Builtin} {ts : List Nat} {vs : List SV} (hb : b = .len ∨ b = .min ∨ b = .max) (h : st.builtin E b ts vs = some (v, st)) : st2.builtin E b ts vs = some (v, st2) := by
  rcases hb with rfl | hb
  · unfold St.builtin at h ⊢
    split at h <;> try (rename_i hh; cases hh; done)
    · simp only [Option.map_eq_some_iff, Prod.mk.injEq] at h ⊢
      obtain ⟨n, h1, h2, _⟩ := h
      refine ⟨n, ?_, h2, trivial⟩
      unfold St.lenOf at h1 ⊢
      split at h1
      · exact h1
      · exact slen_grown hg hw h1
      · cases h1
    · cases h
  · exact builtin_pure hb h
theorem reader_same {op : Op} (hr : isReader E op = true) (h : st.op E op = some (v, st1)) : st1 = st := by
  cases op <;> simp only [isReader] at hr <;> try contradiction
  case convert a b x => exact (convert_same hr h).1
  case makeFunc f fst caps => exact (makeFunc_same h).1
  case call c =>
    simp only [St.op] at h
    split at hr <;> rename_i hc <;> first | (rw [hc] at h; exact builtin_same (by simp) h) | cases hr
  all_goals simp only [St.op] at h
  all_goals first
    | (simp only [Option.some.injEq, Prod.mk.injEq] at h; exact h.2.symm)
    | (simp only [Option.map_eq_some_iff, Prod.mk.injEq] at h; obtain ⟨_, _, _, e⟩ := h; exact e.symm)
    | (split at h
       · simp only [Option.some.injEq, Prod.mk.injEq] at h; exact h.2.symm
       · cases h)
    | (split at h
       · simp only [Option.some.injEq, Prod.mk.injEq] at h; exact h.2.symm
       · simp only [Option.some.injEq, Prod.mk.injEq] at h; exact h.2.symm
       · simp only [Option.some.injEq, Prod.mk.injEq] at h; exact h.2.symm
       · cases h)
    | (split at h
       · split at h
         · simp only [Option.map_eq_some_iff, Prod.mk.injEq] at h; obtain ⟨_, _, _, e⟩ := h; exact e.symm
         · cases h
       · cases h)
    | (split at h
       · simp only [Option.map_eq_some_iff, Prod.mk.injEq] at h; obtain ⟨_, _, _, e⟩ := h; exact e.symm
       · cases h)
theorem bin_grown (hw : WF st) (hg : Grown st st2) {eqT : Nat → List TK} {kT : Nat → TK} {op : BinOp} {t : Nat} {x y : SV} {r : T} (h : st.bin eqT kT op t x y = some r) : st2.bin eqT kT op t x y = some r := by
  unfold St.bin at h ⊢
  split at h
  · exact h
  · exact h
  · exact h
  · split at h
    · rename_i h0 h1 h2
      simp only [h0, peekL_grown hg hw h1, peekL_grown hg hw h2]
      exact h
    · cases h
  · cases h
theorem bin_pure {eqT : Nat → List TK} {kT : Nat → TK} {op : BinOp} {t : Nat} {x y : SV} (hk : kT t ≠ .struct) : st2.bin eqT kT op t x y = st.bin eqT kT op t x y := by
  unfold St.bin
  split <;> try rfl
  cases h : kT t <;> first | rfl | exact absurd h hk
theorem boundOr_same (hs : st2.s = st.s) (hN : st2.N = st.N) (d : Nat) (x : Option Operand) : st2.boundOr d x = st.boundOr d x := by
  cases x with
  | none => rfl
  | some x => simp only [St.boundOr, val_same hs hN]
theorem sliceAt_grown (hw : WF st) (hg : Grown st st2) (hs : st2.s = st.s) (hN : st2.N = st.N) {t : Nat} {x r : SV} {lo hi mx : Option Operand} (h : st.sliceAt E t x lo hi mx = some r) : st2.sliceAt E t x lo hi mx = some r := by
  unfold St.sliceAt at h ⊢
  simp only [boundOr_same hs hN, val_same hs hN]
  split at h
  · exact h
  · split at h
    · cases h
    · rename_i hk
      rw [if_neg hk]
      split at h
      · cases h
      · rename_i n hn
        simp only [slen_grown hg hw hn]
        split at h
        · split at h
          · rename_i hc
            rw [if_pos hc]
            split at h
            · exact h
            · exact part_grown hg hw h
          · cases h
        · cases h
  · cases h
theorem reader_grown {op : Op} (hr : isReader E op = true) (hw : WF st) (hg : Grown st st2) (hs : st2.s = st.s) (hN : st2.N = st.N) (h : st.op E op = some (v, st)) : st2.op E op = some (v, st2) := by
  have hv := val_same hs hN
  cases op <;> simp only [isReader] at hr <;> try contradiction
  case convert a b x =>
    have h' : st.convert E a b (st.val x) = some (v, st) := h
    simp only [St.op, hv]
    exact (convert_same hr h').2 st2
  case makeFunc f fst caps => exact (makeFunc_same h).2 st2 hs hN
  case call c =>
    have hm : c.args.toList.map st2.val = c.args.toList.map st.val := List.map_congr_left (fun x _ => hv x)
    simp only [St.op, hm] at h ⊢
    split at hr <;> rename_i hc <;> first | (simp only [hc] at h ⊢; exact builtin_grown hw hg (by simp) h) | cases hr
  case build t ps =>
    simp only [St.op, hv] at h ⊢
    split at h
    · rename_i hc
      rw [if_pos hc]
      simp only [Option.map_eq_some_iff, Prod.mk.injEq] at h ⊢
      obtain ⟨r, h1, rfl, _⟩ := h
      exact ⟨r, h1, rfl, trivial⟩
    · cases h
  case move x => simp only [St.op, hv, Option.some.injEq, Prod.mk.injEq] at h ⊢; exact ⟨h.1, trivial⟩
  case assign x => simp only [St.op, hv, Option.some.injEq, Prod.mk.injEq] at h ⊢; exact ⟨h.1, trivial⟩
  case pick a b c =>
    simp only [St.op, hv] at h ⊢
    split at h
    · simp only [Option.some.injEq, Prod.mk.injEq] at h ⊢; exact ⟨h.1, trivial⟩
    · cases h
  case load t a =>
    simp only [St.op, hv, Option.map_eq_some_iff, Prod.mk.injEq] at h ⊢
    obtain ⟨r, h1, rfl, _⟩ := h
    exact ⟨r, loadAt_grown hg hw h1, rfl, trivial⟩
  case nilCheck x =>
    simp only [St.op, hv] at h ⊢
    split at h <;> first
      | (simp only [Option.some.injEq, Prod.mk.injEq] at h ⊢; exact ⟨h.1, trivial⟩)
      | cases h
  case binOp o t x y z =>
    simp only [St.op, hv, Option.map_eq_some_iff, Prod.mk.injEq] at h ⊢
    obtain ⟨r, h1, rfl, _⟩ := h
    exact ⟨r, bin_grown hw hg h1, rfl, trivial⟩
  case unOp o t x =>
    simp only [St.op, hv, Option.map_eq_some_iff, Prod.mk.injEq] at h ⊢
    obtain ⟨r, h1, rfl, _⟩ := h
    exact ⟨r, h1, rfl, trivial⟩
  case slice t x lo hi mx =>
    simp only [St.op, hv, Option.map_eq_some_iff, Prod.mk.injEq] at h ⊢
    obtain ⟨r, h1, rfl, _⟩ := h
    exact ⟨r, sliceAt_grown hw hg hs hN h1, rfl, trivial⟩
  case fieldAddr t x f =>
    simp only [St.op, hv, Option.map_eq_some_iff, Prod.mk.injEq] at h ⊢
    obtain ⟨r, h1, rfl, _⟩ := h
    exact ⟨r, h1, rfl, trivial⟩
  case indexAddr t x i =>
    simp only [St.op, hv, Option.map_eq_some_iff, Prod.mk.injEq] at h ⊢
    obtain ⟨r, h1, rfl, _⟩ := h
    exact ⟨r, indexAt_grown hg hw h1, rfl, trivial⟩
  case field t x f =>
    simp only [St.op, hv] at h ⊢
    split at h
    · split at h
      · rename_i hc
        rw [if_pos hc]
        simp only [Option.map_eq_some_iff, Prod.mk.injEq] at h ⊢
        obtain ⟨r, h1, rfl, _⟩ := h
        exact ⟨r, h1, rfl, trivial⟩
      · cases h
    · cases h
  case index t x i =>
    simp only [St.op, hv] at h ⊢
    split at h
    · simp only [Option.map_eq_some_iff, Prod.mk.injEq] at h ⊢
      obtain ⟨r, h1, rfl, _⟩ := h
      exact ⟨r, h1, rfl, trivial⟩
    · cases h
  case extract x i =>
    simp only [St.op, hv] at h ⊢
    split at h
    · simp only [Option.map_eq_some_iff, Prod.mk.injEq] at h ⊢
      obtain ⟨r, h1, rfl, _⟩ := h
      exact ⟨r, h1, rfl, trivial⟩
    · cases h
theorem pure_any {op : Op} (hp : isPure E op = true) (hs : st2.s = st.s) (hN : st2.N = st.N) (h : st.op E op = some (v, st1)) : st1 = st ∧ st2.op E op = some (v, st2) := by
  have hv := val_same hs hN
  have hr : isReader E op = true := by
    cases op <;> first | rfl | exact hp | (simp [isPure] at hp; done) | skip
    rename_i c
    simp only [isPure] at hp
    simp only [isReader]
    split at hp <;> rename_i hc <;> first | rw [hc] | cases hp
  have h1 := reader_same hr h
  subst h1
  refine ⟨rfl, ?_⟩
  cases op <;> simp only [isPure] at hp <;> try contradiction
  case convert a b x =>
    have h' : st1.convert E a b (st1.val x) = some (v, st1) := h
    simp only [St.op, hv]
    exact (convert_same hp h').2 st2
  case makeFunc f fst caps => exact (makeFunc_same h).2 st2 hs hN
  case call c =>
    have hm : c.args.toList.map st2.val = c.args.toList.map st1.val := List.map_congr_left (fun x _ => hv x)
    simp only [St.op, hm] at h ⊢
    split at hp <;> rename_i hc <;> first | (simp only [hc] at h ⊢; exact builtin_pure (by simp) h) | cases hp
  case build t ps =>
    simp only [St.op, hv] at h ⊢
    split at h
    · rename_i hc
      rw [if_pos hc]
      simp only [Option.map_eq_some_iff, Prod.mk.injEq] at h ⊢
      obtain ⟨r, h1, rfl, _⟩ := h
      exact ⟨r, h1, rfl, trivial⟩
    · cases h
  case move x => simp only [St.op, hv, Option.some.injEq, Prod.mk.injEq] at h ⊢; exact ⟨h.1, trivial⟩
  case assign x => simp only [St.op, hv, Option.some.injEq, Prod.mk.injEq] at h ⊢; exact ⟨h.1, trivial⟩
  case pick a b c =>
    simp only [St.op, hv] at h ⊢
    split at h
    · simp only [Option.some.injEq, Prod.mk.injEq] at h ⊢; exact ⟨h.1, trivial⟩
    · cases h
  case nilCheck x =>
    simp only [St.op, hv] at h ⊢
    split at h <;> first
      | (simp only [Option.some.injEq, Prod.mk.injEq] at h ⊢; exact ⟨h.1, trivial⟩)
      | cases h
  case binOp o t x y z =>
    simp only [St.op, hv, Option.map_eq_some_iff, Prod.mk.injEq] at h ⊢
    obtain ⟨r, h1, rfl, _⟩ := h
    refine ⟨r, ?_, rfl, trivial⟩
    rw [← h1]
    refine bin_pure (fun e => ?_)
    have e' : (E.ty t).k = .struct := e
    simp [e'] at hp
  case unOp o t x =>
    simp only [St.op, hv, Option.map_eq_some_iff, Prod.mk.injEq] at h ⊢
    obtain ⟨r, h1, rfl, _⟩ := h
    exact ⟨r, h1, rfl, trivial⟩
  case slice t x lo hi mx =>
    have hk : (E.ty t).k = .str := by
      cases hk : (E.ty t).k <;> simp [hk] at hp ⊢
    simp only [St.op, hv, Option.map_eq_some_iff, Prod.mk.injEq] at h ⊢
    obtain ⟨r, h1, rfl, _⟩ := h
    refine ⟨r, ?_, rfl, trivial⟩
    rw [← h1]
    unfold St.sliceAt
    simp only [boundOr_same hs hN, hk]
    generalize st1.val x = q
    cases q with
    | t y => cases y <;> rfl
    | _ => rfl
  case fieldAddr t x f =>
    simp only [St.op, hv, Option.map_eq_some_iff, Prod.mk.injEq] at h ⊢
    obtain ⟨r, h1, rfl, _⟩ := h
    exact ⟨r, h1, rfl, trivial⟩
  case field t x f =>
    simp only [St.op, hv] at h ⊢
    split at h
    · split at h
      · rename_i hc
        rw [if_pos hc]
        simp only [Option.map_eq_some_iff, Prod.mk.injEq] at h ⊢
        obtain ⟨r, h1, rfl, _⟩ := h
        exact ⟨r, h1, rfl, trivial⟩
      · cases h
    · cases h
  case index t x i =>
    simp only [St.op, hv] at h ⊢
    split at h
    · simp only [Option.map_eq_some_iff, Prod.mk.injEq] at h ⊢
      obtain ⟨r, h1, rfl, _⟩ := h
      exact ⟨r, h1, rfl, trivial⟩
    · cases h
  case extract x i =>
    simp only [St.op, hv] at h ⊢
    split at h
    · simp only [Option.map_eq_some_iff, Prod.mk.injEq] at h ⊢
      obtain ⟨r, h1, rfl, _⟩ := h
      exact ⟨r, h1, rfl, trivial⟩
    · cases h

/-! ### slots, growth and order of a whole operation -/
structure Keeps (st st1 : St) : Prop where
  s : st1.s = st.s
  N : st1.N = st.N
  wf : WF st → WF st1
  n : st.n ≤ st1.n
theorem Keeps.refl (st : St) : Keeps st st := ⟨rfl, rfl, id, Nat.le_refl _⟩
theorem Keeps.trans {a b c : St} (h : Keeps a b) (k : Keeps b c) : Keeps a c := ⟨k.s.trans h.s, k.N.trans h.N, fun w => k.wf (h.wf w), Nat.le_trans h.n k.n⟩
theorem keeps_alloc (st : St) (ob : Ob) : Keeps st (st.alloc ob) := ⟨rfl, rfl, fun w i hi => by
  have hi' : st.n + 1 ≤ i := hi
  show upd st.o st.n ob i = .dead
  rw [upd_ne _ _ (by omega)]
  exact w i (by omega), Nat.le_succ _⟩
theorem keeps_setO (st : St) (i : Nat) (ob : Ob) (h : WF st → i < st.n ∨ ob = .dead) : Keeps st (st.setO i ob) := ⟨rfl, rfl, fun w j hj => by
  have hj' : st.n ≤ j := hj
  show upd st.o i ob j = .dead
  by_cases hji : j = i
  · subst hji
    rw [upd_self]
    rcases h w with h | h
    · omega
    · exact h
  · rw [upd_ne _ _ hji]; exact w j hj', Nat.le_refl _⟩
theorem keeps_dead (st : St) (i : Nat) : Keeps st (st.setO i .dead) := keeps_setO st i .dead (fun _ => .inr rfl)
theorem keeps_freeze (st : St) (r : Nat) : Keeps st (st.freeze r) := by
  unfold St.freeze
  split
  · rename_i ho
    exact keeps_setO st r _ (fun w => .inl (w.lt (by rw [ho]; simp)))
  · exact .refl st
theorem grown_freeze (st : St) (r : Nat) : Grown st (st.freeze r) := by
  obtain ⟨h1, h2, h3, _⟩ := freeze_get st r r
  refine ⟨by rw [h3]; exact Nat.le_refl _, fun i hi => ?_⟩
  by_cases hir : i = r
  · subst hir
    unfold St.freeze
    split
    · rename_i e xs live ho
      have : (st.setO i (.row e xs false)).o i = .row e xs false := upd_self _ _ _
      rw [this, ho]
      exact ⟨rfl, rfl⟩
    · exact sameC.refl _
  · rw [(freeze_get st r i).1 hir]
    exact sameC.refl _
theorem grown_alloc (st : St) (ob : Ob) : Grown st (st.alloc ob) := ⟨Nat.le_succ _, fun i hi => by
  have : (st.alloc ob).o i = st.o i := upd_ne _ _ (by omega)
  rw [this]; exact sameC.refl _⟩
end
end Go.Ev
/- Operations that may change places: whole operations, the swap, the orders. -/
set_option linter.unusedSimpArgs false
set_option linter.unusedVariables false
namespace Go.Ev
section
variable {E : Env} {st st1 st2 : St} {v : SV}

theorem keeps_absorb1 {t : T} (h : st.absorb1 v = some (t, st1)) : Keeps st st1 := by
  unfold St.absorb1 at h
  split at h
  · cases h
  · split at h <;> simp only [Option.some.injEq, Prod.mk.injEq] at h <;> obtain ⟨_, rfl⟩ := h
    · exact keeps_freeze st _
    · exact keeps_freeze st _
    · exact .refl st
theorem keeps_absorbL : ∀ {l : List SV} {st st1 : St} {ts : List T}, st.absorbL l = some (ts, st1) → Keeps st st1
  | [], st, st1, ts, h => by
    simp only [St.absorbL, Option.some.injEq, Prod.mk.injEq] at h
    obtain ⟨_, rfl⟩ := h
    exact .refl st
  | s :: r, st, st1, ts, h => by
    unfold St.absorbL at h
    split at h
    · cases h
    · rename_i h1
      split at h
      · cases h
      · rename_i h2
        simp only [Option.some.injEq, Prod.mk.injEq] at h
        obtain ⟨_, rfl⟩ := h
        exact (keeps_absorb1 h1).trans (keeps_absorbL h2)
theorem keeps_absorb {t : T} (h : st.absorb v = some (t, st1)) : Keeps st st1 := by
  unfold St.absorb at h
  split at h
  · split at h
    · cases h
    · rename_i h1
      simp only [Option.some.injEq, Prod.mk.injEq] at h
      obtain ⟨_, rfl⟩ := h
      exact keeps_absorbL h1
  · exact keeps_absorb1 h
theorem keeps_absorbAll : ∀ {l : List SV} {st st1 : St} {ts : List T}, st.absorbAll l = some (ts, st1) → Keeps st st1
  | [], st, st1, ts, h => by
    simp only [St.absorbAll, Option.some.injEq, Prod.mk.injEq] at h
    obtain ⟨_, rfl⟩ := h
    exact .refl st
  | s :: r, st, st1, ts, h => by
    unfold St.absorbAll at h
    split at h
    · cases h
    · rename_i h1
      split at h
      · cases h
      · rename_i h2
        simp only [Option.some.injEq, Prod.mk.injEq] at h
        obtain ⟨_, rfl⟩ := h
        exact (keeps_absorb h1).trans (keeps_absorbAll h2)
theorem keeps_base {e : Nat} {xs : List T} (h : st.base e v = some (xs, st1)) : Keeps st st1 := by
  unfold St.base at h
  split at h
  · simp only [Option.some.injEq, Prod.mk.injEq] at h
    obtain ⟨_, rfl⟩ := h
    exact .refl st
  · split at h
    · split at h
      · simp only [Option.some.injEq, Prod.mk.injEq] at h
        obtain ⟨_, rfl⟩ := h
        exact keeps_dead st _
      · cases h
    · cases h
  · split at h
    · split at h
      · simp only [Option.some.injEq, Prod.mk.injEq] at h
        obtain ⟨_, rfl⟩ := h
        exact keeps_dead st _
      · cases h
    · cases h
  · cases h
theorem keeps_append {sT xT : Nat} {s x : SV} (h : st.append E sT xT s x = some (v, st1)) : Keeps st st1 := by
  unfold St.append at h
  split at h
  · split at h
    · rename_i h2
      split at h
      · simp only [Option.some.injEq, Prod.mk.injEq] at h
        obtain ⟨_, rfl⟩ := h
        exact (keeps_base h2).trans (keeps_alloc _ _)
      · cases h
    · cases h
  · cases h
theorem keeps_storeAt {t : Nat} {a : SV} (h : st.storeAt E t a v = some st1) : Keeps st st1 := by
  unfold St.storeAt at h
  split at h
  · split at h
    · split at h
      · rename_i ho
        split at h
        · obtain rfl := Option.some.inj h
          exact keeps_setO st _ _ (fun w => .inl (w.lt (by rw [ho]; simp)))
        · cases h
      · cases h
    · split at h
      · rename_i hab
        split at h
        · rename_i ho
          split at h
          · split at h
            · obtain rfl := Option.some.inj h
              exact (keeps_absorbL hab).trans (keeps_setO _ _ _ (fun w => .inl (w.lt (by rw [ho]; simp))))
            · cases h
          · cases h
        · cases h
      · cases h
    · cases h
  · cases h
theorem keeps_convert {a b : Nat} {x : SV} (h : st.convert E a b x = some (v, st1)) : Keeps st st1 := by
  unfold St.convert at h
  split at h
  · simp only [Option.some.injEq, Prod.mk.injEq] at h; obtain ⟨_, rfl⟩ := h; exact .refl st
  · simp only [Option.some.injEq, Prod.mk.injEq] at h; obtain ⟨_, rfl⟩ := h; exact .refl st
  · split at h
    · split at h
      · simp only [Option.some.injEq, Prod.mk.injEq] at h; obtain ⟨_, rfl⟩ := h; exact keeps_alloc _ _
      · cases h
    · cases h
  · split at h
    · split at h
      · simp only [Option.some.injEq, Prod.mk.injEq] at h; obtain ⟨_, rfl⟩ := h; exact .refl st
      · cases h
    · cases h
  · cases h
theorem keeps_builtin {b : Builtin} {ts : List Nat} {vs : List SV} (h : st.builtin E b ts vs = some (v, st1)) : Keeps st st1 := by
  unfold St.builtin at h
  split at h
  · simp only [Option.map_eq_some_iff, Prod.mk.injEq] at h; obtain ⟨_, _, _, rfl⟩ := h; exact .refl st
  · exact keeps_append h
  · simp only [Option.map_eq_some_iff, Prod.mk.injEq] at h; obtain ⟨_, _, _, rfl⟩ := h; exact .refl st
  · simp only [Option.map_eq_some_iff, Prod.mk.injEq] at h; obtain ⟨_, _, _, rfl⟩ := h; exact .refl st
  · cases h
theorem keeps_op {op : Op} (h : st.op E op = some (v, st1)) : Keeps st st1 := by
  cases hr : isReader E op with
  | true => rw [reader_same hr h]; exact .refl st
  | false =>
    cases op <;> simp only [isReader] at hr <;> try contradiction
    all_goals simp only [St.op] at h
    all_goals try (cases h; done)
    case alloc e =>
      split at h
      · simp only [Option.some.injEq, Prod.mk.injEq] at h; obtain ⟨_, rfl⟩ := h; exact keeps_alloc _ _
      · cases h
    case box e x =>
      split at h
      · simp only [Option.some.injEq, Prod.mk.injEq] at h; obtain ⟨_, rfl⟩ := h; exact keeps_alloc _ _
      · cases h
    case buildSlice t n ps =>
      split at h
      · split at h
        · rename_i hab
          simp only [Option.some.injEq, Prod.mk.injEq] at h
          obtain ⟨_, rfl⟩ := h
          exact (keeps_absorbAll hab).trans (keeps_alloc _ _)
        · cases h
      · cases h
    case store t a x =>
      simp only [Option.map_eq_some_iff, Prod.mk.injEq] at h
      obtain ⟨st2, h1, _, rfl⟩ := h
      exact keeps_storeAt h1
    case convert a b x => exact keeps_convert h
    case makeSlice t l c =>
      split at h
      · split at h
        · split at h
          · split at h
            · simp only [Option.some.injEq, Prod.mk.injEq] at h; obtain ⟨_, rfl⟩ := h; exact keeps_alloc _ _
            · cases h
          · cases h
        · cases h
      · cases h
    case call c =>
      split at h
      · exact keeps_builtin h
      · cases h
theorem keeps_kill : ∀ (ids : List Nat) (st : St), Keeps st (kill ids st)
  | [], st => .refl st
  | i :: l, st => (keeps_dead st i).trans (keeps_kill l _)
theorem keeps_freezeAll : ∀ (ids : List Nat) (st : St), Keeps st (freezeAll ids st)
  | [], st => .refl st
  | i :: l, st => (keeps_freeze st i).trans (keeps_freezeAll l _)
theorem grown_freezeAll : ∀ (ids : List Nat) (st : St), Grown st (freezeAll ids st)
  | [], st => .refl st
  | i :: l, st => (grown_freeze st i).trans (grown_freezeAll l _)
theorem keeps_bindCell (x : X) (st : St) : Keeps st (st.bindCell x).2 ∧ Grown st (st.bindCell x).2 := by
  cases x <;> first | exact ⟨.refl st, .refl st⟩ | exact ⟨keeps_alloc _ _, grown_alloc _ _⟩
theorem keeps_bindCells : ∀ (l : List X) (st : St), Keeps st (st.bindCells l).2 ∧ Grown st (st.bindCells l).2
  | [], st => ⟨.refl st, .refl st⟩
  | x :: r, st => by
    obtain ⟨a1, a2⟩ := keeps_bindCell x st
    obtain ⟨b1, b2⟩ := keeps_bindCells r (st.bindCell x).2
    exact ⟨a1.trans b1, a2.trans b2⟩
theorem keeps_bind (x : X) (st : St) : Keeps st (st.bind x).2 ∧ Grown st (st.bind x).2 := by
  cases x with
  | row e xs => exact ⟨keeps_alloc _ _, grown_alloc _ _⟩
  | agg cs => exact keeps_bindCells cs st
  | ref ty cs =>
    obtain ⟨a1, a2⟩ := keeps_bindCells cs st
    exact ⟨a1.trans (keeps_alloc _ _), a2.trans (grown_alloc _ _)⟩
  | _ => exact ⟨.refl st, .refl st⟩
theorem keeps_bindAll : ∀ (l : List X) (st : St), Keeps st (st.bindAll l).2 ∧ Grown st (st.bindAll l).2
  | [], st => ⟨.refl st, .refl st⟩
  | x :: r, st => by
    obtain ⟨a1, a2⟩ := keeps_bind x st
    obtain ⟨b1, b2⟩ := keeps_bindAll r (st.bind x).2
    exact ⟨a1.trans b1, a2.trans b2⟩
theorem muts_nil {α : Type} : ∀ (l : List α), muts [] l = []
  | [] => rfl
  | x :: r => by simp only [muts, List.headD_nil, Bool.false_eq_true, if_false, List.tail_nil, muts_nil r]
theorem keeps_regain {st0 : St} {x : Option X} (h0 : WF st → WF st0) (hn : st0.n ≤ st.n) (h : st.regain st0 v x = some st1) : Keeps st st1 := by
  cases x with
  | none =>
    have : st.regain st0 v none = some st := by cases v <;> rfl
    rw [this] at h
    obtain rfl := Option.some.inj h
    exact .refl st
  | some x =>
    cases v with
    | row r =>
      cases x <;> try (simp [St.regain] at h; done)
      rename_i e xs
      simp only [St.regain] at h
      split at h
      · rename_i ho
        split at h
        · obtain rfl := Option.some.inj h
          refine keeps_setO st _ _ (fun w => .inl ?_)
          have := (h0 w).lt (i := r) (by rw [ho]; simp)
          omega
        · cases h
      · cases h
    | nil =>
      simp only [St.regain, Option.some.injEq] at h
      subst h; exact .refl st
    | ptr b off =>
      cases off with
      | succ n => cases x <;> simp [St.regain] at h
      | zero =>
        cases x <;> try (simp [St.regain] at h; done)
        rename_i ty xs
        simp only [St.regain] at h
        split at h
        · rename_i ho
          obtain rfl := Option.some.inj h
          have hk := (keeps_bindCells xs st).1
          refine ⟨hk.s, hk.N, fun w => ?_, hk.n⟩
          refine (keeps_setO (st.bindCells xs).2 b _ (fun _ => .inl ?_)).wf (hk.wf w)
          have := (h0 w).lt (i := b) (by rw [ho]; simp)
          have := hk.n
          omega
        · cases h
    | _ => cases x <;> simp [St.regain] at h
theorem keeps_regainAll {st0 : St} : ∀ {l : List SV} {xs : List (Option X)} {st st1 : St}, (WF st → WF st0) → st0.n ≤ st.n → WF st → st.regainAll st0 l xs = some st1 → Keeps st st1
  | [], [], st, st1, h0, hn, w, h => by
    simp only [St.regainAll, Option.some.injEq] at h
    subst h; exact .refl st
  | [], _ :: _, st, st1, h0, hn, w, h => by simp [St.regainAll] at h
  | _ :: _, [], st, st1, h0, hn, w, h => by simp [St.regainAll] at h
  | v :: r, x :: q, st, st1, h0, hn, w, h => by
    simp only [St.regainAll] at h
    split at h
    · rename_i st2 h1
      have k := keeps_regain h0 hn h1
      exact k.trans (keeps_regainAll (fun _ => h0 w) (Nat.le_trans hn k.n) (k.wf w) h)
    · cases h
theorem callMid_keeps {g : Nat} {b : Bool} {vs : List SV} (h : callMid E st g b vs = some st1) : Keeps st st1 := by
  unfold callMid at h
  split at h
  · obtain rfl := Option.some.inj h
    exact keeps_kill _ _
  · split at h
    · obtain rfl := Option.some.inj h
      exact (keeps_kill _ _).trans (keeps_freezeAll _ _)
    · cases h
theorem keeps_callBack {f : SV} {vs : List SV} {rs : List X} {bs : List (Option X)} (w : WF st) (h : callBack E st f vs rs bs = some (v, st1)) : Keeps st st1 := by
  unfold callBack at h
  split at h
  · split at h
    · cases h
    · rename_i st0 hm
      split at h
      · cases h
      · rename_i st2 hr
        simp only [Option.some.injEq, Prod.mk.injEq] at h
        obtain ⟨_, rfl⟩ := h
        have k := callMid_keeps hm
        exact (k.trans (keeps_regainAll (fun _ => w) k.n (k.wf w) hr)).trans (keeps_bindAll rs st2).1
  · split at h
    · cases h
    · rename_i st0 hm
      split at h
      · cases h
      · rename_i st2 hr
        simp only [Option.some.injEq, Prod.mk.injEq] at h
        obtain ⟨_, rfl⟩ := h
        have k := callMid_keeps hm
        exact (k.trans (keeps_regainAll (fun _ => w) k.n (k.wf w) hr)).trans (keeps_bindAll rs st2).1
  · cases h
theorem grown_callBack {g : Nat} {caps : List SV} {vs : List SV} {rs : List X} {bs : List (Option X)} (hm : (E.md g).isEmpty = true) (h : callBack E st (.fn g caps) vs rs bs = some (v, st1)) : Grown st st1 := by
  have hm' : E.md g = [] := by simpa using hm
  unfold callBack at h
  simp only [hm', muts_nil] at h
  split at h
  · cases h
  · rename_i st0 hmid
    split at h
    · cases h
    · rename_i st2 hr
      simp only [Option.some.injEq, Prod.mk.injEq] at h
      obtain ⟨_, rfl⟩ := h
      have h2 : st2 = st0 := by
        cases bs with
        | nil => simpa [St.regainAll, eq_comm] using hr
        | cons b bs => simp [St.regainAll] at hr
      subst h2
      refine Grown.trans ?_ (keeps_bindAll rs st2).2
      unfold callMid at hmid
      simp only [hm', muts_nil] at hmid
      have hk : kill (st.mutAll []) st = st := rfl
      rw [hk] at hmid
      split at hmid
      · obtain rfl := Option.some.inj hmid
        exact .refl st
      · split at hmid
        · obtain rfl := Option.some.inj hmid
          exact grown_freezeAll _ _
        · cases hmid

/-! ### Strict regions: what is built and what comes of calls is plain data -/
def St.opB (st : St) (E : Env) (b : Bool) (op : Op) : Option (SV × St) := match b with
  | false => st.op E op
  | true => st.opS E op
def callBackB (E : Env) (b : Bool) (st : St) (f : SV) (vs : List SV) (rs : List X) (bs : List (Option X)) : Option (SV × St) := match b with
  | false => callBack E st f vs rs bs
  | true => callBackS E st f vs rs bs
theorem opB_other {b : Bool} {op : Op} (h : ∀ t n ps, op ≠ .buildSlice t n ps) : st.opB E b op = st.op E op := by
  cases b with
  | false => rfl
  | true => cases op <;> first | rfl | exact absurd rfl (h _ _ _)
theorem keeps_opB {b : Bool} {op : Op} (h : st.opB E b op = some (v, st1)) : Keeps st st1 := by
  cases b with
  | false => exact keeps_op h
  | true =>
    by_cases hb : ∃ t n ps, op = .buildSlice t n ps
    · obtain ⟨t, n, ps, rfl⟩ := hb
      simp only [St.opB, St.opS] at h
      split at h
      · split at h
        · rename_i hab
          simp only [Option.some.injEq, Prod.mk.injEq] at h
          obtain ⟨_, rfl⟩ := h
          exact keeps_absorbAll hab
        · cases h
      · cases h
    · rw [opB_other (fun t n ps e => hb ⟨t, n, ps, e⟩)] at h
      exact keeps_op h
theorem keeps_dataBack {g : Nat} {as : List SV} {rs : List X} {bs : List (Option X)} (h : dataBack E st g as rs bs = some (v, st1)) : Keeps st st1 := by
  unfold dataBack at h
  split at h
  · cases h
  · rename_i hm
    split at h
    · simp only [Option.some.injEq, Prod.mk.injEq] at h
      obtain ⟨_, rfl⟩ := h
      exact callMid_keeps hm
    · cases h
theorem keeps_callBackB {b : Bool} {f : SV} {vs : List SV} {rs : List X} {bs : List (Option X)} (w : WF st) (h : callBackB E b st f vs rs bs = some (v, st1)) : Keeps st st1 := by
  cases b with
  | false => exact keeps_callBack w h
  | true =>
    simp only [callBackB] at h
    unfold callBackS at h
    split at h
    · split at h
      · exact keeps_dataBack h
      · exact keeps_callBack w h
    · split at h
      · exact keeps_dataBack h
      · exact keeps_callBack w h
    · cases h
theorem ss_opB {b : Bool} (op : Op) {s : Nat → SV} (h : ∀ i ∈ reads op, s i = st.s i) : (st.ss s).opB E b op = (st.opB E b op).map (onSt s) := by
  cases b with
  | false => exact ss_op E st op h
  | true =>
    by_cases hb : ∃ t n ps, op = .buildSlice t n ps
    · obtain ⟨t, n, ps, rfl⟩ := hb
      simp only [St.opB, St.opS, ss_valsP st (fun _ v => v) ps.toList h, ss_absorbAll]
      split
      · cases st.absorbAll _ <;> rfl
      · rfl
    · rw [opB_other (fun t n ps e => hb ⟨t, n, ps, e⟩), opB_other (fun t n ps e => hb ⟨t, n, ps, e⟩)]
      exact ss_op E st op h
theorem ss_dataBack (s : Nat → SV) (g : Nat) (as : List SV) (rs : List X) (bs : List (Option X)) : dataBack E (st.ss s) g as rs bs = (dataBack E st g as rs bs).map (onSt s) := by
  unfold dataBack
  rw [ss_callMid]
  cases callMid E st g (E.flat g) as with
  | none => rfl
  | some st0 => cases bs <;> rfl
theorem ss_callBackB {b : Bool} (s : Nat → SV) (f : SV) (vs : List SV) (rs : List X) (bs : List (Option X)) : callBackB E b (st.ss s) f vs rs bs = (callBackB E b st f vs rs bs).map (onSt s) := by
  cases b with
  | false => exact ss_callBack ..
  | true =>
    simp only [callBackB]
    cases f <;> try rfl
    · simp only [callBackS]
      split
      · exact ss_dataBack ..
      · exact ss_callBack ..
    · simp only [callBackS]
      split
      · exact ss_dataBack ..
      · exact ss_callBack ..
theorem callMid_grown {g : Nat} {b : Bool} {as : List SV} (hm : (E.md g).isEmpty = true) (h : callMid E st g b as = some st1) : Grown st st1 := by
  have hm' : E.md g = [] := by simpa using hm
  unfold callMid at h
  simp only [hm', muts_nil] at h
  have hk : kill (st.mutAll []) st = st := rfl
  rw [hk] at h
  split at h
  · obtain rfl := Option.some.inj h
    exact .refl st
  · split at h
    · obtain rfl := Option.some.inj h
      exact grown_freezeAll _ _
    · cases h
theorem grown_dataBack {g : Nat} {as : List SV} {rs : List X} {bs : List (Option X)} (hm : (E.md g).isEmpty = true) (h : dataBack E st g as rs bs = some (v, st1)) : Grown st st1 := by
  unfold dataBack at h
  split at h
  · cases h
  · rename_i hmid
    split at h
    · simp only [Option.some.injEq, Prod.mk.injEq] at h
      obtain ⟨_, rfl⟩ := h
      exact callMid_grown hm hmid
    · cases h
/-- What an operation does to a state: its value, and the state without it. -/
inductive Eff (E : Env) (b : Bool) (C : Nat → List X → List X → List (Option X) → Prop) (o : Oper) (st : St) : SV → St → Prop
  | op {v : SV} {st1 : St} (h : st.opB E b o.op = some (v, st1)) : Eff E b C o st v st1
  | call {v : SV} {st1 : St} {cl : Call} {f : Operand} {g : Nat} {xs rs : List X} {bs : List (Option X)} (ho : o.op = .call cl) (hc : cl.callee = .value f) (hp : callPrep E st (st.val f) (cl.args.toList.map st.val) = some (g, xs)) (hC : C g xs rs bs)
      (hb : callBackB E b st (st.val f) (cl.args.toList.map st.val) rs bs = some (v, st1)) : Eff E b C o st v st1
variable {b : Bool} {C : Nat → List X → List X → List (Option X) → Prop} {o : Oper}
theorem Eff.keeps (h : Eff E b C o st v st1) (w : WF st) : Keeps st st1 := by
  cases h with
  | op h => exact keeps_opB h
  | call _ _ _ _ hb => exact keeps_callBackB w hb
theorem Eff.ss (h : Eff E b C o st v st1) {s : Nat → SV} (hs : ∀ i ∈ reads o.op, s i = st.s i) : Eff E b C o (st.ss s) v (st1.ss s) := by
  cases h with
  | op h =>
    refine .op ?_
    rw [ss_opB o.op hs, h]; rfl
  | @call cl f g xs rs bs ho hc hp hC hb =>
    rw [ho] at hs
    simp only [reads, hc, List.mem_append] at hs
    have e1 := ss_val st f (fun i hi => hs i (.inl hi))
    have e2 := ss_vals st cl.args.toList (fun i hi => hs i (.inr hi))
    refine .call ho hc (g := g) (xs := xs) (rs := rs) (bs := bs) ?_ hC ?_
    · rw [e1, e2, ss_callPrep]; exact hp
    · rw [e1, e2, ss_callBackB, hb]; rfl
theorem grown_convert {a b : Nat} {x : SV} (h : st.convert E a b x = some (v, st1)) : Grown st st1 := by
  unfold St.convert at h
  split at h
  · simp only [Option.some.injEq, Prod.mk.injEq] at h; obtain ⟨_, rfl⟩ := h; exact .refl st
  · simp only [Option.some.injEq, Prod.mk.injEq] at h; obtain ⟨_, rfl⟩ := h; exact .refl st
  · split at h
    · split at h
      · simp only [Option.some.injEq, Prod.mk.injEq] at h; obtain ⟨_, rfl⟩ := h; exact grown_alloc _ _
      · cases h
    · cases h
  · split at h
    · split at h
      · simp only [Option.some.injEq, Prod.mk.injEq] at h; obtain ⟨_, rfl⟩ := h; exact .refl st
      · cases h
    · cases h
  · cases h
theorem Eff.grown (h : Eff E b C o st v st1) (hg : isGrow E o.op = true) : Grown st st1 := by
  cases h with
  | op h =>
    rw [opB_other (fun t n ps e => by rw [e] at hg; simp [isGrow] at hg)] at h
    cases hop : o.op <;> rw [hop] at hg h <;> simp only [isGrow] at hg <;> try contradiction
    · simp only [St.op] at h
      split at h
      · simp only [Option.some.injEq, Prod.mk.injEq] at h; obtain ⟨_, rfl⟩ := h; exact grown_alloc _ _
      · cases h
    · simp only [St.op] at h
      split at h
      · simp only [Option.some.injEq, Prod.mk.injEq] at h; obtain ⟨_, rfl⟩ := h; exact grown_alloc _ _
      · cases h
    · exact grown_convert h
    · simp only [St.op] at h
      split at h
      · split at h
        · split at h
          · split at h
            · simp only [Option.some.injEq, Prod.mk.injEq] at h; obtain ⟨_, rfl⟩ := h; exact grown_alloc _ _
            · cases h
          · cases h
        · cases h
      · cases h
    · rename_i c
      simp only [St.op] at h
      split at hg
      · rename_i hc
        rw [hc] at h
        cases h
      · cases hg
  | @call cl f g xs rs bs ho hc hp hC hb =>
    rw [ho] at hg
    simp only [isGrow, hc] at hg
    cases f with
    | func g' =>
      have : st.val (.func g') = .fn g' [] := rfl
      rw [this] at hb
      have hm : (E.md g').isEmpty = true := by simpa using hg
      cases b with
      | false => exact grown_callBack hm hb
      | true =>
        simp only [callBackB, callBackS, hm, if_true] at hb
        exact grown_dataBack hm hb
    | _ => simp at hg

/-- The two may change places: the first stands ahead in the evaluator's order. -/
def disjointS (x y : Oper) : Bool :=
  (match x.dst with
    | none => true
    | some d => !(reads y.op).contains d && (y.dst != some d)) &&
  (match y.dst with
    | none => true
    | some d => !(reads x.op).contains d)
def isQuiet (E : Env) : Op → Bool
  | .call c => match c.callee with
    | .value (.func g) => (E.md g).isEmpty && E.flat g
    | _ => false
  | _ => false
def still (E : Env) (op : Op) : Bool := isReader E op || isQuiet E op
/-- Where it is strict: rows may be frozen, nothing else. -/
def isCalm (E : Env) : Op → Bool
  | .buildSlice .. => true
  | .call c => match c.callee with
    | .value (.func g) => (E.md g).isEmpty
    | _ => false
  | _ => false
def isAlloc : Op → Bool
  | .alloc _ => true
  | .box .. => true
  | _ => false
def mayPass (E : Env) (b : Bool) (x y : Oper) : Bool :=
  disjointS x y && (((still E x.op && (isPure E x.op || still E y.op || isGrow E y.op)) || isPure E y.op) || (b && (isCalm E x.op && isAlloc y.op)))
theorem val_reads {st st2 : St} (hN : st2.N = st.N) (x : Operand) (h : ∀ i ∈ reads1 x, st2.s i = st.s i) : st2.val x = st.val x := by
  cases x with
  | tmp i =>
    have := h i (by simp [reads1])
    simp only [St.val, this, hN]
  | _ => rfl
theorem lab_same {st st2 : St} {o : Oper} (hN : st2.N = st.N) (h : ∀ i ∈ reads o.op, st2.s i = st.s i) : labOf E st2 o = labOf E st o := by
  unfold labOf
  cases hop : o.op with
  | load t a =>
    rw [hop] at h
    simp only [val_reads hN a h]
  | store t a x =>
    rw [hop] at h
    simp only [reads, List.mem_append] at h
    simp only [val_reads hN a (fun i hi => h i (.inl hi)), val_reads hN x (fun i hi => h i (.inr hi))]
  | indexAddr t x i =>
    rw [hop] at h
    simp only [reads, List.mem_append] at h
    simp only [val_reads hN x (fun i hi => h i (.inl hi))]
  | buildSlice t n ps =>
    rw [hop] at h
    have e2 : (ps.toList.map fun p => st2.val p.2) = ps.toList.map fun p => st.val p.2 := List.map_congr_left (fun p hp => val_reads hN p.2 (fun i hi => h i (List.mem_flatten.2 ⟨_, List.mem_map.2 ⟨p, hp, rfl⟩, hi⟩)))
    simp only [e2]
  | call c =>
    rw [hop] at h
    cases hc : c.callee with
    | value f =>
      simp only [reads, hc, List.mem_append] at h
      have e1 := val_reads hN f (fun i hi => h i (.inl hi))
      have e2 : c.args.toList.map st2.val = c.args.toList.map st.val := List.map_congr_left (fun x hx => val_reads hN x (fun i hi => h i (.inr (List.mem_flatten.2 ⟨_, List.mem_map.2 ⟨x, hx, rfl⟩, hi⟩))))
      simp only [hc, e1, e2]
    | builtin b => simp only [hc]; cases b <;> rfl
    | _ => simp only [hc]
  | _ => rfl
/-- Boxes stay as they are. -/
def Kept (st st1 : St) : Prop := ∀ b ty cs, st.o b = .box ty cs → st1.o b = .box ty cs
theorem Kept.refl (st : St) : Kept st st := fun _ _ _ h => h
theorem Kept.trans {st st1 st2 : St} (h : Kept st st1) (k : Kept st1 st2) : Kept st st2 := fun b ty cs e => k b ty cs (h b ty cs e)
theorem kept_alloc {st : St} (w : WF st) (ob : Ob) : Kept st (st.alloc ob) := by
  intro b ty cs h
  have : b < st.n := w.lt (by rw [h]; simp)
  show upd st.o st.n ob b = _
  rw [upd_ne _ _ (by omega)]; exact h
theorem kept_setO {st : St} {i : Nat} {ob : Ob} (hn : ∀ ty cs, st.o i ≠ .box ty cs) : Kept st (st.setO i ob) := by
  intro b ty cs h
  show upd st.o i ob b = _
  have hne : b ≠ i := fun e => by subst e; exact hn ty cs h
  rw [upd_ne _ _ hne]; exact h
theorem kept_freeze (st : St) (r : Nat) : Kept st (st.freeze r) := by
  unfold St.freeze
  split
  · rename_i ho; exact kept_setO (fun ty cs e => by rw [ho] at e; cases e)
  · exact .refl st
theorem kept_absorb1 {t : T} (h : st.absorb1 v = some (t, st1)) : Kept st st1 := by
  unfold St.absorb1 at h
  split at h
  · cases h
  · split at h <;> simp only [Option.some.injEq, Prod.mk.injEq] at h <;> obtain ⟨_, rfl⟩ := h
    · exact kept_freeze st _
    · exact kept_freeze st _
    · exact .refl st
theorem kept_absorbL : ∀ {l : List SV} {st st1 : St} {ts : List T}, st.absorbL l = some (ts, st1) → Kept st st1
  | [], st, st1, ts, h => by
    simp only [St.absorbL, Option.some.injEq, Prod.mk.injEq] at h
    obtain ⟨_, rfl⟩ := h
    exact .refl st
  | s :: r, st, st1, ts, h => by
    unfold St.absorbL at h
    split at h
    · cases h
    · rename_i h1
      split at h
      · cases h
      · rename_i h2
        simp only [Option.some.injEq, Prod.mk.injEq] at h
        obtain ⟨_, rfl⟩ := h
        exact (kept_absorb1 h1).trans (kept_absorbL h2)
theorem kept_absorb {t : T} (h : st.absorb v = some (t, st1)) : Kept st st1 := by
  unfold St.absorb at h
  split at h
  · split at h
    · cases h
    · rename_i h1
      simp only [Option.some.injEq, Prod.mk.injEq] at h
      obtain ⟨_, rfl⟩ := h
      exact kept_absorbL h1
  · exact kept_absorb1 h
theorem kept_absorbAll : ∀ {l : List SV} {st st1 : St} {ts : List T}, st.absorbAll l = some (ts, st1) → Kept st st1
  | [], st, st1, ts, h => by
    simp only [St.absorbAll, Option.some.injEq, Prod.mk.injEq] at h
    obtain ⟨_, rfl⟩ := h
    exact .refl st
  | s :: r, st, st1, ts, h => by
    unfold St.absorbAll at h
    split at h
    · cases h
    · rename_i h1
      split at h
      · cases h
      · rename_i h2
        simp only [Option.some.injEq, Prod.mk.injEq] at h
        obtain ⟨_, rfl⟩ := h
        exact (kept_absorb h1).trans (kept_absorbAll h2)
theorem kept_base {e : Nat} {xs : List T} (h : st.base e v = some (xs, st1)) : Kept st st1 := by
  unfold St.base at h
  split at h
  · simp only [Option.some.injEq, Prod.mk.injEq] at h
    obtain ⟨_, rfl⟩ := h
    exact .refl st
  · split at h
    · rename_i ho
      split at h
      · simp only [Option.some.injEq, Prod.mk.injEq] at h
        obtain ⟨_, rfl⟩ := h
        exact kept_setO (fun ty cs e => by rw [ho] at e; cases e)
      · cases h
    · cases h
  · split at h
    · rename_i ho
      split at h
      · simp only [Option.some.injEq, Prod.mk.injEq] at h
        obtain ⟨_, rfl⟩ := h
        exact kept_setO (fun ty cs e => by rw [ho] at e; cases e)
      · cases h
    · cases h
  · cases h
theorem kept_builtin (w : WF st) {b : Builtin} {ts : List Nat} {vs : List SV} (h : st.builtin E b ts vs = some (v, st1)) : Kept st st1 := by
  unfold St.builtin at h
  split at h
  · simp only [Option.map_eq_some_iff, Prod.mk.injEq] at h; obtain ⟨_, _, _, rfl⟩ := h; exact .refl st
  · unfold St.append at h
    split at h
    · split at h
      · rename_i h2
        split at h
        · simp only [Option.some.injEq, Prod.mk.injEq] at h
          obtain ⟨_, rfl⟩ := h
          exact (kept_base h2).trans (kept_alloc ((keeps_base h2).wf w) _)
        · cases h
      · cases h
    · cases h
  · simp only [Option.map_eq_some_iff, Prod.mk.injEq] at h; obtain ⟨_, _, _, rfl⟩ := h; exact .refl st
  · simp only [Option.map_eq_some_iff, Prod.mk.injEq] at h; obtain ⟨_, _, _, rfl⟩ := h; exact .refl st
  · cases h
theorem kept_freezeAll : ∀ (ids : List Nat) (st : St), Kept st (freezeAll ids st)
  | [], st => .refl st
  | i :: l, st => (kept_freeze st i).trans (kept_freezeAll l _)
theorem kept_bindCell (x : X) {st : St} (w : WF st) : Kept st (st.bindCell x).2 := by
  cases x <;> first | exact .refl st | exact kept_alloc w _
theorem kept_bindCells : ∀ (l : List X) {st : St}, WF st → Kept st (st.bindCells l).2
  | [], st, w => .refl st
  | x :: r, st, w => (kept_bindCell x w).trans (kept_bindCells r ((keeps_bindCell x st).1.wf w))
theorem kept_bind (x : X) {st : St} (w : WF st) : Kept st (st.bind x).2 := by
  cases x with
  | row e xs => exact kept_alloc w _
  | agg cs => exact kept_bindCells cs w
  | ref ty cs => exact (kept_bindCells cs w).trans (kept_alloc ((keeps_bindCells cs st).1.wf w) _)
  | _ => exact .refl st
theorem kept_bindAll : ∀ (l : List X) {st : St}, WF st → Kept st (st.bindAll l).2
  | [], st, w => .refl st
  | x :: r, st, w => (kept_bind x w).trans (kept_bindAll r ((keeps_bind x st).1.wf w))
/-- One box stays. -/
def KeptB (b : Nat) (st st1 : St) : Prop := ∀ ty cs, st.o b = .box ty cs → st1.o b = .box ty cs
theorem Kept.at (h : Kept st st1) (b : Nat) : KeptB b st st1 := h b
theorem KeptB.trans {b : Nat} {st st1 st2 : St} (h : KeptB b st st1) (k : KeptB b st1 st2) : KeptB b st st2 := fun ty cs e => k ty cs (h ty cs e)
theorem keptB_kill {b : Nat} : ∀ (ids : List Nat) (st : St), b ∉ ids → KeptB b st (kill ids st)
  | [], st, _ => fun _ _ h => h
  | i :: l, st, h => by
    have hne : b ≠ i := fun e => h (by simp [e])
    have h1 : KeptB b st (st.setO i .dead) := fun ty cs e => by
      show upd st.o i _ b = _
      rw [upd_ne _ _ hne]
      exact e
    exact h1.trans (keptB_kill l _ (fun hm => h (List.mem_cons_of_mem _ hm)))
theorem kept_regain {b0 : Nat} {st0 : St} {x : Option X} (w : WF st) (hk : KeptB b0 st0 st) (hp : b0 ∉ ptrIds [v]) (h : st.regain st0 v x = some st1) : KeptB b0 st0 st1 := by
  cases x with
  | none =>
    have : st.regain st0 v none = some st := by cases v <;> rfl
    rw [this] at h
    obtain rfl := Option.some.inj h
    exact hk
  | some x =>
    cases v with
    | row r =>
      cases x <;> try (simp [St.regain] at h; done)
      simp only [St.regain] at h
      split at h
      · rename_i ho
        split at h
        · obtain rfl := Option.some.inj h
          intro ty cs e
          have hne : b0 ≠ r := fun hbr => by subst hbr; rw [ho] at e; cases e
          show upd st.o r _ b0 = _
          rw [upd_ne _ _ hne]
          exact hk ty cs e
        · cases h
      · cases h
    | nil =>
      simp only [St.regain, Option.some.injEq] at h
      subst h; exact hk
    | ptr b off =>
      have hne : b0 ≠ b := fun e => hp (by simp [ptrIds, e])
      cases off with
      | succ n => cases x <;> simp [St.regain] at h
      | zero =>
        cases x <;> try (simp [St.regain] at h; done)
        simp only [St.regain] at h
        split at h
        · obtain rfl := Option.some.inj h
          intro ty cs e
          show upd _ b _ b0 = _
          rw [upd_ne _ _ hne]
          exact (kept_bindCells _ w) _ _ _ (hk ty cs e)
        · cases h
    | _ => cases x <;> simp [St.regain] at h
theorem ptrIds_cons {v : SV} {r : List SV} {b : Nat} (h : b ∉ ptrIds (v :: r)) : b ∉ ptrIds [v] ∧ b ∉ ptrIds r := by
  cases v <;> simp_all [ptrIds]
theorem kept_regainAll {b0 : Nat} {st0 : St} : ∀ {l : List SV} {xs : List (Option X)} {st st1 : St}, (WF st → WF st0) → st0.n ≤ st.n → WF st → KeptB b0 st0 st → b0 ∉ ptrIds l → st.regainAll st0 l xs = some st1 → KeptB b0 st0 st1
  | [], [], st, st1, h0, hn, w, hk, hp, h => by
    simp only [St.regainAll, Option.some.injEq] at h
    subst h; exact hk
  | [], _ :: _, st, st1, h0, hn, w, hk, hp, h => by simp [St.regainAll] at h
  | _ :: _, [], st, st1, h0, hn, w, hk, hp, h => by simp [St.regainAll] at h
  | v :: r, x :: q, st, st1, h0, hn, w, hk, hp, h => by
    simp only [St.regainAll] at h
    obtain ⟨p1, p2⟩ := ptrIds_cons hp
    split at h
    · rename_i st2 h1
      have k := keeps_regain h0 hn h1
      exact kept_regainAll (fun _ => h0 w) (Nat.le_trans hn k.n) (k.wf w) (kept_regain w hk p1 h1) p2 h
    · cases h
theorem liveIds_row : ∀ {l : List SV} {i : Nat}, i ∈ liveIds st l → ∃ e xs b, st.o i = .row e xs b
  | [], i, h => by cases h
  | v :: r, i, h => by
    cases v <;> try (exact liveIds_row (by simpa only [liveIds] using h))
    rename_i k
    simp only [liveIds] at h
    split at h
    · rename_i ho
      rcases List.mem_cons.1 h with rfl | h
      · exact ⟨_, _, _, ho⟩
      · exact liveIds_row h
    · exact liveIds_row h
theorem give_muts : ∀ {m : List Bool} {l : List SV} {xs : List X}, st.give m l = some xs → ∀ v ∈ muts m l, ∃ x, st.giveMut v = some x
  | m, [], xs, h, v, hv => by cases m <;> cases hv
  | m, v :: r, xs, h, u, hu => by
    simp only [St.give] at h
    split at h
    · rename_i h1 h2
      simp only [muts] at hu
      split at hu
      · rename_i hm
        rw [if_pos hm] at h1
        rcases List.mem_cons.1 hu with rfl | hu
        · exact ⟨_, h1⟩
        · exact give_muts h2 u hu
      · exact give_muts h2 u hu
    · cases h
theorem mut_ptr {b : Nat} {ty : Nat} {cs : List SV} (hb : st.o b = .box ty cs) : ∀ {l : List SV} {xs : List X} {m : List Bool}, st.give m l = some xs → b ∉ ptrIds (muts m l) → b ∉ st.mutAll (muts m l) := by
  intro l xs m h hp hi
  unfold St.mutAll at hi
  obtain ⟨q, hq, hi⟩ := List.mem_flatten.1 hi
  obtain ⟨v, hv, rfl⟩ := List.mem_map.1 hq
  have hpv : ∀ {l : List SV} {v : SV}, v ∈ l → b ∉ ptrIds l → b ∉ ptrIds [v] := by
    intro l
    induction l with
    | nil => intro v hv; cases hv
    | cons a r ih =>
      intro v hv h
      obtain ⟨p1, p2⟩ := ptrIds_cons h
      rcases List.mem_cons.1 hv with rfl | hv
      · exact p1
      · exact ih hv p2
  have hpv' := hpv hv hp
  cases v with
  | row r =>
    simp only [St.mutIds, List.mem_singleton] at hi
    subst hi
    obtain ⟨x, hx⟩ := give_muts h _ hv
    simp only [St.giveMut, hb] at hx
    cases hx
  | ptr c off =>
    have hne : b ≠ c := fun e => hpv' (by simp [ptrIds, e])
    simp only [St.mutIds] at hi
    split at hi
    · rcases List.mem_cons.1 hi with e | hi
      · exact hne e
      · obtain ⟨_, _, _, ho⟩ := liveIds_row hi
        rw [hb] at ho; cases ho
    · exact hne (by simpa using hi)
  | agg cs =>
    obtain ⟨_, _, _, ho⟩ := liveIds_row hi
    rw [hb] at ho; cases ho
  | _ => simp [St.mutIds] at hi
theorem kept_call {b : Nat} {g : Nat} {as : List SV} {xs rs : List X} {bs : List (Option X)} (w : WF st) (hg : st.give (E.md g) as = some xs) (hp : b ∉ ptrIds (muts (E.md g) as)) (h : (match callMid E st g (ownB E g rs bs) as with
      | none => none
      | some st0 => match st0.regainAll st (muts (E.md g) as) bs with
        | none => none
        | some st1 => some (tupOf (st1.bindAll rs).1, (st1.bindAll rs).2)) = some (v, st1)) : KeptB b st st1 := by
  intro ty cs hb
  have hrows := mut_ptr hb hg hp
  split at h
  · cases h
  · rename_i st0 hm
    have k0 : KeptB b st st0 := by
      have kk : KeptB b st (kill (st.mutAll (muts (E.md g) as)) st) := keptB_kill _ _ hrows
      unfold callMid at hm
      split at hm
      · obtain rfl := Option.some.inj hm; exact kk
      · split at hm
        · obtain rfl := Option.some.inj hm; exact kk.trans ((kept_freezeAll _ _).at b)
        · cases hm
    have w0 : WF st0 := (callMid_keeps hm).wf w
    split at h
    · cases h
    · rename_i st2 hr
      simp only [Option.some.injEq, Prod.mk.injEq] at h
      obtain ⟨_, rfl⟩ := h
      have k := callMid_keeps hm
      exact ((kept_regainAll (fun _ => w) k.n w0 k0 hp hr).trans ((kept_bindAll rs ((keeps_regainAll (fun _ => w) k.n (k.wf w) hr).wf (k.wf w))).at b)) ty cs hb
theorem kept_dataBack {g : Nat} {as : List SV} {rs : List X} {bs : List (Option X)} (hm : (E.md g).isEmpty = true) (h : dataBack E st g as rs bs = some (v, st1)) : Kept st st1 := by
  have hm' : E.md g = [] := by simpa using hm
  unfold dataBack at h
  split at h
  · cases h
  · rename_i st0 hmid
    split at h
    · simp only [Option.some.injEq, Prod.mk.injEq] at h
      obtain ⟨_, rfl⟩ := h
      unfold callMid at hmid
      simp only [hm', muts_nil] at hmid
      have hk : kill (st.mutAll []) st = st := rfl
      rw [hk] at hmid
      split at hmid
      · obtain rfl := Option.some.inj hmid; exact .refl st
      · split at hmid
        · obtain rfl := Option.some.inj hmid; exact kept_freezeAll _ _
        · cases hmid
    · cases h
/-- What keeps a box, by its label. -/
theorem Eff.kept {b : Nat} (h : Eff E true C o st v st1) (w : WF st) (hk : labOf E st o = .kp ∨ ∃ l, labOf E st o = .cl l ∧ b ∉ l) : KeptB b st st1 := by
  cases h with
  | op h =>
    unfold labOf at hk
    cases hop : o.op <;> rw [hop] at hk h <;> simp only at hk <;> try (rcases hk with hk | ⟨_, hk, _⟩ <;> cases hk; done)
    · simp only [St.opB, St.opS] at h
      split at h
      · split at h
        · rename_i hab
          simp only [Option.some.injEq, Prod.mk.injEq] at h
          obtain ⟨_, rfl⟩ := h
          exact (kept_absorbAll hab).at b
        · cases h
      · cases h
    · split at hk <;> rcases hk with hk | ⟨_, hk, _⟩ <;> cases hk
    · split at hk <;> rcases hk with hk | ⟨_, hk, _⟩ <;> cases hk
    · split at hk <;> rcases hk with hk | ⟨_, hk, _⟩ <;> cases hk
    · simp only [St.opB, St.opS, St.op] at h
      split at h
      · exact (kept_builtin w h).at b
      · cases h
  | @call cl f g xs rs bs ho hc hp hC hb =>
    have hs : b ∉ ptrIds (fnMuts E (st.val f) (cl.args.toList.map st.val)) := by
      unfold labOf at hk
      simp only [ho, hc] at hk
      rcases hk with hk | ⟨l, hk, hl⟩
      · cases hk
      · injection hk with e
        rw [e]; exact hl
    simp only [callBackB] at hb
    unfold callPrep at hp
    unfold callBackS at hb
    split at hp
    · rename_i g' caps hf
      simp only [hf] at hb
      simp only [fnMuts, hf] at hs
      split at hp
      · simp only [Option.map_eq_some_iff, Prod.mk.injEq] at hp
        obtain ⟨xs', hg, rfl, rfl⟩ := hp
        split at hb
        · rename_i hm; exact (kept_dataBack hm hb).at b
        · exact kept_call w hg hs hb
      · cases hp
    · rename_i g' ts hf
      simp only [hf] at hb
      simp only [fnMuts, hf] at hs
      split at hp
      · simp only [Option.map_eq_some_iff, Prod.mk.injEq] at hp
        obtain ⟨xs', hg, rfl, rfl⟩ := hp
        split at hb
        · rename_i hm; exact (kept_dataBack hm hb).at b
        · exact kept_call w hg hs hb
      · cases hp
    · cases hp
theorem load_kept {t : Nat} {a : Operand} {st2 : St} {b' o' : Nat} (hs : st2.s = st.s) (hN : st2.N = st.N) (hv : st.val a = .ptr b' o') (hob : ∀ ty cs, st.o b' = .box ty cs → ∃ cs', st2.o b' = .box ty cs' ∧ cs'.length = cs.length ∧ (cs'.drop o').take (E.ty t).size = (cs.drop o').take (E.ty t).size) (h : st.op E (.load t a) = some (v, st)) : st2.op E (.load t a) = some (v, st2) := by
  simp only [St.op, val_same hs hN, Option.map_eq_some_iff, Prod.mk.injEq] at h ⊢
  obtain ⟨r, h1, rfl, _⟩ := h
  refine ⟨r, ?_, rfl, trivial⟩
  unfold St.loadAt at h1 ⊢
  split at h1
  · cases h1
  · rename_i hkn
    rw [if_neg hkn]
    rw [hv] at h1 ⊢
    simp only at h1 ⊢
    split at h1
    · rename_i ho
      obtain ⟨cs', e1, e2, e3⟩ := hob _ _ ho
      rw [e1]
      simp only [e2, e3]
      exact h1
    · cases h1
theorem splice_part {α : Type} (xs ys : List α) (o o' n : Nat) (hl : o' + ys.length ≤ xs.length) (h : o + n ≤ o' ∨ o' + ys.length ≤ o) : (splice xs o' ys).length = xs.length ∧ ((splice xs o' ys).drop o).take n = (xs.drop o).take n := by
  have hlen : (splice xs o' ys).length = xs.length := by simp [splice]; omega
  refine ⟨hlen, ?_⟩
  apply List.ext_getElem?
  intro i
  rw [List.getElem?_take, List.getElem?_take]
  split
  · rename_i hi
    rw [List.getElem?_drop, List.getElem?_drop]
    unfold splice
    rcases h with h | h
    · rw [List.append_assoc, List.getElem?_append_left (by simp; omega), List.getElem?_take]
      rw [if_pos (by omega)]
    · rw [List.getElem?_append_right (by simp; omega)]
      rw [List.getElem?_drop]
      congr 1
      simp
      omega
  · rfl
/-- A load, and a store behind it to another place. -/
theorem load_store {t t' : Nat} {a a' x' : Operand} {st2 : St} {u : SV} {b1 o1 b2 o2 : Nat} (hs : st2.s = st.s) (hN : st2.N = st.N) (hv : st.val a = .ptr b1 o1) (hv' : st.val a' = .ptr b2 o2) (hd : b1 ≠ b2 ∨ o1 + (E.ty t).size ≤ o2 ∨ o2 + (st.val x').cells.length ≤ o1)
    (hst : st.op E (.store t' a' x') = some (u, st2)) (h : st.op E (.load t a) = some (v, st)) : st2.op E (.load t a) = some (v, st2) := by
  refine load_kept hs hN hv (fun ty cs ho => ?_) h
  simp only [St.op, Option.map_eq_some_iff, Prod.mk.injEq] at hst
  obtain ⟨q, h1, _, rfl⟩ := hst
  rw [hv'] at h1
  unfold St.storeAt at h1
  simp only at h1
  split at h1
  · split at h1
    · rename_i ty' cells ho'
      split at h1
      · rename_i hle
        obtain rfl := Option.some.inj h1
        by_cases hb : b1 = b2
        · subst hb
          rw [ho] at ho'
          injection ho' with e1 e2
          subst e1; subst e2
          have hsp := splice_part cs (st.val x').cells o1 o2 (E.ty t).size hle (by rcases hd with h | h | h; exact absurd rfl h; exact .inl h; exact .inr h)
          exact ⟨_, upd_self _ _ _, hsp.1, hsp.2⟩
        · exact ⟨cs, (upd_ne _ _ hb).trans ho, rfl, rfl⟩
      · cases h1
    · cases h1
  · cases h1
theorem plain1_absorb {s : SV} {t : T} (h : s.plain1 = some t) (st : St) : st.absorb1 s = some (t, st) := by
  cases s with
  | t x =>
    simp only [SV.plain1] at h
    split at h
    · rename_i ho
      obtain rfl := Option.some.inj h
      simp [St.absorb1, St.peek1, ho]
    · cases h
  | nil =>
    simp only [SV.plain1, Option.some.injEq] at h
    subst h
    rfl
  | _ => cases h
theorem plainL_absorb : ∀ {l : List SV} {ts : List T}, SV.plainL l = some ts → ∀ st : St, st.absorbL l = some (ts, st)
  | [], ts, h, st => by simp only [SV.plainL, Option.some.injEq] at h; subst h; rfl
  | s :: r, ts, h, st => by
    simp only [SV.plainL] at h
    split at h
    · rename_i h1 h2
      obtain rfl := Option.some.inj h
      simp only [St.absorbL, plain1_absorb h1, plainL_absorb h2]
    · cases h
theorem plain_absorb {s : SV} {t : T} (h : s.plain = some t) (st : St) : st.absorb s = some (t, st) := by
  unfold SV.plain at h
  unfold St.absorb
  split at h
  · simp only [Option.map_eq_some_iff] at h
    obtain ⟨ts, h1, rfl⟩ := h
    simp only [plainL_absorb h1]
  · rename_i hn
    cases s <;> first | exact plain1_absorb h st | exact absurd rfl (hn _)
theorem plains_absorb : ∀ {l : List SV} {ts : List T}, SV.plains l = some ts → ∀ st : St, st.absorbAll l = some (ts, st)
  | [], ts, h, st => by simp only [SV.plains, Option.some.injEq] at h; subst h; rfl
  | s :: r, ts, h, st => by
    simp only [SV.plains] at h
    split at h
    · rename_i h1 h2
      obtain rfl := Option.some.inj h
      simp only [St.absorbAll, plain_absorb h1, plains_absorb h2]
    · cases h
/-- What depends on its slots alone, and changes nothing. -/
theorem neutral (h : Eff E true C o st v st1) (hl : labOf E st o = .pu) : st1 = st ∧ ∀ st2 : St, st2.s = st.s → st2.N = st.N → Eff E true C o st2 v st2 := by
  unfold labOf at hl
  cases h with
  | op h =>
    cases hop : o.op <;> rw [hop] at hl h <;> simp only at hl <;> try (cases hl; done)
    · rename_i t n ps
      simp only [St.opB, St.opS] at h
      split at hl
      · rename_i ts hts
        rw [plains_absorb hts] at h
        split at h
        · rename_i hc
          simp only [Option.some.injEq, Prod.mk.injEq] at h
          obtain ⟨rfl, rfl⟩ := h
          refine ⟨rfl, fun st2 hs hN => .op ?_⟩
          have e2 : (ps.toList.map fun p => st2.val p.2) = ps.toList.map fun p => st.val p.2 := List.map_congr_left (fun p _ => val_same hs hN p.2)
          rw [hop]
          simp only [St.opB, St.opS, e2]
          rw [if_pos hc, plains_absorb hts]
        · cases h
      · cases hl
    · rename_i t a
      have hh : st.op E (.load t a) = some (v, st1) := h
      have hsm := reader_same (E := E) (op := .load t a) rfl hh
      subst hsm
      refine ⟨rfl, fun st2 hs hN => .op ?_⟩
      rw [hop]
      show st2.op E (.load t a) = _
      simp only [St.op, Option.map_eq_some_iff, Prod.mk.injEq, val_same hs hN] at hh ⊢
      obtain ⟨r, h1, rfl, _⟩ := hh
      refine ⟨r, ?_, rfl, trivial⟩
      split at hl
      · cases hl
      · rename_i cs hv
        rw [hv] at h1 ⊢
        exact h1
      · cases hl
    · split at hl <;> cases hl
    · rename_i t x i
      have hh : st.op E (.indexAddr t x i) = some (v, st1) := h
      have hsm := reader_same (E := E) (op := .indexAddr t x i) rfl hh
      subst hsm
      refine ⟨rfl, fun st2 hs hN => .op ?_⟩
      rw [hop]
      show st2.op E (.indexAddr t x i) = _
      simp only [St.op, Option.map_eq_some_iff, Prod.mk.injEq, val_same hs hN] at hh ⊢
      obtain ⟨r, h1, rfl, _⟩ := hh
      refine ⟨r, ?_, rfl, trivial⟩
      split at hl
      · rename_i y hv
        rw [hv] at h1 ⊢
        rw [← h1]
        simp only [St.indexAt]
        unfold St.indexAt0
        split
        · cases asNat (st1.val i) with
          | none => rfl
          | some i => cases y <;> rfl
        · rfl
      · cases hl
    · split at hl <;> cases hl
  | call ho hc hp hC hb =>
    rw [ho] at hl
    simp only [hc] at hl
    cases hl
theorem put_ss (st : St) (d : Option Nat) (v : SV) : st.put d v = st.ss (st.put d v).s := by cases d <;> rfl
theorem put_off {d : Option Nat} {v : SV} {i : Nat} (h : d ≠ some i) : (st.put d v).s i = st.s i := by
  cases d with
  | none => rfl
  | some d => exact upd_ne _ _ (fun e => h (by rw [e]))
theorem put_comm {a b : Option Nat} {u : SV} (h : ∀ d, a = some d → b ≠ some d) : ((st.put a v).put b u) = ((st.put b u).put a v) := by
  cases a with
  | none => rfl
  | some a =>
    cases b with
    | none => rfl
    | some b =>
      have hab : b ≠ a := fun e => h a rfl (by rw [e])
      simp only [St.put]
      congr 1
      funext j
      simp only [upd]
      by_cases h1 : j = a <;> by_cases h2 : j = b <;> simp [h1, h2]
      · subst h1; exact absurd h2.symm hab
      · intro e; exact absurd e.symm hab
      · intro e; exact absurd e hab
end
end Go.Ev
