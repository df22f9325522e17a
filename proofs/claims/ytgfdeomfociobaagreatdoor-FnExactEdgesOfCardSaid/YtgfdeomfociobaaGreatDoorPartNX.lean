/- Slices of boxes: what is held through one, seen from the state's objects alone. -/
import Derived.Test.YtgfdeomfociobaaGreatDoorPartNE
set_option linter.unusedSimpArgs false
set_option linter.unusedVariables false
namespace Go.Ev

inductive AllH (R : SV → X → List Nat → Prop) : List SV → List X → List Nat → Prop
  | nil : AllH R [] [] []
  | cons {v : SV} {x : X} {i : List Nat} {vs : List SV} {xs : List X} {is : List Nat} (h : R v x i) (r : AllH R vs xs is) (hd : ∀ k ∈ i, k ∉ is) : AllH R (v :: vs) (x :: xs) (i ++ is)
/-- A cell that holds no slice of boxes. -/
def Held0 (o : Nat → Ob) (v : SV) (x : X) (ids : List Nat) : Prop :=
  (∃ t : T, t.one = true ∧ v = .t t ∧ x = .t t ∧ ids = []) ∨ (v = .nil ∧ x = .nil ∧ ids = []) ∨ ∃ r e xs, v = .row r ∧ x = .row e xs ∧ ids = [r] ∧ o r = .row e xs true
/-- A cell, and all that is its own. -/
def Held : Nat → (Nat → Ob) → SV → X → List Nat → Prop
  | 0, o, v, x, ids => Held0 o v x ids
  | d + 1, o, v, x, ids => Held0 o v x ids ∨ ∃ b n sz ty cells xs is, v = .sl b n sz ∧ x = .sref ty n sz xs ∧ ids = b :: is ∧ o b = .box ty cells ∧ cells.length = n * sz ∧ 0 < sz ∧ AllH (Held d o) cells xs is ∧ b ∉ is
mutual
/-- A slice of boxes as plain data. -/
def X.dat : X → T
  | .t u => u
  | .nil => .list []
  | .row _ xs => .list xs
  | .sref _ n sz cs => .list (chunkT sz n (X.dats cs))
  | _ => .list []
def X.dats : List X → List T
  | [] => []
  | x :: r => x.dat :: X.dats r
end
theorem X.dats_eq : ∀ (l : List X), X.dats l = l.map X.dat
  | [] => by simp only [X.dats, List.map_nil]
  | x :: r => by simp only [X.dats, List.map_cons, X.dats_eq r]

section
variable {R R' : SV → X → List Nat → Prop} {o o' : Nat → Ob} {st : St} {d : Nat} {v : SV} {x : X} {ids : List Nat} {l : List SV} {xs : List X} {is : List Nat}
theorem AllH.mono (h : AllH R l xs is) (hr : ∀ v x i, v ∈ l → (∀ k ∈ i, k ∈ is) → R v x i → R' v x i) : AllH R' l xs is := by
  induction h with
  | nil => exact .nil
  | cons h r hd ih => exact .cons (hr _ _ _ (by simp) (fun k hk => List.mem_append_left _ hk) h) (ih (fun v x i hv hi => hr v x i (List.mem_cons_of_mem _ hv) (fun k hk => List.mem_append_right _ (hi k hk)))) hd
theorem AllH.len (h : AllH R l xs is) : xs.length = l.length := by
  induction h with
  | nil => rfl
  | cons h r hd ih => simp [ih]
theorem AllH.nodup (h : AllH R l xs is) (hr : ∀ v x i, R v x i → i.Nodup) : is.Nodup := by
  induction h with
  | nil => exact List.nodup_nil
  | cons h r hd ih => exact List.nodup_append.2 ⟨hr _ _ _ h, ih, fun a ha b hb e => by subst e; exact hd a ha hb⟩
theorem AllH.append {l' : List SV} {xs' : List X} {is' : List Nat} (h : AllH R l xs is) (k : AllH R l' xs' is') (hd : ∀ i ∈ is, i ∉ is') : AllH R (l ++ l') (xs ++ xs') (is ++ is') := by
  induction h with
  | nil => exact k
  | cons h r hd' ih =>
    have := AllH.cons h (ih (fun i hi => hd i (List.mem_append_right _ hi))) (fun k hk hm => by
      rcases List.mem_append.1 hm with hm | hm
      · exact hd' k hk hm
      · exact hd k (List.mem_append_left _ hk) hm)
    rwa [List.append_assoc]
theorem AllH.split : ∀ {l1 l2 : List SV} {xs : List X} {is : List Nat}, AllH R (l1 ++ l2) xs is → ∃ xs1 xs2 i1 i2, xs = xs1 ++ xs2 ∧ is = i1 ++ i2 ∧ AllH R l1 xs1 i1 ∧ AllH R l2 xs2 i2 ∧ ∀ k ∈ i1, k ∉ i2
  | [], l2, xs, is, h => ⟨[], xs, [], is, rfl, rfl, .nil, h, by simp⟩
  | v :: l1, l2, xs, is, h => by
    cases h with
    | cons h r hd =>
      obtain ⟨xs1, xs2, i1, i2, rfl, rfl, h1, h2, h3⟩ := AllH.split r
      refine ⟨_ :: xs1, xs2, _ ++ i1, i2, rfl, (List.append_assoc _ _ _).symm, .cons h h1 (fun k hk hm => hd k hk (List.mem_append_left _ hm)), h2, fun k hk hm => ?_⟩
      rcases List.mem_append.1 hk with hk | hk
      · exact hd k hk (List.mem_append_right _ hm)
      · exact h3 k hk hm
theorem Held0.nodup (h : Held0 o v x ids) : ids.Nodup := by
  rcases h with ⟨_, _, _, _, rfl⟩ | ⟨_, _, rfl⟩ | ⟨_, _, _, _, _, rfl, _⟩ <;> simp
theorem Held.nodup : ∀ {d : Nat} {v : SV} {x : X} {ids : List Nat}, Held d o v x ids → ids.Nodup
  | 0, v, x, ids, h => Held0.nodup h
  | d + 1, v, x, ids, h => by
    rcases h with h | ⟨b, n, sz, ty, cells, xs, is, rfl, rfl, rfl, h1, h2, h3, h4, h5⟩
    · exact Held0.nodup h
    · exact List.nodup_cons.2 ⟨h5, h4.nodup (fun _ _ _ h => Held.nodup h)⟩
theorem Held0.frame (h : Held0 o v x ids) (ho : ∀ i ∈ ids, o' i = o i) : Held0 o' v x ids := by
  rcases h with h | h | ⟨r, e, xs, h1, h2, rfl, h3⟩
  · exact .inl h
  · exact .inr (.inl h)
  · exact .inr (.inr ⟨r, e, xs, h1, h2, rfl, by rw [ho r (by simp)]; exact h3⟩)
theorem Held.frame : ∀ {d : Nat} {v : SV} {x : X} {ids : List Nat}, Held d o v x ids → (∀ i ∈ ids, o' i = o i) → Held d o' v x ids
  | 0, v, x, ids, h, ho => Held0.frame h ho
  | d + 1, v, x, ids, h, ho => by
    rcases h with h | ⟨b, n, sz, ty, cells, xs, is, rfl, rfl, rfl, h1, h2, h3, h4, h5⟩
    · exact .inl (Held0.frame h ho)
    · exact .inr ⟨b, n, sz, ty, cells, xs, is, rfl, rfl, rfl, by rw [ho b (by simp)]; exact h1, h2, h3, h4.mono (fun v x i _ hi h => h.frame (fun k hk => ho k (List.mem_cons_of_mem _ (hi k hk)))), h5⟩
theorem AllH.frame (h : AllH (Held d o) l xs is) (ho : ∀ i ∈ is, o' i = o i) : AllH (Held d o') l xs is :=
  h.mono (fun v x i _ hi h => h.frame (fun k hk => ho k (hi k hk)))
theorem Held.up : ∀ {d : Nat} {v : SV} {x : X} {ids : List Nat}, Held d o v x ids → Held (d + 1) o v x ids
  | 0, v, x, ids, h => .inl h
  | d + 1, v, x, ids, h => by
    rcases h with h | ⟨b, n, sz, ty, cells, xs, is, rfl, rfl, rfl, h1, h2, h3, h4, h5⟩
    · exact .inl h
    · exact .inr ⟨b, n, sz, ty, cells, xs, is, rfl, rfl, rfl, h1, h2, h3, h4.mono (fun v x i _ _ h => Held.up h), h5⟩
theorem Held.upTo {f : Nat} (h : Held d o v x ids) (hf : d ≤ f) : Held f o v x ids := by
  obtain ⟨k, rfl⟩ := Nat.le.dest hf
  clear hf
  induction k with
  | zero => exact h
  | succ k ih => exact Held.up ih
/-! What a state says of it. -/
theorem Held0.give (h : Held0 st.o v x ids) : (∀ f, st.giveF f v = some x) ∧ (∀ f, st.liveF f v = ids) ∧ (∀ f, st.sl1F f v = ids) ∧ (∀ f, st.peek1F f v = some x.dat) := by
  rcases h with ⟨t, h1, rfl, rfl, rfl⟩ | ⟨rfl, rfl, rfl⟩ | ⟨r, e, xs, rfl, rfl, rfl, h⟩
  · refine ⟨fun f => ?_, fun f => ?_, fun f => ?_, fun f => ?_⟩ <;> cases f <;> simp [St.giveF, St.giveCell0, St.liveF, St.sl1F, St.peek1F, St.peek1, h1, X.dat]
  · refine ⟨fun f => ?_, fun f => ?_, fun f => ?_, fun f => ?_⟩ <;> cases f <;> simp [St.giveF, St.giveCell0, St.liveF, St.sl1F, St.peek1F, St.peek1, X.dat]
  · refine ⟨fun f => ?_, fun f => ?_, fun f => ?_, fun f => ?_⟩ <;> cases f <;> simp [St.giveF, St.giveCell0, St.liveF, St.sl1F, St.peek1F, St.peek1, h, X.dat]
theorem AllH.allW {β : Type} {g : SV → Option β} {f : X → β} (h : AllH R l xs is) (hr : ∀ v x i, R v x i → g v = some (f x)) : Ev.allW g l = some (xs.map f) := by
  induction h with
  | nil => rfl
  | cons h r hd ih => simp only [Ev.allW, hr _ _ _ h, ih, List.map_cons]
theorem AllH.idsOf {g : SV → List Nat} (h : AllH R l xs is) (hr : ∀ v x i, R v x i → g v = i) : (l.map g).flatten = is := by
  induction h with
  | nil => rfl
  | cons h r hd ih => simp only [List.map_cons, List.flatten_cons, hr _ _ _ h, ih]
theorem Held.all : ∀ {d : Nat} {v : SV} {x : X} {ids : List Nat}, Held d st.o v x ids → ∀ f, d ≤ f → st.giveF f v = some x ∧ st.liveF f v = ids ∧ st.sl1F f v = ids ∧ st.peek1F f v = some x.dat
  | 0, v, x, ids, h, f, _ => by
    obtain ⟨h1, h2, h3, h4⟩ := Held0.give h
    exact ⟨h1 f, h2 f, h3 f, h4 f⟩
  | d + 1, v, x, ids, h, f, hf => by
    rcases h with h | ⟨b, n, sz, ty, cells, xs, is, rfl, rfl, rfl, h1, h2, h3, h4, h5⟩
    · obtain ⟨h1, h2, h3, h4⟩ := Held0.give h
      exact ⟨h1 f, h2 f, h3 f, h4 f⟩
    · obtain ⟨f, rfl⟩ : ∃ g, f = g + 1 := ⟨f - 1, by omega⟩
      have ih : ∀ v x i, Held d st.o v x i → st.giveF f v = some x ∧ st.liveF f v = i ∧ st.sl1F f v = i ∧ st.peek1F f v = some x.dat := fun v x i h => Held.all h f (by omega)
      have g1 := h4.allW (g := st.giveF f) (f := id) (fun v x i h => (ih v x i h).1)
      have g2 := h4.idsOf (g := st.liveF f) (fun v x i h => (ih v x i h).2.1)
      have g3 := h4.idsOf (g := st.sl1F f) (fun v x i h => (ih v x i h).2.2.1)
      have g4 := h4.allW (g := st.peek1F f) (f := X.dat) (fun v x i h => (ih v x i h).2.2.2)
      refine ⟨?_, ?_, ?_, ?_⟩
      · simp only [St.giveF, h1, g1, List.map_id, Option.map_some]
      · simp only [St.liveF, h1, g2]
      · simp only [St.sl1F, h1, g3]
      · simp only [St.peek1F, h1, h2, h3, and_self, if_true, g4, Option.map_some, X.dat, X.dats_eq]
/-! It is taken. -/
def deadO (ids : List Nat) (o : Nat → Ob) : Nat → Ob := fun i => if i ∈ ids then .dead else o i
theorem deadO_nil (o : Nat → Ob) : deadO [] o = o := by funext i; simp [deadO]
theorem deadO_one (r : Nat) (o : Nat → Ob) : upd o r .dead = deadO [r] o := by funext i; simp [deadO, upd]
theorem deadO_app (a b : List Nat) (o : Nat → Ob) : deadO b (deadO a o) = deadO (a ++ b) o := by
  funext i
  simp only [deadO, List.mem_append]
  by_cases h1 : i ∈ a <;> by_cases h2 : i ∈ b <;> simp [h1, h2]
theorem Held0.take (h : Held0 st.o v x ids) : st.takeCell0 v = some (x, { st with o := deadO ids st.o }) := by
  rcases h with ⟨t, h1, rfl, rfl, rfl⟩ | ⟨rfl, rfl, rfl⟩ | ⟨r, e, xs, rfl, rfl, rfl, h⟩
  · simp [St.takeCell0, h1, deadO_nil]
  · simp [St.takeCell0, deadO_nil]
  · simp [St.takeCell0, h, St.setO, deadO_one]
theorem Held0.takeF (h : Held0 st.o v x ids) (f : Nat) : Ev.takeF f st v = some (x, { st with o := deadO ids st.o }) := by
  rw [← Held0.take h]
  rcases h with ⟨t, h1, rfl, rfl, rfl⟩ | ⟨rfl, rfl, rfl⟩ | ⟨r, e, xs, rfl, rfl, rfl, h⟩ <;> cases f <;> rfl
theorem AllH.takes {g : St → SV → Option (X × St)} (hg : ∀ (st : St) v x i, Held d st.o v x i → g st v = some (x, { st with o := deadO i st.o })) : ∀ {l : List SV} {xs : List X} {is : List Nat} (st : St), AllH (Held d st.o) l xs is → takesW g st l = some (xs, { st with o := deadO is st.o })
  | [], xs, is, st, h => by
    cases h
    simp [takesW, deadO_nil]
  | v :: l, xs, is, st, h => by
    cases h with
    | @cons _ x i _ xs is h r hd =>
      have h1 := hg st v x i h
      have h2 := AllH.takes hg { st with o := deadO i st.o } (r.frame (o' := deadO i st.o) (fun k hk => by
        simp only [deadO]
        rw [if_neg (fun hi => hd k hi hk)]))
      simp only [takesW, h1, h2, deadO_app]
theorem Held.take : ∀ {d : Nat} {st : St} {v : SV} {x : X} {ids : List Nat}, Held d st.o v x ids → ∀ f, d ≤ f → Ev.takeF f st v = some (x, { st with o := deadO ids st.o })
  | 0, st, v, x, ids, h, f, _ => Held0.takeF h f
  | d + 1, st, v, x, ids, h, f, hf => by
    rcases h with h | ⟨b, n, sz, ty, cells, xs, is, rfl, rfl, rfl, h1, h2, h3, h4, h5⟩
    · exact Held0.takeF h f
    · obtain ⟨f, rfl⟩ : ∃ g, f = g + 1 := ⟨f - 1, by omega⟩
      have h6 := h4.takes (g := Ev.takeF f) (fun st v x i h => Held.take h f (by omega)) st
      have hb : ({ st with o := deadO is st.o } : St).isBox b = true := by
        have : deadO is st.o b = .box ty cells := by simp only [deadO]; rw [if_neg h5]; exact h1
        simp only [St.isBox, this]
      simp only [Ev.takeF, h1, h6, hb, if_true]
      congr 2
      simp only [St.setO, deadO_one, deadO_app]
      congr 1
      funext i
      simp only [deadO, List.mem_append, List.mem_cons, List.not_mem_nil, or_false]
      by_cases e1 : i = b <;> by_cases e2 : i ∈ is <;> simp [e1, e2]
/-! It is laid. -/
mutual
def X.own : X → Nat → Bool
  | .t u, _ => u.one
  | .nil, _ => true
  | .row _ _, _ => true
  | .sref _ n sz cs, d + 1 => cs.length == n * sz && decide (0 < sz) && X.owns cs d
  | _, _ => false
def X.owns : List X → Nat → Bool
  | [], _ => true
  | x :: r, d => x.own d && X.owns r d
end
mutual
/-- The cell, the objects and the next number behind a laying. -/
def X.bV : X → Nat → SV
  | .t u, _ => .t u
  | .nil, _ => .nil
  | .row _ _, n => .row n
  | .sref _ k sz cs, n => .sl (X.bNs cs n) k sz
  | _, _ => .undef
def X.bN : X → Nat → Nat
  | .row _ _, n => n + 1
  | .sref _ _ _ cs, n => X.bNs cs n + 1
  | _, n => n
def X.bO : X → Nat → (Nat → Ob) → Nat → Ob
  | .row e xs, n, o => upd o n (.row e xs true)
  | .sref ty _ _ cs, n, o => upd (X.bOs cs n o) (X.bNs cs n) (.box ty (X.bVs cs n))
  | _, _, o => o
def X.bVs : List X → Nat → List SV
  | [], _ => []
  | x :: r, n => x.bV n :: X.bVs r (x.bN n)
def X.bNs : List X → Nat → Nat
  | [], n => n
  | x :: r, n => X.bNs r (x.bN n)
def X.bOs : List X → Nat → (Nat → Ob) → Nat → Ob
  | [], _, o => o
  | x :: r, n, o => X.bOs r (x.bN n) (x.bO n o)
end
mutual
theorem bindCell_eq : ∀ (x : X) (st : St), st.bindCell x = (x.bV st.n, { st with o := x.bO st.n st.o, n := x.bN st.n })
  | .t t, st => by simp only [St.bindCell, X.bV, X.bO, X.bN]
  | .nil, st => by simp only [St.bindCell, X.bV, X.bO, X.bN]
  | .row e xs, st => by simp only [St.bindCell, X.bV, X.bO, X.bN, St.alloc]
  | .sref ty n sz cs, st => by simp only [St.bindCell, X.bV, X.bO, X.bN, St.alloc, bindCells_eq cs st]
  | .agg cs, st => by simp only [St.bindCell, X.bV, X.bO, X.bN]
  | .ref ty cs, st => by simp only [St.bindCell, X.bV, X.bO, X.bN]
  | .dref cs, st => by simp only [St.bindCell, X.bV, X.bO, X.bN]
  | .fn g cs, st => by simp only [St.bindCell, X.bV, X.bO, X.bN]
  | .meth g cs, st => by simp only [St.bindCell, X.bV, X.bO, X.bN]
theorem bindCells_eq : ∀ (l : List X) (st : St), st.bindCells l = (X.bVs l st.n, { st with o := X.bOs l st.n st.o, n := X.bNs l st.n })
  | [], st => by simp only [St.bindCells, X.bVs, X.bOs, X.bNs]
  | x :: r, st => by simp only [St.bindCells, X.bVs, X.bOs, X.bNs, bindCell_eq x st, bindCells_eq r]
end
mutual
theorem X.bN_le : ∀ (x : X) (n : Nat), n ≤ x.bN n
  | .t u, n => by simp only [X.bN]; exact Nat.le_refl _
  | .nil, n => by simp only [X.bN]; exact Nat.le_refl _
  | .row e xs, n => by simp only [X.bN]; omega
  | .sref ty k sz cs, n => by simp only [X.bN]; have := X.bNs_le cs n; omega
  | .agg cs, n => by simp only [X.bN]; exact Nat.le_refl _
  | .ref ty cs, n => by simp only [X.bN]; exact Nat.le_refl _
  | .dref cs, n => by simp only [X.bN]; exact Nat.le_refl _
  | .fn g cs, n => by simp only [X.bN]; exact Nat.le_refl _
  | .meth g cs, n => by simp only [X.bN]; exact Nat.le_refl _
theorem X.bNs_le : ∀ (l : List X) (n : Nat), n ≤ X.bNs l n
  | [], n => by simp only [X.bNs]; exact Nat.le_refl _
  | x :: r, n => by simp only [X.bNs]; have := X.bN_le x n; have := X.bNs_le r (x.bN n); omega
end
mutual
theorem X.bO_low : ∀ (x : X) (n : Nat) (o : Nat → Ob) (i : Nat), i < n → x.bO n o i = o i
  | .t u, n, o, i, hi => by simp only [X.bO]
  | .nil, n, o, i, hi => by simp only [X.bO]
  | .row e xs, n, o, i, hi => by simp only [X.bO]; exact upd_ne _ _ (by omega)
  | .sref ty k sz cs, n, o, i, hi => by
    simp only [X.bO]
    have := X.bNs_le cs n
    rw [upd_ne _ _ (by omega)]
    exact X.bOs_low cs n o i hi
  | .agg cs, n, o, i, hi => by simp only [X.bO]
  | .ref ty cs, n, o, i, hi => by simp only [X.bO]
  | .dref cs, n, o, i, hi => by simp only [X.bO]
  | .fn g cs, n, o, i, hi => by simp only [X.bO]
  | .meth g cs, n, o, i, hi => by simp only [X.bO]
theorem X.bOs_low : ∀ (l : List X) (n : Nat) (o : Nat → Ob) (i : Nat), i < n → X.bOs l n o i = o i
  | [], n, o, i, hi => by simp only [X.bOs]
  | x :: r, n, o, i, hi => by
    simp only [X.bOs]
    have := X.bN_le x n
    rw [X.bOs_low r _ _ i (by omega)]
    exact X.bO_low x n o i hi
end
mutual
theorem X.bHeld : ∀ (x : X) (d n : Nat) (o : Nat → Ob), x.own d = true → ∃ ids, Held d (x.bO n o) (x.bV n) x ids ∧ ∀ i ∈ ids, n ≤ i ∧ i < x.bN n
  | .t u, d, n, o, h => by
    simp only [X.own] at h
    refine ⟨[], ?_, by simp⟩
    have : Held0 (X.bO (.t u) n o) (X.bV (.t u) n) (.t u) [] := .inl ⟨u, h, by simp only [X.bV], rfl, rfl⟩
    cases d
    · exact this
    · exact .inl this
  | .nil, d, n, o, h => by
    refine ⟨[], ?_, by simp⟩
    have : Held0 (X.bO .nil n o) (X.bV .nil n) .nil [] := .inr (.inl ⟨by simp only [X.bV], rfl, rfl⟩)
    cases d
    · exact this
    · exact .inl this
  | .row e xs, d, n, o, h => by
    refine ⟨[n], ?_, by simp [X.bN]⟩
    have : Held0 (X.bO (.row e xs) n o) (X.bV (.row e xs) n) (.row e xs) [n] := .inr (.inr ⟨n, e, xs, by simp only [X.bV], rfl, rfl, by simp only [X.bO]; exact upd_self _ _ _⟩)
    cases d
    · exact this
    · exact .inl this
  | .sref ty k sz cs, 0, n, o, h => by simp [X.own] at h
  | .sref ty k sz cs, d + 1, n, o, h => by
    simp only [X.own, Bool.and_eq_true, beq_iff_eq, decide_eq_true_eq] at h
    obtain ⟨⟨h1, h2⟩, h3⟩ := h
    obtain ⟨is, g1, g2⟩ := X.bHelds cs d n o h3
    have hb : X.bNs cs n ∉ is := fun hm => by have := (g2 _ hm).2; omega
    refine ⟨X.bNs cs n :: is, .inr ⟨X.bNs cs n, k, sz, ty, X.bVs cs n, cs, is, by simp only [X.bV], rfl, rfl, by simp only [X.bO]; exact upd_self _ _ _, by rw [← g1.len]; exact h1, h2, g1.frame (fun i hi => by simp only [X.bO]; exact upd_ne _ _ (fun e => hb (e ▸ hi))), hb⟩, fun i hi => ?_⟩
    simp only [X.bN]
    rcases List.mem_cons.1 hi with rfl | hi
    · exact ⟨X.bNs_le cs n, by omega⟩
    · have := g2 i hi
      omega
  | .agg cs, d, n, o, h => by cases d <;> simp [X.own] at h
  | .ref ty cs, d, n, o, h => by cases d <;> simp [X.own] at h
  | .dref cs, d, n, o, h => by cases d <;> simp [X.own] at h
  | .fn g cs, d, n, o, h => by cases d <;> simp [X.own] at h
  | .meth g cs, d, n, o, h => by cases d <;> simp [X.own] at h
theorem X.bHelds : ∀ (l : List X) (d n : Nat) (o : Nat → Ob), X.owns l d = true → ∃ is, AllH (Held d (X.bOs l n o)) (X.bVs l n) l is ∧ ∀ i ∈ is, n ≤ i ∧ i < X.bNs l n
  | [], d, n, o, h => ⟨[], by simp only [X.bVs]; exact .nil, by simp⟩
  | x :: r, d, n, o, h => by
    simp only [X.owns, Bool.and_eq_true] at h
    obtain ⟨i1, h1, h2⟩ := X.bHeld x d n o h.1
    obtain ⟨i2, k1, k2⟩ := X.bHelds r d (x.bN n) (x.bO n o) h.2
    have hle := X.bN_le x n
    have hle2 := X.bNs_le r (x.bN n)
    refine ⟨i1 ++ i2, ?_, fun i hi => ?_⟩
    · simp only [X.bVs, X.bOs]
      exact .cons (h1.frame (fun i hi => X.bOs_low r _ _ i (h2 i hi).2)) k1 (fun k hk hm => by have := (h2 k hk).2; have := (k2 k hm).1; omega)
    · simp only [X.bNs]
      rcases List.mem_append.1 hi with hi | hi
      · have := h2 i hi; omega
      · have := k2 i hi; omega
end
end
end Go.Ev
/- Slices of boxes in functions: what is built cell by cell, what is handed over. -/
set_option linter.unusedSimpArgs false
set_option linter.unusedVariables false
namespace Go.Ev
section
variable {R R' : SV → X → List Nat → Prop} {o o' : Nat → Ob} {st : St} {d : Nat} {v : SV} {x : X} {ids : List Nat} {l : List SV} {xs : List X} {is : List Nat}
theorem AllH.rep {z : List SV} {zx : List X} (h : AllH R z zx []) : ∀ n : Nat, AllH R (List.replicate n z).flatten (List.replicate n zx).flatten []
  | 0 => by simpa using AllH.nil
  | n + 1 => by
    rw [List.replicate_succ, List.flatten_cons, List.replicate_succ, List.flatten_cons]
    exact AllH.append h (AllH.rep h n) (by simp)
theorem AllH.splice {off : Nat} {vs : List SV} {ys : List X} {js : List Nat} (h : AllH R l xs is) (k : AllH R vs ys js) (hl : off + vs.length ≤ l.length) (hd : ∀ i ∈ js, i ∉ is) : ∃ is', AllH R (Ev.splice l off vs) (Ev.splice xs off ys) is' ∧ ∀ i ∈ is', i ∈ is ∨ i ∈ js := by
  have hkl := k.len
  have e : l = l.take off ++ (((l.drop off).take vs.length) ++ l.drop (off + vs.length)) := by
    rw [← List.drop_drop, List.take_append_drop, List.take_append_drop]
  rw [e] at h
  obtain ⟨xs1, xs2, i1, i2, rfl, rfl, h1, h2, h3⟩ := h.split
  obtain ⟨xs3, xs4, i3, i4, rfl, rfl, h4, h5, h6⟩ := h2.split
  have e1 : xs1.length = off := by rw [h1.len]; simp; omega
  have e3 : xs3.length = vs.length := by rw [h4.len]; simp; omega
  have hsp : Ev.splice (xs1 ++ (xs3 ++ xs4)) off ys = xs1 ++ (ys ++ xs4) := by
    unfold Ev.splice
    have t1 : (xs1 ++ (xs3 ++ xs4)).take off = xs1 := by rw [← e1]; simp
    have t2 : (xs1 ++ (xs3 ++ xs4)).drop (off + ys.length) = xs4 := by
      have : off + ys.length = xs1.length + xs3.length := by omega
      rw [this, ← List.append_assoc, ← List.length_append]
      simp
    rw [t1, t2, List.append_assoc]
  have hsl : Ev.splice l off vs = l.take off ++ (vs ++ l.drop (off + vs.length)) := by
    unfold Ev.splice
    rw [List.append_assoc]
  rw [hsp, hsl]
  refine ⟨i1 ++ (js ++ i4), h1.append (k.append h5 (fun i hi hm => hd i hi (by simp [hm]))) (fun i hi hm => ?_), fun i hi => ?_⟩
  · rcases List.mem_append.1 hm with hm | hm
    · exact hd i hm (by simp [hi])
    · exact h3 i hi (by simp [hm])
  · simp only [List.mem_append] at hi ⊢
    rcases hi with h | h | h
    · exact .inl (.inl h)
    · exact .inr h
    · exact .inl (.inr (.inr h))
/-- What is built so far: the first, then zeros. -/
def fillX {α : Type} (f : α → List X) (z : List X) (l : List α) (i : Nat) : List X := ((l.take i).map f).flatten ++ (List.replicate (l.length - i) z).flatten
theorem fillX_zero {α : Type} (f : α → List X) (z : List X) (l : List α) : fillX f z l 0 = (List.replicate l.length z).flatten := by simp [fillX]
theorem fillX_end {α : Type} (f : α → List X) (z : List X) (l : List α) : fillX f z l l.length = (l.map f).flatten := by simp [fillX]
theorem flat_len {α : Type} (f : α → List X) (m : Nat) (hf : ∀ a, (f a).length = m) : ∀ (l : List α), (l.map f).flatten.length = l.length * m
  | [] => by simp
  | a :: r => by
    rw [List.map_cons, List.flatten_cons, List.length_append, hf, flat_len f m hf r, List.length_cons, Nat.add_mul, Nat.one_mul]
    omega
theorem fillX_len {α : Type} (f : α → List X) (z : List X) (hf : ∀ a, (f a).length = z.length) (l : List α) {i : Nat} (hi : i ≤ l.length) : (fillX f z l i).length = l.length * z.length := by
  unfold fillX
  rw [List.length_append, flat_len f _ hf]
  simp
  rw [Nat.min_eq_left hi, ← Nat.add_mul]
  congr 1
  omega
theorem take_one {α : Type} (A B : List α) : (A ++ B).take A.length = A := by simp
theorem drop_two {α : Type} (A B C : List α) : (A ++ (B ++ C)).drop (A.length + B.length) = C := by
  rw [← List.append_assoc, ← List.length_append]
  simp
theorem fillX_step {α : Type} (f : α → List X) (z : List X) (hf : ∀ a, (f a).length = z.length) (l : List α) {i : Nat} (hi : i < l.length) : Ev.splice (fillX f z l i) (i * z.length) (f l[i]) = fillX f z l (i + 1) := by
  have e1 : ((l.take i).map f).flatten.length = i * z.length := by rw [flat_len f _ hf, List.length_take, Nat.min_eq_left (by omega)]
  obtain ⟨m, hm⟩ : ∃ m, l.length - i = m + 1 := ⟨l.length - i - 1, by omega⟩
  have hm' : l.length - (i + 1) = m := by omega
  unfold fillX Ev.splice
  rw [hm, hm', List.replicate_succ, List.flatten_cons, hf]
  have e2 : l.take (i + 1) = l.take i ++ [l[i]] := by rw [List.take_add_one, List.getElem?_eq_getElem hi]; rfl
  rw [e2, List.map_append, List.flatten_append]
  generalize ((l.take i).map f).flatten = A at *
  generalize (List.replicate m z).flatten = B
  rw [← e1, drop_two, take_one]
  simp
/-- The rest of a row's cells. -/
theorem flat_drop {α : Type} (f : α → List X) (m : Nat) (hf : ∀ a, (f a).length = m) (l : List α) (i : Nat) : ((l.map f).flatten).drop (i * m) = ((l.drop i).map f).flatten := by
  by_cases hi : i ≤ l.length
  · have e1 : ((l.take i).map f).flatten.length = i * m := by rw [flat_len f _ hf, List.length_take, Nat.min_eq_left (by omega)]
    have : (l.map f).flatten = ((l.take i).map f).flatten ++ ((l.drop i).map f).flatten := by
      rw [← List.flatten_append, ← List.map_append, List.take_append_drop]
    rw [this, ← e1]
    simp
  · have h1 : l.drop i = [] := List.drop_of_length_le (by omega)
    have h2 : (l.map f).flatten.length ≤ i * m := by
      rw [flat_len f _ hf]
      exact Nat.mul_le_mul_right m (by omega)
    rw [h1, List.drop_of_length_le h2]
    simp
theorem splice_drop {α : Type} (xs ys : List α) (off k : Nat) (h : off + ys.length ≤ k) (h2 : off + ys.length ≤ xs.length) : (Ev.splice xs off ys).drop k = xs.drop k := by
  apply List.ext_getElem?
  intro i
  rw [List.getElem?_drop, List.getElem?_drop, splice_get xs ys off (k + i) h2]
  rw [if_neg (by omega)]
/-! At a call. -/
theorem bind_own (h : x.own d = true) (st : St) : st.bind x = (x.bV st.n, { st with o := x.bO st.n st.o, n := x.bN st.n }) := by
  rw [← bindCell_eq]
  cases x <;> first
    | (cases d <;> simp [X.own] at h; done)
    | (simp only [St.bind, St.bindCell]; done)
    | skip
  rename_i t
  have h1 : t.one = true := by cases d <;> simpa [X.own] using h
  simp only [St.bind, St.bindCell]
  cases t <;> first | rfl | simp [T.one] at h1
theorem bV_cells (h : x.own d = true) (n : Nat) : (x.bV n).cells = [x.bV n] ∧ (x.bV n).one = true := by
  cases x <;> first
    | (cases d <;> simp [X.own] at h; done)
    | (simp only [X.bV]; exact ⟨rfl, rfl⟩)
    | skip
  rename_i t
  have h1 : t.one = true := by cases d <;> simpa [X.own] using h
  simp only [X.bV]
  exact ⟨rfl, h1⟩
theorem Held.one (h : Held d o v x ids) : v.cells = [v] ∧ v.one = true := by
  have h0 : ∀ {v : SV} {x : X} {ids : List Nat}, Held0 o v x ids → v.cells = [v] ∧ v.one = true := by
    rintro v x ids (⟨t, h1, rfl, _⟩ | ⟨rfl, _⟩ | ⟨r, e, xs, rfl, _⟩)
    · exact ⟨rfl, h1⟩
    · exact ⟨rfl, rfl⟩
    · exact ⟨rfl, rfl⟩
  cases d with
  | zero => exact h0 h
  | succ d =>
    rcases h with h | ⟨b, n, sz, ty, cells, xs, is, rfl, rfl, rfl, _⟩
    · exact h0 h
    · exact ⟨rfl, rfl⟩
theorem Held.takeC (h : Held d st.o v x ids) (hd : d ≤ 6) : st.takeCell v = some (x, { st with o := deadO ids st.o }) := by
  rw [← h.take 6 hd]
  have h0 : ∀ {v : SV} {x : X} {ids : List Nat}, Held0 st.o v x ids → st.takeCell v = takeF 6 st v := by
    rintro v x ids (⟨t, h1, rfl, _⟩ | ⟨rfl, _⟩ | ⟨r, e, xs, rfl, _⟩) <;> rfl
  cases d with
  | zero => exact h0 h
  | succ d =>
    rcases h with h | ⟨b, n, sz, ty, cells, xs, is, rfl, rfl, rfl, _⟩
    · exact h0 h
    · rfl
theorem AllH.takeC (h : AllH (Held d st.o) l xs is) (hd : d ≤ 6) : st.takeCells l = some (xs, { st with o := deadO is st.o }) := by
  have key : ∀ (l : List SV) (st : St), st.takeCells l = takesW St.takeCell st l := by
    intro l
    induction l with
    | nil => intro st; rfl
    | cons a r ih =>
      intro st
      simp only [St.takeCells, takesW]
      split
      · rfl
      · rename_i p heq
        rw [ih]
  rw [key]
  exact h.takes (fun st v x i h => h.takeC hd) st
/-- Who is no plain data. -/
def X.plain : X → Bool
  | .t _ => true
  | _ => false
theorem Held.mut (h : Held d st.o v x ids) (hd : d ≤ 6) (hp : x.plain = false) : st.giveMut v = some x ∧ st.mutIds v = ids := by
  obtain ⟨h1, h2, _, _⟩ := h.all 6 hd
  have h0 : Held0 st.o v x ids → st.giveMut v = some x ∧ st.mutIds v = ids := by
    rintro (⟨t, _, rfl, rfl, _⟩ | ⟨rfl, rfl, rfl⟩ | ⟨r, e, xs, rfl, rfl, rfl, ho⟩)
    · simp [X.plain] at hp
    · exact ⟨rfl, rfl⟩
    · simp [St.giveMut, St.mutIds, ho]
  cases d with
  | zero => exact h0 h
  | succ d =>
    rcases h with h | ⟨b, n, sz, ty, cells, xs, is, rfl, rfl, rfl, _⟩
    · exact h0 h
    · exact ⟨h1, h2⟩
theorem AllH.give (h : AllH (Held d st.o) l xs is) (hd : d ≤ 6) : st.giveCells l = some xs ∧ liveIds st l = is := by
  have h0 : ∀ {v : SV} {x : X} {ids : List Nat}, Held d st.o v x ids → st.giveCell v = some x ∧ liveIds st [v] = ids := by
    intro v x ids h
    obtain ⟨h1, h2, _, _⟩ := h.all 6 hd
    rw [← h1, ← h2]
    have key : ∀ b n sz, v ≠ .sl b n sz → True := fun _ _ _ _ => trivial
    cases v <;> first
      | exact ⟨rfl, rfl⟩
      | (refine ⟨rfl, ?_⟩; simp only [liveIds, List.append_nil]; done)
      | (refine ⟨rfl, ?_⟩; simp only [liveIds, St.liveF]; split <;> rfl)
  induction h with
  | nil => exact ⟨rfl, rfl⟩
  | cons h r hd' ih =>
    obtain ⟨g1, g2⟩ := h0 h
    refine ⟨by simp only [St.giveCells, g1, ih.1], ?_⟩
    rw [liveIds_cons, g2, ih.2]
theorem kill_dead : ∀ (ids : List Nat) (st : St), kill ids st = { st with o := deadO ids st.o }
  | [], st => by simp [kill, deadO_nil]
  | i :: r, st => by
    have : kill (i :: r) st = kill r (st.setO i .dead) := rfl
    rw [this, kill_dead r]
    simp only [St.setO, deadO_one, deadO_app]
    rfl
theorem Held.ro (h : Held d st.o v x ids) (hd : d ≤ 6) : st.giveRo v = some (.t x.dat) ∧ st.roIds v = ids := by
  obtain ⟨_, _, h3, h4⟩ := h.all 6 hd
  have h0 : Held0 st.o v x ids → st.giveRo v = some (.t x.dat) ∧ st.roIds v = ids := by
    rintro (⟨t, h1, rfl, rfl, rfl⟩ | ⟨rfl, rfl, rfl⟩ | ⟨r, e, xs, rfl, rfl, rfl, ho⟩)
    · simp [St.giveRo, St.lookX, St.peek, St.peek1, h1, X.dat, St.roIds, SV.cells, rowIds, St.slIds]
    · simp [St.giveRo, St.lookX, St.peek, St.peek1, X.dat, St.roIds, SV.cells, rowIds, St.slIds]
    · simp [St.giveRo, St.lookX, St.peek, St.peek1, ho, X.dat, St.roIds, SV.cells, rowIds, St.slIds]
  cases d with
  | zero => exact h0 h
  | succ d =>
    rcases h with h | ⟨b, n, sz, ty, cells, xs, is, rfl, rfl, rfl, _⟩
    · exact h0 h
    · refine ⟨?_, ?_⟩
      · simp only [St.giveRo, St.lookX, St.peek, St.peek1, St.peekX, h4, Option.map_some]
      · simp only [St.roIds, SV.cells, rowIds, St.slIds, List.nil_append, List.append_nil]
        exact h3
end
end Go.Ev
