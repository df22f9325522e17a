/- Operations that write and make memory. -/
import Derived.Test.YtdpkfljiipkhfaaGreatDoorPartRA
import Derived.Laws.Append
import Derived.Laws.AppendOwn
import Derived.Laws.BitsLemmas
import Derived.Laws.Tables
namespace Go.Ev
set_option linter.unusedSimpArgs false
set_option linter.unusedVariables false
section
variable {E : Env} {P : Program} {M0 : Nat → Prop} {w0 : World} {c : Ctx} {st st' : St} {a : Act} {w w' : World}

theorem oneV_oneCell {v : Value} (h : oneV v = true) : v.oneCell' = true := by cases v <;> first | rfl | (simp [oneV] at h)
theorem storeCells_ok {g o ty : Nat} {fr : Nat × Nat} : ∀ (xs : List Value) (i : Nat) (w : World) (vs : Array Value), w.heap[g]? = some (.cells vs ty fr) → (∀ x ∈ xs, oneV x = true) → o + i + xs.length ≤ vs.size →
    (∀ j, o + i ≤ j → j < o + i + xs.length → ¬ (fr.1 ≤ j ∧ j < fr.2)) → ∃ w', (storeCells ⟨g, o, none⟩ xs i).run P w = .ok () w' ∧ Same w w' (fun k => k = g) ∧ ∃ vs' : Array Value, w'.heap[g]? = some (.cells vs' ty fr) ∧ vs'.size = vs.size ∧
      ∀ j, vs'[j]? = if o + i ≤ j ∧ j < o + i + xs.length then xs[j - (o + i)]? else vs[j]?
  | [], i, w, vs, hh, _, _, _ => ⟨w, rfl, Same.refl _ _, vs, hh, rfl, fun j => by rw [if_neg (by simp)]⟩
  | x :: r, i, w, vs, hh, h1, hl, hfr => by
    simp only [List.length_cons] at hl hfr
    have hc : w.cell? ⟨g, o + i, none⟩ = some vs[o + i] := by simp [World.cell?, hh]
    have hf : w.frozen? ⟨g, o + i, none⟩ = false := by
      have := hfr (o + i) (Nat.le_refl _) (by omega)
      obtain ⟨lo, hi⟩ := fr
      simp only [World.frozen?, hh]
      simp at this ⊢
      omega
    have hlt : g < w.heap.size := (Array.getElem?_eq_some_iff.1 hh).1
    have hset : (w.setCell ⟨g, o + i, none⟩ x).heap[g]? = some (.cells (vs.setIfInBounds (o + i) x) ty fr) := by
      simp [World.setCell, Array.getElem?_modify, hh]
    have hsame : Same w (w.setCell ⟨g, o + i, none⟩ x) (fun k => k = g) := by
      refine ⟨by simp [World.setCell], fun k hk hne => ?_, rfl, rfl, rfl⟩
      simp only [World.setCell, Array.getElem?_modify]
      rw [if_neg (fun e => hne e.symm)]
    have hl2 : o + (i + 1) + r.length ≤ (vs.setIfInBounds (o + i) x).size := by rw [Array.size_setIfInBounds]; omega
    obtain ⟨w', e1, e2, vs', e3, e4, e5⟩ := storeCells_ok r (i + 1) (w.setCell ⟨g, o + i, none⟩ x) (vs.setIfInBounds (o + i) x) hset (fun y hy => h1 y (List.mem_cons_of_mem _ hy)) hl2 (fun j h2 h3 => hfr j (by omega) (by omega))
    refine ⟨w', ?_, hsame.trans e2 (fun _ _ h => h), vs', e3, by simpa using e4, fun j => ?_⟩
    · simp only [storeCells, Sem.run_bind, add_at]
      rw [run_store P w _ x .plain (oneV_oneCell (h1 x (by simp)))]
      simp only [hc, hf, Bool.false_eq_true, if_false, Result.andThen_ok]
      exact e1
    · rw [e5 j]
      by_cases hj : o + i = j
      · subst hj
        have hz : o + i - (o + i) = 0 := by omega
        have hlt2 : o + i < vs.size := by omega
        rw [if_neg (by omega), if_pos (by simp), hz]
        simp [Array.getElem?_setIfInBounds, hlt2]
      · by_cases hj2 : o + (i + 1) ≤ j ∧ j < o + (i + 1) + r.length
        · rw [if_pos hj2, if_pos (by simp; omega)]
          have : j - (o + i) = j - (o + (i + 1)) + 1 := by omega
          rw [this, List.getElem?_cons_succ]
        · rw [if_neg hj2, if_neg (by simp; omega)]
          simp [Array.getElem?_setIfInBounds, hj]

theorem Rel.cells (hI : Inv E M0 w0 c st w) {s : SV} {v : Value} (hr : Rel c w s v) (h1 : s.cells.all SV.one = true) : v.cells.size = s.cells.length ∧ (∀ x ∈ s.cells, x.one = true) ∧ (∀ u ∈ v.cells.toList, oneV u = true) ∧ ∀ (i : Nat) x u, s.cells[i]? = some x → v.cells[i]? = some u → Rel c w x u := by
  have hall := List.all_eq_true.1 h1
  have hval : ∀ (x : SV) (u : Value), Rel c w x u → x.one = true → oneV u = true := by
    intro x u hr ho
    refine hr.one ho (fun r e => ?_)
    subst e
    cases hr with
    | row _ hrn => exact hI.one r (by rw [← hI.n]; exact hrn)
  have key : s.cells = [s] → v.cells.size = s.cells.length ∧ (∀ x ∈ s.cells, x.one = true) ∧ (∀ u ∈ v.cells.toList, oneV u = true) ∧ ∀ (i : Nat) x u, s.cells[i]? = some x → v.cells[i]? = some u → Rel c w x u := by
    intro hs
    have ho := hall s (by rw [hs]; simp)
    have hv := hval _ _ hr ho
    rw [oneV_cells hv, hs]
    refine ⟨rfl, fun x hx => ?_, fun u hu => ?_, fun i x u hx hu => ?_⟩
    · obtain rfl := List.mem_singleton.1 hx; exact ho
    · obtain rfl := List.mem_singleton.1 hu; exact hv
    · cases i with
      | zero => simp at hx hu; subst hx; subst hu; exact hr
      | succ i => simp at hx
  cases hr with
  | agg cs vs hl h1' hr =>
    refine ⟨hl.symm, h1', fun u hu => ?_, hr⟩
    have hu' : u ∈ vs.toList := hu
    obtain ⟨i, hi⟩ := List.mem_iff_getElem?.1 hu'
    have hlt := (List.getElem?_eq_some_iff.1 hi).1
    have hlt' : i < cs.length := by rw [hl]; simpa using hlt
    exact hval _ _ (hr i _ u (List.getElem?_eq_getElem hlt') (by simpa using hi)) (h1' _ (List.getElem_mem hlt'))
  | _ => exact key rfl

theorem Same.push {o : Obj} (hh : w'.heap = w.heap.push o) (ht : w'.tape = w.tape) (ho : w'.os = w.os) (hu : w'.output = w.output) : Same w w' (fun k => k = w.heap.size) := by
  refine ⟨by rw [hh]; simp, fun k hk _ => ?_, ht, ho, hu⟩
  rw [hh, Array.getElem?_push]
  rw [if_neg (by omega)]
/-- A new block, a new object. -/
theorem Step.new (hI : Inv E M0 w0 c st w) {ob : Ob} {o : Obj} {v x : Value} {z : Nat} {s : SV} (hh : w'.heap = w.heap.push o) (ht : w'.tape = w.tape) (ho : w'.os = w.os) (hu : w'.output = w.output) (hv : oneV v = true)
    (hob : ObOK E (c.push w.heap.size v z) w' c.n ob) (hs : Rel (c.push w.heap.size v z) w' s x) : Step E M0 w0 c st w s (st.alloc ob) (c.push w.heap.size v z) x w' := by
  have hsame := Same.push hh ht ho hu
  refine ⟨c.le_push _ _ _, hI.add _ v z hsame (by rw [hh]; simp) (fun hF => Nat.lt_irrefl _ (hI.F _ hF)) (.inr hI.same.size) (fun i hi oi e => ?_) hv hob, fun k hk => hsame.blk k (hI.F k hk) (fun e => ?_), rfl, rfl, hs⟩
  · have := (hI.own i hi oi).1
    omega
  · have := hI.F k hk
    omega
theorem box_step (hI : Inv E M0 w0 c st w) {e : Nat} {cells : List SV} {vs : Array Value} (hl : vs.size = cells.length) (h1 : ∀ x ∈ cells, x.one = true) (hr : ∀ (i : Nat) x u, cells[i]? = some x → vs[i]? = some u → Rel c w x u) :
    Step E M0 w0 c st w (.ptr st.n 0) (st.alloc (.box e cells)) (c.push w.heap.size .nilFunc 0) (.pointer (some ⟨w.heap.size, 0, none⟩)) (w.alloc (.cells vs e)) := by
  have hle := c.le_push w.heap.size .nilFunc 0
  have hloc : (c.push w.heap.size .nilFunc 0).loc c.n = w.heap.size := upd_self _ _ _
  refine Step.new hI rfl rfl rfl rfl rfl ⟨vs, ?_, hl, h1, fun j s v hs hv => ?_⟩ ?_
  · rw [hloc]
    show (w.heap.push _)[w.heap.size]? = _
    simp
  · refine (hr j s v hs hv).mono hle (fun k hk => ?_)
    have := hI.F k hk
    show (w.heap.push _)[k]? = _
    rw [Array.getElem?_push, if_neg (by omega)]
  · have := Rel.ptr (c := c.push w.heap.size .nilFunc 0) (w := w.alloc (.cells vs e)) c.n 0 (Nat.lt_succ_self _)
    rw [hloc, hI.n] at this
    exact this
theorem zero_rel (hP : POK E P) {t : Nat} (hk : (E.ty t).k ≠ .other) : ∃ z, (zeroValue t).run P w = .ok z w ∧ z.cells.size = (E.ty t).zero.length ∧ (E.ty t).zero.length = (E.ty t).size ∧ (∀ x ∈ (E.ty t).zero, x.one = true) ∧
    (∀ (i : Nat) x u, (E.ty t).zero[i]? = some x → z.cells[i]? = some u → x = ofConst u) ∧ (match z with | .agg _ => (E.ty t).agg = true | _ => (E.ty t).agg = false) := by
  obtain ⟨q, z, h1, _, _, h2, h3, h4, _, h5, h6, _⟩ := (hP.ty t).info hk
  refine ⟨z, zero_run h1 h2, h3, h4, fun x hx => ?_, fun i x u hx hu => (h5 i x u hx hu).1, h6⟩
  obtain ⟨i, hi⟩ := List.mem_iff_getElem?.1 hx
  have hlt := (List.getElem?_eq_some_iff.1 hi).1
  exact (h5 i x _ hi (Array.getElem?_eq_getElem (by omega))).2
theorem alloc_step (hP : POK E P) (hI : Inv E M0 w0 c st w) {e : Nat} (hk : (E.ty e).known = true) : ∃ x w', (Instr.alloc e true (.tuple #[])).run P w = .ok x w' ∧ ∃ c', Step E M0 w0 c st w (.ptr st.n 0) (st.alloc (.box e (E.ty e).zero)) c' x w' := by
  obtain ⟨z, hz, h1, h2, h3, h4, _⟩ := zero_rel (w := w) hP (known_ne (t := E.ty e) (by simp [hk]))
  refine ⟨_, _, ?_, _, box_step hI h1 h3 (fun i x u hx hu => by rw [h4 i x u hx hu]; exact ofConst_rel c w u)⟩
  simp only [Instr.alloc, Sem.run_bind, hz, Result.andThen_ok, newVar, newRow, run_newObj, Sem.run_pure]
  rfl

theorem splice_get {α : Type} (xs ys : List α) (off j : Nat) (h : off + ys.length ≤ xs.length) : (splice xs off ys)[j]? = if off ≤ j ∧ j < off + ys.length then ys[j - off]? else xs[j]? := by
  unfold splice
  rw [List.append_assoc, List.getElem?_append]
  have hl : (xs.take off).length = off := by simp; omega
  rw [hl]
  by_cases h1 : j < off
  · rw [if_pos h1, if_neg (by omega), List.getElem?_take, if_pos h1]
  · rw [if_neg h1, List.getElem?_append]
    by_cases h2 : j - off < ys.length
    · rw [if_pos h2, if_pos (by omega)]
    · rw [if_neg h2, if_neg (by omega), List.getElem?_drop]
      congr 1
      omega
theorem splice_length {α : Type} (xs ys : List α) (off : Nat) (h : off + ys.length ≤ xs.length) : (splice xs off ys).length = xs.length := by
  unfold splice
  simp
  omega
theorem splice_mem {α : Type} {xs ys : List α} {off : Nat} {x : α} (h : x ∈ splice xs off ys) : x ∈ xs ∨ x ∈ ys := by
  unfold splice at h
  rcases List.mem_append.1 h with h | h
  · rcases List.mem_append.1 h with h | h
    · exact .inl (List.mem_of_mem_take h)
    · exact .inr h
  · exact .inl (List.mem_of_mem_drop h)

theorem storeVar_run (hP : POK E P) {t g o ty : Nat} {v : Value} {fr : Nat × Nat} {vs : Array Value} (hk : (E.ty t).known = true) (hl : v.cells.size = (E.ty t).size) (h1 : ∀ u ∈ v.cells.toList, oneV u = true) (hh : w.heap[g]? = some (.cells vs ty fr)) (hb : o + v.cells.size ≤ vs.size)
    (hfr : ∀ j, o ≤ j → j < o + v.cells.size → ¬ (fr.1 ≤ j ∧ j < fr.2)) : ∃ w', (Instr.storeAt t (.pointer (some ⟨g, o, none⟩)) v).run P w = .ok () w' ∧ Same w w' (fun k => k = g) ∧ ∃ vs' : Array Value, w'.heap[g]? = some (.cells vs' ty fr) ∧ vs'.size = vs.size ∧
      ∀ j, vs'[j]? = if o ≤ j ∧ j < o + v.cells.size then v.cells[j - o]? else vs[j]? := by
  obtain ⟨w', e1, e2, vs', e3, e4, e5⟩ := storeCells_ok (P := P) (o := o) v.cells.toList 0 w vs hh h1 (by simpa using hb) (by simpa using hfr)
  refine ⟨w', ?_, e2, vs', e3, e4, fun j => ?_⟩
  · have hz := (hP.ty t).size_run (w := w) (known_ne (t := E.ty t) (by simp [hk]))
    simp only [Instr.storeAt, Instr.sureAddr, Sem.run_bind, Sem.run_pure, Result.andThen_ok, storeVar, hz]
    rw [if_neg (by omega)]
    exact e1
  · have := e5 j
    simpa using this
theorem store_step (hP : POK E P) (hI : Inv E M0 w0 c st w) {t : Nat} {s x : SV} {u v : Value} {st1 : St} (hs : Rel c w s u) (hx : Rel c w x v) (h : st.storeAt E t s x = some st1) :
    ∃ w', (Instr.storeAt t u v).run P w = .ok () w' ∧ ∃ c', Step E M0 w0 c st w .undef st1 c' undef w' := by
  unfold St.storeAt at h
  split at h
  · rename_i hc
    obtain ⟨hl, hone, hk⟩ := hc
    obtain ⟨q1, q2, q3, q4⟩ := hx.cells hI hone
    have hvl : v.cells.size = (E.ty t).size := by rw [q1, hl]
    split at h
    · rename_i b off
      split at h
      · rename_i ty cells hb
        split at h
        · rename_i hle
          obtain rfl := Option.some.inj h
          cases hs with
          | ptr _ _ hbn =>
            have hbn' : b < st.n := by rw [← hI.n]; exact hbn
            have hob := hI.obs b hbn'
            rw [hb] at hob
            obtain ⟨vs, e1, e2, e3, e4⟩ := hob
            obtain ⟨w', f1, f2, vs', f3, f4, f5⟩ := storeVar_run (o := off) hP hk hvl q3 e1 (by omega) (fun j _ _ => by simp)
            have hown : Owns c b (st.o b) := by rw [hb]; trivial
            have hF := (hI.own b hbn' hown).2.1
            have hkeep : ∀ k, c.F k → w'.heap[k]? = w.heap[k]? := fun k hk => f2.blk k (hI.F k hk) (fun e => hF (e ▸ hk))
            refine ⟨w', f1, c, Ctx.Le.refl c, hI.write hbn' hown f2 ⟨vs', f3, ?_, ?_, fun j s v' hs hv => ?_⟩, hkeep, rfl, rfl, .undef _⟩
            · rw [f4, e2, splice_length _ _ _ (by omega)]
            · intro y hy
              rcases splice_mem hy with hy | hy
              · exact e3 y hy
              · exact q2 y hy
            · rw [splice_get _ _ _ _ (by omega)] at hs
              rw [f5] at hv
              by_cases hj : off ≤ j ∧ j < off + x.cells.length
              · rw [if_pos hj] at hs
                rw [if_pos (by rw [q1]; exact hj)] at hv
                exact (q4 _ _ _ hs hv).mono (Ctx.Le.refl c) hkeep
              · rw [if_neg hj] at hs
                rw [if_neg (by rw [q1]; exact hj)] at hv
                exact (e4 _ _ _ hs hv).mono (Ctx.Le.refl c) hkeep
        · cases h
      · cases h
    · rename_i r i off
      split at h
      · rename_i ts st2 hab
        split at h
        · rename_i e xs ho
          split at h
          · rename_i y hy
            split at h
            · rename_i y' hset
              obtain rfl := Option.some.inj h
              obtain ⟨F, g1, g2, g3, g4, g5, g6, g7, g8, g9⟩ := absorbL_ok (vs := v.cells.toList) hI (by simpa using q1) (fun i s u hs hu => q4 i s u hs (by simpa using hu)) hab
              have hle : c.Le (c.withF F) := Ctx.le_withF g2
              cases hs with
              | eptr _ _ _ g o n k hrn hval hi =>
                have hr' : r < st2.n := by rw [g9, ← hI.n]; exact hrn
                have hob := g1.obs r hr'
                rw [ho] at hob
                obtain ⟨z1, z2, ⟨A, k', hv', hk', hm'⟩, z4, z5, z6⟩ := hob
                have hval' : (c.withF F).val r = .slice (some ⟨g, o, none⟩) n k := hval
                rw [hval'] at hv'
                injection hv' with e1 e2 e3
                subst e1; subst e2; subst e3
                obtain ⟨o', vs, lo, hi', e1, e2, e3, e4, e5⟩ := z6 _ _ _ hval' (by omega)
                injection e1 with e1
                injection e1 with e1 e1'
                subst e1'
                have hw : y.cells.length = c.sz r := z4 y (List.mem_of_getElem? hy)
                -- the element's new cells
                have hset' : off + ts.length ≤ y.cells.length ∧ y'.cells = splice y.cells off ts := by
                  unfold T.setCells at hset
                  split at hset
                  · split at hset
                    · rename_i cs hle2
                      obtain rfl := Option.some.inj hset
                      exact ⟨hle2, rfl⟩
                    · cases hset
                  · rename_i hna
                    split at hset
                    · rename_i t0
                      obtain rfl := Option.some.inj hset
                      have ht0 : t0.one = true := g4 t0 (by simp)
                      have hc1 : ∀ z : T, z.one = true → z.cells = [z] := fun z hz => by cases z <;> first | rfl | (simp [T.one] at hz)
                      have hc2 : y.cells = [y] := by cases y <;> first | rfl | exact absurd rfl (hna _)
                      rw [hc1 _ ht0, hc2]
                      exact ⟨Nat.le_refl _, rfl⟩
                    · cases hset
                obtain ⟨hle2, hcells⟩ := hset'
                have hlen : ts.length = v.cells.size := by rw [g3, q1]
                have hisz : (i + 1) * c.sz r ≤ k * c.sz r := Nat.mul_le_mul_right _ (by omega)
                rw [Nat.add_mul, Nat.one_mul] at hisz
                have e3' : o + k * c.sz r ≤ vs.size := e3
                obtain ⟨w', f1, f2, vs', f3, f4, f5⟩ := storeVar_run (P := P) (t := t) (o := o + (i * c.sz r + off)) hP hk hvl q3 (e1 ▸ e2) (by omega) (fun j h1 h2 => e4 j (by omega) (by show j < o + k * c.sz r; omega))
                have hown : Owns (c.withF F) r (st2.o r) := by rw [ho]; exact ⟨_, _, _, hval', by omega⟩
                obtain ⟨l1, l2, l3⟩ := g1.own r hr' hown
                have hloc : (c.withF F).loc r = g := e1.symm
                have f2' : Same w w' (fun k => k = (c.withF F).loc r) := by rw [hloc]; exact f2
                have hkeep : ∀ k, F k → w'.heap[k]? = w.heap[k]? := fun k hk => f2'.blk k (g1.F k hk) (fun e => l2 (e ▸ hk))
                have hxs : (xs.set i y').length = xs.length := List.length_set
                have hmem : ∀ z ∈ xs.set i y', z ∈ xs ∨ z = y' := fun z hz => List.mem_or_eq_of_mem_set hz
                refine ⟨w', f1, c.withF F, hle, g1.write hr' hown f2' ⟨z1, z2, ⟨_, k, by rw [hxs]; exact hval', by rw [hxs]; exact hk', hm'⟩, fun z hz => ?_, fun z hz q hq => ?_, fun A n2 k2 hv2 hk2 => ?_⟩, fun k hk => hkeep k (g2 k hk), g7, g8, .undef _⟩
                · rcases hmem z hz with hz | rfl
                  · exact z4 z hz
                  · rw [hcells, splice_length _ _ _ hle2]; exact hw
                · rcases hmem z hz with hz | rfl
                  · exact z5 z hz q hq
                  · rw [hcells] at hq
                    rcases splice_mem hq with hq | hq
                    · exact z5 y (List.mem_of_getElem? hy) q hq
                    · exact g4 q hq
                · rw [hval'] at hv2
                  injection hv2 with a1 a2 a3
                  subst a1; subst a2; subst a3
                  refine ⟨o, vs', lo, hi', by rw [hloc], by rw [hloc]; exact f3, by rw [f4]; exact e3, e4, fun j z tt q hz hq => ?_⟩
                  show ∃ v_1, vs'[o + (j * c.sz r + tt)]? = some v_1 ∧ RD F w' q v_1
                  rw [f5, ← hlen]
                  rw [List.getElem?_set] at hz
                  by_cases hij : i = j
                  · subst hij
                    rw [if_pos rfl, if_pos hi] at hz
                    obtain rfl : y' = z := by simpa using hz
                    rw [hcells, splice_get _ _ _ _ hle2] at hq
                    by_cases hin : off ≤ tt ∧ tt < off + ts.length
                    · rw [if_pos hin] at hq
                      rw [if_pos (by omega)]
                      have hidx : o + (i * c.sz r + tt) - (o + (i * c.sz r + off)) = tt - off := by omega
                      rw [hidx]
                      have hlt : tt - off < v.cells.size := by rw [← hlen]; omega
                      refine ⟨v.cells[tt - off], Array.getElem?_eq_getElem hlt, ?_⟩
                      have := g6 (tt - off) q v.cells[tt - off] hq (by simp [hlt])
                      exact this.mono (fun _ h => h) hkeep
                    · rw [if_neg hin] at hq
                      have htt := (List.getElem?_eq_some_iff.1 hq).1
                      rw [if_neg (by omega)]
                      obtain ⟨v1, hv1, hv2⟩ := e5 i y tt q hy hq
                      exact ⟨v1, hv1, hv2.mono (fun _ h => h) hkeep⟩
                  · rw [if_neg hij] at hz
                    have htt := (List.getElem?_eq_some_iff.1 hq).1
                    rw [z4 z (List.mem_of_getElem? hz)] at htt
                    have htt' : tt < c.sz r := htt
                    have hne : ¬ (o + (i * c.sz r + off) ≤ o + (j * c.sz r + tt) ∧ o + (j * c.sz r + tt) < o + (i * c.sz r + off) + ts.length) := by
                      intro hh
                      rcases Nat.lt_or_gt_of_ne hij with h1 | h1
                      · have := Nat.mul_le_mul_right (c.sz r) (show i + 1 ≤ j by omega)
                        rw [Nat.add_mul, Nat.one_mul] at this
                        omega
                      · have := Nat.mul_le_mul_right (c.sz r) (show j + 1 ≤ i by omega)
                        rw [Nat.add_mul, Nat.one_mul] at this
                        omega
                    rw [if_neg hne]
                    obtain ⟨v1, hv1, hv2⟩ := e5 j z tt q hz hq
                    exact ⟨v1, hv1, hv2.mono (fun _ h => h) hkeep⟩
            · cases h
          · cases h
        · cases h
      · cases h
    · cases h
  · cases h
end
section
variable {E : Env} {P : Program} {M0 : Nat → Prop} {w0 : World} {c : Ctx} {st st' : St} {a : Act} {w w' : World}

theorem row_step (hI : Inv E M0 w0 c st w) {xs : List T} {e z k : Nat} {vs : Array Value} {fr : Nat × Nat} (hh : w'.heap = w.heap.push (.cells vs e fr)) (ht : w'.tape = w.tape) (ho : w'.os = w.os) (hu : w'.output = w.output)
    (hz : z = (E.ty e).size) (hz0 : 0 < z) (hk : xs.length ≤ k) (hm : k ≤ maxLen) (hw : ∀ x ∈ xs, x.cells.length = z) (h1 : ∀ x ∈ xs, ∀ y ∈ x.cells, y.one = true) (hvs : k * z ≤ vs.size) (hfr : ∀ j, j < k * z → ¬ (fr.1 ≤ j ∧ j < fr.2))
    (hc : ∀ (j : Nat) x (t : Nat) y, xs[j]? = some x → x.cells[t]? = some y → ∃ v, vs[j * z + t]? = some v ∧ RD c.F w y v) :
    Step E M0 w0 c st w (.row st.n) (st.alloc (.row e xs true)) (c.push w.heap.size (.slice (some ⟨w.heap.size, 0, none⟩) xs.length k) z) (.slice (some ⟨w.heap.size, 0, none⟩) xs.length k) w' := by
  have hloc : (c.push w.heap.size (.slice (some ⟨w.heap.size, 0, none⟩) xs.length k) z).loc c.n = w.heap.size := upd_self _ _ _
  have hval : (c.push w.heap.size (.slice (some ⟨w.heap.size, 0, none⟩) xs.length k) z).val c.n = .slice (some ⟨w.heap.size, 0, none⟩) xs.length k := upd_self _ _ _
  have hsz : (c.push w.heap.size (.slice (some ⟨w.heap.size, 0, none⟩) xs.length k) z).sz c.n = z := upd_self _ _ _
  have hkeep : ∀ k, c.F k → w'.heap[k]? = w.heap[k]? := fun k hk => by
    have := hI.F k hk
    rw [hh, Array.getElem?_push, if_neg (by omega)]
  refine Step.new hI hh ht ho hu rfl ⟨by rw [hsz, hz], by rw [hsz]; exact hz0, ⟨_, k, hval, hk, hm⟩, by rw [hsz]; exact hw, h1, fun A n k' hv hk' => ?_⟩ ?_
  · rw [hval] at hv
    injection hv with e1 e2 e3
    subst e1; subst e2; subst e3
    obtain ⟨lo, hi⟩ := fr
    refine ⟨0, vs, lo, hi, by rw [hloc], by rw [hloc, hh]; simp, by rw [hsz]; omega, fun j _ hj => hfr j (by rw [hsz] at hj; omega), fun j x t y hx hy => ?_⟩
    rw [hsz, Nat.zero_add]
    obtain ⟨v, hv1, hv2⟩ := hc j x t y hx hy
    exact ⟨v, hv1, hv2.mono (fun _ h => h) hkeep⟩
  · have := Rel.row (c := c.push w.heap.size (.slice (some ⟨w.heap.size, 0, none⟩) xs.length k) z) (w := w') c.n (Nat.lt_succ_self _)
    rw [hval, hI.n] at this
    exact this

theorem one_cells {t : T} (h : t.one = true) : t.cells = [t] := by cases t <;> first | rfl | (simp [T.one] at h)
theorem absorb_ok (hI : Inv E M0 w0 c st w) {s : SV} {v : Value} {t : T} {st1 : St} (hr : Rel c w s v) (hone : s.cells.all SV.one = true) (h : st.absorb s = some (t, st1)) :
    ∃ F, Inv E M0 w0 (c.withF F) st1 w ∧ (∀ k, c.F k → F k) ∧ t.cells.length = s.cells.length ∧ (∀ y ∈ t.cells, y.one = true) ∧ (∀ (i : Nat) y u, t.cells[i]? = some y → v.cells[i]? = some u → RD F w y u) ∧ v.cells.size = s.cells.length ∧ (∀ u ∈ v.cells.toList, oneV u = true) ∧ st1.s = st.s ∧ st1.N = st.N ∧ st1.n = st.n := by
  obtain ⟨q1, q2, q3, q4⟩ := hr.cells hI hone
  cases s with
  | agg cs =>
    simp only [St.absorb] at h
    split at h
    · cases h
    · rename_i ts st2 hab
      simp only [Option.some.injEq, Prod.mk.injEq] at h
      obtain ⟨rfl, rfl⟩ := h
      obtain ⟨F, g1, g2, g3, g4, g5, g6, g7, g8, g9⟩ := absorbL_ok (vs := v.cells.toList) hI (by simpa [SV.cells] using q1) (fun i s u hs hu => q4 i s u hs (by simpa using hu)) hab
      exact ⟨F, g1, g2, g3, g4, fun i y u hy hu => g6 i y u hy (by simpa using hu), q1, q3, g7, g8, g9⟩
  | _ =>
    have h' := h
    simp only [St.absorb] at h'
    obtain ⟨F, g1, g2, g3, g4, g5⟩ := absorb1_ok hI hr h'
    have hv := oneV_cells (g3.one g4)
    refine ⟨F, g1, g2, by rw [one_cells g4]; rfl, fun y hy => ?_, fun i y u hy hu => ?_, q1, q3, g5⟩
    · rw [one_cells g4] at hy
      obtain rfl := List.mem_singleton.1 hy
      exact g4
    · rw [one_cells g4] at hy
      rw [hv] at hu
      cases i with
      | zero => simp at hy hu; subst hy; subst hu; exact g3
      | succ i => simp at hy
theorem absorbAll_ok : ∀ {l : List SV} {c : Ctx} {st st1 : St} {ts : List T} {vs : List Value}, Inv E M0 w0 c st w → vs.length = l.length → (∀ (i : Nat) s v, l[i]? = some s → vs[i]? = some v → Rel c w s v) → (∀ s ∈ l, s.cells.all SV.one = true) → st.absorbAll l = some (ts, st1) →
    ∃ F, Inv E M0 w0 (c.withF F) st1 w ∧ (∀ k, c.F k → F k) ∧ ts.length = l.length ∧
      (∀ (i : Nat) s t v, l[i]? = some s → ts[i]? = some t → vs[i]? = some v → t.cells.length = s.cells.length ∧ (∀ y ∈ t.cells, y.one = true) ∧ (∀ (i : Nat) y u, t.cells[i]? = some y → v.cells[i]? = some u → RD F w y u) ∧ v.cells.size = s.cells.length ∧ (∀ u ∈ v.cells.toList, oneV u = true)) ∧ st1.s = st.s ∧ st1.N = st.N ∧ st1.n = st.n
  | [], c, st, st1, ts, vs, hI, hl, hr, hone, h => by
    simp only [St.absorbAll, Option.some.injEq, Prod.mk.injEq] at h
    obtain ⟨rfl, rfl⟩ := h
    exact ⟨c.F, hI, fun _ h => h, rfl, fun i s t v hs => by simp at hs, rfl, rfl, rfl⟩
  | s :: r, c, st, st1, ts, vs, hI, hl, hr, hone, h => by
    cases vs with
    | nil => simp at hl
    | cons v vs =>
      unfold St.absorbAll at h
      split at h
      · cases h
      · rename_i t st2 h1
        split at h
        · cases h
        · rename_i ts' st3 h2
          simp only [Option.some.injEq, Prod.mk.injEq] at h
          obtain ⟨rfl, rfl⟩ := h
          obtain ⟨F, f1, f2, f3, f4, f5, f5', f5'', f6, f7, f8⟩ := absorb_ok hI (hr 0 s v rfl rfl) (hone s (by simp)) h1
          obtain ⟨F', g1, g2, g3, g4, g6, g7, g8⟩ := absorbAll_ok (vs := vs) f1 (by simpa using hl) (fun i s v hs hv => (hr (i + 1) s v (by simpa using hs) (by simpa using hv)).mono (Ctx.le_withF f2) (fun _ _ => rfl)) (fun s hs => hone s (List.mem_cons_of_mem _ hs)) h2
          refine ⟨F', g1, fun k hk => g2 k (f2 k hk), by simp [g3], fun i s' t' v' hs ht hv => ?_, g6.trans f6, g7.trans f7, g8.trans f8⟩
          cases i with
          | zero =>
            simp at hs ht hv
            subst hs; subst ht; subst hv
            exact ⟨f3, f4, fun i y u hy hu => (f5 i y u hy hu).mono g2 (fun _ _ => rfl), f5', f5''⟩
          | succ i => exact g4 i s' t' v' (by simpa using hs) (by simpa using ht) (by simpa using hv)

/-! ### fill -/
theorem foldSet (off : Nat) : ∀ (l : List Value) (k : Nat) (cells : Array Value), off + k + l.length ≤ cells.size →
    ((l.zipIdx k).foldl (fun (cs : Array Value) (p : Value × Nat) => cs.setIfInBounds (off + p.2) p.1) cells).size = cells.size ∧
    ∀ m, ((l.zipIdx k).foldl (fun (cs : Array Value) (p : Value × Nat) => cs.setIfInBounds (off + p.2) p.1) cells)[m]? = if off + k ≤ m ∧ m < off + k + l.length then l[m - (off + k)]? else cells[m]?
  | [], k, cells, _ => ⟨rfl, fun m => by rw [if_neg (by simp)]; rfl⟩
  | x :: r, k, cells, h => by
    simp only [List.length_cons] at h
    obtain ⟨h1, h2⟩ := foldSet off r (k + 1) (cells.setIfInBounds (off + k) x) (by rw [Array.size_setIfInBounds]; omega)
    refine ⟨by simpa [List.zipIdx_cons] using h1, fun m => ?_⟩
    have : ((x :: r).zipIdx k) = (x, k) :: r.zipIdx (k + 1) := by simp [List.zipIdx_cons]
    rw [this, List.foldl_cons, h2 m]
    by_cases hm : off + k = m
    · subst hm
      have hz : off + k - (off + k) = 0 := by omega
      rw [if_neg (by omega), if_pos (by simp), hz]
      have : off + k < cells.size := by omega
      simp [Array.getElem?_setIfInBounds, this]
    · by_cases hm2 : off + (k + 1) ≤ m ∧ m < off + (k + 1) + r.length
      · rw [if_pos hm2, if_pos (by simp; omega)]
        have : m - (off + k) = m - (off + (k + 1)) + 1 := by omega
        rw [this, List.getElem?_cons_succ]
      · rw [if_neg hm2, if_neg (by simp; omega)]
        simp [Array.getElem?_setIfInBounds, hm]
theorem fill_cons {place : Nat → Option (Nat × Nat)} {cells : Array Value} {i off : Nat} {v : Value} {rest : List (Nat × Value)} (hp : place i = some (off, v.cells.size)) (hb : off + v.cells.size ≤ cells.size) :
    ∃ cells' : Array Value, Instr.fill place cells ((i, v) :: rest) = Instr.fill place cells' rest ∧ cells'.size = cells.size ∧ ∀ m, cells'[m]? = if off ≤ m ∧ m < off + v.cells.size then v.cells[m - off]? else cells[m]? := by
  refine ⟨v.cells.zipIdx.foldl (fun cs (c, j) => cs.setIfInBounds (off + j) c) cells, ?_, ?_⟩
  · simp only [Instr.fill, hp]
    rw [if_neg (by simp; omega)]
  · rw [← Array.foldl_toList, Array.toList_zipIdx]
    obtain ⟨h1, h2⟩ := foldSet off v.cells.toList 0 cells (by simpa using hb)
    exact ⟨h1, fun m => by simpa using h2 m⟩
end
section
variable {E : Env} {P : Program} {M0 : Nat → Prop} {w0 : World} {c : Ctx} {st st' : St} {a : Act} {w w' : World}

theorem append_grow {sT xT ty e : Nat} {q : TypeInfo} {z : Value} (ht : P.underlying sT = some (.slice e)) (hx : P.underlying xT = some .string ∨ ∃ e', P.underlying xT = some (.slice e')) (hi : P.info? e = some q) (hz : q.zero = some z)
    {B : Option Addr} {n k m : Nat} {u : Value} {olds news : Array Value} (hm : (Builtin.lenOf u).run P w = .ok m w) (hg : k < n + m) (h47 : n + m ≤ 140737488355328) (hb : (n + m) * q.bytes ≤ 140737488355328)
    (ho : (Builtin.firstCells q.size n (.slice B n k)).run P w.drew = .ok olds w.drew) (hnw : (Builtin.firstCells q.size m u).run P w.drew = .ok news w.drew) :
    (Builtin.append_ #[sT, xT] ty #[.slice B n k, u]).run P w = .ok (.slice (some ⟨w.heap.size, 0, none⟩) (n + m) (grownCap w (n + m) k e)) (w.drew.alloc (.cells (olds ++ (news ++ Builtin.zeroCells z.cells (grownCap w (n + m) k e - (n + m)))) e)) := by
  have hn : ¬ (n + m ≤ k) := by omega
  have h63' : ¬ (9223372036854775807 < ((n : Int) + (m : Int))) := by omega
  have h48' : ¬ (281474976710656 < Builtin.nextslicecap (n + m) k * q.bytes) := by have := growslice_fits (bytes := q.bytes) hg hb; omega
  rcases hx with hx | ⟨e', hx⟩
  · simp [Builtin.append_, run_underlying ht, run_underlying hx, sizeOf, typeInfo, zeroValue, hi, hz, hm, hn, h63', h48', Question.forced, ho, hnw, newRow, grownCap]
  · simp [Builtin.append_, run_underlying ht, run_underlying hx, sizeOf, typeInfo, zeroValue, hi, hz, hm, hn, h63', h48', Question.forced, ho, hnw, newRow, grownCap]
theorem append_room {sT xT ty e : Nat} {q : TypeInfo} (ht : P.underlying sT = some (.slice e)) (hx : P.underlying xT = some .string ∨ ∃ e', P.underlying xT = some (.slice e')) (hi : P.info? e = some q)
    {B : Option Addr} {n k m : Nat} {u : Value} {news : Array Value} (hm : (Builtin.lenOf u).run P w = .ok m w) (hg : n + m ≤ k)
    (hnw : (Builtin.firstCells q.size m u).run P w = .ok news w) (hst : (match B with | some a => storeCells (a.add (n * q.size)) news.toList | none => pure () : Sem Unit).run P w = .ok () w') :
    (Builtin.append_ #[sT, xT] ty #[.slice B n k, u]).run P w = .ok (.slice B (n + m) k) w' := by
  rcases hx with hx | ⟨e', hx⟩
  · cases B with
    | none =>
      obtain rfl : w = w' := by simpa using hst
      simp [Builtin.append_, run_underlying ht, run_underlying hx, sizeOf, typeInfo, hi, hm, hg, hnw]
    | some A => simp at hst; simp [Builtin.append_, run_underlying ht, run_underlying hx, sizeOf, typeInfo, hi, hm, hg, hnw, hst]
  · cases B with
    | none =>
      obtain rfl : w = w' := by simpa using hst
      simp [Builtin.append_, run_underlying ht, run_underlying hx, sizeOf, typeInfo, hi, hm, hg, hnw]
    | some A => simp at hst; simp [Builtin.append_, run_underlying ht, run_underlying hx, sizeOf, typeInfo, hi, hm, hg, hnw, hst]

/-- The cells of a slice, each in its place. -/
theorem slice_cells (hI : Inv E M0 w0 c st w) {s : SV} {v : Value} {xs : List T} (hr : Rel c w s v) (he : st.elems s = some xs) :
    ∃ A k, v = .slice A xs.length k ∧ xs.length ≤ k ∧ k ≤ maxLen ∧ (∀ x ∈ xs, ∀ y ∈ x.cells, y.one = true) ∧ (xs ≠ [] → ∃ g o sz, A = some ⟨g, o, none⟩ ∧ 0 < sz ∧ (∀ x ∈ xs, x.cells.length = sz) ∧
      ∀ (j : Nat) x (t : Nat) y, xs[j]? = some x → x.cells[t]? = some y → ∃ u, w.cell? ⟨g, o + (j * sz + t), none⟩ = some u ∧ RD c.F w y u) := by
  unfold St.elems at he
  cases hp : st.peek1 s with
  | none => simp [hp] at he
  | some t =>
    rw [hp] at he
    have hl : t = .list xs := by
      cases t <;> simp [T.listOf] at he
      subst he; rfl
    subst hl
    have hrow : ∀ r e ys live, r < c.n → st.o r = .row e ys live → ∃ A k, c.val r = .slice A ys.length k ∧ ys.length ≤ k ∧ k ≤ maxLen ∧ 0 < c.sz r ∧ (∀ x ∈ ys, x.cells.length = c.sz r) ∧ (∀ x ∈ ys, ∀ y ∈ x.cells, y.one = true) ∧
        (ys ≠ [] → ∃ g o, A = some ⟨g, o, none⟩ ∧ ∀ (j : Nat) x (t : Nat) y, ys[j]? = some x → x.cells[t]? = some y → ∃ u, w.cell? ⟨g, o + (j * c.sz r + t), none⟩ = some u ∧ RD c.F w y u) := by
      intro r e ys live hrn ho
      have hob := hI.obs r (by rw [← hI.n]; exact hrn)
      rw [ho] at hob
      obtain ⟨h1, h2, ⟨A, k, hv, hk, hm⟩, h4, h5, h6⟩ := hob
      refine ⟨A, k, hv, hk, hm, h2, h4, h5, fun hne => ?_⟩
      have hob' : ObOK E c w r (.row e ys live) := ⟨h1, h2, ⟨A, k, hv, hk, hm⟩, h4, h5, h6⟩
      obtain ⟨g, o, k', hv', _⟩ := row_addr hob' hne
      rw [hv] at hv'
      injection hv' with e1 e2 e3
      refine ⟨g, o, e1, fun j x t y hx hy => row_cell hob' (by rw [hv, e1]) hx hy⟩
    unfold St.peek1 at hp
    split at hp
    · rename_i t0
      split at hp
      · obtain rfl := Option.some.inj hp
        cases hr with
        | t hr => cases hr with
          | list _ A cap sz cell hc hm hz hw h1 ha h =>
            refine ⟨A, cap, rfl, hc, hm, h1, fun hne => ?_⟩
            obtain ⟨g, o, e1, hg, hcell⟩ := ha hne
            refine ⟨g, o, sz, e1, hz, hw, fun j x t y hx hy => ⟨_, hcell j t (List.getElem?_eq_some_iff.1 hx).1 ?_, h j x t y hx hy⟩⟩
            have := (List.getElem?_eq_some_iff.1 hy).1
            rw [hw x (List.mem_of_getElem? hx)] at this
            exact this
      · cases hp
    · simp only [Option.some.injEq, T.list.injEq] at hp
      subst hp
      cases hr with
      | nil A => exact ⟨A, 0, rfl, Nat.le_refl _, by decide, by simp, fun h => absurd rfl h⟩
    · rename_i r
      split at hp
      · rename_i e ys live ho
        simp only [Option.some.injEq, T.list.injEq] at hp
        subst hp
        cases hr with
        | row _ hrn =>
          obtain ⟨A, k, h1, h2, h3, h4, h5, h6, h7⟩ := hrow r e ys live hrn ho
          refine ⟨A, k, h1, h2, h3, h6, fun hne => ?_⟩
          obtain ⟨g, o, e1, hc⟩ := h7 hne
          exact ⟨g, o, c.sz r, e1, h4, h5, hc⟩
      · cases hp
    · rename_i r lo hi
      split at hp
      · rename_i e ys live ho
        simp only [Option.some.injEq, T.list.injEq] at hp
        subst hp
        cases hr with
        | view _ _ _ A B n k hrn hv h1 h2 h3 hB =>
          obtain ⟨A', k', g1, g2, g3, g4, g5, g6, g7⟩ := hrow r e ys live hrn ho
          rw [hv] at g1
          injection g1 with e1 e2 e3
          subst e1; subst e2; subst e3
          have hlen : ((ys.take hi).drop lo).length = hi - lo := by simp; omega
          have hmem : ∀ x ∈ (ys.take hi).drop lo, x ∈ ys := fun x hx => List.mem_of_mem_take (List.mem_of_mem_drop hx)
          refine ⟨B, k - lo, by rw [hlen], by omega, by omega, fun x hx => g6 x (hmem x hx), fun hne => ?_⟩
          have hpos : 0 < hi - lo := by rw [← hlen]; exact List.length_pos_iff.2 hne
          obtain ⟨g, o, e1, hc⟩ := g7 (by intro e; subst e; simp at h2; omega)
          refine ⟨g, o + lo * c.sz r, c.sz r, by rw [hB (by omega), e1]; simp [add_at], g4, fun x hx => g5 x (hmem x hx), fun j x t y hx hy => ?_⟩
          obtain ⟨hj, hx'⟩ := sub_at hx
          obtain ⟨u, hu1, hu2⟩ := hc (lo + j) x t y hx' hy
          rw [Nat.add_mul] at hu1
          exact ⟨u, by rw [← hu1]; congr 2; omega, hu2⟩
      · cases hp
    · cases hp

theorem fits_width (hI : Inv E M0 w0 c st w) {e : Nat} {s : SV} {v : Value} {xs : List T} (hr : Rel c w s v) (he : st.elems s = some xs) (hf : st.fits E e s xs = true) : ∀ x ∈ xs, x.cells.length = (E.ty e).size := by
  have hrow : ∀ r e' ys live, r < c.n → st.o r = .row e' ys live → (e' == e) = true → ∀ x ∈ ys, x.cells.length = (E.ty e).size := by
    intro r e' ys live hrn ho hee x hx
    have hob := hI.obs r (by rw [← hI.n]; exact hrn)
    rw [ho] at hob
    rw [hob.2.2.2.1 x hx, hob.1]
    rw [eq_of_beq hee]
  unfold St.elems at he
  unfold St.fits at hf
  split at hf
  · split at hf
    · rename_i ho
      cases hr with
      | row _ hrn =>
        simp [St.peek1, ho, T.listOf] at he
        subst he
        exact hrow _ _ _ _ hrn ho hf
    · cases hf
  · split at hf
    · rename_i ho
      cases hr with
      | view _ _ _ A B n k hrn =>
        simp [St.peek1, ho, T.listOf] at he
        subst he
        intro x hx
        exact hrow _ _ _ _ hrn ho hf x (List.mem_of_mem_take (List.mem_of_mem_drop hx))
    · cases hf
  · simp [St.peek1, T.one, T.listOf] at he
  · intro x hx
    have := List.all_eq_true.1 hf x hx
    simpa using this

/-- The cells that stand in a row, as a list. -/
theorem news_of {F : Nat → Prop} {g o sz : Nat} {ys : List T} (hz : 0 < sz) (hw : ∀ x ∈ ys, x.cells.length = sz) (h : ∀ (j : Nat) x (t : Nat) y, ys[j]? = some x → x.cells[t]? = some y → ∃ u, w.cell? ⟨g, o + (j * sz + t), none⟩ = some u ∧ RD F w y u) :
    ∃ news : List Value, news.length = ys.length * sz ∧ (∀ (i : Nat) v, news[i]? = some v → w.cell? ⟨g, o + i, none⟩ = some v) ∧ ∀ (j : Nat) x (t : Nat) y, ys[j]? = some x → x.cells[t]? = some y → ∃ u, news[j * sz + t]? = some u ∧ RD F w y u := by
  have hat : ∀ i, i < ys.length * sz → ∃ v, w.cell? ⟨g, o + i, none⟩ = some v := by
    intro i hi
    have hj : i / sz < ys.length := (Nat.div_lt_iff_lt_mul hz).2 hi
    have ht : i % sz < sz := Nat.mod_lt _ hz
    have hx := List.getElem?_eq_getElem hj
    have hl := hw _ (List.getElem_mem hj)
    have hy : (ys[i / sz]).cells[i % sz]? = some ((ys[i / sz]).cells[i % sz]'(by rw [hl]; exact ht)) := List.getElem?_eq_getElem _
    obtain ⟨u, hu, _⟩ := h _ _ _ _ hx hy
    have : i / sz * sz + i % sz = i := by rw [Nat.mul_comm]; exact Nat.div_add_mod i sz
    rw [this] at hu
    exact ⟨u, hu⟩
  refine ⟨(List.range (ys.length * sz)).map (fun i => (w.cell? ⟨g, o + i, none⟩).getD undef), by simp, fun i v hv => ?_, fun j x t y hx hy => ?_⟩
  · rw [List.getElem?_map] at hv
    by_cases hi : i < ys.length * sz
    · rw [List.getElem?_range hi] at hv
      obtain ⟨u, hu⟩ := hat i hi
      simp [hu] at hv
      rw [hu, hv]
    · rw [List.getElem?_eq_none (by simpa using hi)] at hv
      simp at hv
  · obtain ⟨u, hu, hr⟩ := h j x t y hx hy
    have hj := (List.getElem?_eq_some_iff.1 hx).1
    have ht := (List.getElem?_eq_some_iff.1 hy).1
    rw [hw x (List.mem_of_getElem? hx)] at ht
    have hi : j * sz + t < ys.length * sz := by
      have := Nat.mul_le_mul_right sz (show j + 1 ≤ ys.length by omega)
      rw [Nat.add_mul, Nat.one_mul] at this
      omega
    refine ⟨u, ?_, hr⟩
    rw [List.getElem?_map, List.getElem?_range hi]
    simp [hu]

theorem more_ok (hI : Inv E M0 w0 c st w) {e : Nat} {s : SV} {v : Value} {ys : List T} (hz : 0 < (E.ty e).size) (hr : Rel c w s v) (h : st.moreOf s = some ys) (hf : st.fits E e s ys = true) :
    (Builtin.lenOf v).run P w = .ok ys.length w ∧ (∀ x ∈ ys, x.cells.length = (E.ty e).size) ∧ (∀ x ∈ ys, ∀ y ∈ x.cells, y.one = true) ∧
    ∃ news : List Value, news.length = ys.length * (E.ty e).size ∧ (∀ w', w'.heap = w.heap → (Builtin.firstCells (E.ty e).size ys.length v).run P w' = .ok news.toArray w') ∧
      ∀ (j : Nat) x (t : Nat) y, ys[j]? = some x → x.cells[t]? = some y → ∃ u, news[j * (E.ty e).size + t]? = some u ∧ RD c.F w y u := by
  unfold St.moreOf at h
  split at h
  · rename_i s
    obtain rfl := Option.some.inj h
    obtain rfl := hr.str
    have hs1 : (E.ty e).size = 1 := by simpa [St.fits] using hf
    rw [hs1]
    refine ⟨by simp [Builtin.lenOf, bytesT]; rfl, fun x hx => ?_, fun x hx y hy => ?_, s.map (fun b => .int .u8 b.toNat), by simp [bytesT], fun w' hw => ?_, fun j x t y hx hy => ?_⟩
    · simp only [bytesT, List.mem_map] at hx
      obtain ⟨b, _, rfl⟩ := hx
      rfl
    · simp only [bytesT, List.mem_map] at hx
      obtain ⟨b, _, rfl⟩ := hx
      simp [T.cells] at hy
      subst hy; rfl
    · have hx : (⟨⟨s⟩⟩ : ByteArray).extract 0 s.length = ⟨⟨s⟩⟩ := by rw [extract_mk]; simp
      simp only [Builtin.firstCells, bytesT, List.length_map, hx, Sem.run_pure]
      simp
    · simp only [bytesT, List.getElem?_map, Option.map_eq_some_iff] at hx
      obtain ⟨b, hb, rfl⟩ := hx
      cases t with
      | zero =>
        simp [T.cells] at hy
        subst hy
        exact ⟨_, by simp [hb], .int _ _⟩
      | succ t => simp [T.cells] at hy
  · obtain ⟨A, k, rfl, h1, h2, h3, h4⟩ := slice_cells hI hr h
    have hw := fits_width hI hr h hf
    refine ⟨rfl, hw, h3, ?_⟩
    by_cases hne : ys = []
    · subst hne
      refine ⟨[], by simp, fun w' _ => ?_, fun j x t y hx => by simp at hx⟩
      cases A with
      | none => rfl
      | some A => simp [Builtin.firstCells, loadCells, loadCellsFrom]
    · obtain ⟨g, o, sz, rfl, hz', hw', hc⟩ := h4 hne
      have : sz = (E.ty e).size := by
        obtain ⟨x, hx⟩ := List.exists_mem_of_ne_nil ys hne
        exact (hw' x hx).symm.trans (hw x hx)
      subst this
      obtain ⟨news, n1, n2, n3⟩ := news_of hz' hw' hc
      refine ⟨news, n1, fun w' hw2 => run_firstCells_some w' _ _ _ _ _ news n1 (fun j v hv => ?_), n3⟩
      rw [add_at]
      simp only [World.cell?, hw2]
      exact n2 j v hv

theorem own_kill (r : Nat) (i : Nat) (h : Owns c i ((st.setO r .dead).o i)) : Owns c i (st.o i) := by
  by_cases hir : i = r
  · subst hir
    have : (st.setO i .dead).o i = .dead := upd_self _ _ _
    rw [this] at h
    exact h.elim
  · have : (st.setO r .dead).o i = st.o i := upd_ne _ _ hir
    rwa [this] at h
/-- What an append may write over. -/
theorem base_ok (hI : Inv E M0 w0 c st w) {e : Nat} {s : SV} {v : Value} {xs : List T} {st1 : St} (hr : Rel c w s v) (h : st.base e s = some (xs, st1)) :
    ∃ B k, v = .slice B xs.length k ∧ xs.length ≤ k ∧ k ≤ maxLen ∧ Inv E M0 w0 c st1 w ∧ st1.n = st.n ∧ st1.s = st.s ∧ st1.N = st.N ∧ (∀ i, Owns c i (st1.o i) → Owns c i (st.o i)) ∧ (∀ x ∈ xs, x.cells.length = (E.ty e).size) ∧ (∀ x ∈ xs, ∀ y ∈ x.cells, y.one = true) ∧
      (k ≠ 0 → ∃ (l o : Nat) (vs : Array Value) (lo hi : Nat), B = some ⟨l, o, none⟩ ∧ w.heap[l]? = some (.cells vs e (lo, hi)) ∧ o + k * (E.ty e).size ≤ vs.size ∧ (∀ j, o ≤ j → j < o + k * (E.ty e).size → ¬ (lo ≤ j ∧ j < hi)) ∧
        (∀ (j : Nat) x (t : Nat) y, xs[j]? = some x → x.cells[t]? = some y → ∃ u, vs[o + (j * (E.ty e).size + t)]? = some u ∧ RD c.F w y u) ∧
        l < w.heap.size ∧ ¬ c.F l ∧ (M0 l ∨ w0.heap.size ≤ l) ∧ (∀ i, i < st1.n → Owns c i (st1.o i) → c.loc i ≠ l) ∧ ∃ r, r < st.n ∧ Owns c r (st.o r) ∧ l = c.loc r) := by
  unfold St.base at h
  split at h
  · simp only [Option.some.injEq, Prod.mk.injEq] at h
    obtain ⟨rfl, rfl⟩ := h
    cases hr with
    | nil A => exact ⟨A, 0, rfl, Nat.le_refl _, by decide, hI, rfl, rfl, rfl, fun _ h => h, by simp, by simp, fun h => absurd rfl h⟩
  · rename_i r
    split at h
    · rename_i e' ys ho
      split at h
      · rename_i hee
        subst hee
        simp only [Option.some.injEq, Prod.mk.injEq] at h
        obtain ⟨rfl, rfl⟩ := h
        cases hr with
        | row _ hrn =>
          have hrn' : r < st.n := by rw [← hI.n]; exact hrn
          have hob := hI.obs r hrn'
          rw [ho] at hob
          obtain ⟨h1, h2, ⟨A, k, hv, hk, hm⟩, h4, h5, h6⟩ := hob
          refine ⟨A, k, hv, hk, hm, hI.kill1 r, rfl, rfl, rfl, own_kill r, by rw [← h1]; exact h4, h5, fun hk0 => ?_⟩
          obtain ⟨o, vs, lo, hi, e1, e2, e3, e4, e5⟩ := h6 A _ k hv hk0
          have hown : Owns c r (st.o r) := by rw [ho]; exact ⟨_, _, _, hv, hk0⟩
          obtain ⟨l1, l2, l3⟩ := hI.own r hrn' hown
          refine ⟨c.loc r, o, vs, lo, hi, e1, e2, by rw [← h1]; exact e3, by rw [← h1]; exact e4, by rw [← h1]; exact e5, l1, l2, l3, fun i hi' oi el => ?_, r, hrn', hown, rfl⟩
          have hir : i ≠ r := by
            intro e; subst e
            have : (st.setO i .dead).o i = .dead := upd_self _ _ _
            rw [this] at oi; exact oi
          have : (st.setO r .dead).o i = st.o i := upd_ne _ _ hir
          rw [this] at oi
          exact hir (hI.inj i r hi' hrn' oi hown el)
      · cases h
    · cases h
  · rename_i r lo' hi'
    split at h
    · rename_i e' ys ho
      split at h
      · rename_i hee
        obtain ⟨rfl, hle, hlo⟩ := hee
        simp only [Option.some.injEq, Prod.mk.injEq] at h
        obtain ⟨rfl, rfl⟩ := h
        cases hr with
        | view _ _ _ A B n k hrn hv g1 g2 g3 hB =>
          have hrn' : r < st.n := by rw [← hI.n]; exact hrn
          have hob := hI.obs r hrn'
          rw [ho] at hob
          obtain ⟨h1, h2, ⟨A', k', hv', hk, hm⟩, h4, h5, h6⟩ := hob
          rw [hv] at hv'
          injection hv' with q1 q2 q3
          subst q1; subst q2; subst q3
          have hlen : ((ys.take hi').drop lo').length = hi' - lo' := by simp; omega
          have hmem : ∀ x ∈ (ys.take hi').drop lo', x ∈ ys := fun x hx => List.mem_of_mem_take (List.mem_of_mem_drop hx)
          refine ⟨B, k - lo', by rw [hlen], by omega, by omega, hI.kill1 r, rfl, rfl, rfl, own_kill r, fun x hx => by rw [← h1]; exact h4 x (hmem x hx), fun x hx => h5 x (hmem x hx), fun hk0 => ?_⟩
          have hk00 : k ≠ 0 := by omega
          obtain ⟨o, vs, lo, hi, e1, e2, e3, e4, e5⟩ := h6 A _ k hv hk00
          have hown : Owns c r (st.o r) := by rw [ho]; exact ⟨_, _, _, hv, hk00⟩
          obtain ⟨l1, l2, l3⟩ := hI.own r hrn' hown
          have hmul : lo' * c.sz r + (k - lo') * c.sz r = k * c.sz r := by rw [← Nat.add_mul]; congr 1; omega
          refine ⟨c.loc r, o + lo' * c.sz r, vs, lo, hi, by rw [hB (by omega), e1]; simp [add_at], e2, by rw [← h1]; omega, fun j j1 j2 => e4 j (by omega) (by rw [← h1] at j2; omega), fun j x t y hx hy => ?_, l1, l2, l3, fun i hi' oi el => ?_, r, hrn', hown, rfl⟩
          · obtain ⟨hj, hx'⟩ := sub_at hx
            obtain ⟨u, hu1, hu2⟩ := e5 (lo' + j) x t y hx' hy
            rw [Nat.add_mul] at hu1
            rw [← h1]
            exact ⟨u, by rw [← hu1]; congr 1; omega, hu2⟩
          · have hir : i ≠ r := by
              intro e; subst e
              have : (st.setO i .dead).o i = .dead := upd_self _ _ _
              rw [this] at oi; exact oi
            have : (st.setO r .dead).o i = st.o i := upd_ne _ _ hir
            rw [this] at oi
            exact hir (hI.inj i r hi' hrn' oi hown el)
      · cases h
    · cases h
  · cases h

/-- A part of a row is written. -/
theorem row_write (hI : Inv E M0 w0 c st w) {r e p : Nat} {xs ys : List T} {A : Option Addr} {n k : Nat} (hrn : r < st.n) (ho : st.o r = .row e xs true) (hv : c.val r = .slice A n k) (hk0 : k ≠ 0) (hp : p + ys.length ≤ xs.length) (hw : ∀ y ∈ ys, y.cells.length = c.sz r) (h1 : ∀ y ∈ ys, ∀ z ∈ y.cells, z.one = true)
    {news : List Value} (hnl : news.length = ys.length * c.sz r) (hng : ∀ (j : Nat) x (t : Nat) y, ys[j]? = some x → x.cells[t]? = some y → ∃ u, news[j * c.sz r + t]? = some u ∧ RD c.F w y u) :
    ∃ o w', A = some ⟨c.loc r, o, none⟩ ∧ (storeCells ⟨c.loc r, o + p * c.sz r, none⟩ news 0).run P w = .ok () w' ∧ Inv E M0 w0 c (st.setO r (.row e (splice xs p ys) true)) w' ∧ ∀ q, c.F q → w'.heap[q]? = w.heap[q]? := by
  have hob := hI.obs r hrn
  rw [ho] at hob
  obtain ⟨z1, z2, ⟨A', k', hv', hk', hm'⟩, z4, z5, z6⟩ := hob
  rw [hv] at hv'
  injection hv' with q1 q2 q3
  subst q1; subst q2; subst q3
  obtain ⟨o, vs, flo, fhi, rfl, e2, e3, e4, e5⟩ := z6 A xs.length k hv hk0
  generalize hsz : c.sz r = sz at *
  have hone : ∀ u ∈ news, oneV u = true := by
    intro v hv
    obtain ⟨i, hi'⟩ := List.mem_iff_getElem?.1 hv
    have hlt := (List.getElem?_eq_some_iff.1 hi').1
    rw [hnl] at hlt
    have hj : i / sz < ys.length := (Nat.div_lt_iff_lt_mul z2).2 hlt
    have ht : i % sz < sz := Nat.mod_lt _ z2
    have hl := hw _ (List.getElem_mem hj)
    have hy : (ys[i / sz]).cells[i % sz]? = some ((ys[i / sz]).cells[i % sz]'(by rw [hl]; exact ht)) := List.getElem?_eq_getElem _
    obtain ⟨u, hu1, hu2⟩ := hng _ _ _ _ (List.getElem?_eq_getElem hj) hy
    have : i / sz * sz + i % sz = i := by rw [Nat.mul_comm]; exact Nat.div_add_mod i _
    rw [this, hi'] at hu1
    obtain rfl := Option.some.inj hu1
    exact hu2.one (h1 _ (List.getElem_mem hj) _ (List.mem_of_getElem? hy))
  have m1 := Nat.mul_le_mul_right sz (show p + ys.length ≤ k by omega)
  rw [Nat.add_mul] at m1
  obtain ⟨w', r1, r2, vs', r3, r4, r5⟩ := storeCells_ok (P := P) (g := c.loc r) (o := o + p * sz) news 0 w vs e2 hone (by omega) (fun j h1 h2 => e4 j (by omega) (by omega))
  have hown : Owns c r (st.o r) := by rw [ho]; exact ⟨_, _, k, hv, hk0⟩
  have hkeep : ∀ q, c.F q → w'.heap[q]? = w.heap[q]? := fun q hq => r2.blk q (hI.F q hq) (fun e => (hI.own r hrn hown).2.1 (e ▸ hq))
  refine ⟨o, w', rfl, r1, hI.write hrn hown r2 ⟨by rw [hsz]; exact z1, by rw [hsz]; exact z2, ⟨_, k, by rw [splice_length _ _ _ hp]; exact hv, by rw [splice_length _ _ _ hp]; exact hk', hm'⟩, fun x hx => ?_, fun x hx y hy => ?_, fun A2 n2 k2 hv2 hk2 => ?_⟩, hkeep⟩
  · rw [hsz]
    rcases splice_mem hx with h | h
    · exact z4 x h
    · exact hw x h
  · rcases splice_mem hx with h | h
    · exact z5 x h y hy
    · exact h1 x h y hy
  · rw [hv] at hv2
    injection hv2 with q1 q2 q3
    subst q1; subst q2; subst q3
    refine ⟨o, vs', flo, fhi, rfl, r3, by rw [hsz, r4]; exact e3, by rw [hsz]; exact e4, fun j x tt y hx hy => ?_⟩
    rw [hsz]
    rw [splice_get xs _ p j hp] at hx
    split at hx
    · rename_i hin
      obtain ⟨u, hu1, hu2⟩ := hng _ x tt y hx hy
      have htl := (List.getElem?_eq_some_iff.1 hu1).1
      have m5 : (j - p) * sz + p * sz = j * sz := by rw [← Nat.add_mul]; congr 1; omega
      refine ⟨u, ?_, hu2.mono (fun _ h => h) hkeep⟩
      rw [r5, if_pos ⟨by omega, by omega⟩]
      have e6 : o + (j * sz + tt) - (o + p * sz + 0) = (j - p) * sz + tt := by omega
      rw [e6, hu1]
    · rename_i hout
      obtain ⟨u, hu1, hu2⟩ := e5 j x tt y hx hy
      have htz : tt < sz := by
        have := (List.getElem?_eq_some_iff.1 hy).1
        rw [z4 x (List.mem_of_getElem? hx)] at this
        exact this
      refine ⟨u, ?_, hu2.mono (fun _ h => h) hkeep⟩
      rw [r5, if_neg]
      · exact hu1
      · rw [hnl]
        rcases (by omega : j < p ∨ p + ys.length ≤ j) with h | h
        · have m3 := Nat.mul_le_mul_right sz (show j + 1 ≤ p by omega)
          rw [Nat.add_mul, Nat.one_mul] at m3
          omega
        · have m3 := Nat.mul_le_mul_right sz h
          rw [Nat.add_mul] at m3
          omega
theorem setO_same {r : Nat} {ob : Ob} (h : st.o r = ob) : st.setO r ob = st := by
  have : upd st.o r ob = st.o := by
    funext i
    by_cases hi : i = r
    · subst hi; rw [upd_self, h]
    · exact upd_ne _ _ hi
  unfold St.setO
  rw [this]
theorem appendIn_step (hP : POK E P) (hI : Inv E M0 w0 c st w) {sT xT ty : Nat} {s x r : SV} {v u : Value} {st1 : St} (hs1 : isSlice (E.ty sT).k = true) (hs2 : isSlice (E.ty xT).k = true) (hkn : (E.ty (E.ty sT).elem).known = true) (hs : Rel c w s v) (hx : Rel c w x u) (h : st.appendIn E sT s x = some (r, st1)) :
    ∃ y w', (Builtin.append_ #[sT, xT] ty #[v, u]).run P w = .ok y w' ∧ ∃ c', Step E M0 w0 c st w r st1 c' y w' := by
  have hu := (hP.ty sT).und
  rw [isSlice_eq hs1] at hu
  have hux := (hP.ty xT).und
  rw [isSlice_eq hs2] at hux
  unfold St.appendIn at h
  split at h
  · rename_i rr lo hi rr' lo' hi'
    split at h
    · rename_i e xs ho
      split at h
      · rename_i hc
        obtain ⟨rfl, rfl, c1, c2, c3, c4⟩ := hc
        simp only [Option.some.injEq, Prod.mk.injEq] at h
        obtain ⟨rfl, rfl⟩ := h
        obtain ⟨q, z, i1, i2, i3, i4, i5, i6, i7, i8, _⟩ := (hP.ty (E.ty sT).elem).info (known_ne (by simp [hkn]))
        have hys : st.moreOf (.view rr' lo' hi') = some ((xs.take hi').drop lo') := by simp [St.moreOf, St.elems, St.peek1, ho, T.listOf]
        have hfit : st.fits E (E.ty sT).elem (.view rr' lo' hi') ((xs.take hi').drop lo') = true := by simp [St.fits, ho]
        obtain ⟨m1, m2, m3, news, m4, m5, m6⟩ := more_ok (P := P) hI i7 hx hys hfit
        have hyl : ((xs.take hi').drop lo').length = hi' - lo' := by simp; omega
        cases hs with
        | view _ _ _ A B n k hrn hv g1 g2 g3 hB =>
          have hrn' : rr' < st.n := by rw [← hI.n]; exact hrn
          have hob := hI.obs rr' hrn'
          rw [ho] at hob
          obtain ⟨z1, z2, ⟨A', k', hv', hk', hm'⟩, _⟩ := hob
          rw [hv] at hv'
          injection hv' with p1 p2 p3
          subst p1; subst p2; subst p3
          have hroom : hi - lo + ((xs.take hi').drop lo').length ≤ k - lo := by omega
          have hres : hi - lo + ((xs.take hi').drop lo').length = hi + (hi' - lo') - lo := by omega
          by_cases hm0 : hi' - lo' = 0
          · have hnn : news = [] := List.eq_nil_of_length_eq_zero (by rw [m4, hyl, hm0]; simp)
            subst hnn
            have e1 : splice xs hi ((xs.take hi').drop lo') = xs := by
              have : (xs.take hi').drop lo' = [] := List.eq_nil_of_length_eq_zero (by omega)
              rw [this]; simp [splice]
            rw [e1, setO_same ho]
            refine ⟨_, w, append_room hu (.inr ⟨_, hux⟩) i1 m1 hroom (by rw [i2]; exact m5 w rfl) ?_, c, Step.pure hI ?_⟩
            · cases B <;> rfl
            · rw [hres]
              exact .view rr' lo (hi + (hi' - lo')) A B xs.length k hrn hv (by omega) c4 g3 hB
          · obtain ⟨o, w', rfl, r1, r2, r3⟩ := row_write (P := P) (p := hi) (ys := (xs.take hi').drop lo') hI hrn' ho hv (by omega) (by omega) (fun y hy => by rw [z1]; exact m2 y hy) m3 (news := news) (by rw [z1]; exact m4) (fun j x t y hx hy => by rw [z1]; exact m6 j x t y hx hy)
            have hBv := hB (by omega)
            simp only [Option.map_some, add_at] at hBv
            subst hBv
            have m7 : lo * c.sz rr' + (hi - lo) * c.sz rr' = hi * c.sz rr' := by rw [← Nat.add_mul]; congr 1; omega
            refine ⟨_, w', append_room hu (.inr ⟨_, hux⟩) i1 m1 hroom (by rw [i2]; exact m5 w rfl) ?_, c, ⟨Ctx.Le.refl c, r2, r3, rfl, rfl, ?_⟩⟩
            · rw [i2, ← z1]
              simp only [add_at]
              have : o + lo * c.sz rr' + (hi - lo) * c.sz rr' = o + hi * c.sz rr' := by omega
              rw [this]
              exact r1
            · rw [hres]
              exact .view rr' lo (hi + (hi' - lo')) _ _ xs.length k hrn hv (by omega) c4 g3 (fun _ => by simp [add_at])
      · cases h
    · cases h
  · cases h
theorem append_step (hP : POK E P) (hI : Inv E M0 w0 c st w) {sT xT ty : Nat} {s x r : SV} {v u : Value} {st1 : St} (hs : Rel c w s v) (hx : Rel c w x u) (h : st.append E sT xT s x = some (r, st1)) :
    ∃ y w', (Builtin.append_ #[sT, xT] ty #[v, u]).run P w = .ok y w' ∧ ∃ c', Step E M0 w0 c st w r st1 c' y w' := by
  unfold St.append at h
  split at h
  · rename_i hc
    obtain ⟨c1, c2, c3⟩ := hc
    have hk := isSlice_eq c1
    have hu := (hP.ty sT).und
    rw [hk] at hu
    simp only at hu
    generalize he : (E.ty sT).elem = e at *
    have hux : P.underlying xT = some .string ∨ ∃ e', P.underlying xT = some (.slice e') := by
      have hu := (hP.ty xT).und
      cases hk : (E.ty xT).k <;> rw [hk] at hu c2 <;> simp [sliceOrStr] at c2
      · exact .inl hu
      · exact .inr ⟨_, hu⟩
    obtain ⟨q, z, i1, i2, i3, i4, i5, i6, i7, i8, _⟩ := (hP.ty e).info (known_ne (by simp [c3]))
    split at h
    · rename_i ys xs st2 hys hxs
      split at h
      · rename_i hc
        obtain ⟨d1, d2, d3⟩ := hc
        simp only [Option.some.injEq, Prod.mk.injEq] at h
        obtain ⟨rfl, rfl⟩ := h
        obtain ⟨m1, m2, m3, news, m4, m5, m6⟩ := more_ok (P := P) hI i7 hx hys d1
        obtain ⟨B, k, rfl, b1, b2, b3, b4, b4', b4'', b4c, b5, b6, b7⟩ := base_ok hI hs hxs
        have hwid : ∀ x ∈ xs ++ ys, x.cells.length = (E.ty e).size := fun x hx => (List.mem_append.1 hx).elim (b5 x) (m2 x)
        have hone : ∀ x ∈ xs ++ ys, ∀ y ∈ x.cells, y.one = true := fun x hx => (List.mem_append.1 hx).elim (b6 x) (m3 x)
        by_cases hroom : xs.length + ys.length ≤ k
        · -- there is room
          by_cases hk0 : k = 0
          · subst hk0
            have hxn : xs = [] := List.eq_nil_of_length_eq_zero (by omega)
            have hyn : ys = [] := List.eq_nil_of_length_eq_zero (by omega)
            subst hxn; subst hyn
            have hnn : news = [] := List.eq_nil_of_length_eq_zero (by simpa using m4)
            subst hnn
            refine ⟨_, w, append_room hu hux i1 m1 hroom (by rw [i2]; exact m5 w rfl) ?_, c.push 0 (.slice B 0 0) (E.ty e).size, ?_⟩
            · cases B <;> rfl
            · have hloc : (c.push 0 (.slice B 0 0) (E.ty e).size).val c.n = .slice B 0 0 := upd_self _ _ _
              have hsz : (c.push 0 (.slice B 0 0) (E.ty e).size).sz c.n = (E.ty e).size := upd_self _ _ _
              refine ⟨c.le_push _ _ _, b3.add0 _ _ rfl (fun ho => ?_) ⟨by rw [hsz], by rw [hsz]; exact i7, ⟨B, 0, by rw [hloc]; rfl, by simp, by decide⟩, by simp, by simp, fun A n k hv hk => ?_⟩, fun _ _ => rfl, b4', b4'', ?_⟩
              · obtain ⟨A, n, k, hv, hk⟩ := ho
                rw [hloc] at hv
                injection hv with _ _ e3
                exact hk e3.symm
              · rw [hloc] at hv
                injection hv with _ _ e3
                exact absurd e3.symm hk
              · have := Rel.row (c := c.push 0 (.slice B 0 0) (E.ty e).size) (w := w) c.n (Nat.lt_succ_self _)
                rw [hloc, b3.n] at this
                exact this
          · obtain ⟨l, o, vs, lo, hi, rfl, e2, e3, e4, e5, e6, e7, e8, e9, _⟩ := b7 hk0
            have hmul : xs.length * (E.ty e).size + ys.length * (E.ty e).size ≤ k * (E.ty e).size := by rw [← Nat.add_mul]; exact Nat.mul_le_mul_right _ hroom
            have hnone : ∀ v ∈ news, oneV v = true := by
              intro v hv
              obtain ⟨i, hi'⟩ := List.mem_iff_getElem?.1 hv
              have hlt := (List.getElem?_eq_some_iff.1 hi').1
              rw [m4] at hlt
              have hj : i / (E.ty e).size < ys.length := (Nat.div_lt_iff_lt_mul i7).2 hlt
              have ht : i % (E.ty e).size < (E.ty e).size := Nat.mod_lt _ i7
              have hl := m2 _ (List.getElem_mem hj)
              have hy : (ys[i / (E.ty e).size]).cells[i % (E.ty e).size]? = some ((ys[i / (E.ty e).size]).cells[i % (E.ty e).size]'(by rw [hl]; exact ht)) := List.getElem?_eq_getElem _
              obtain ⟨u, hu1, hu2⟩ := m6 _ _ _ _ (List.getElem?_eq_getElem hj) hy
              have : i / (E.ty e).size * (E.ty e).size + i % (E.ty e).size = i := by rw [Nat.mul_comm]; exact Nat.div_add_mod i _
              rw [this, hi'] at hu1
              obtain rfl := Option.some.inj hu1
              exact hu2.one (m3 _ (List.getElem_mem hj) _ (List.mem_of_getElem? hy))
            obtain ⟨w', f1, f2, vs', f3, f4, f5⟩ := storeCells_ok (P := P) (o := o + xs.length * (E.ty e).size) news 0 w vs e2 hnone (by omega) (fun j j1 j2 => e4 j (by omega) (by omega))
            have hkeep : ∀ k, c.F k → w'.heap[k]? = w.heap[k]? := fun k hk => f2.blk k (b3.F k hk) (fun e => e7 (e ▸ hk))
            refine ⟨_, w', append_room hu hux i1 m1 hroom (by rw [i2]; exact m5 w rfl) ?_, c.push l (.slice (some ⟨l, o, none⟩) (xs.length + ys.length) k) (E.ty e).size, ?_⟩
            · rw [i2]; simp only [add_at]; exact f1
            · have hval : (c.push l (.slice (some ⟨l, o, none⟩) (xs.length + ys.length) k) (E.ty e).size).val c.n = .slice (some ⟨l, o, none⟩) (xs.length + ys.length) k := upd_self _ _ _
              have hloc : (c.push l (.slice (some ⟨l, o, none⟩) (xs.length + ys.length) k) (E.ty e).size).loc c.n = l := upd_self _ _ _
              have hsz : (c.push l (.slice (some ⟨l, o, none⟩) (xs.length + ys.length) k) (E.ty e).size).sz c.n = (E.ty e).size := upd_self _ _ _
              refine ⟨c.le_push _ _ _, b3.add _ _ _ f2 (Nat.lt_of_lt_of_le e6 f2.size) e7 e8 e9 rfl ⟨by rw [hsz], by rw [hsz]; exact i7, ⟨_, k, by rw [hval, List.length_append], by simpa using hroom, b2⟩, by rw [hsz]; exact hwid, hone, fun A n k' hv hk' => ?_⟩, hkeep, b4', b4'', ?_⟩
              · rw [hval] at hv
                injection hv with q1 q2 q3
                subst q1; subst q2; subst q3
                refine ⟨o, vs', lo, hi, by rw [hloc], by rw [hloc]; exact f3, by rw [hsz, f4]; exact e3, by rw [hsz]; exact e4, fun j x t y hx hy => ?_⟩
                rw [hsz, f5]
                have ht := (List.getElem?_eq_some_iff.1 hy).1
                rw [hwid x (List.mem_of_getElem? hx)] at ht
                rw [List.getElem?_append] at hx
                split at hx
                · rename_i hj
                  have := Nat.mul_le_mul_right (E.ty e).size (show j + 1 ≤ xs.length by omega)
                  rw [Nat.add_mul, Nat.one_mul] at this
                  rw [if_neg (by omega)]
                  obtain ⟨u, hu1, hu2⟩ := e5 j x t y hx hy
                  exact ⟨u, hu1, hu2.mono (fun _ h => h) hkeep⟩
                · rename_i hj
                  have hjl := (List.getElem?_eq_some_iff.1 hx).1
                  obtain ⟨u, hu1, hu2⟩ := m6 _ x t y hx hy
                  have h1 : j * (E.ty e).size = xs.length * (E.ty e).size + (j - xs.length) * (E.ty e).size := by rw [← Nat.add_mul]; congr 1; omega
                  have := (List.getElem?_eq_some_iff.1 hu1).1
                  rw [if_pos (by omega)]
                  refine ⟨u, ?_, hu2.mono (fun _ h => h) hkeep⟩
                  rw [← hu1]; congr 1; omega
              · have := Rel.row (c := c.push l (.slice (some ⟨l, o, none⟩) (xs.length + ys.length) k) (E.ty e).size) (w := w') c.n (Nat.lt_succ_self _)
                rw [hval, b3.n] at this
                exact this
        · -- a new row
          have hgc := grownCap_ge w (xs.length + ys.length) k e
          have hgm : grownCap w (xs.length + ys.length) k e ≤ maxLen := grownCap_le_maxLen w _ k e (by simp only [maxLen]; omega)
          have holds : ∃ olds : List Value, olds.length = xs.length * (E.ty e).size ∧ (Builtin.firstCells (E.ty e).size xs.length (.slice B xs.length k)).run P w.drew = .ok olds.toArray w.drew ∧
              ∀ (j : Nat) x (t : Nat) y, xs[j]? = some x → x.cells[t]? = some y → ∃ u, olds[j * (E.ty e).size + t]? = some u ∧ RD c.F w y u := by
            by_cases hxn : xs = []
            · subst hxn
              refine ⟨[], by simp, ?_, fun j x t y hx => by simp at hx⟩
              cases B with
              | none => rfl
              | some A => simp [Builtin.firstCells, loadCells, loadCellsFrom]
            · have hpos := List.length_pos_iff.2 hxn
              obtain ⟨l, o, vs, lo, hi, rfl, e2, e3, e4, e5, e6, e7, e8, e9, _⟩ := b7 (by omega)
              obtain ⟨olds, n1, n2, n3⟩ := news_of (w := w) (g := l) (o := o) i7 b5 (fun j x t y hx hy => by
                obtain ⟨u, hu1, hu2⟩ := e5 j x t y hx hy
                exact ⟨u, by simp [World.cell?, e2, hu1], hu2⟩)
              refine ⟨olds, n1, run_firstCells_some w.drew _ _ _ _ _ olds n1 (fun j v hv => ?_), n3⟩
              rw [add_at]
              exact n2 j v hv
          obtain ⟨olds, n1, n2, n3⟩ := holds
          have hgrow := append_grow (ty := ty) hu hux i1 i4 m1 (show k < xs.length + ys.length by omega) d2 (by rw [i3]; exact d3) (by rw [i2]; exact n2) (by rw [i2]; exact m5 w.drew rfl)
          refine ⟨_, _, hgrow, c.push w.heap.size (.slice (some ⟨w.heap.size, 0, none⟩) (xs ++ ys).length (grownCap w (xs.length + ys.length) k e)) (E.ty e).size, ?_⟩
          have hmulk : (xs.length + ys.length) * (E.ty e).size + (grownCap w (xs.length + ys.length) k e - (xs.length + ys.length)) * (E.ty e).size = grownCap w (xs.length + ys.length) k e * (E.ty e).size := by rw [← Nat.add_mul]; congr 1; omega
          have hstep := row_step (w' := w.drew.alloc (.cells (olds.toArray ++ (news.toArray ++ Builtin.zeroCells z.cells (grownCap w (xs.length + ys.length) k e - (xs.length + ys.length)))) e)) b3 (xs := xs ++ ys) (e := e) (z := (E.ty e).size) (k := grownCap w (xs.length + ys.length) k e) (fr := (0, 0)) rfl rfl rfl rfl rfl i7 (by simpa using hgc) hgm hwid hone
            (by
              simp only [Array.size_append, List.size_toArray, size_zeroCells, n1, m4, i5, i6]
              rw [← hmulk, Nat.add_mul]
              omega)
            (fun j _ => by simp) (fun j x t y hx hy => by
              have ht := (List.getElem?_eq_some_iff.1 hy).1
              rw [hwid x (List.mem_of_getElem? hx)] at ht
              rw [List.getElem?_append] at hx
              split at hx
              · rename_i hj
                obtain ⟨u, hu1, hu2⟩ := n3 j x t y hx hy
                refine ⟨u, ?_, hu2⟩
                have hlt := (List.getElem?_eq_some_iff.1 hu1).1
                rw [Array.getElem?_append, if_pos (by simpa using hlt)]
                simpa using hu1
              · rename_i hj
                obtain ⟨u, hu1, hu2⟩ := m6 _ x t y hx hy
                refine ⟨u, ?_, hu2⟩
                have h1 : j * (E.ty e).size = xs.length * (E.ty e).size + (j - xs.length) * (E.ty e).size := by rw [← Nat.add_mul]; congr 1; omega
                have hlt := (List.getElem?_eq_some_iff.1 hu1).1
                rw [Array.getElem?_append, if_neg (by simp [n1]; omega), Array.getElem?_append, if_pos (by simp [n1]; omega)]
                rw [← hu1]
                simp [n1]
                congr 1; omega)
          have hlen : (xs ++ ys).length = xs.length + ys.length := List.length_append
          rw [hlen] at hstep ⊢
          exact ⟨hstep.le, hstep.inv, hstep.keep, hstep.hs.trans b4', hstep.hN.trans b4'', hstep.rel⟩
      · cases h
    · cases h
  · cases h
end
section
variable {E : Env} {P : Program} {M0 : Nat → Prop} {w0 : World} {c : Ctx} {st st' : St} {a : Act} {w w' : World}

theorem fill_all {sz : Nat} : ∀ (l : List (Nat × Value)) (start : Nat) (cells : Array Value), (∀ (j : Nat) p, l[j]? = some p → p.1 = start + j ∧ p.2.cells.size = sz) → (start + l.length) * sz ≤ cells.size →
    ∃ cells' : Array Value, Instr.fill (fun i => some (i * sz, sz)) cells l = some cells' ∧ cells'.size = cells.size ∧ (∀ (j : Nat) p (t : Nat), l[j]? = some p → t < sz → cells'[(start + j) * sz + t]? = p.2.cells[t]?) ∧ ∀ m, m < start * sz → cells'[m]? = cells[m]?
  | [], start, cells, _, _ => ⟨cells, rfl, rfl, fun j p t h => by simp at h, fun _ _ => rfl⟩
  | (i, v) :: r, start, cells, h, hb => by
    obtain ⟨h1, h2⟩ := h 0 (i, v) rfl
    simp only [Nat.add_zero] at h1 h2
    subst h1
    simp only [List.length_cons] at hb
    have hb0 : i * sz + sz ≤ cells.size := by
      have := Nat.mul_le_mul_right sz (show i + 1 ≤ i + (r.length + 1) by omega)
      rw [Nat.add_mul i 1, Nat.one_mul] at this
      omega
    obtain ⟨c1, e1, e2, e3⟩ := fill_cons (place := fun i => some (i * sz, sz)) (cells := cells) (i := i) (off := i * sz) (v := v) (rest := r) (by simp only [h2]) (by rw [h2]; exact hb0)
    have hs : i + (r.length + 1) = i + 1 + r.length := by omega
    rw [hs] at hb
    obtain ⟨c2, f1, f2, f3, f4⟩ := fill_all r (i + 1) c1 (fun j p hp => by
      have := h (j + 1) p (by simpa using hp)
      exact ⟨by rw [this.1]; omega, this.2⟩) (by rw [e2]; exact hb)
    refine ⟨c2, e1.trans f1, f2.trans e2, fun j p t hj ht => ?_, fun m hm => ?_⟩
    · cases j with
      | zero =>
        simp at hj
        subst hj
        rw [Nat.add_zero, f4 _ (by rw [Nat.add_mul]; omega), e3, if_pos (by rw [h2]; omega)]
        congr 1; omega
      | succ j =>
        have := f3 j p t (by simpa using hj) ht
        have hj' : i + (j + 1) = i + 1 + j := by omega
        rw [hj']; exact this
    · rw [f4 _ (by rw [Nat.add_mul]; omega), e3, if_neg (by omega)]

theorem vals_rel (hA : InvA c st a w) (l : List (Nat × Operand)) (i : Nat) (s : SV) (v : Value) (hs : (l.map fun p => st.val p.2)[i]? = some s) (hv : (l.map fun p => a.eval p.2)[i]? = some v) : Rel c w s v := by
  rw [List.getElem?_map, Option.map_eq_some_iff] at hs hv
  obtain ⟨p, hp, rfl⟩ := hs
  obtain ⟨p', hp', rfl⟩ := hv
  rw [hp] at hp'
  obtain rfl := Option.some.inj hp'
  exact val_rel hA _

theorem buildSlice_pre (hP : POK E P) (hI : Inv E M0 w0 c st w) (hA : InvA c st a w) {t n : Nat} {ps : Array (Nat × Operand)} {ts : List T} {st2 : St} (hc : isSlice (E.ty t).k = true ∧ (E.ty (E.ty t).elem).known = true ∧ ps.toList.map (·.1) = List.range n ∧ n * (E.ty (E.ty t).elem).size ≤ 16777216 ∧ (ps.toList.map fun p => st.val p.2).all (fun v => v.cells.length == (E.ty (E.ty t).elem).size && v.cells.all SV.one) = true) (hab : st.absorbAll (ps.toList.map fun p => st.val p.2) = some (ts, st2)) :
    ∃ (cells' : Array Value) (F : Nat → Prop), (Instr.buildSlice t n (ps.map fun (i, x) => (i, a.eval x))).run P w = .ok (.slice (some ⟨w.heap.size, 0, none⟩) n n) (w.alloc (.cells cells' (E.ty t).elem)) ∧ Inv E M0 w0 (c.withF F) st2 w ∧ (∀ k, c.F k → F k) ∧ st2.s = st.s ∧ st2.N = st.N ∧ ts.length = n ∧ 0 < (E.ty (E.ty t).elem).size ∧ n ≤ maxLen ∧ (∀ x ∈ ts, x.cells.length = (E.ty (E.ty t).elem).size ∧ ∀ y ∈ x.cells, y.one = true) ∧ cells'.size = n * (E.ty (E.ty t).elem).size ∧
      ∀ (j : Nat) x (i : Nat) y, ts[j]? = some x → x.cells[i]? = some y → ∃ v, cells'[j * (E.ty (E.ty t).elem).size + i]? = some v ∧ RD F w y v := by
  obtain ⟨c1, c2, c3, c4, c5⟩ := hc
  have hk := isSlice_eq c1
  have hu := (hP.ty t).und
  rw [hk] at hu
  simp only at hu
  generalize he : (E.ty t).elem = e at *
  obtain ⟨q, z, i1, i2, i3, i4, i5, i6, i7, i8, _⟩ := (hP.ty e).info (known_ne (by simp [c2]))
  have hn : ps.toList.length = n := by
    have := congrArg List.length c3
    simpa using this
  have hall := List.all_eq_true.1 c5
  obtain ⟨F, g1, g2, g3, g4, g5, g6, g7⟩ := absorbAll_ok (vs := ps.toList.map fun p => a.eval p.2) hI (by simp) (vals_rel hA ps.toList) (fun s hs => by
    have := hall s hs
    simp only [Bool.and_eq_true] at this
    exact this.2) hab
  -- the parts
  have hpart : ∀ (j : Nat) p, (ps.toList.map fun (p : Nat × Operand) => (p.1, a.eval p.2))[j]? = some p → p.1 = 0 + j ∧ p.2.cells.size = (E.ty e).size ∧ ∃ tt, ts[j]? = some tt ∧ tt.cells.length = (E.ty e).size ∧ (∀ y ∈ tt.cells, y.one = true) ∧ ∀ (i : Nat) y u, tt.cells[i]? = some y → p.2.cells[i]? = some u → RD F w y u := by
    intro j p hp
    rw [List.getElem?_map, Option.map_eq_some_iff] at hp
    obtain ⟨p0, hp0, rfl⟩ := hp
    have hj := (List.getElem?_eq_some_iff.1 hp0).1
    have hl : j < ts.length := by rw [g3, List.length_map]; exact hj
    have hs : (ps.toList.map fun p => st.val p.2)[j]? = some (st.val p0.2) := by simp [List.getElem?_map, hp0]
    have hv : (ps.toList.map fun p => a.eval p.2)[j]? = some (a.eval p0.2) := by simp [List.getElem?_map, hp0]
    obtain ⟨k1, k2, k3, k4, k5⟩ := g4 j _ _ _ hs (List.getElem?_eq_getElem hl) hv
    have hw := hall _ (List.mem_of_getElem? hs)
    simp only [Bool.and_eq_true, beq_iff_eq] at hw
    refine ⟨?_, by rw [k4, hw.1], _, List.getElem?_eq_getElem hl, by rw [k1, hw.1], k2, k3⟩
    have : (ps.toList.map (·.1))[j]? = some p0.1 := by simp [List.getElem?_map, hp0]
    rw [c3, List.getElem?_range (by omega)] at this
    simp at this
    simp [this]
  obtain ⟨cells', f1, f2, f3, _⟩ := fill_all (sz := (E.ty e).size) (ps.toList.map fun (p : Nat × Operand) => (p.1, a.eval p.2)) 0 ((Array.range (n * (E.ty e).size)).map (fun i => (if n * (E.ty e).size = 0 then #[] else z.cells)[i % (if n * (E.ty e).size = 0 then #[] else z.cells).size]!)) (fun j p hp => ⟨(hpart j p hp).1, (hpart j p hp).2.1⟩) (by simp [hn])
  have hrun : (Instr.buildSlice t n (ps.map fun (i, x) => (i, a.eval x))).run P w = .ok (.slice (some ⟨w.heap.size, 0, none⟩) n n) (w.alloc (.cells cells' e)) := by
    have hsz := size_run (P := P) (w := w) i1
    have hzr := zero_run (P := P) (w := w) i1 i4
    have hle : ¬ (n * (E.ty e).size > 2 ^ 24) := by omega
    have hps : (ps.map fun (i, x) => (i, a.eval x)).toList = ps.toList.map fun (p : Nat × Operand) => (p.1, a.eval p.2) := by simp
    simp only [Instr.buildSlice, Sem.run_bind, und_run hu, Result.andThen_ok, hsz, i2]
    rw [if_neg hle]
    by_cases h0 : n * (E.ty e).size = 0
    · rw [if_pos h0] at f1 ⊢
      simp only [Sem.run_bind, Sem.run_pure, Result.andThen_ok, hps, f1, newRow, run_newObj]
      rfl
    · rw [if_neg h0] at f1 ⊢
      simp only [Sem.run_bind, Sem.run_pure, Result.andThen_ok, hzr, hps, f1, newRow, run_newObj]
      rfl
  have hnmax : n ≤ maxLen := by
    have := Nat.le_mul_of_pos_right n i7
    simp only [maxLen]; omega
  have htn : ts.length = n := by rw [g3, List.length_map, hn]
  have hmem : ∀ x ∈ ts, x.cells.length = (E.ty e).size ∧ ∀ y ∈ x.cells, y.one = true := by
    intro x hx
    obtain ⟨j, hj⟩ := List.mem_iff_getElem?.1 hx
    have hlt := (List.getElem?_eq_some_iff.1 hj).1
    have hj2 : j < ps.toList.length := by omega
    obtain ⟨_, _, tt, h1, h2, h3, _⟩ := hpart j (ps.toList[j].1, a.eval ps.toList[j].2) (by simp [List.getElem?_map, List.getElem?_eq_getElem hj2])
    rw [hj] at h1
    obtain rfl := Option.some.inj h1
    exact ⟨h2, h3⟩
  refine ⟨cells', F, hrun, g1, g2, g5, g6, htn, i7, hnmax, hmem, by rw [f2]; simp, fun j x t y hx hy => ?_⟩
  have hlt := (List.getElem?_eq_some_iff.1 hx).1
  have hj2 : j < ps.toList.length := by omega
  have hpj : (ps.toList.map fun (p : Nat × Operand) => (p.1, a.eval p.2))[j]? = some (ps.toList[j].1, a.eval ps.toList[j].2) := by simp [List.getElem?_map, List.getElem?_eq_getElem hj2]
  obtain ⟨_, h0, tt, h1, h2, h3, h4⟩ := hpart j _ hpj
  rw [hx] at h1
  obtain rfl := Option.some.inj h1
  have ht := (List.getElem?_eq_some_iff.1 hy).1
  rw [h2] at ht
  have := f3 j _ t hpj ht
  rw [Nat.zero_add] at this
  have h0' : (a.eval ps.toList[j].2).cells.size = (E.ty e).size := h0
  have hlt2 : t < (a.eval ps.toList[j].2).cells.size := by rw [h0']; exact ht
  rw [Array.getElem?_eq_getElem hlt2] at this
  exact ⟨_, this, h4 t y _ hy (Array.getElem?_eq_getElem hlt2)⟩
theorem buildSlice_step (hP : POK E P) (hI : Inv E M0 w0 c st w) (hA : InvA c st a w) {t n : Nat} {ps : Array (Nat × Operand)} {r : SV} {st1 : St} (h : st.op E (.buildSlice t n ps) = some (r, st1)) :
    ∃ y w', (Instr.buildSlice t n (ps.map fun (i, x) => (i, a.eval x))).run P w = .ok y w' ∧ ∃ c', Step E M0 w0 c st w r st1 c' y w' := by
  simp only [St.op] at h
  split at h
  · rename_i hc
    split at h
    · rename_i ts st2 hab
      simp only [Option.some.injEq, Prod.mk.injEq] at h
      obtain ⟨rfl, rfl⟩ := h
      obtain ⟨cells', F, hrun, g1, g2, g5, g6, htn, i7, hnmax, hmem, hsz, hcell⟩ := buildSlice_pre hP hI hA hc hab
      have hstep := row_step (w' := w.alloc (.cells cells' (E.ty t).elem)) (c := c.withF F) g1 (xs := ts) (e := (E.ty t).elem) (z := (E.ty (E.ty t).elem).size) (k := n) (fr := (0, 0)) rfl rfl rfl rfl rfl i7 (by omega) hnmax (fun x hx => (hmem x hx).1) (fun x hx => (hmem x hx).2)
        (by rw [hsz]; exact Nat.le_refl _) (fun j _ => by simp) hcell
      rw [htn] at hstep
      exact ⟨_, _, hrun, _, ⟨(Ctx.le_withF g2).trans hstep.le, hstep.inv, fun k hk => hstep.keep k (g2 k hk), hstep.hs.trans g5, hstep.hN.trans g6, hstep.rel⟩⟩
    · cases h
  · cases h

theorem ofConst_RD {v : Value} {t : T} {F : Nat → Prop} (h : st.peek1 (ofConst v) = some t) : RD F w t v ∧ t.one = true := by
  cases v with
  | int k n => simp [ofConst, St.peek1, T.one] at h; subst h; exact ⟨.int k n, rfl⟩
  | bool b => simp [ofConst, St.peek1, T.one] at h; subst h; exact ⟨.bool b, rfl⟩
  | string s =>
    obtain ⟨⟨l⟩⟩ := s
    simp [ofConst, St.peek1, T.one] at h; subst h; exact ⟨.str _, rfl⟩
  | slice a len cap =>
    cases a with
    | some a => simp [ofConst, St.peek1] at h
    | none =>
      cases len with
      | succ n => simp [ofConst, St.peek1] at h
      | zero =>
        cases cap with
        | succ n => simp [ofConst, St.peek1] at h
        | zero =>
          simp [ofConst, St.peek1] at h; subst h
          exact ⟨.list [] none 0 1 (fun _ _ => undef) (Nat.le_refl _) (by decide) (by omega) (by simp) (by simp) (fun h => absurd rfl h) (fun j x i y hx => by simp at hx), rfl⟩
  | _ => simp [ofConst, St.peek1] at h
theorem peekL_get : ∀ {l : List SV} {ts : List T}, st.peekL l = some ts → ts.length = l.length ∧ ∀ (i : Nat) t, ts[i]? = some t → ∃ s, l[i]? = some s ∧ st.peek1 s = some t
  | [], ts, h => by
    simp only [St.peekL, Option.some.injEq] at h
    subst h
    exact ⟨rfl, fun i t h => by simp at h⟩
  | s :: r, ts, h => by
    unfold St.peekL at h
    split at h
    · cases h
    · rename_i t0 h0
      split at h
      · cases h
      · rename_i ts' h1
        obtain rfl := Option.some.inj h
        obtain ⟨g1, g2⟩ := peekL_get h1
        refine ⟨by simp [g1], fun i t ht => ?_⟩
        cases i with
        | zero => simp at ht; subst ht; exact ⟨s, rfl, h0⟩
        | succ i => simpa using g2 i t (by simpa using ht)

theorem Inv.world0 (hI : Inv E M0 w0 c st w) {S : Nat → Prop} (hs : Same w w' S) (h1 : ∀ k, S k → ¬ c.F k ∧ (M0 k ∨ w0.heap.size ≤ k)) (h2 : ∀ i, i < st.n → Owns c i (st.o i) → ¬ S (c.loc i)) : Inv E M0 w0 c st w' := by
  have hF : ∀ k, c.F k → w'.heap[k]? = w.heap[k]? := fun k hk => hs.blk k (hI.F k hk) (fun e => (h1 k e).1 hk)
  refine ⟨hI.n, fun i hi => ?_, hI.dead, hI.inj, fun i hi ho => ?_, fun k hk => Nat.lt_of_lt_of_le (hI.F k hk) hs.size, hI.one, hI.same.trans hs (fun k hk e => ?_), hI.bnd⟩
  · exact (hI.obs i hi).mono (Ctx.Le.refl c) (by rw [hI.n]; exact hi) hF (fun ho => hs.blk _ (hI.own i hi ho).1 (h2 i hi ho))
  · obtain ⟨l1, l2, l3⟩ := hI.own i hi ho
    exact ⟨Nat.lt_of_lt_of_le l1 hs.size, l2, l3⟩
  · rcases (h1 k e).2 with h | h
    · exact h
    · omega
theorem nil_step (hI : Inv E M0 w0 c st w) {o : Obj} (hh : w'.heap = w.heap.push o) (ht : w'.tape = w.tape) (ho : w'.os = w.os) (hu : w'.output = w.output) (A : Option Addr) : Step E M0 w0 c st w .nil st c (.slice A 0 0) w' := by
  have hsame := Same.push hh ht ho hu
  refine ⟨Ctx.Le.refl c, hI.world0 hsame (fun k hk => ?_) (fun i hi ho e => ?_), fun k hk => hsame.blk k (hI.F k hk) (fun e => ?_), rfl, rfl, .nil A⟩
  · subst hk
    exact ⟨fun hF => Nat.lt_irrefl _ (hI.F _ hF), .inr hI.same.size⟩
  · have := (hI.own i hi ho).1
    omega
  · have := hI.F k hk
    omega
theorem slbox_step (hI : Inv E M0 w0 c st w) {e n sz : Nat} {cells : List SV} {vs : Array Value} (hl : vs.size = cells.length) (h1 : ∀ x ∈ cells, x.one = true) (hr : ∀ (i : Nat) x u, cells[i]? = some x → vs[i]? = some u → Rel c w x u) (hm : n ≤ maxLen) :
    Step E M0 w0 c st w (.sl st.n n sz) (st.alloc (.box e cells)) (c.push w.heap.size .nilFunc 0) (.slice (some ⟨w.heap.size, 0, none⟩) n n) (w.alloc (.cells vs e)) := by
  have hle := c.le_push w.heap.size .nilFunc 0
  have hloc : (c.push w.heap.size .nilFunc 0).loc c.n = w.heap.size := upd_self _ _ _
  refine Step.new hI rfl rfl rfl rfl rfl ⟨vs, ?_, hl, h1, fun j s v hs hv => ?_⟩ ?_
  · rw [hloc]
    show (w.heap.push _)[w.heap.size]? = _
    simp
  · refine (hr j s v hs hv).mono hle (fun k hk => ?_)
    have := hI.F k hk
    show (w.heap.push _)[k]? = _
    rw [Array.getElem?_push, if_neg (by omega)]
  · have := Rel.sl (c := c.push w.heap.size .nilFunc 0) (w := w.alloc (.cells vs e)) c.n n sz (Nat.lt_succ_self _) hm
    rw [hloc, hI.n] at this
    exact this
theorem flat_rep {α : Type} (z : List α) (hz : 0 < z.length) : ∀ (l i : Nat) (s : α), (List.replicate l z).flatten[i]? = some s → i < l * z.length ∧ z[i % z.length]? = some s
  | 0, i, s, h => by simp at h
  | l + 1, i, s, h => by
    rw [List.replicate_succ, List.flatten_cons] at h
    by_cases hi : i < z.length
    · rw [List.getElem?_append_left hi] at h
      rw [Nat.mod_eq_of_lt hi]
      exact ⟨by rw [Nat.add_mul]; omega, h⟩
    · rw [List.getElem?_append_right (by omega)] at h
      obtain ⟨h1, h2⟩ := flat_rep z hz l _ s h
      rw [Nat.mod_eq_sub_mod (by omega)]
      exact ⟨by rw [Nat.add_mul]; omega, h2⟩
theorem makeSlice_step (hP : POK E P) (hI : Inv E M0 w0 c st w) (hA : InvA c st a w) {t : Nat} {x y : Operand} {r : SV} {st1 : St} (h : st.op E (.makeSlice t x y) = some (r, st1)) :
    ∃ u w', (Instr.makeSlice t (a.eval x) (a.eval y)).run P w = .ok u w' ∧ ∃ c', Step E M0 w0 c st w r st1 c' u w' := by
  simp only [St.op] at h
  split at h
  · rename_i l cp hl hcp
    split at h
    · rename_i hc
      obtain ⟨rfl, c1, c2, c3, c4⟩ := hc
      obtain ⟨k1, hx⟩ := (val_rel hA x).asNat hl
      obtain ⟨k2, hy⟩ := (val_rel hA y).asNat hcp
      have hk := isSlice_eq c1
      have hu := (hP.ty t).und
      rw [hk] at hu
      simp only at hu
      generalize he : (E.ty t).elem = e at *
      obtain ⟨q, z, i1, i2, i3, i4, i5, i6, i7, i8, i9, i10⟩ := (hP.ty e).info (known_ne (by simp [c2]))
      split at h
      · rename_i zl hz
        split at h
        · rename_i zt hmk
          obtain ⟨p1, p2⟩ := peekL_get hz
          have hrd : ∀ (j : Nat) y, zl[j]? = some y → ∃ v, z.cells[j]? = some v ∧ RD c.F w y v ∧ y.one = true := by
            intro j y hy
            obtain ⟨s, hs, hp⟩ := p2 j y hy
            have hlt := (List.getElem?_eq_some_iff.1 hs).1
            have hlt2 : j < z.cells.size := by omega
            obtain ⟨e1, _⟩ := i8 j s _ hs (Array.getElem?_eq_getElem hlt2)
            rw [e1] at hp
            exact ⟨_, Array.getElem?_eq_getElem hlt2, ofConst_RD hp⟩
          have hzc : zt.cells = zl := by
            unfold mkT at hmk
            split at hmk
            · obtain rfl := Option.some.inj hmk; rfl
            · obtain rfl := Option.some.inj hmk
              obtain ⟨_, _, _, h1⟩ := hrd 0 _ rfl
              exact one_cells h1
            · cases hmk
          have hcl : zt.cells.length = (E.ty e).size := by rw [hzc, p1, i6]
          have hw1 : IntKind.i64.wrap (l : Int) = l := by rw [IntKind.wrap_i64]; omega
          have hrun : (Instr.makeSlice t (a.eval x) (a.eval y)).run P w = .ok (.slice (some ⟨w.heap.size, 0, none⟩) l l) (w.alloc (.cells ((Array.range (l * (E.ty e).size)).map (fun i => (if l * (E.ty e).size = 0 then #[] else z.cells)[i % (if l * (E.ty e).size = 0 then #[] else z.cells).size]!)) e)) := by
            have hinf := info_run (P := P) (w := w) i1
            have hsz := size_run (P := P) (w := w) i1
            have hzr := zero_run (P := P) (w := w) i1 i4
            have hbig : ¬ ((281474976710656 : Int) < (q.bytes : Int) * (l : Int)) := by
              rw [i3]
              have : ((l * (E.ty e).bytes : Nat) : Int) ≤ ((140737488355328 : Nat) : Int) := Int.ofNat_le.2 c4
              rw [Int.natCast_mul, Int.mul_comm] at this
              omega
            simp only [Instr.makeSlice, hx, hy, Sem.run_bind, und_run hu, Result.andThen_ok, asInt, asIntOf_run, Sem.run_pure, hinf, hw1]
            have h1 : ¬ ((l : Int) < 0) := by omega
            by_cases h0 : l * (E.ty e).size = 0
            · simp [h1, hbig, hsz, i2, h0, newRow]
            · simp [h1, hbig, hsz, i2, h0, newRow, hzr]
          split at h
          · simp only [Option.some.injEq, Prod.mk.injEq] at h
            obtain ⟨rfl, rfl⟩ := h
            have hstep := row_step (w' := w.alloc (.cells ((Array.range (l * (E.ty e).size)).map (fun i => (if l * (E.ty e).size = 0 then #[] else z.cells)[i % (if l * (E.ty e).size = 0 then #[] else z.cells).size]!)) e)) hI (xs := List.replicate l zt) (e := e) (z := (E.ty e).size) (k := l) (fr := (0, 0)) rfl rfl rfl rfl rfl i7 (by simp) (by simp only [maxLen]; omega)
              (fun x hx => by rw [(List.mem_replicate.1 hx).2, hcl]) (fun x hx y hy => by
                rw [(List.mem_replicate.1 hx).2, hzc] at hy
                obtain ⟨j, hj⟩ := List.mem_iff_getElem?.1 hy
                exact (hrd j y hj).choose_spec.2.2) (by simp) (fun j _ => by simp) (fun j x t y hx hy => by
                have hj := (List.getElem?_eq_some_iff.1 hx).1
                simp at hj
                have hxe := (List.mem_replicate.1 (List.mem_of_getElem? hx)).2
                subst hxe
                rw [hzc] at hy
                have ht := (List.getElem?_eq_some_iff.1 hy).1
                rw [← hzc, hcl] at ht
                obtain ⟨v, hv, hr, _⟩ := hrd t y hy
                refine ⟨v, ?_, hr⟩
                have hzs : z.cells.size = (E.ty e).size := by omega
                have hm := Nat.mul_le_mul_right (E.ty e).size (show j + 1 ≤ l by omega)
                rw [Nat.add_mul, Nat.one_mul] at hm
                have hne : l * (E.ty e).size ≠ 0 := by omega
                have hlt : j * (E.ty e).size + t < l * (E.ty e).size := by omega
                have hmod : (j * (E.ty e).size + t) % (E.ty e).size = t := by
                  rw [Nat.mul_comm, Nat.mul_add_mod]; exact Nat.mod_eq_of_lt ht
                simp only [hne, if_false, Array.getElem?_map]
                rw [Array.getElem?_range, if_pos hlt]
                simp only [Option.map_some, hzs, hmod]
                have : t < z.cells.size := by omega
                rw [Array.getElem?_eq_getElem this] at hv
                rw [getElem!_pos z.cells t this, Option.some.inj hv])
            rw [List.length_replicate] at hstep
            exact ⟨_, _, hrun, _, hstep⟩
          · split at h
            · rename_i hl0
              simp only [Option.some.injEq, Prod.mk.injEq] at h
              obtain ⟨rfl, rfl⟩ := h
              subst hl0
              exact ⟨_, _, hrun, _, nil_step (w' := w.alloc _) (o := .cells _ _) hI rfl rfl rfl rfl _⟩
            · rename_i hl0
              simp only [Option.some.injEq, Prod.mk.injEq] at h
              obtain ⟨rfl, rfl⟩ := h
              have hzs : z.cells.size = (E.ty e).zero.length := i5
              have hzp : 0 < (E.ty e).zero.length := by omega
              have hne : l * (E.ty e).size ≠ 0 := Nat.mul_ne_zero hl0 (by omega)
              have hlen : (List.replicate l (E.ty e).zero).flatten.length = l * (E.ty e).size := by simp [i6]
              refine ⟨_, _, hrun, _, slbox_step hI (by simp [i6]) (fun x hx => ?_) (fun i x u hx hu => ?_) (by simp only [maxLen]; omega)⟩
              · obtain ⟨i, hi⟩ := List.mem_iff_getElem?.1 hx
                obtain ⟨_, g2⟩ := flat_rep _ hzp l i x hi
                have hlt := (List.getElem?_eq_some_iff.1 g2).1
                exact (i8 _ x _ g2 (Array.getElem?_eq_getElem (by omega))).2
              · obtain ⟨g1, g2⟩ := flat_rep _ hzp l i x hx
                have hlt := (List.getElem?_eq_some_iff.1 g2).1
                have hlt2 : i % (E.ty e).zero.length < z.cells.size := by omega
                simp only [hne, if_false, Array.getElem?_map] at hu
                rw [Array.getElem?_range, if_pos (by rw [← i6]; exact g1)] at hu
                simp only [Option.map_some, Option.some.injEq] at hu
                rw [hzs, getElem!_pos z.cells _ hlt2] at hu
                obtain ⟨q1, _⟩ := i8 _ x _ g2 (Array.getElem?_eq_getElem hlt2)
                rw [q1, ← hu]
                exact ofConst_rel c w _
        · cases h
      · cases h
    · cases h
  · cases h
end
section
variable {E : Env} {P : Program} {M0 : Nat → Prop} {w0 : World} {c : Ctx} {st st' : St} {a : Act} {w w' : World}

theorem places_ok {sz : Nat → Nat} : ∀ (fs : List Field) (l : List (Nat × Nat)), fs.length = l.length → (∀ (j o ft : Nat), l[j]? = some (o, ft) → ∃ f, fs[j]? = some f ∧ f.offset = o ∧ f.type = ft) → (∀ p ∈ l, ∃ q, P.info? p.2 = some q ∧ q.size = sz p.2) →
    fs.mapM (fun f => (P.info? f.type).map fun i => (f.offset, i.size)) = some (l.map fun p => (p.1, sz p.2))
  | [], [], _, _, _ => rfl
  | [], _ :: _, h, _, _ => by simp at h
  | _ :: _, [], h, _, _ => by simp at h
  | f :: fs, (o, ft) :: l, h, h1, h2 => by
    obtain ⟨f', e1, e2, e3⟩ := h1 0 o ft rfl
    simp at e1
    subst e1
    obtain ⟨q, q1, q2⟩ := h2 (o, ft) (by simp)
    have := places_ok fs l (by simpa using h) (fun j o ft hj => by simpa using h1 (j + 1) o ft (by simpa using hj)) (fun p hp => h2 p (by simp [hp]))
    simp [List.mapM_cons, e3, q1, q2, e2, this]
theorem fillP_ok (hI : Inv E M0 w0 c st w) {sz : Nat → Nat} {fields : List (Nat × Nat)} : ∀ (l : List (Nat × Operand)) (f : Operand → SV) (g : Operand → Value) (cells : List SV) (vs : Array Value) (out : List SV), (∀ x, Rel c w (f x) (g x)) → cells.length = vs.size → (∀ y ∈ cells, y.one = true) →
    (∀ (i : Nat) s v, cells[i]? = some s → vs[i]? = some v → Rel c w s v) → fillP fields cells sz (l.map fun p => (p.1, f p.2)) = some out →
    ∃ vs' : Array Value, Instr.fill ((fields.map fun p => (p.1, sz p.2)).toArray[·]?) vs (l.map fun p => (p.1, g p.2)) = some vs' ∧ out.length = vs'.size ∧ (∀ y ∈ out, y.one = true) ∧ ∀ (i : Nat) s v, out[i]? = some s → vs'[i]? = some v → Rel c w s v
  | [], f, g, cells, vs, out, _, hl, h1, hr, h => by
    simp only [List.map_nil, fillP, Option.some.injEq] at h
    subst h
    exact ⟨vs, rfl, hl, h1, hr⟩
  | (i, x) :: r, f, g, cells, vs, out, hf, hl, h1, hr, h => by
    simp only [List.map_cons] at h ⊢
    unfold fillP at h
    split at h
    · cases h
    · rename_i o ft hfi
      split at h
      · rename_i hc
        obtain ⟨c1, c2, c3⟩ := hc
        obtain ⟨q1, q2, q3, q4⟩ := (hf x).cells hI c3
        obtain ⟨vs1, e1, e2, e3⟩ := fill_cons (place := ((fields.map fun p => (p.1, sz p.2)).toArray[·]?)) (cells := vs) (i := i) (off := o) (v := g x) (rest := r.map fun p => (p.1, g p.2)) (by simp [hfi, ← c1, q1]) (by omega)
        obtain ⟨vs', f1, f2, f3, f4⟩ := fillP_ok hI r f g (splice cells o (f x).cells) vs1 out hf (by rw [splice_length _ _ _ c2, e2, hl]) (fun y hy => by
          rcases splice_mem hy with hy | hy
          · exact h1 y hy
          · exact q2 y hy) (fun j s v hs hv => by
          rw [splice_get _ _ _ _ c2] at hs
          rw [e3, q1] at hv
          by_cases hj : o ≤ j ∧ j < o + (f x).cells.length
          · rw [if_pos hj] at hs hv
            exact q4 _ _ _ hs hv
          · rw [if_neg hj] at hs hv
            exact hr _ _ _ hs hv) h
        exact ⟨vs', e1.trans f1, f2, f3, f4⟩
      · cases h
theorem build_step (hP : POK E P) (hI : Inv E M0 w0 c st w) (hA : InvA c st a w) {t : Nat} {ps : Array (Nat × Operand)} {r : SV} {st1 : St} (h : st.op E (.build t ps) = some (r, st1)) :
    ∃ y, (Instr.build t (ps.map fun (i, x) => (i, a.eval x))).run P w = .ok y w ∧ st1 = st ∧ Rel c w r y := by
  simp only [St.op] at h
  split at h
  · rename_i hc
    obtain ⟨c1, c2⟩ := hc
    have hk : (E.ty t).k = .struct := by
      unfold TI.agg at c1
      split at c1
      · assumption
      · cases c1
    have hu := (hP.ty t).und
    rw [hk] at hu
    obtain ⟨fs, hu, hsz, hfs⟩ := hu
    obtain ⟨q, z, i1, i2, i3, i4, i5, i6, i7, i8, i9, i10⟩ := (hP.ty t).info (by rw [hk]; simp)
    simp only [Option.map_eq_some_iff, Prod.mk.injEq] at h
    obtain ⟨out, hout, rfl, rfl⟩ := h
    have hall := List.all_eq_true.1 c2
    have hpl := places_ok (P := P) (sz := fun f => (E.ty f).size) fs.toList (E.ty t).fields (by simpa using hsz) (fun j o ft hj => by simpa using hfs j o ft hj) (fun p hp => by
      obtain ⟨q, _, k1, k2, _⟩ := (hP.ty p.2).info (known_ne (by simpa using hall p hp))
      exact ⟨q, k1, k2⟩)
    obtain ⟨vs', f1, f2, f3, f4⟩ := fillP_ok hI ps.toList st.val a.eval (E.ty t).zero z.cells out (fun x => val_rel hA x) i5.symm (fun y hy => by
      obtain ⟨i, hi⟩ := List.mem_iff_getElem?.1 hy
      have hlt := (List.getElem?_eq_some_iff.1 hi).1
      exact (i8 i y _ hi (Array.getElem?_eq_getElem (by omega))).2) (fun i s v hs hv => by
      rw [(i8 i s v hs hv).1]; exact ofConst_rel c w v) hout
    refine ⟨.agg vs', run_build w t _ vs' ?_, rfl, .agg out vs' f2 f3 f4⟩
    have hps : (ps.map fun (i, x) => (i, a.eval x)).toList = ps.toList.map fun (p : Nat × Operand) => (p.1, a.eval p.2) := by simp
    simp only [Program.built, i1, hu, i4, hpl, hps]
    exact f1
  · cases h

theorem choose_cap (n k e : Nat) : (choose (.appendCap n k e)).run P w = .ok (grownCap w n k e) w.drew := by
  simp [Question.forced, grownCap]
theorem freeze_heap (w : World) (a : Addr) (n : Nat) (h : n ≠ 0) : ∃ f : Obj → Obj, (w.freeze a n).heap = w.heap.modify a.block f ∧ ∀ cs e, f (.cells cs e (0, 0)) = .cells cs e (a.off, a.off + n) := by
  unfold World.freeze
  rw [if_neg h]
  dsimp only
  refine ⟨_, rfl, fun cs e => ?_⟩
  simp
theorem toBytes_step (hP : POK E P) (hI : Inv E M0 w0 c st w) {e : Nat} {s : List UInt8} (hk : (E.ty e).k = .int .u8) (hl : s.length ≤ 140737488355328) :
    ∃ u w', (Conv.stringToBytes e ⟨⟨s⟩⟩).run P w = .ok u w' ∧ ∃ c', Step E M0 w0 c st w (.row st.n) (st.alloc (.row e (bytesT s) true)) c' u w' := by
  obtain ⟨q, z, i1, i2, i3, i4, i5, i6, i7, i8, i9, i10⟩ := (hP.ty e).info (by rw [hk]; simp)
  have hs1 := i10 (by unfold TI.agg; rw [hk])
  have hsz : (⟨⟨s⟩⟩ : ByteArray).size = s.length := rfl
  have hgc := grownCap_ge w s.length 0 e
  have hgm : grownCap w s.length 0 e ≤ maxLen := grownCap_le_maxLen w _ 0 e (by simp only [maxLen]; omega)
  let cells : Array Value := (Array.mk s).map (fun b : UInt8 => Value.int .u8 b.toNat) ++ Array.replicate (grownCap w s.length 0 e - s.length) (Value.int .u8 0)
  have hcs : cells.size = grownCap w s.length 0 e := by simp [cells]; omega
  have hrun : (Conv.stringToBytes e ⟨⟨s⟩⟩).run P w = .ok (.slice (some ⟨w.heap.size, 0, none⟩) s.length (grownCap w s.length 0 e)) ((w.drew.alloc (.cells cells e)).freeze ⟨w.heap.size, cells.size, none⟩ 1) := by
    simp only [Conv.stringToBytes, hsz, Sem.run_bind, choose_cap, Result.andThen_ok, newRow, run_newObj, Sem.run_pure, markStringish, run_shape]
    have : World.shape? { w.drew with heap := w.drew.heap.push (.cells cells e) } w.drew.heap.size = some (e, cells.size) := by
      have hg : (w.drew.heap.push (Obj.cells cells e))[w.drew.heap.size]? = some (.cells cells e) := Array.getElem?_push_size ..
      simp only [World.shape?, hg]
    simp only [cells] at this ⊢
    simp only [this, Sem.run_bind, run_freeze, Result.andThen_ok, Sem.run_pure]
    rfl
  have hheap : ((w.drew.alloc (.cells cells e)).freeze ⟨w.heap.size, cells.size, none⟩ 1).heap = w.heap.push (.cells cells e (cells.size, cells.size + 1)) := by
    obtain ⟨f, hf, hfc⟩ := freeze_heap (w.drew.alloc (.cells cells e)) ⟨w.heap.size, cells.size, none⟩ 1 (by omega)
    rw [hf]
    apply Array.ext_getElem?
    intro i
    have ha : (w.drew.alloc (.cells cells e)).heap = w.heap.push (.cells cells e) := rfl
    rw [Array.getElem?_modify, ha]
    by_cases hi : w.heap.size = i
    · subst hi
      simp [hfc]
    · rw [if_neg hi]
      simp only [Array.getElem?_push]
      rw [if_neg (fun e => hi e.symm), if_neg (fun e => hi e.symm)]
  have hone : ∀ x ∈ bytesT s, ∃ b : UInt8, x = .int .u8 b.toNat := fun x hx => by
    simp only [bytesT, List.mem_map] at hx
    obtain ⟨b, _, rfl⟩ := hx
    exact ⟨b, rfl⟩
  have hlen : (bytesT s).length = s.length := by simp [bytesT]
  have hfrz : ∀ (w1 : World) (a : Addr) (n : Nat), (w1.freeze a n).tape = w1.tape ∧ (w1.freeze a n).os = w1.os ∧ (w1.freeze a n).output = w1.output := by
    intro w1 a n
    unfold World.freeze
    split <;> exact ⟨rfl, rfl, rfl⟩
  have hstep := row_step (w' := (w.drew.alloc (.cells cells e)).freeze ⟨w.heap.size, cells.size, none⟩ 1) hI (xs := bytesT s) (e := e) (z := 1) (k := grownCap w s.length 0 e) (fr := (cells.size, cells.size + 1)) hheap (hfrz _ _ _).1 (hfrz _ _ _).2.1 (hfrz _ _ _).2.2 hs1.symm (by omega) (by rw [hlen]; exact hgc) hgm
    (fun x hx => by obtain ⟨b, rfl⟩ := hone x hx; rfl) (fun x hx y hy => by
      obtain ⟨b, rfl⟩ := hone x hx
      simp [T.cells] at hy
      subst hy; rfl) (by rw [hcs]; omega) (fun j hj => by rw [hcs]; omega) (fun j x t y hx hy => by
      obtain ⟨b, rfl⟩ := hone x (List.mem_of_getElem? hx)
      cases t with
      | succ t => simp [T.cells] at hy
      | zero =>
        simp [T.cells] at hy
        subst hy
        refine ⟨.int .u8 b.toNat, ?_, .int _ _⟩
        have hj := (List.getElem?_eq_some_iff.1 hx).1
        rw [hlen] at hj
        simp only [bytesT, List.getElem?_map, Option.map_eq_some_iff] at hx
        obtain ⟨b', hb, e'⟩ := hx
        simp only [cells, Nat.mul_one, Nat.add_zero]
        rw [Array.getElem?_append, if_pos (by simpa using hj)]
        simp only [Array.getElem?_map, List.getElem?_toArray, hb, Option.map_some]
        injection e' with _ e'
        rw [e'])
  rw [hlen] at hstep
  exact ⟨_, _, hrun, _, hstep⟩

theorem convert_step (hP : POK E P) (hI : Inv E M0 w0 c st w) {s d : Nat} {x r : SV} {u : Value} {st1 : St} (hx : Rel c w x u) (h : st.convert E s d x = some (r, st1)) :
    ∃ y w', (convert s d u).run P w = .ok y w' ∧ ∃ c', Step E M0 w0 c st w r st1 c' y w' := by
  have hus := (hP.ty s).und
  have hud := (hP.ty d).und
  unfold St.convert at h
  split at h
  · rename_i k1 k2 k3 n hs hd
    rw [hs] at hus
    rw [hd] at hud
    simp only [Option.some.injEq, Prod.mk.injEq] at h
    obtain ⟨rfl, rfl⟩ := h
    obtain rfl := hx.int
    exact ⟨_, w, by simp [convert, und_run hus, und_run hud, Conv.intToInt], c, Step.pure hI (.t (.int _ _))⟩
  · rename_i l hs hd
    rw [hs] at hus
    rw [hd] at hud
    simp only [Option.some.injEq, Prod.mk.injEq] at h
    obtain ⟨rfl, rfl⟩ := h
    have := hx.str
    subst this
    exact ⟨_, w, by simp [convert, und_run hus, und_run hud], c, Step.pure hI hx⟩
  · rename_i l hs hd
    rw [hs] at hus
    rw [hd] at hud
    split at h
    · rename_i he
      have hue := (hP.ty (E.ty d).elem).und
      rw [he] at hue
      split at h
      · rename_i hl
        simp only [Option.some.injEq, Prod.mk.injEq] at h
        obtain ⟨rfl, rfl⟩ := h
        obtain rfl := hx.str
        obtain ⟨y, w', h1, h2⟩ := toBytes_step hP hI he hl
        exact ⟨y, w', by simp [convert, und_run hus, und_run hud, und_run hue, h1], h2⟩
      · cases h
    · cases h
  · rename_i v hs hd
    rw [hs] at hus
    rw [hd] at hud
    split at h
    · rename_i he
      have hue := (hP.ty (E.ty s).elem).und
      rw [he] at hue
      split at h
      · rename_i l hl
        simp only [Option.some.injEq, Prod.mk.injEq] at h
        obtain ⟨rfl, rfl⟩ := h
        rw [Option.bind_eq_some_iff] at hl
        obtain ⟨xs, h1, h2⟩ := hl
        have hrun := bytesToString_run (P := P) hI hx h1 h2
        obtain ⟨A, k, rfl, _⟩ := slice_cells hI hx h1
        exact ⟨_, w, by simp [convert, und_run hus, und_run hud, und_run hue, hrun], c, Step.pure hI (.t (.str _))⟩
      · cases h
    · cases h
  · cases h

/-- What an operation's answer is to the walk. -/
def Answers (E : Env) (P : Program) (M0 : Nat → Prop) (w0 : World) (c : Ctx) (st : St) (w : World) (m : Sem Next) (r : SV) (st1 : St) : Prop :=
  ∃ n w', m.run P w = .ok n w' ∧ ∃ c' x, (n = .value x ∨ (n = .skip ∧ x = undef)) ∧ Step E M0 w0 c st w r st1 c' x w'
theorem Answers.value {m : Sem Value} {r : SV} {st1 : St} (h : ∃ y w', m.run P w = .ok y w' ∧ ∃ c', Step E M0 w0 c st w r st1 c' y w') : Answers E P M0 w0 c st w (do pure (.value (← m))) r st1 := by
  obtain ⟨y, w', h1, c', h2⟩ := h
  exact ⟨_, w', by simp only [Sem.run_bind, h1, Result.andThen_ok, Sem.run_pure], c', y, .inl rfl, h2⟩
theorem Answers.same {m : Sem Value} (hI : Inv E M0 w0 c st w) {r : SV} (h : ∃ y, m.run P w = .ok y w ∧ Rel c w r y) : Answers E P M0 w0 c st w (do pure (.value (← m))) r st := by
  obtain ⟨y, h1, h2⟩ := h
  exact .value ⟨y, w, h1, c, Step.pure hI h2⟩
theorem rel_map {r : SV} {o : Option SV} {st1 : St} (h : o.map (fun v => (v, st)) = some (r, st1)) : o = some r ∧ st1 = st := by
  simp only [Option.map_eq_some_iff, Prod.mk.injEq] at h
  obtain ⟨_, h1, rfl, rfl⟩ := h
  exact ⟨h1, rfl⟩
theorem rel_mapT {r : SV} {o : Option T} {st1 : St} (h : o.map (fun v => (SV.t v, st)) = some (r, st1)) : ∃ t, o = some t ∧ r = .t t ∧ st1 = st := by
  simp only [Option.map_eq_some_iff, Prod.mk.injEq] at h
  obtain ⟨t, h1, rfl, rfl⟩ := h
  exact ⟨t, h1, rfl, rfl⟩

theorem clear_step (hP : POK E P) (hI : Inv E M0 w0 c st w) {t ty : Nat} {x : SV} {v : Value} {st1 : St} (hs : isSlice (E.ty t).k = true) (hkn : (E.ty (E.ty t).elem).known = true) (hx : Rel c w x v) (h : st.clearAt E t x = some st1) :
    ∃ y w', (Builtin.clear_ #[t] ty #[v]).run P w = .ok y w' ∧ ∃ c', Step E M0 w0 c st w (.tup []) st1 c' y w' := by
  have hu := (hP.ty t).und
  rw [isSlice_eq hs] at hu
  have htup : ∀ (c : Ctx) (w : World), Rel c w (.tup []) (.tuple #[]) := fun c w => .tup [] #[] rfl (fun i s v hs => by simp at hs)
  unfold St.clearAt at h
  split at h
  · obtain rfl := Option.some.inj h
    cases hx with
    | nil A => exact ⟨.tuple #[], w, by cases A <;> simp [Builtin.clear_, und_run hu], c, Step.pure hI (htup c w)⟩
  · rename_i r lo hi
    split at h
    · rename_i e xs ho
      split at h
      · rename_i hc
        obtain ⟨he, c1, c2⟩ := hc
        subst he
        split at h
        · rename_i zl hz
          split at h
          · rename_i zt hmk
            obtain rfl := Option.some.inj h
            generalize hge : (E.ty t).elem = e at *
            cases hx with
            | view _ _ _ A B n k hrn hv h1 h2 h3 hB =>
              have hrn' : r < st.n := by rw [← hI.n]; exact hrn
              have hob := hI.obs r hrn'
              rw [ho] at hob
              obtain ⟨z1, z2, ⟨A', k', hv', hk', hm'⟩, z4, z5, z6⟩ := hob
              rw [hv] at hv'
              injection hv' with q1 q2 q3
              subst q1; subst q2; subst q3
              by_cases hlh : lo = hi
              · subst hlh
                have e1 : splice xs lo (List.replicate (lo - lo) zt) = xs := by simp [splice]
                rw [e1, setO_same ho]
                refine ⟨.tuple #[], w, ?_, c, Step.pure hI (htup c w)⟩
                rw [Nat.sub_self]
                cases B <;> simp [Builtin.clear_, und_run hu]
              · obtain ⟨qi, z, i1, i2, i3, i4, i5, i6, i7, i8, i9, i10⟩ := (hP.ty e).info (known_ne (by simp [hkn]))
                obtain ⟨p1, p2⟩ := peekL_get hz
                have hrd : ∀ (j : Nat) y, zl[j]? = some y → ∃ v, z.cells[j]? = some v ∧ RD c.F w y v ∧ y.one = true ∧ oneV v = true := by
                  intro j y hy
                  obtain ⟨s, hs, hp⟩ := p2 j y hy
                  have hlt := (List.getElem?_eq_some_iff.1 hs).1
                  have hlt2 : j < z.cells.size := by omega
                  obtain ⟨e1, _⟩ := i8 j s _ hs (Array.getElem?_eq_getElem hlt2)
                  rw [e1] at hp
                  obtain ⟨g1, g2⟩ := ofConst_RD (F := c.F) (w := w) hp
                  exact ⟨_, Array.getElem?_eq_getElem hlt2, g1, g2, g1.one g2⟩
                have hzc : zt.cells = zl := by
                  unfold mkT at hmk
                  split at hmk
                  · obtain rfl := Option.some.inj hmk; rfl
                  · obtain rfl := Option.some.inj hmk
                    obtain ⟨_, _, _, h1, _⟩ := hrd 0 _ rfl
                    exact one_cells h1
                  · cases hmk
                have hcl : zt.cells.length = (E.ty e).size := by rw [hzc, p1, i6]
                have hzs : z.cells.size = (E.ty e).size := by omega
                obtain ⟨o, vs, flo, fhi, rfl, e2, e3, e4, e5⟩ := z6 A xs.length k hv (by omega)
                have hBv := hB (by omega)
                simp only [Option.map_some, add_at] at hBv
                subst hBv
                rw [z1] at e3 e4 e5 z4 ⊢
                generalize hsz : (E.ty e).size = sz at *
                -- the cells that are written
                obtain ⟨news, hnews⟩ : ∃ news, news = (Builtin.zeroCells z.cells (hi - lo)).toList := ⟨_, rfl⟩
                have hnl : news.length = (hi - lo) * sz := by rw [hnews]; simp [Builtin.zeroCells, hzs]
                have hng : ∀ j, j < (hi - lo) * sz → news[j]? = z.cells[j % sz]? := by
                  intro j hj
                  have hlt : j % sz < z.cells.size := by rw [hzs]; exact Nat.mod_lt _ (by omega)
                  rw [hnews]
                  simp only [Builtin.zeroCells, Array.toList_map, hzs, List.getElem?_map, Array.getElem?_toList]
                  rw [Array.getElem?_range, if_pos hj]
                  simp only [Option.map_some]
                  rw [getElem!_pos z.cells _ hlt, Array.getElem?_eq_getElem hlt]
                have m1 := Nat.mul_le_mul_right sz (show hi ≤ k by omega)
                have m2 : lo * sz + (hi - lo) * sz = hi * sz := by rw [← Nat.add_mul]; congr 1; omega
                obtain ⟨w', r1, r2, vs', r3, r4, r5⟩ := storeCells_ok (P := P) (g := c.loc r) (o := o + lo * sz) news 0 w vs e2 (fun u hu => by
                    obtain ⟨j, hj⟩ := List.mem_iff_getElem?.1 hu
                    have hlt := (List.getElem?_eq_some_iff.1 hj).1
                    rw [hng j (by omega)] at hj
                    have hlt2 : j % sz < zl.length := by rw [p1, i6, ← hsz]; exact Nat.mod_lt _ (by omega)
                    obtain ⟨u', hu', _, _, h1⟩ := hrd _ _ (List.getElem?_eq_getElem hlt2)
                    rw [hu'] at hj
                    rw [← Option.some.inj hj]; exact h1) (by omega) (fun j h1 h2 => e4 j (by omega) (by omega))
                have hrun : (Builtin.clear_ #[t] ty #[.slice (some ⟨c.loc r, o + lo * sz, none⟩) (hi - lo) (k - lo)]).run P w = .ok (.tuple #[]) w' := by
                  obtain ⟨m, hm⟩ : ∃ m, hi - lo = m + 1 := ⟨hi - lo - 1, by omega⟩
                  rw [hnews] at r1
                  rw [hm] at r1 ⊢
                  simp only [Builtin.clear_, und_run hu, hge, zero_run i1 i4, Sem.run_bind, Result.andThen_ok, r1, Sem.run_pure, List.getElem?_toArray, List.getElem?_cons_zero]
                have hown : Owns c r (st.o r) := by rw [ho]; exact ⟨_, _, k, hv, by omega⟩
                have hkeep : ∀ q, c.F q → w'.heap[q]? = w.heap[q]? := fun q hq => r2.blk q (hI.F q hq) (fun e => (hI.own r hrn' hown).2.1 (e ▸ hq))
                have hlen : lo + (List.replicate (hi - lo) zt).length ≤ xs.length := by simp; omega
                have hmem : ∀ x ∈ splice xs lo (List.replicate (hi - lo) zt), x ∈ xs ∨ x = zt := by
                  intro x hx
                  rcases splice_mem hx with h | h
                  · exact .inl h
                  · exact .inr (List.mem_replicate.1 h).2
                refine ⟨_, _, hrun, c, ⟨Ctx.Le.refl c, hI.write hrn' hown r2 ⟨by rw [z1, hsz], by rw [z1]; omega, ⟨_, k, by rw [splice_length _ _ _ hlen]; exact hv, by rw [splice_length _ _ _ hlen]; exact h3, hm'⟩, fun x hx => ?_, fun x hx y hy => ?_, fun A2 n2 k2 hv2 hk2 => ?_⟩, hkeep, rfl, rfl, htup _ _⟩⟩
                · rw [z1]
                  rcases hmem x hx with h | rfl
                  · exact z4 x h
                  · exact hcl
                · rcases hmem x hx with h | rfl
                  · exact z5 x h y hy
                  · rw [hzc] at hy
                    obtain ⟨j, hj⟩ := List.mem_iff_getElem?.1 hy
                    obtain ⟨_, _, _, h1, _⟩ := hrd j y hj
                    exact h1
                · rw [hv] at hv2
                  injection hv2 with q1 q2 q3
                  subst q1; subst q2; subst q3
                  refine ⟨o, vs', flo, fhi, rfl, r3, by rw [z1, r4]; exact e3, by rw [z1]; exact e4, fun j x tt y hx hy => ?_⟩
                  rw [z1]
                  rw [splice_get xs _ lo j hlen] at hx
                  simp only [List.length_replicate] at hx
                  have hjl : j < xs.length := by
                    split at hx
                    · omega
                    · exact (List.getElem?_eq_some_iff.1 hx).1
                  split at hx
                  · rename_i hin
                    rw [List.getElem?_replicate] at hx
                    split at hx
                    · obtain rfl := Option.some.inj hx
                      rw [hzc] at hy
                      have htl := (List.getElem?_eq_some_iff.1 hy).1
                      have htz : tt < sz := by rw [p1, i6] at htl; exact htl
                      obtain ⟨u, hu1, hu2, _⟩ := hrd tt y hy
                      have m3 := Nat.mul_le_mul_right sz (show lo ≤ j by omega)
                      have m4 := Nat.mul_le_mul_right sz (show j + 1 ≤ hi by omega)
                      rw [Nat.add_mul, Nat.one_mul] at m4
                      have m5 : (j - lo) * sz + lo * sz = j * sz := by rw [← Nat.add_mul]; congr 1; omega
                      refine ⟨u, ?_, hu2.mono (fun _ h => h) hkeep⟩
                      rw [r5, if_pos ⟨by omega, by rw [hnl]; omega⟩]
                      have e6 : o + (j * sz + tt) - (o + lo * sz + 0) = (j - lo) * sz + tt := by omega
                      rw [e6, hng _ (by omega)]
                      have e7 : ((j - lo) * sz + tt) % sz = tt := by
                        rw [Nat.mul_comm, Nat.mul_add_mod]; exact Nat.mod_eq_of_lt htz
                      rw [e7, hu1]
                    · cases hx
                  · rename_i hout
                    obtain ⟨u, hu1, hu2⟩ := e5 j x tt y hx hy
                    have htz : tt < sz := by
                      have := (List.getElem?_eq_some_iff.1 hy).1
                      rw [z4 x (List.mem_of_getElem? hx)] at this
                      exact this
                    refine ⟨u, ?_, hu2.mono (fun _ h => h) hkeep⟩
                    rw [r5, if_neg]
                    · exact hu1
                    · rw [hnl]
                      rcases (by omega : j < lo ∨ hi ≤ j) with h | h
                      · have m3 := Nat.mul_le_mul_right sz (show j + 1 ≤ lo by omega)
                        rw [Nat.add_mul, Nat.one_mul] at m3
                        omega
                      · have m3 := Nat.mul_le_mul_right sz h
                        omega
          · cases h
        · cases h
      · cases h
    · cases h
  · cases h
theorem builtin_step (hP : POK E P) (hI : Inv E M0 w0 c st w) {b : Builtin} {ts : List Nat} {ss : List SV} {vs : List Value} {ty : Nat} {cs : Array Bool} {r : SV} {st1 : St} (hl : vs.length = ss.length) (hr : ∀ (i : Nat) s v, ss[i]? = some s → vs[i]? = some v → Rel c w s v) (h : st.builtin E b ts ss = some (r, st1)) :
    Answers E P M0 w0 c st w (builtin b ts.toArray ty cs vs.toArray) r st1 := by
  unfold St.builtin at h
  split at h
  · rename_i t x
    obtain ⟨v, rfl⟩ := List.length_eq_one_iff.1 (show vs.length = 1 by simpa using hl)
    have hx := hr 0 x v rfl rfl
    simp only [Option.map_eq_some_iff, Prod.mk.injEq] at h
    obtain ⟨n, hn, rfl, rfl⟩ := h
    refine Answers.same hI ?_
    have hu := (hP.ty t).und
    unfold St.lenOf at hn
    split at hn
    · rename_i l hk
      rw [hk] at hu
      obtain rfl := Option.some.inj hn
      obtain rfl := hx.str
      exact ⟨_, by simp [Builtin.len_, und_run hu, goInt]; rfl, .t (.int _ _)⟩
    · rename_i hk
      rw [hk] at hu
      obtain ⟨A, k, rfl, _⟩ := slen_rel hI hx hn
      exact ⟨_, by simp [Builtin.len_, und_run hu, goInt], .t (.int _ _)⟩
    · cases hn
  · rename_i sT xT s x
    obtain ⟨v, u, rfl⟩ : ∃ v u, vs = [v, u] := by match vs, hl with | [v, u], _ => exact ⟨v, u, rfl⟩
    split at h
    · split at h
      · rename_i hc
        exact .value (appendIn_step (ty := ty) hP hI hc.1 hc.2.1 hc.2.2 (hr 0 s v rfl rfl) (hr 1 x u rfl rfl) h)
      · cases h
    · exact .value (append_step (ty := ty) hP hI (hr 0 s v rfl rfl) (hr 1 x u rfl rfl) h)
  · rename_i t x
    obtain ⟨v, rfl⟩ := List.length_eq_one_iff.1 (show vs.length = 1 by simpa using hl)
    split at h
    · rename_i hc
      simp only [Option.map_eq_some_iff, Prod.mk.injEq] at h
      obtain ⟨st2, hst, rfl, rfl⟩ := h
      exact .value (clear_step (ty := ty) hP hI hc.1 hc.2 (hr 0 x v rfl rfl) hst)
    · cases h
  · rename_i ts x y
    obtain ⟨v, u, rfl⟩ : ∃ v u, vs = [v, u] := by match vs, hl with | [v, u], _ => exact ⟨v, u, rfl⟩
    have hx := hr 0 _ v rfl rfl
    have hy := hr 1 _ u rfl rfl
    obtain ⟨t, ht, rfl, rfl⟩ := rel_mapT h
    unfold pickMin at ht
    split at ht
    · split at ht
      · obtain rfl := Option.some.inj ht
        obtain rfl := hx.int
        obtain rfl := hy.int
        exact Answers.same hI ⟨_, rfl, .t (.int _ _)⟩
      · cases ht
    · obtain rfl := Option.some.inj ht
      obtain rfl := hx.str
      obtain rfl := hy.str
      refine Answers.same hI ⟨_, ?_, .t (.str _)⟩
      simp [Builtin.max_, Builtin.max2, Op.stringOp, asBool]
      split <;> rfl
    · cases ht
  · rename_i ts x y
    obtain ⟨v, u, rfl⟩ : ∃ v u, vs = [v, u] := by match vs, hl with | [v, u], _ => exact ⟨v, u, rfl⟩
    have hx := hr 0 _ v rfl rfl
    have hy := hr 1 _ u rfl rfl
    obtain ⟨t, ht, rfl, rfl⟩ := rel_mapT h
    unfold pickMin at ht
    split at ht
    · split at ht
      · obtain rfl := Option.some.inj ht
        obtain rfl := hx.int
        obtain rfl := hy.int
        exact Answers.same hI ⟨_, rfl, .t (.int _ _)⟩
      · cases ht
    · obtain rfl := Option.some.inj ht
      obtain rfl := hx.str
      obtain rfl := hy.str
      refine Answers.same hI ⟨_, ?_, .t (.str _)⟩
      simp [Builtin.min_, Builtin.min2, Op.stringOp, asBool]
      split <;> rfl
    · cases ht
  · cases h
end
section
variable {E : Env} {P : Program} {M0 : Nat → Prop} {w0 : World} {c : Ctx} {st st' : St} {a : Act} {w w' : World}

theorem part_run (hP : POK E P) {t o : Nat} {cs : List SV} {vs : Array Value} {r : SV} (hk : (E.ty t).known = true) (hr : Rel c w (.agg cs) (.agg vs)) (hle : o + (E.ty t).size ≤ cs.length) (hm : mkSV (E.ty t).agg ((cs.drop o).take (E.ty t).size) = some r) :
    ∃ x, (part t vs o).run P w = .ok x w ∧ Rel c w r x := by
  have hne := known_ne (t := E.ty t) (by simp [hk])
  cases hr with
  | agg _ _ hl h1 hr =>
    cases ha : (E.ty t).agg with
    | true =>
      rw [ha] at hm
      obtain rfl := Option.some.inj hm
      refine ⟨.agg (vs.extract o (o + (E.ty t).size)), ?_, .agg _ _ (by simp; omega) (fun y hy => h1 y (List.mem_of_mem_drop (List.mem_of_mem_take hy))) (fun i s v hs hv => ?_)⟩
      · simp only [part, Sem.run_bind, (hP.ty t).agg_run hne, Result.andThen_ok, ha, if_true, (hP.ty t).size_run hne, Sem.run_pure]
      · rw [Array.getElem?_extract] at hv
        rw [List.getElem?_take] at hs
        split at hs
        · rw [List.getElem?_drop] at hs
          split at hv
          · exact hr _ _ _ hs hv
          · cases hv
        · cases hs
    | false =>
      rw [ha] at hm
      have hsz : (E.ty t).size = 1 := by
        obtain ⟨q, z, _, _, _, _, _, _, _, _, _, h'⟩ := (hP.ty t).info hne
        exact h' ha
      rw [hsz] at hle hm
      have ho : o < cs.length := by omega
      have hd : (cs.drop o).take 1 = [cs[o]] := by
        rw [List.drop_eq_getElem_cons ho]; rfl
      rw [hd] at hm
      obtain rfl := Option.some.inj hm
      have hov : o < vs.size := by omega
      refine ⟨vs[o], ?_, hr o _ _ (List.getElem?_eq_getElem ho) (Array.getElem?_eq_getElem hov)⟩
      simp only [part, Sem.run_bind, (hP.ty t).agg_run hne, Result.andThen_ok, ha, Bool.false_eq_true, if_false, Array.getElem?_eq_getElem hov, Sem.run_pure]

theorem Rel.pointer {s : SV} {v : Value} (h : Rel c w s v) (hs : (∃ b o, s = .ptr b o) ∨ (∃ r i o, s = .eptr r i o) ∨ ∃ cs, s = .dptr cs) : ∃ A, v = .pointer (some A) := by
  rcases hs with ⟨b, o, rfl⟩ | ⟨r, i, o, rfl⟩ | ⟨cs, rfl⟩ <;> cases h <;> exact ⟨_, rfl⟩
theorem Rel.aggs {cs : List SV} {v : Value} (h : Rel c w (.agg cs) v) : ∃ vs, v = .agg vs := by cases h; exact ⟨_, rfl⟩
theorem Rel.tups {cs : List SV} {v : Value} (h : Rel c w (.tup cs) v) : ∃ vs, v = .tuple vs := by cases h; exact ⟨_, rfl⟩
theorem plain1_RD {s : SV} {v : Value} {t : T} (hr : Rel c w s v) (h : s.plain1 = some t) : RD c.F w t v ∧ t.one = true := by
  cases hr with
  | t h1 =>
    simp only [SV.plain1] at h
    split at h
    · rename_i ho
      obtain rfl := Option.some.inj h
      exact ⟨h1, ho⟩
    · cases h
  | nil A =>
    simp only [SV.plain1, Option.some.injEq] at h
    subst h
    exact ⟨.list [] A 0 1 (fun _ _ => undef) (Nat.le_refl _) (Nat.zero_le _) (by omega) (fun x hx => by cases hx) (fun x hx => by cases hx) (fun h => absurd rfl h) (fun j x i y hx => by simp at hx), rfl⟩
  | _ => cases h
theorem plainL_RD : ∀ {l : List SV} {ts : List T} {vs : List Value}, SV.plainL l = some ts → vs.length = l.length → (∀ (i : Nat) s v, l[i]? = some s → vs[i]? = some v → Rel c w s v) →
    ts.length = vs.length ∧ (∀ y ∈ ts, y.one = true) ∧ ∀ (i : Nat) t v, ts[i]? = some t → vs[i]? = some v → RD c.F w t v
  | [], ts, vs, h, hl, hr => by
    simp only [SV.plainL, Option.some.injEq] at h
    subst h
    exact ⟨by simpa using hl.symm, fun y hy => (by cases hy), fun i t v ht => (by simp at ht)⟩
  | s :: r, ts, vs, h, hl, hr => by
    simp only [SV.plainL] at h
    split at h
    · rename_i t0 ts0 h1 h2
      obtain rfl := Option.some.inj h
      cases vs with
      | nil => simp at hl
      | cons v vs =>
        obtain ⟨a1, a2⟩ := plain1_RD (hr 0 s v rfl rfl) h1
        obtain ⟨b1, b2, b3⟩ := plainL_RD h2 (by simpa using hl) (fun i s v hs hv => hr (i + 1) s v (by simpa using hs) (by simpa using hv))
        refine ⟨by simp [b1], fun y hy => ?_, fun i t u ht hu => ?_⟩
        · rcases List.mem_cons.1 hy with rfl | hy
          · exact a2
          · exact b2 y hy
        · cases i with
          | zero => simp at ht hu; subst ht; subst hu; exact a1
          | succ i => exact b3 i t u (by simpa using ht) (by simpa using hu)
    · cases h
theorem plain_RD {s : SV} {v : Value} {t : T} (hr : Rel c w s v) (h : s.plain = some t) : RD c.F w t v := by
  unfold SV.plain at h
  split at h
  · rename_i cs
    simp only [Option.map_eq_some_iff] at h
    obtain ⟨ts, hts, rfl⟩ := h
    cases hr with
    | agg _ vs hl h1 hh =>
      obtain ⟨b1, b2, b3⟩ := plainL_RD (vs := vs.toList) hts (by simpa using hl.symm) (fun i s v hs hv => hh i s v hs (by simpa using hv))
      exact .agg _ _ (by simpa using b1) b2 (fun i t v ht hv => b3 i t v ht (by simpa using hv))
  · exact (plain1_RD hr h).1
theorem plains_RD : ∀ {l : List SV} {ts : List T} {vs : List Value}, SV.plains l = some ts → vs.length = l.length → (∀ (i : Nat) s v, l[i]? = some s → vs[i]? = some v → Rel c w s v) →
    ts.length = vs.length ∧ ∀ (i : Nat) t v, ts[i]? = some t → vs[i]? = some v → RD c.F w t v
  | [], ts, vs, h, hl, hr => by
    simp only [SV.plains, Option.some.injEq] at h
    subst h
    exact ⟨by simpa using hl.symm, fun i t v ht => (by simp at ht)⟩
  | s :: r, ts, vs, h, hl, hr => by
    simp only [SV.plains] at h
    split at h
    · rename_i t0 ts0 h1 h2
      obtain rfl := Option.some.inj h
      cases vs with
      | nil => simp at hl
      | cons v vs =>
        have a1 := plain_RD (hr 0 s v rfl rfl) h1
        obtain ⟨b1, b3⟩ := plains_RD h2 (by simpa using hl) (fun i s v hs hv => hr (i + 1) s v (by simpa using hs) (by simpa using hv))
        refine ⟨by simp [b1], fun i t u ht hu => ?_⟩
        cases i with
        | zero => simp at ht hu; subst ht; subst hu; exact a1
        | succ i => exact b3 i t u (by simpa using ht) (by simpa using hu)
    · cases h
theorem op_sound (hP : POK E P) (hI : Inv E M0 w0 c st w) (hL : Laid E c.F w) (hA : InvA c st a w) {o : Oper} {r : SV} {st1 : St} (h : st.op E o.op = some (r, st1)) : Answers E P M0 w0 c st w (execOp a.eval o) r st1 := by
  have hv := fun x => val_rel hA x
  unfold execOp
  cases ho : o.op with
  | move x | assign x =>
    rw [ho] at h
    simp only [St.op, Option.some.injEq, Prod.mk.injEq] at h
    obtain ⟨rfl, rfl⟩ := h
    exact ⟨_, w, rfl, c, _, .inl rfl, Step.pure hI (hv x)⟩
  | pick x y z =>
    rw [ho] at h
    simp only [St.op] at h
    split at h
    · rename_i b hb
      simp only [Option.some.injEq, Prod.mk.injEq] at h
      obtain ⟨rfl, rfl⟩ := h
      have := hv x
      rw [hb] at this
      refine ⟨.value (if b then a.eval y else a.eval z), w, ?_, c, _, .inl rfl, Step.pure hI ?_⟩
      · simp [this.bool, asBool]
      · cases b
        · exact hv z
        · exact hv y
    · cases h
  | alloc e =>
    rw [ho] at h
    simp only [St.op] at h
    split at h
    · rename_i hk
      simp only [Option.some.injEq, Prod.mk.injEq] at h
      obtain ⟨rfl, rfl⟩ := h
      exact .value (alloc_step hP hI hk)
    · cases h
  | box e x =>
    rw [ho] at h
    simp only [St.op] at h
    split at h
    · rename_i hc
      simp only [Option.some.injEq, Prod.mk.injEq] at h
      obtain ⟨rfl, rfl⟩ := h
      obtain ⟨q1, q2, q3, q4⟩ := (hv x).cells hI hc.2
      refine .value ⟨_, _, ?_, _, box_step hI q1 q2 q4⟩
      simp only [Instr.box, newVar, newRow, Sem.run_bind, run_newObj, Result.andThen_ok, Sem.run_pure]
      rfl
    · cases h
  | build t ps =>
    rw [ho] at h
    obtain ⟨y, h1, rfl, h2⟩ := build_step hP hI hA h
    exact Answers.same hI ⟨y, h1, h2⟩
  | buildSlice t n ps =>
    rw [ho] at h
    exact .value (buildSlice_step hP hI hA h)
  | load t x =>
    rw [ho] at h
    obtain ⟨h1, rfl⟩ := rel_map h
    exact Answers.same hI (load_run hP hI (hv x) h1)
  | store t x y =>
    rw [ho] at h
    simp only [St.op, Option.map_eq_some_iff, Prod.mk.injEq] at h
    obtain ⟨st2, h1, rfl, rfl⟩ := h
    obtain ⟨w', e1, c', e2⟩ := store_step hP hI (hv x) (hv y) h1
    exact ⟨.skip, w', by simp only [Sem.run_bind, e1, Result.andThen_ok, Sem.run_pure], c', undef, .inr ⟨rfl, rfl⟩, e2⟩
  | nilCheck x =>
    rw [ho] at h
    simp only [St.op] at h
    have hx := hv x
    have key : ∀ s, st.val x = s → ((∃ b o, s = .ptr b o) ∨ (∃ r i o, s = .eptr r i o) ∨ ∃ cs, s = .dptr cs) → Answers E P M0 w0 c st w (execOp a.eval { o with op := .nilCheck x }) s st := by
      intro s hs hp
      rw [hs] at hx
      obtain ⟨A, hA'⟩ := hx.pointer hp
      exact ⟨.value (a.eval x), w, by simp [execOp, hA'], c, _, .inl rfl, Step.pure hI hx⟩
    unfold execOp at key
    split at h
    · rename_i hb
      simp only [Option.some.injEq, Prod.mk.injEq] at h
      obtain ⟨rfl, rfl⟩ := h
      exact key _ hb (.inl ⟨_, _, rfl⟩)
    · rename_i hb
      simp only [Option.some.injEq, Prod.mk.injEq] at h
      obtain ⟨rfl, rfl⟩ := h
      exact key _ hb (.inr (.inl ⟨_, _, _, rfl⟩))
    · rename_i hb
      simp only [Option.some.injEq, Prod.mk.injEq] at h
      obtain ⟨rfl, rfl⟩ := h
      exact key _ hb (.inr (.inr ⟨_, rfl⟩))
    · cases h
  | binOp op t x y z =>
    rw [ho] at h
    obtain ⟨tt, h1, rfl, rfl⟩ := rel_mapT h
    obtain ⟨u, e1, e2⟩ := bin_run (ox := x) (oy := y) hP hI (hv x) (hv y) h1 (fun l ts vs hl hr => ⟨_, peek_agg_RD hI hl hr⟩)
    exact Answers.same hI ⟨u, e1, .t e2⟩
  | unOp op t x =>
    rw [ho] at h
    obtain ⟨tt, h1, rfl, rfl⟩ := rel_mapT h
    obtain ⟨u, e1, e2⟩ := un_run (P := P) (hv x) h1
    exact Answers.same hI ⟨u, e1, .t e2⟩
  | convert s d x =>
    rw [ho] at h
    exact .value (convert_step hP hI (hv x) h)
  | makeFunc f fst caps =>
    rw [ho] at h
    cases f with
    | func g =>
      simp only [St.op] at h
      split at h
      · rename_i h0
        simp only [Option.some.injEq, Prod.mk.injEq] at h
        obtain ⟨rfl, rfl⟩ := h
        have : fst = #[] := Array.eq_empty_of_size_eq_zero h0
        subst this
        refine Answers.same hI ⟨.func (.func g) #[] (caps.map a.eval), by simp [Instr.makeFunc], .fn g _ _ (by simp) (fun i s v hs hv' => ?_)⟩
        rw [Array.getElem?_map, Option.map_eq_some_iff] at hv'
        rw [List.getElem?_map, Option.map_eq_some_iff] at hs
        obtain ⟨p, hp, rfl⟩ := hs
        obtain ⟨p', hp', rfl⟩ := hv'
        rw [Array.getElem?_toList, hp'] at hp
        obtain rfl := Option.some.inj hp
        exact hv _
      · split at h
        · rename_i h0
          simp only [Option.map_eq_some_iff, Prod.mk.injEq] at h
          obtain ⟨ts, hts, rfl, rfl⟩ := h
          have : caps = #[] := Array.eq_empty_of_size_eq_zero h0
          subst this
          have hpl := plains_RD (w := w) (c := c) (vs := (fst.map a.eval).toList) hts (by simp) (fun i s v hs hv' => by
            rw [Array.getElem?_toList, Array.getElem?_map, Option.map_eq_some_iff] at hv'
            rw [List.getElem?_map, Option.map_eq_some_iff] at hs
            obtain ⟨p, hp, rfl⟩ := hs
            obtain ⟨p', hp', rfl⟩ := hv'
            rw [Array.getElem?_toList, hp'] at hp
            obtain rfl := Option.some.inj hp
            exact hv _)
          refine Answers.same hI ⟨.func (.func g) (fst.map a.eval) #[], by simp [Instr.makeFunc], .meth g _ _ (by rw [hpl.1]; simp) (fun i t v ht hv' => hpl.2 i t v ht (by rw [Array.getElem?_toList]; exact hv'))⟩
        · cases h
    | _ => cases h
  | makeSlice t x y =>
    rw [ho] at h
    exact .value (makeSlice_step hP hI hA h)
  | slice t x lo hi mx =>
    rw [ho] at h
    obtain ⟨h1, rfl⟩ := rel_map h
    exact Answers.same hI (slice_run hP hI hA (hv x) h1)
  | fieldAddr s x f =>
    rw [ho] at h
    obtain ⟨h1, rfl⟩ := rel_map h
    exact Answers.same hI (field_run hP (hv x) h1)
  | indexAddr t x i =>
    rw [ho] at h
    obtain ⟨h1, rfl⟩ := rel_map h
    exact Answers.same hI (index_run hP hI hL (hv x) (hv i) h1)
  | field s x f =>
    rw [ho] at h
    simp only [St.op] at h
    split at h
    · rename_i o ft cs hf hx
      split at h
      · rename_i hc
        obtain ⟨c1, c2, c3⟩ := hc
        obtain ⟨h1, rfl⟩ := rel_map h
        have hr := hv x
        rw [hx] at hr
        have hk : (E.ty s).k = .struct := by
          unfold TI.agg at c1
          split at c1
          · assumption
          · cases c1
        have hu := (hP.ty s).und
        rw [hk] at hu
        obtain ⟨fs, hu, hsz, hfs⟩ := hu
        obtain ⟨fd, e1, e2, e3⟩ := hfs _ _ _ hf
        obtain ⟨vs, hvs⟩ := hr.aggs
        rw [hvs] at hr
        · obtain ⟨y, y1, y2⟩ := part_run (P := P) hP c2 hr c3 h1
          refine Answers.same hI ⟨y, ?_, y2⟩
          rw [hvs]
          have hag : (asAgg (.agg vs)).run P w = .ok vs w := rfl
          simp only [Instr.field, Sem.run_bind, und_run hu, Result.andThen_ok, e1, hag, e2, e3, y1]
      · cases h
    · cases h
  | index t x i =>
    rw [ho] at h
    simp only [St.op] at h
    split at h
    · rename_i l n hk hx hi
      simp only [Option.map_eq_some_iff, Prod.mk.injEq] at h
      obtain ⟨b, hb, rfl, rfl⟩ := h
      have hu := (hP.ty t).und
      rw [hk] at hu
      have hr := hv x
      rw [hx] at hr
      obtain ⟨k, hi'⟩ := (hv i).asNat hi
      refine Answers.same hI ⟨.int .u8 b.toNat, ?_, .t (.int _ _)⟩
      have hlt := (List.getElem?_eq_some_iff.1 hb).1
      have hg : (⟨⟨l⟩⟩ : ByteArray)[n]? = some b := by
        rw [getElem?_pos (⟨⟨l⟩⟩ : ByteArray) n hlt]
        have h2 := (List.getElem?_eq_some_iff.1 hb).2
        rw [← h2]; rfl
      simp only [Instr.index, hr.str, hi', asIntOf_run, Sem.run_bind, Result.andThen_ok, und_run hu]
      rw [if_pos (by omega)]
      simp [hg]
    · cases h
  | extract x i =>
    rw [ho] at h
    simp only [St.op] at h
    split at h
    · rename_i vs hx
      simp only [Option.map_eq_some_iff, Prod.mk.injEq] at h
      obtain ⟨s, hs, rfl, rfl⟩ := h
      have hr := hv x
      rw [hx] at hr
      refine Answers.same hI ?_
      obtain ⟨us, hus⟩ := hr.tups
      rw [hus] at hr ⊢
      cases hr with
      | tup _ _ hl g =>
        have hlt := (List.getElem?_eq_some_iff.1 hs).1
        have hlt2 : i < us.size := by omega
        exact ⟨us[i], by simp [Instr.extract, hlt2], g i s _ hs (Array.getElem?_eq_getElem hlt2)⟩
    · cases h
  | call cl =>
    rw [ho] at h
    simp only [St.op] at h
    split at h
    · rename_i b hb
      obtain ⟨cs, hcs⟩ : ∃ cs, ((do let d ← resolve a.eval cl o.type; invoke d.target d.args) : Sem Next).run P w = (builtin b cl.argTypes o.type cs (cl.args.map a.eval)).run P w := by
        simp only [resolve, hb, Sem.run_bind, Sem.run_pure, Result.andThen_ok, invoke]
        exact ⟨_, rfl⟩
      obtain ⟨n, w', g1, g2⟩ := builtin_step (P := P) (b := b) (ty := o.type) (cs := cs) hP hI (vs := cl.args.toList.map a.eval) (by simp) (fun i s v hs hv' => by
        rw [List.getElem?_map, Option.map_eq_some_iff] at hs hv'
        obtain ⟨p, hp, rfl⟩ := hs
        obtain ⟨p', hp', rfl⟩ := hv'
        rw [hp] at hp'
        obtain rfl := Option.some.inj hp'
        exact hv _) h
      have e1 : (cl.args.toList.map a.eval).toArray = cl.args.map a.eval := by apply Array.ext'; simp
      have e2 : cl.argTypes.toList.toArray = cl.argTypes := by apply Array.ext'; simp
      rw [e1, e2, ← hcs] at g1
      exact ⟨n, w', g1, g2⟩
    · cases h
  | _ => rw [ho] at h; simp [St.op] at h
end
end Go.Ev
