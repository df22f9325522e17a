/- slices.Delete of numbers. -/
import Derived.Test.YtgfdeomfociobaaGreatDoorPartNI
import Derived.Test.YtgfdeomfociobaaGreatDoorPartNH
import Derived.Test.YtgfdeomfociobaaGreatDoorPartNJ
set_option linter.unusedSimpArgs false
set_option linter.unusedVariables false
namespace Go.Nd
open Go.Ev Go.Proofs Go.Pu
set_option maxRecDepth 100000
set_option maxHeartbeats 4000000
theorem take_parts {α : Type} {A B C : List α} {m : Nat} (h : A.length + B.length = m) (z : List α) : List.take m (List.take m (A ++ (B ++ C)) ++ z) = A ++ B := by
  have e : List.take m (A ++ (B ++ C)) = A ++ B := by
    rw [← List.append_assoc]
    exact List.take_left' (by simp [h])
  rw [e]
  exact List.take_left' (by simp [h])
theorem del_244 (xs : List Nat) (k : Nat) (hk : k < xs.length) (hl : xs.length < 4294967296) : run E (.call 244 [.row 3 (xs.map intT), xI k, xI (k + 1 : Nat)]) = some (.res [.row 3 ((xs.take k ++ xs.drop (k + 1)).map intT)] [none]) := by
  rw [run_call E 244 _ rfl Tryz.func244 rfl rfl rfl (by simp)]
  have d5 := d244_5
  simp [regionOf, findR, pick, Tryz.f244] at d5
  have dd := fun st => run_region_draw E st 5 _ d5
  clear d5
  have h1 : (k : Int) < (xs.length : Int) := by omega
  have h2 : ¬ ((k : Int) = (k : Int) + 1) := by omega
  have h3 : (0 : Int) ≤ (k : Int) + 1 := by omega
  have h4 : k + 1 ≤ xs.length := by omega
  have h5 : ¬ (xs.length = k) := by omega
  have h6 : k ≤ xs.length := by omega
  obtain ⟨m, hm⟩ : ∃ m, xs.length = m + 1 := ⟨xs.length - 1, by omega⟩
  have h7 : k + (m + 1 - (k + 1)) = m := by omega
  have h8 : k + (m - k) = m := by omega
  have h9 : ¬ (m + 1 = k) := by omega
  have h10 : k ≤ m := by omega
  have h11 : min k (m + 1) = k := by omega
  have h12 : k + 1 ≤ m + 1 := by omega
  have h13 : (k : Int) < (m : Int) + 1 := by omega
  have h15 : k ≤ m + 1 := by omega
  have h16 : m + 1 ≤ k + (m - k + 1) := by omega
  have ht : List.take (m + 1) (xs.map intT) = xs.map intT := List.take_of_length_le (by simp; omega)
  have h17 : m ≤ min m (k + (m - k + 1)) + (k + (m - k + 1) - (m + 1) + 1) := by omega
  have h18 := fun C z => take_parts (A := List.take k (xs.map intT)) (B := List.drop (k + 1) (xs.map intT)) (C := C) (m := m) (by simp; omega) z
  have h14 : (0 : Int) ≤ (m : Int) + 1 := by omega
  simp [dd, hm, h1, h2, h3, h4, h5, h6, h7, h8, h9, h10, h11, h12, h13, h14, h15, h16, h17, h18, ht, hk]
end Go.Nd
/- Serial orders, in plain lists. -/
set_option linter.unusedSimpArgs false
set_option linter.unusedVariables false
namespace Go.Nd
open Go.Ev Go.Proofs Go.Pu
/-- Nothing that is left must come ahead of it. -/
def freeIn (A : Nat → Nat → Bool) (left : List Nat) (i : Nat) : Bool := !left.any (fun o => o != i && A o i)
def serGo (A : Nat → Nat → Bool) : Nat → List Nat → Option (List Nat)
  | 0, left => if left.isEmpty then some [] else none
  | f + 1, left => if left.isEmpty then some [] else match left.find? (freeIn A left) with
    | none => none
    | some k => (serGo A f (left.erase k)).map (k :: ·)
/-- Those that are not taken. -/
def leftOf (tk : List Bool) : List Nat := (List.range tk.length).filter fun i => !tk.getD i true
theorem leftOf_nodup (tk : List Bool) : (leftOf tk).Nodup := List.Pairwise.filter _ List.nodup_range
theorem leftOf_mem {tk : List Bool} {i : Nat} : i ∈ leftOf tk ↔ i < tk.length ∧ tk.getD i true = false := by
  simp [leftOf]
theorem leftOf_set {tk : List Bool} {k : Nat} (hk : k < tk.length) : leftOf (tk.set k true) = (leftOf tk).erase k := by
  rw [(leftOf_nodup tk).erase_eq_filter]
  unfold leftOf
  rw [List.filter_filter, List.length_set]
  apply List.filter_congr
  intro i hi
  simp only [List.mem_range] at hi
  by_cases h : i = k
  · subst h
    simp [List.getD, List.getElem?_set, hi]
  · have h' : k ≠ i := fun e => h e.symm
    simp [List.getD, List.getElem?_set, h, h']
theorem leftOf_find (tk : List Bool) (q : Nat → Bool) : (leftOf tk).find? q = (List.range tk.length).find? (fun i => !tk.getD i true && q i) := by
  unfold leftOf
  rw [List.find?_filter]
  congr 1
  funext a
  cases tk.getD a true <;> cases q a <;> rfl
theorem free_all (A : Nat → Nat → Bool) (tk : List Bool) (k : Nat) : freeIn A (leftOf tk) k = (List.range tk.length).all (fun i => tk.getD i true || (i == k || !A i k)) := by
  rw [Bool.eq_iff_iff]
  simp only [freeIn, Bool.not_eq_true', List.any_eq_false, List.all_eq_true, leftOf_mem, List.mem_range]
  constructor
  · intro h i hi
    cases ht : tk.getD i true with
    | true => rfl
    | false =>
      have := h i ⟨hi, ht⟩
      simp only [Bool.and_eq_true, bne_iff_ne, ne_eq, not_and, Bool.not_eq_true] at this
      by_cases hik : i = k
      · simp [hik]
      · simp [hik, this hik]
  · rintro h i ⟨hi, ht⟩
    have := h i hi
    rw [ht] at this
    simp only [Bool.false_or, Bool.or_eq_true, beq_iff_eq, Bool.not_eq_true'] at this
    rcases this with h1 | h1
    · simp [h1]
    · simp [h1]
theorem erase_at {l : List Nat} (h : l.Nodup) {i : Nat} (hi : i < l.length) : l.erase l[i] = l.take i ++ l.drop (i + 1) := by
  rw [List.erase_eq_eraseIdx_of_idxOf, List.eraseIdx_eq_take_drop_succ]
  · exact (h.idxOf_getElem i hi)
end Go.Nd
/- SerialOrder of impl: who may come next. -/
set_option linter.unusedSimpArgs false
set_option linter.unusedVariables false
namespace Go.Nd
open Go.Ev Go.Proofs Go.Pu
set_option maxRecDepth 100000
set_option maxHeartbeats 4000000
theorem indexFunc_240_2 (xs : List Nat) (g : Nat) (c0 c1 : List T) (p : Nat → Bool) (hl : xs.length < 9223372036854775807) (hm : E.md g = []) (hf : E.flat g = true) (hp : ∀ x ∈ xs, run E (.call g [.t (intT x), .dref c0, .dref c1]) = some (.res [xB (p x)] [])) :
    run E (.call 240 [.t (.list (xs.map intT)), .fn g [c0, c1]]) = some (.res [xI (idxP p xs)] []) := by
  rw [run_call E 240 _ rfl Tryz.func240 rfl rfl rfl (by simp)]
  rw [E_md] at hm
  have lp := fun (r : Int) (hr : r = idxP p xs) => sk (fun s o q hI => loop_for (c := loopAt Tryz.f240 0) (N := 19)
    (fun i s o q => s 0 = .t (.list (xs.map intT)) ∧ s 1 = .fn g [.dptr c0, .dptr c1] ∧ s 7 = .t (.int .i64 xs.length) ∧ s 8 = .t (.int .i64 i) ∧ r = if idxP p (xs.drop i) < 0 then -1 else idxP p (xs.drop i) + i)
    (fun e s' o' q' => e = (if r < 0 then .exit 0 else .ret) ∧ (0 ≤ r → s' 4 = .t (.int .i64 r))) xs.length
    (by
      rintro i s o q hi ⟨h0, h1, h7, h8, hr⟩
      have hd : xs.drop i = xs[i] :: xs.drop (i + 1) := by rw [List.drop_eq_getElem_cons hi]
      have hi' : (i : Int) < (xs.length : Int) := by omega
      have hw := wrap_succ (n := i) (by omega)
      have hx := hp xs[i] (List.getElem_mem hi)
      rw [hd, idxP] at hr
      cases hpx : p xs[i] with
      | true =>
        simp [hpx] at hr hx
        have hr' : ¬ r < 0 := by omega
        simp [-mdOf, loopAt, loopsOf, Tryz.f240, h0, h1, h7, h8, hi, hi', hx, hw, hm, hf, hr', hr]
      | false =>
        simp [hpx] at hr hx
        have hr2 : r = if idxP p (xs.drop (i + 1)) < 0 then -1 else idxP p (xs.drop (i + 1)) + ((i : Int) + 1) := by
          rw [hr]
          by_cases hq : idxP p (xs.drop (i + 1)) < 0
          · simp [hq]
          · have : ¬ idxP p (xs.drop (i + 1)) + 1 < 0 := by omega
            simp [hq, this]; omega
        clear hr
        simp [-mdOf, loopAt, loopsOf, Tryz.f240, h0, h1, h7, h8, hi, hi', hx, hw, hm, hf]
        exact hr2)
    (by
      rintro s o q ⟨h0, h1, h7, h8, hr⟩
      simp [idxP] at hr
      simp [loopAt, loopsOf, Tryz.f240, h0, h1, h7, h8, hr])
    xs.length 0 s o q (by omega) hI)
  simp only [loopAt, loopsOf, Tryz.f240] at lp
  obtain ⟨X, A, B, C, hx⟩ := lp _ rfl
  have hz : idxP p xs = if idxP p xs < 0 then -1 else idxP p xs := by
    cases xs with
    | nil => simp [idxP]
    | cons x r =>
      unfold idxP
      split
      · simp
      · split
        · simp
        · have : ¬ idxP p r + 1 < 0 := by omega
          simp [this]
  simp [← hz] at hx
  by_cases h : idxP p xs < 0
  · have h1 : idxP p xs = -1 := by rw [hz]; simp [h]
    simp [h] at hx
    simp [hx, h1]
  · have h2 : 0 ≤ idxP p xs := by omega
    simp [h, h2] at hx
    simp [hx]
theorem containsFunc_242_2 (xs : List Nat) (g : Nat) (c0 c1 : List T) (p : Nat → Bool) (hl : xs.length < 9223372036854775807) (hm : E.md g = []) (hf : E.flat g = true) (hp : ∀ x ∈ xs, run E (.call g [.t (intT x), .dref c0, .dref c1]) = some (.res [xB (p x)] [])) :
    run E (.call 242 [.t (.list (xs.map intT)), .fn g [c0, c1]]) = some (.res [xB (xs.any p)] []) := by
  rw [run_call E 242 _ rfl Tryz.func242 rfl rfl rfl (by simp)]
  have h := indexFunc_240_2 xs g c0 c1 p hl hm hf hp
  simp [h, idxP_ge]
theorem ahead_243 (l : List Dn) (hf : ∀ d ∈ l, dnFit d) (i k : Nat) (hi : i < l.length) (hk : k < l.length) : run E (.call 243 [.t (intT i), .dref [.int .i64 k], .dref [.list (l.map dnT)]]) = some (.res [xB (i != k && aheadP l[i] l[k])] []) := by
  rw [run_call E 243 _ rfl Tryz.func243 rfl rfl rfl (by simp)]
  have d1 := d243_1
  simp [regionOf, findR, pick, Tryz.f243] at d1
  have dd := fun st => run_region_draw E st 1 _ d1
  clear d1
  have hc := implAhead l[i] l[k] (hf _ (List.getElem_mem hi)) (hf _ (List.getElem_mem hk))
  have hi' : (i : Int) < (l.length : Int) := by omega
  have hk' : (k : Int) < (l.length : Int) := by omega
  have hxi : l[i]? = some l[i] := List.getElem?_eq_getElem hi
  have hxk : l[k]? = some l[k] := List.getElem?_eq_getElem hk
  generalize aheadP l[i] l[k] = z at *
  by_cases hik : i = k
  · subst hik
    simp [dd, hi, hi']
  · have hb : ((i : Int) != (k : Int)) = true := by simp; omega
    have hb2 : (i != k) = true := by simp [hik]
    simp [dd, hb, hb2, hi, hi', hk, hk', hxi, hxk, hc]
theorem free_241 (l : List Dn) (hf : ∀ d ∈ l, dnFit d) (left : List Nat) (hl : ∀ i ∈ left, i < l.length) (hn : left.length < 9223372036854775807) (k : Nat) (hk : k < l.length) : run E (.call 241 [.t (intT k), .dref [.list (left.map intT)], .dref [.list (l.map dnT)]]) = some (.res [xB (!left.any (fun o => o != k && aheadAt l o k))] []) := by
  rw [run_call E 241 _ rfl Tryz.func241 rfl rfl rfl (by simp)]
  have h := containsFunc_242_2 left 243 [.int .i64 k] [.list (l.map dnT)] (fun o => o != k && aheadAt l o k) hn rfl rfl (fun x hx => by
    have := ahead_243 l hf x k (hl x hx) hk
    rw [this, aheadAt_eq (hl x hx) hk])
  generalize left.any (fun o => o != k && aheadAt l o k) = z at *
  simp [h]
end Go.Nd
/- SerialOrder: what is asked of those that were committed. -/
set_option linter.unusedSimpArgs false
set_option linter.unusedVariables false
namespace Go.Nd
open Go.Ev Go.Proofs Go.Pu
set_option maxRecDepth 100000
set_option maxHeartbeats 16000000
theorem specRises_loop (l : List Dn) (hl : l.length < 4294967296) (h : ∀ c ∈ l, c.Sm) (b : Bool) (hb : b = seqOK doneOK dnOrd l) : ∀ s o q, (s 0 = .t (.list (l.map dnT)) ∧ s 3 = .t (.int .i64 0)) →
    ∃ e s' o' q', run E (.code (.loop (loopAt Tryz.f141 0)) ⟨s, o, q, 37⟩) = some (.st e ⟨s', o', q', 37⟩) ∧ e = (if b then .exit 0 else .ret) ∧ s' 0 = .t (.list (l.map dnT)) ∧ (b = false → s' 2 = .t (.bool false)) := by
  intro s o q hI
  have d4 := d141_4
  simp [regionOf, findR, pick, Tryz.f141] at d4
  have dd := fun st => run_region_draw E st 4 _ d4
  clear d4
  refine loop_for (c := loopAt Tryz.f141 0) (N := 37)
    (fun i s o q => s 0 = .t (.list (l.map dnT)) ∧ s 3 = .t (.int .i64 i) ∧ b = stepsFrom l.length (seqStep doneOK dnOrd l) i)
    (fun e s' o' q' => e = (if b then .exit 0 else .ret) ∧ s' 0 = .t (.list (l.map dnT)) ∧ (b = false → s' 2 = .t (.bool false))) l.length ?_ ?_
    l.length 0 s o q (by omega) ⟨hI.1, hI.2, hb⟩
  · rintro i s o q hi ⟨h0, h3, hp⟩
    have hxi : l[i]? = some l[i] := List.getElem?_eq_getElem hi
    have hi' : (i : Int) < (l.length : Int) := by omega
    have hw := wrap_succ (n := i) (by omega)
    have hc := specDoneOK l[i] (h _ (List.getElem_mem hi))
    rw [stepsFrom_lt hi] at hp
    cases i with
    | zero =>
      rw [seq_zero hi] at hp
      simp at h3 hw hxi hi'
      generalize doneOK l[0] = z at *
      cases z <;> simp at hp <;> simp [loopAt, loopsOf, Tryz.f141, dd, h0, h3, hi, hi', hxi, hw, hc, hp]
    | succ k =>
      rw [seq_succ hi] at hp
      have hk : k < l.length := by omega
      have hxk : l[k]? = some l[k] := List.getElem?_eq_getElem hk
      have hwk := wrap_nat (n := k) (by omega)
      have hpos : (0 : Int) < (k : Int) + 1 := by omega
      have hge : (0 : Int) ≤ (k : Int) + 1 := by omega
      simp at h3 hw hi'
      rw [show dnOrd l[k] l[k + 1] = decide (l[k].at_ < l[k + 1].at_) from rfl] at hp
      generalize doneOK l[k + 1] = z at *
      by_cases hy : l[k].at_ < l[k + 1].at_
      · have hy' : ¬ l[k + 1].at_ ≤ l[k].at_ := by omega
        cases z <;> simp [hy] at hp <;> simp [loopAt, loopsOf, Tryz.f141, dd, h0, h3, hi, hi', hxi, hw, hc, hp, hk, hxk, hwk, hpos, hge, hy, hy']
      · have hy' : l[k + 1].at_ ≤ l[k].at_ := by omega
        cases z <;> simp [hy] at hp <;> simp [loopAt, loopsOf, Tryz.f141, dd, h0, h3, hi, hi', hxi, hw, hc, hp, hk, hxk, hwk, hpos, hge, hy, hy']
  · rintro s o q ⟨h0, h3, hp⟩
    rw [stepsFrom_end] at hp
    simp [loopAt, loopsOf, Tryz.f141, h0, h3, hp]
def risesOK (l : List Dn) : Bool := seqOK doneOK dnOrd l && decide (l.length ≤ 40)
theorem specRises (l : List Dn) (hl : l.length < 4294967296) (h : ∀ c ∈ l, c.Sm) : run E (.call 141 [.t (.list (l.map dnT))]) = some (.res [xB (risesOK l)] []) := by
  rw [run_call E 141 _ rfl Tryz.func141 rfl rfl rfl (by simp)]
  obtain ⟨b, hb⟩ : ∃ b, b = seqOK doneOK dnOrd l := ⟨_, rfl⟩
  obtain ⟨X, A, B, C, hx⟩ := sk (specRises_loop l hl h b hb)
  simp only [loopAt, loopsOf, Tryz.f141] at hx
  have l3 : ((l.length : Int) ≤ 40) = (l.length ≤ 40) := by simp; omega
  unfold risesOK
  rw [← hb]
  cases b <;> simp at hx <;> simp [hx, l3]
theorem implRises_loop (l : List Dn) (hl : l.length < 4294967296) (h : ∀ c ∈ l, c.Sm) (b : Bool) (hb : b = seqOK doneOK dnOrd l) : ∀ s o q, (s 0 = .t (.list (l.map dnT)) ∧ s 5 = .t (.list (l.map dnT)) ∧ s 6 = .t (.int .i64 l.length) ∧ s 7 = .t (.int .i64 0)) →
    ∃ e s' o' q', run E (.code (.loop (loopAt Tryz.f143 0)) ⟨s, o, q, 34⟩) = some (.st e ⟨s', o', q', 34⟩) ∧ e = (if b then .exit 0 else .ret) ∧ s' 0 = .t (.list (l.map dnT)) ∧ (b = false → s' 2 = .t (.bool false)) := by
  intro s o q hI
  have d4 := d143_4
  simp [regionOf, findR, pick, Tryz.f143] at d4
  have dd := fun st => run_region_draw E st 4 _ d4
  clear d4
  refine loop_for (c := loopAt Tryz.f143 0) (N := 34)
    (fun i s o q => s 0 = .t (.list (l.map dnT)) ∧ s 5 = .t (.list (l.map dnT)) ∧ s 6 = .t (.int .i64 l.length) ∧ s 7 = .t (.int .i64 i) ∧ b = stepsFrom l.length (seqStep doneOK dnOrd l) i)
    (fun e s' o' q' => e = (if b then .exit 0 else .ret) ∧ s' 0 = .t (.list (l.map dnT)) ∧ (b = false → s' 2 = .t (.bool false))) l.length ?_ ?_
    l.length 0 s o q (by omega) ⟨hI.1, hI.2.1, hI.2.2.1, hI.2.2.2, hb⟩
  · rintro i s o q hi ⟨h0, h5, h6, h7, hp⟩
    have hxi : l[i]? = some l[i] := List.getElem?_eq_getElem hi
    have hi' : (i : Int) < (l.length : Int) := by omega
    have hw := wrap_succ (n := i) (by omega)
    have hc := implDoneOK l[i] (h _ (List.getElem_mem hi))
    rw [stepsFrom_lt hi] at hp
    cases i with
    | zero =>
      rw [seq_zero hi] at hp
      simp at h7 hw hxi hi'
      generalize doneOK l[0] = z at *
      cases z <;> simp at hp <;> simp [loopAt, loopsOf, Tryz.f143, dd, h0, h5, h6, h7, hi, hi', hxi, hw, hc, hp]
    | succ k =>
      rw [seq_succ hi] at hp
      have hk : k < l.length := by omega
      have hxk : l[k]? = some l[k] := List.getElem?_eq_getElem hk
      have hwk := wrap_nat (n := k) (by omega)
      have hpos : (0 : Int) < (k : Int) + 1 := by omega
      have hge : (0 : Int) ≤ (k : Int) + 1 := by omega
      simp at h7 hw hi'
      rw [show dnOrd l[k] l[k + 1] = decide (l[k].at_ < l[k + 1].at_) from rfl] at hp
      generalize doneOK l[k + 1] = z at *
      by_cases hy : l[k].at_ < l[k + 1].at_
      · have hy' : ¬ l[k + 1].at_ ≤ l[k].at_ := by omega
        cases z <;> simp [hy] at hp <;> simp [loopAt, loopsOf, Tryz.f143, dd, h0, h5, h6, h7, hi, hi', hxi, hw, hc, hp, hk, hxk, hwk, hpos, hge, hy, hy']
      · have hy' : l[k + 1].at_ ≤ l[k].at_ := by omega
        cases z <;> simp [hy] at hp <;> simp [loopAt, loopsOf, Tryz.f143, dd, h0, h5, h6, h7, hi, hi', hxi, hw, hc, hp, hk, hxk, hwk, hpos, hge, hy, hy']
  · rintro s o q ⟨h0, h5, h6, h7, hp⟩
    rw [stepsFrom_end] at hp
    simp [loopAt, loopsOf, Tryz.f143, h0, h5, h6, h7, hp]
theorem implRises (l : List Dn) (hl : l.length < 4294967296) (h : ∀ c ∈ l, c.Sm) : run E (.call 143 [.t (.list (l.map dnT))]) = some (.res [xB (risesOK l)] []) := by
  rw [run_call E 143 _ rfl Tryz.func143 rfl rfl rfl (by simp)]
  obtain ⟨b, hb⟩ : ∃ b, b = seqOK doneOK dnOrd l := ⟨_, rfl⟩
  obtain ⟨X, A, B, C, hx⟩ := sk (implRises_loop l hl h b hb)
  simp only [loopAt, loopsOf, Tryz.f143] at hx
  have l3 : ((l.length : Int) ≤ 40) = (l.length ≤ 40) := by simp; omega
  unfold risesOK
  rw [← hb]
  cases b <;> simp at hx <;> simp [hx, l3]
end Go.Nd
/- SerialOrder of spec: the order by trial. -/
set_option linter.unusedSimpArgs false
set_option linter.unusedVariables false
namespace Go.Nd
open Go.Ev Go.Proofs Go.Pu
set_option maxRecDepth 100000
set_option maxHeartbeats 16000000
abbrev boT (b : Bool) : T := .bool b
/-- Does `j` not stand in the way of `i`? -/
def letsBy (l : List Dn) (tk : List Bool) (i j : Nat) : Bool := tk.getD j true || (j == i || !aheadAt l j i)
theorem l12_in (l : List Dn) (hn : l.length ≤ 40) (hf : ∀ d ∈ l, dnFit d) (tk : List Bool) (ht : tk.length = l.length) (i : Nat) (hi : i < l.length) (r r4 : Nat) (v6 : SV) (O : Nat → Ob) (Q : Nat) (hO : O r = .row 4 (tk.map boT) true) (b : Bool) (z0 : Bool) (hb : b = (z0 && stepsFrom l.length (letsBy l tk i) 0)) : ∀ s o q, (s 0 = .t (.list (l.map dnT)) ∧ s 4 = .row r4 ∧ s 5 = .row r ∧ s 6 = v6 ∧ s 7 = .t (.int .i64 i) ∧ s 8 = .t (.bool z0) ∧ s 9 = .t (.int .i64 0) ∧ o = O ∧ q = Q) →
    ∃ e s' o' q', run E (.code (.loop (loopAt Tryz.f142 2)) ⟨s, o, q, 76⟩) = some (.st e ⟨s', o', q', 76⟩) ∧ (e = .exit 4 ∧ s' 0 = .t (.list (l.map dnT)) ∧ s' 4 = .row r4 ∧ s' 5 = .row r ∧ s' 6 = v6 ∧ s' 7 = .t (.int .i64 i) ∧ s' 8 = .t (.bool b) ∧ o' = O ∧ q' = Q) := by
  intro s o q hI
  have d12 := d142_12
  simp [regionOf, findR, pick, Tryz.f142] at d12
  have dd := fun st => run_region_draw E st 12 _ d12
  clear d12
  refine loop_for (c := loopAt Tryz.f142 2) (N := 76)
    (fun j s o q => ∃ z : Bool, s 0 = .t (.list (l.map dnT)) ∧ s 4 = .row r4 ∧ s 5 = .row r ∧ s 6 = v6 ∧ s 7 = .t (.int .i64 i) ∧ s 8 = .t (.bool z) ∧ s 9 = .t (.int .i64 j) ∧ o = O ∧ q = Q ∧ b = (z && stepsFrom l.length (letsBy l tk i) j))
    (fun e s' o' q' => e = .exit 4 ∧ s' 0 = .t (.list (l.map dnT)) ∧ s' 4 = .row r4 ∧ s' 5 = .row r ∧ s' 6 = v6 ∧ s' 7 = .t (.int .i64 i) ∧ s' 8 = .t (.bool b) ∧ o' = O ∧ q' = Q) l.length ?_ ?_
    l.length 0 s o q (by omega) (by
      obtain ⟨h0, h4, h5, h6, h7, h8, h9, ho, hq⟩ := hI
      exact ⟨z0, h0, h4, h5, h6, h7, h8, h9, ho, hq, hb⟩)
  · rintro j s o q hj ⟨z, h0, h4, h5, h6, h7, h8, h9, ho, hq, hz⟩
    have hj' : (j : Int) < (l.length : Int) := by omega
    cases z with
    | false =>
      simp at hz
      simp [loopAt, loopsOf, Tryz.f142, h0, h4, h5, h6, h7, h8, h9, ho, hq, hO, hj', hz]
    | true =>
      have hi' : (i : Int) < (l.length : Int) := by omega
      have hwj := wrap_succ (n := j) (by omega)
      have htj : j < tk.length := by omega
      have htj' : (j : Int) < (tk.length : Int) := by omega
      have hxj : tk[j]? = some tk[j] := List.getElem?_eq_getElem htj
      have hlj : l[j]? = some l[j] := List.getElem?_eq_getElem hj
      have hli : l[i]? = some l[i] := List.getElem?_eq_getElem hi
      have hc := specAhead l[j] l[i] (hf _ (List.getElem_mem hj)) (hf _ (List.getElem_mem hi))
      rw [stepsFrom_lt hj] at hz
      have hP : letsBy l tk i j = (tk[j] || (j == i || !aheadP l[j] l[i])) := by
        unfold letsBy
        rw [aheadAt_eq hj hi, List.getD_eq_getElem?_getD, hxj]
        rfl
      rw [hP] at hz
      clear hP
      obtain ⟨x, hx⟩ : ∃ x, tk[j] = x := ⟨_, rfl⟩
      rw [hx] at hz hxj
      generalize aheadP l[j] l[i] = y at *
      by_cases hij : j = i
      · subst hij
        cases x <;> simp at hz <;> simp [loopAt, loopsOf, Tryz.f142, dd, h0, h4, h5, h6, h7, h8, h9, ho, hq, hO, hj, hj', hwj, htj, htj', hxj, hx, boT, hlj, hz]
      · have hb1 : ((j : Int) == (i : Int)) = false := by simp; omega
        have hb2 : (j == i) = false := by simp [hij]
        have hb3 : ¬ ((j : Int) = (i : Int)) := by omega
        rw [hb2] at hz
        cases x <;> cases y <;> simp at hz <;> simp [loopAt, loopsOf, Tryz.f142, dd, h0, h4, h5, h6, h7, h8, h9, ho, hq, hO, hj, hj', hi, hi', hwj, htj, htj', hxj, hx, boT, hlj, hli, hb1, hb3, hc, hz]
  · rintro s o q ⟨z, h0, h4, h5, h6, h7, h8, h9, ho, hq, hz⟩
    rw [stepsFrom_end] at hz
    simp at hz
    simp [loopAt, loopsOf, Tryz.f142, h0, h4, h5, h6, h7, h8, h9, ho, hq, hO, hz]
def goesBy (l : List Dn) (tk : List Bool) (i : Nat) : Bool := !tk.getD i true && stepsFrom l.length (letsBy l tk i) 0
def tkOf (tk : List Bool) : Option Nat → List Bool
  | none => tk
  | some k => tk.set k true
theorem range_drop {n i : Nat} (h : i < n) : (List.range n).drop i = i :: (List.range n).drop (i + 1) := by
  rw [List.drop_eq_getElem_cons (by simpa using h)]
  simp
theorem l12_mid (l : List Dn) (hn : l.length ≤ 40) (hf : ∀ d ∈ l, dnFit d) (tk : List Bool) (ht : tk.length = l.length) (O : List Nat) (hO : O.length ≤ 40) (r r4 : Nat) (w : Option Nat) (hw : w = (List.range l.length).find? (goesBy l tk)) : ∀ s o q, (s 0 = .t (.list (l.map dnT)) ∧ s 4 = .row r4 ∧ s 5 = .row r ∧ s 6 = .t (.bool false) ∧ s 7 = .t (.int .i64 0) ∧ o r = .row 4 (tk.map boT) true ∧ o r4 = .row 3 (O.map intT) true ∧ r < q ∧ r4 < q ∧ r ≠ r4) →
    ∃ e s' o' q', run E (.code (.loop (loopAt Tryz.f142 1)) ⟨s, o, q, 76⟩) = some (.st e ⟨s', o', q', 76⟩) ∧ ∃ r' : Nat, (e = .exit 2 ∧ s' 0 = .t (.list (l.map dnT)) ∧ s' 4 = .row r' ∧ s' 5 = .row r ∧ s' 6 = .t (.bool w.isSome) ∧ o' r = .row 4 ((tkOf tk w).map boT) true ∧ o' r' = .row 3 ((O ++ w.toList).map intT) true ∧ r < q' ∧ r' < q' ∧ r ≠ r') := by
  intro s o q hI
  refine loop_for (c := loopAt Tryz.f142 1) (N := 76)
    (fun i s o q => ∃ (v : Option Nat) (r' : Nat), s 0 = .t (.list (l.map dnT)) ∧ s 4 = .row r' ∧ s 5 = .row r ∧ s 6 = .t (.bool v.isSome) ∧ s 7 = .t (.int .i64 i) ∧ o r = .row 4 ((tkOf tk v).map boT) true ∧ o r' = .row 3 ((O ++ v.toList).map intT) true ∧ r < q ∧ r' < q ∧ r ≠ r' ∧ w = (match v with
      | some k => some k
      | none => ((List.range l.length).drop i).find? (goesBy l tk)))
    (fun e s' o' q' => ∃ r' : Nat, (e = .exit 2 ∧ s' 0 = .t (.list (l.map dnT)) ∧ s' 4 = .row r' ∧ s' 5 = .row r ∧ s' 6 = .t (.bool w.isSome) ∧ o' r = .row 4 ((tkOf tk w).map boT) true ∧ o' r' = .row 3 ((O ++ w.toList).map intT) true ∧ r < q' ∧ r' < q' ∧ r ≠ r')) l.length ?_ ?_
    l.length 0 s o q (by omega) (by
      obtain ⟨h0, h4, h5, h6, h7, ho, ho4, hr, hr4, hne⟩ := hI
      exact ⟨none, r4, h0, h4, h5, h6, h7, ho, by simpa using ho4, hr, hr4, hne, by simpa using hw⟩)
  · rintro i s o q hi ⟨v, r', h0, h4, h5, h6, h7, ho, ho4, hr, hr4, hne, hv⟩
    have hi' : (i : Int) < (l.length : Int) := by omega
    have hne2 : r' ≠ r := fun e => hne e.symm
    cases v with
    | some k =>
      simp at hv
      subst hv
      simp at h6 ho ho4
      simp [loopAt, loopsOf, Tryz.f142, h0, h4, h5, h6, h7, ho, ho4, hr, hr4, hne, hne2, hi']
    | none =>
      simp at h6 ho4
      rw [show tkOf tk none = tk from rfl] at ho
      rw [range_drop hi, List.find?_cons] at hv
      have hwi := wrap_succ (n := i) (by omega)
      have hti : i < tk.length := by omega
      have hti' : (i : Int) < (tk.length : Int) := by omega
      have hxi : tk[i]? = some tk[i] := List.getElem?_eq_getElem hti
      obtain ⟨x, hx⟩ : ∃ x, tk[i] = x := ⟨_, rfl⟩
      rw [hx] at hxi
      obtain ⟨X, A, B, C, hin⟩ := sk (l12_in l hn hf tk ht i hi r r' (.t (.bool false)) o q ho (goesBy l tk i) (!x) (by unfold goesBy; rw [List.getD_eq_getElem?_getD, hxi]; rfl))
      simp only [loopAt, loopsOf, Tryz.f142] at hin
      simp at hin
      generalize goesBy l tk i = y at *
      have q1 : r ≠ q := by omega
      have q2 : q ≠ r := by omega
      have q3 : r' ≠ q := by omega
      have q4 : q ≠ r' := by omega
      have q5 : r ≠ q + 1 := by omega
      have q6 : q + 1 ≠ r := by omega
      have q7 : r' ≠ q + 1 := by omega
      have q8 : q + 1 ≠ r' := by omega
      have hcat : O.length + 1 ≤ 140737488355328 := by omega
      have hcat2 : (O.length + 1) * 8 ≤ 140737488355328 := by omega
      have hr1 : ([0] : List Nat) = List.range 1 := rfl
      cases y with
      | false =>
        simp at hv
        simp [loopAt, loopsOf, Tryz.f142, h0, h4, h5, h6, h7, ho, ho4, hr, hr4, hne, hne2, hi, hi', hti, hti', hxi, hx, boT, hwi, hin]
        exact ⟨rfl, hv⟩
      | true =>
        simp at hv
        simp [loopAt, loopsOf, Tryz.f142, h0, h4, h5, h6, h7, ho, ho4, hr, hr4, hne, hne2, hi, hi', hti, hti', hxi, hx, boT, hwi, hin, hcat, hcat2, q1, q2, q3, q4, q5, q6, q7, q8]
        exact ⟨some i, rfl, by simp [tkOf, boT, List.map_set], rfl, by omega, hv⟩
  · rintro s o q ⟨v, r', h0, h4, h5, h6, h7, ho, ho4, hr, hr4, hne, hv⟩
    have hv' : v = w := by
      cases v with
      | some k => simp at hv; exact hv.symm
      | none =>
        rw [List.drop_of_length_le (by simp)] at hv
        simpa using hv.symm
    subst hv'
    simp [loopAt, loopsOf, Tryz.f142, h0, h4, h5, h6, h7, ho, ho4, hr, hr4, hne]
theorem goes_find (l : List Dn) (tk : List Bool) (ht : tk.length = l.length) : (List.range l.length).find? (goesBy l tk) = (leftOf tk).find? (freeIn (aheadAt l) (leftOf tk)) := by
  rw [leftOf_find, ht]
  congr 1
  funext i
  unfold goesBy
  rw [free_all, ht]
  rfl
/-- What the trial makes of it. -/
def serOf (l : List Dn) : Option (List Nat) := serGo (aheadAt l) l.length (List.range l.length)
theorem serGo_none {A : Nat → Nat → Bool} {f : Nat} {left : List Nat} (h : left.length = f + 1) (hw : left.find? (freeIn A left) = none) : serGo A (f + 1) left = none := by
  have : left.isEmpty = false := by cases left <;> simp at h ⊢
  simp [serGo, this, hw]
theorem serGo_some {A : Nat → Nat → Bool} {f k : Nat} {left : List Nat} (h : left.length = f + 1) (hw : left.find? (freeIn A left) = some k) : serGo A (f + 1) left = (serGo A f (left.erase k)).map (k :: ·) := by
  have : left.isEmpty = false := by cases left <;> simp at h ⊢
  simp [serGo, this, hw]
theorem l12_out (l : List Dn) (hn : l.length ≤ 40) (hf : ∀ d ∈ l, dnFit d) (r r4 : Nat) (F : Option (List Nat)) (hF : F = serOf l) : ∀ s o q, (s 0 = .t (.list (l.map dnT)) ∧ s 4 = .row r4 ∧ s 5 = .row r ∧ o r = .row 4 ((List.replicate l.length false).map boT) true ∧ o r4 = .row 3 [] true ∧ r < q ∧ r4 < q ∧ r ≠ r4) →
    ∃ e s' o' q', run E (.code (.loop (loopAt Tryz.f142 0)) ⟨s, o, q, 76⟩) = some (.st e ⟨s', o', q', 76⟩) ∧ ∃ r' : Nat, ((F = none → e = .ret ∧ s' 2 = .row r' ∧ o' r' = .row 3 [] true ∧ s' 3 = .t (.bool false)) ∧ (∀ w, F = some w → e = .exit 0 ∧ s' 4 = .row r' ∧ o' r' = .row 3 (w.map intT) true)) := by
  intro s o q hI
  refine loop_for (c := loopAt Tryz.f142 0) (N := 76)
    (fun m s o q => ∃ (O : List Nat) (tk : List Bool) (r4 : Nat), s 0 = .t (.list (l.map dnT)) ∧ s 4 = .row r4 ∧ s 5 = .row r ∧ o r = .row 4 (tk.map boT) true ∧ o r4 = .row 3 (O.map intT) true ∧ r < q ∧ r4 < q ∧ r ≠ r4 ∧ O.length = m ∧ tk.length = l.length ∧ (leftOf tk).length + m = l.length ∧ F = (serGo (aheadAt l) (l.length - m) (leftOf tk)).map (O ++ ·))
    (fun e s' o' q' => ∃ r' : Nat, ((F = none → e = .ret ∧ s' 2 = .row r' ∧ o' r' = .row 3 [] true ∧ s' 3 = .t (.bool false)) ∧ (∀ w, F = some w → e = .exit 0 ∧ s' 4 = .row r' ∧ o' r' = .row 3 (w.map intT) true))) l.length ?_ ?_
    l.length 0 s o q (by omega) (by
      obtain ⟨h0, h4, h5, ho, ho4, hr, hr4, hne⟩ := hI
      have hlf : leftOf (List.replicate l.length false) = List.range l.length := by
        unfold leftOf
        rw [List.length_replicate, List.filter_eq_self]
        intro a ha
        simp at ha
        simp [List.getD_eq_getElem?_getD, ha]
      exact ⟨[], List.replicate l.length false, r4, h0, h4, h5, ho, ho4, hr, hr4, hne, rfl, by simp, by rw [hlf]; simp, by rw [hlf, hF]; simp [serOf]⟩)
  · rintro m s o q hm ⟨O, tk, r4, h0, h4, h5, ho, ho4, hr, hr4, hne, hlo, ht, hlf, hv⟩
    have hm' : (O.length : Int) < (l.length : Int) := by omega
    obtain ⟨f, hfm⟩ : ∃ f, l.length - m = f + 1 := ⟨l.length - m - 1, by omega⟩
    obtain ⟨w, hw⟩ : ∃ w, w = (List.range l.length).find? (goesBy l tk) := ⟨_, rfl⟩
    obtain ⟨X, A, B, C, M, hin⟩ := sk1 (l12_mid l hn hf tk ht O (by omega) r r4 w hw)
    simp only [loopAt, loopsOf, Tryz.f142] at hin
    simp at hin
    rw [goes_find l tk ht] at hw
    rw [hfm] at hv
    cases w with
    | none =>
      rw [serGo_none (by omega) hw.symm] at hv
      simp at hv
      subst hv
      simp [loopAt, loopsOf, Tryz.f142, h0, h4, h5, ho, ho4, hr, hr4, hne, hm', hin]
    | some k =>
      rw [serGo_some (by omega) hw.symm] at hv
      have hk := List.mem_of_find?_eq_some hw.symm
      have hk2 := leftOf_mem.1 hk
      have hl2 := leftOf_set hk2.1
      have hlen := List.length_erase_of_mem hk
      simp at hin
      simp [loopAt, loopsOf, Tryz.f142, h0, h4, h5, ho, ho4, hr, hr4, hne, hm', hin]
      exact ⟨O ++ [k], tk.set k true, rfl, by simp, by simp [hlo], by simp [ht], by rw [hl2, hlen]; omega, by
        rw [hv, hl2, show l.length - (m + 1) = f by omega]
        cases serGo (aheadAt l) f ((leftOf tk).erase k) <;> simp⟩
  · rintro s o q ⟨O, tk, r4, h0, h4, h5, ho, ho4, hr, hr4, hne, hlo, ht, hlf, hv⟩
    have hz : leftOf tk = [] := List.eq_nil_of_length_eq_zero (by omega)
    rw [hz, Nat.sub_self] at hv
    simp [serGo] at hv
    subst hv
    simp [loopAt, loopsOf, Tryz.f142, h0, h4, h5, ho, ho4, hr, hr4, hne, hlo]
end Go.Nd
/- SerialOrder of impl: the loops. -/
set_option linter.unusedSimpArgs false
set_option linter.unusedVariables false
namespace Go.Nd
open Go.Ev Go.Proofs Go.Pu
set_option maxRecDepth 100000
set_option maxHeartbeats 16000000
def rAt (i : Nat) : Nat := if i = 0 then 1 else 2 * i + 3
theorem so_fill (l : List Dn) (hn : l.length ≤ 40) : ∀ s o q, (s 1 = .ptr 0 0 ∧ s 4 = .ptr 3 0 ∧ s 5 = .row 2 ∧ s 11 = .t (.int .i64 l.length) ∧ s 12 = .t (.int .i64 0) ∧ o 0 = .box 94 [.t (.list (l.map dnT))] ∧ o 2 = .row 3 [] true ∧ o 3 = .box 101 [.row 1] ∧ o 1 = .row 3 [] true ∧ q = 4) →
    ∃ e s' o' q', run E (.code (.loop (loopAt Tryz.f144 0)) ⟨s, o, q, 41⟩) = some (.st e ⟨s', o', q', 41⟩) ∧ ∃ r : Nat, (r = rAt l.length ∧ e = .exit 0 ∧ s' 1 = .ptr 0 0 ∧ s' 4 = .ptr 3 0 ∧ s' 5 = .row 2 ∧ o' 0 = .box 94 [.t (.list (l.map dnT))] ∧ o' 2 = .row 3 [] true ∧ o' 3 = .box 101 [.row r] ∧ o' r = .row 3 ((List.range l.length).map intT) true ∧ 3 < q' ∧ r < q' ∧ r ≠ 0 ∧ r ≠ 2 ∧ r ≠ 3) := by
  intro s o q hI
  refine loop_for (c := loopAt Tryz.f144 0) (N := 41)
    (fun i s o q => ∃ r : Nat, r = rAt i ∧ q = 4 + 2 * i ∧ s 1 = .ptr 0 0 ∧ s 4 = .ptr 3 0 ∧ s 5 = .row 2 ∧ s 11 = .t (.int .i64 l.length) ∧ s 12 = .t (.int .i64 i) ∧ o 0 = .box 94 [.t (.list (l.map dnT))] ∧ o 2 = .row 3 [] true ∧ o 3 = .box 101 [.row r] ∧ o r = .row 3 ((List.range i).map intT) true ∧ 3 < q ∧ r < q ∧ r ≠ 0 ∧ r ≠ 2 ∧ r ≠ 3)
    (fun e s' o' q' => ∃ r : Nat, (r = rAt l.length ∧ e = .exit 0 ∧ s' 1 = .ptr 0 0 ∧ s' 4 = .ptr 3 0 ∧ s' 5 = .row 2 ∧ o' 0 = .box 94 [.t (.list (l.map dnT))] ∧ o' 2 = .row 3 [] true ∧ o' 3 = .box 101 [.row r] ∧ o' r = .row 3 ((List.range l.length).map intT) true ∧ 3 < q' ∧ r < q' ∧ r ≠ 0 ∧ r ≠ 2 ∧ r ≠ 3)) l.length ?_ ?_
    l.length 0 s o q (by omega) (by
      obtain ⟨h1, h4, h5, h11, h12, o0, o2, o3, o1, hq⟩ := hI
      exact ⟨1, rfl, by omega, h1, h4, h5, h11, h12, o0, o2, o3, by simpa using o1, by omega, by omega, by omega, by omega, by omega⟩)
  · rintro i s o q hi ⟨r, hrr, hqq, h1, h4, h5, h11, h12, o0, o2, o3, ho, hq3, hr, r0, r2, r3⟩
    have hi' : (i : Int) < (l.length : Int) := by omega
    have hwi := wrap_succ (n := i) (by omega)
    have q0 : 0 ≠ q := by omega
    have q2 : 2 ≠ q := by omega
    have q3 : 3 ≠ q := by omega
    have q4 : q ≠ 0 := by omega
    have q5 : q ≠ 2 := by omega
    have q6 : q ≠ 3 := by omega
    have q7 : r ≠ q := by omega
    have q8 : q ≠ r := by omega
    have q9 : 0 ≠ r := fun e => r0 e.symm
    have q10 : 2 ≠ r := fun e => r2 e.symm
    have q11 : 3 ≠ r := fun e => r3 e.symm
    have p0 : 0 ≠ q + 1 := by omega
    have p2 : 2 ≠ q + 1 := by omega
    have p3 : 3 ≠ q + 1 := by omega
    have p4 : q + 1 ≠ 0 := by omega
    have p5 : q + 1 ≠ 2 := by omega
    have p6 : q + 1 ≠ 3 := by omega
    have p7 : r ≠ q + 1 := by omega
    have p8 : q + 1 ≠ r := by omega
    have hra : rAt (i + 1) = q + 1 := by unfold rAt; rw [if_neg (by omega)]; omega
    have hcat : i + 1 ≤ 140737488355328 := by omega
    have hcat2 : (i + 1) * 8 ≤ 140737488355328 := by omega
    simp [loopAt, loopsOf, Tryz.f144, h1, h4, h5, h11, h12, o0, o2, o3, ho, hi', hwi, q0, q2, q3, q4, q5, q6, q7, q8, q9, q10, q11, p0, p2, p3, p4, p5, p6, p7, p8, r0, r2, r3, hcat, hcat2, hra, List.range_succ]
    first | (refine ⟨?_, ?_, ?_⟩ <;> omega) | (refine ⟨?_, ?_⟩ <;> omega) | omega | (refine ⟨?_, ?_, ?_, ?_⟩ <;> omega) | trace_state
  · rintro s o q ⟨r, hrr, hqq, h1, h4, h5, h11, h12, o0, o2, o3, ho, hq3, hr, r0, r2, r3⟩
    subst hrr
    simp [loopAt, loopsOf, Tryz.f144, h1, h4, h5, h11, h12, o0, o2, o3, ho, hq3, hr, r0, r2, r3]
theorem so_fill2 (l : List Dn) (hn : l.length ≤ 40) : ∀ s o q, (s 1 = .ptr 0 0 ∧ s 4 = .ptr 3 0 ∧ s 5 = .row 2 ∧ s 11 = .t (.int .i64 l.length) ∧ s 12 = .t (.int .i64 0) ∧ o 0 = .box 94 [.t (.list (l.map dnT))] ∧ o 2 = .row 3 [] true ∧ o 3 = .box 101 [.row 1] ∧ o 1 = .row 3 [] true ∧ q = 4) →
    ∃ e s' o' q', run E (.code (.loop (loopAt Tryz.f144 0)) ⟨s, o, q, 41⟩) = some (.st e ⟨s', o', q', 41⟩) ∧ (e = .exit 0 ∧ s' 1 = .ptr 0 0 ∧ s' 4 = .ptr 3 0 ∧ s' 5 = .row 2 ∧ o' 0 = .box 94 [.t (.list (l.map dnT))] ∧ o' 2 = .row 3 [] true ∧ o' 3 = .box 101 [.row (rAt l.length)] ∧ o' (rAt l.length) = .row 3 ((List.range l.length).map intT) true ∧ 3 < q' ∧ rAt l.length < q' ∧ rAt l.length ≠ 0 ∧ rAt l.length ≠ 2 ∧ rAt l.length ≠ 3) := by
  intro s o q hI
  obtain ⟨e, s', o', q', h, r, rfl, h2⟩ := so_fill l hn s o q hI
  exact ⟨e, s', o', q', h, h2⟩
theorem idx_find {α : Type} {p : α → Bool} : ∀ xs : List α, (idxP p xs = -1 ∧ xs.find? p = none) ∨ ∃ (i : Nat) (h : i < xs.length), idxP p xs = (i : Int) ∧ xs.find? p = some xs[i]
  | [] => .inl ⟨rfl, rfl⟩
  | x :: r => by
    unfold idxP
    cases hp : p x with
    | true => exact .inr ⟨0, by simp, by simp, by simp [hp]⟩
    | false =>
      rcases idx_find (p := p) r with ⟨h1, h2⟩ | ⟨i, h, h1, h2⟩
      · exact .inl ⟨by simp [h1], by simp [hp, h2]⟩
      · refine .inr ⟨i + 1, by simpa using h, ?_, by simp [hp, h2]⟩
        have : ¬ ((i : Int) < 0) := by omega
        simp [h1, this]
theorem so_pick (l : List Dn) (hn : l.length ≤ 40) (hf : ∀ d ∈ l, dnFit d) (F : Option (List Nat)) (hF : F = serGo (aheadAt l) l.length (List.range l.length)) (r0 : Nat) : ∀ s o q, (s 1 = .ptr 0 0 ∧ s 4 = .ptr 3 0 ∧ s 5 = .row 2 ∧ o 0 = .box 94 [.t (.list (l.map dnT))] ∧ o 2 = .row 3 [] true ∧ o 3 = .box 101 [.row r0] ∧ o r0 = .row 3 ((List.range l.length).map intT) true ∧ 3 < q ∧ r0 < q ∧ r0 ≠ 0 ∧ r0 ≠ 2 ∧ r0 ≠ 3) →
    ∃ e s' o' q', run E (.code (.loop (loopAt Tryz.f144 1)) ⟨s, o, q, 41⟩) = some (.st e ⟨s', o', q', 41⟩) ∧ ∃ r' : Nat, ((F = none → e = .ret ∧ s' 2 = .nil ∧ s' 3 = .t (.bool false)) ∧ (∀ w, F = some w → e = .exit 2 ∧ s' 5 = .row r' ∧ o' r' = .row 3 (w.map intT) true)) := by
  intro s o q hI
  have n11 := n144_11
  have s11 := s144_11
  simp [regionOf, findR, pick, Tryz.f144] at n11 s11
  have dd := fun st => run_region_drawS E st 11 _ n11 s11
  clear n11 s11
  refine loop_for (c := loopAt Tryz.f144 1) (N := 41)
    (fun m s o q => ∃ (O left : List Nat) (r r5 : Nat), s 1 = .ptr 0 0 ∧ s 4 = .ptr 3 0 ∧ s 5 = .row r5 ∧ o 0 = .box 94 [.t (.list (l.map dnT))] ∧ o 3 = .box 101 [.row r] ∧ o r = .row 3 (left.map intT) true ∧ o r5 = .row 3 (O.map intT) true ∧ 3 < q ∧ r < q ∧ r5 < q ∧ r ≠ 0 ∧ r ≠ 3 ∧ r ≠ r5 ∧ r5 ≠ 0 ∧ r5 ≠ 3 ∧ O.length = m ∧ left.length + m = l.length ∧ left.Nodup ∧ (∀ i ∈ left, i < l.length) ∧ F = (serGo (aheadAt l) (l.length - m) left).map (O ++ ·))
    (fun e s' o' q' => ∃ r' : Nat, ((F = none → e = .ret ∧ s' 2 = .nil ∧ s' 3 = .t (.bool false)) ∧ (∀ w, F = some w → e = .exit 2 ∧ s' 5 = .row r' ∧ o' r' = .row 3 (w.map intT) true))) l.length ?_ ?_
    l.length 0 s o q (by omega) (by
      obtain ⟨h1, h4, h5, o0, o2, o3, ho, hq3, hr, z0, z2, z3⟩ := hI
      exact ⟨[], List.range l.length, r0, 2, h1, h4, h5, o0, o3, ho, by simpa using o2, hq3, hr, by omega, z0, z3, z2, by omega, by omega, rfl, by simp, List.nodup_range, by simp, by simp [hF]⟩)
  · rintro m s o q hm ⟨O, left, r, r5, h1, h4, h5, o0, o3, ho, ho5, hq3, hr, hr5, z0, z3, z5, y0, y3, hO, hlen, hnd, hlt, hv⟩
    have hpos : 0 < left.length := by omega
    have hpos' : (0 : Int) < (left.length : Int) := by omega
    obtain ⟨f, hfm⟩ : ∃ f, l.length - m = f + 1 := ⟨l.length - m - 1, by omega⟩
    rw [hfm] at hv
    have hix := indexFunc_240_2 left 241 [.list (left.map intT)] [.list (l.map dnT)] (freeIn (aheadAt l) left) (by omega) rfl rfl (fun x hx => free_241 l hf left hlt (by omega) x (hlt x hx))
    rcases idx_find (p := freeIn (aheadAt l) left) left with ⟨e1, e2⟩ | ⟨i, hi, e1, e2⟩
    · rw [serGo_none (by omega) e2] at hv
      simp at hv
      subst hv
      rw [e1] at hix
      simp [loopAt, loopsOf, Tryz.f144, h1, h4, h5, o0, o3, ho, ho5, hpos, hpos', hix]
    · rw [serGo_some (by omega) e2] at hv
      rw [e1] at hix
      have hi' : (i : Int) < (left.length : Int) := by omega
      have hge : ¬ ((i : Int) < 0) := by omega
      have hwi := wrap_succ (n := i) (by omega)
      have hdel := del_244 left i hi (by omega)
      have her := erase_at hnd hi
      have hxi : left[i]? = some left[i] := List.getElem?_eq_getElem hi
      have q0 : 0 ≠ q := by omega
      have q3 : 3 ≠ q := by omega
      have q4 : q ≠ 0 := by omega
      have q6 : q ≠ 3 := by omega
      have q7 : r ≠ q := by omega
      have q8 : q ≠ r := by omega
      have q9 : 0 ≠ r := fun e => z0 e.symm
      have q11 : 3 ≠ r := fun e => z3 e.symm
      have q12 : r5 ≠ q := by omega
      have q13 : q ≠ r5 := by omega
      have q14 : r5 ≠ r := fun e => z5 e.symm
      have q15 : 0 ≠ r5 := fun e => y0 e.symm
      have q16 : 3 ≠ r5 := fun e => y3 e.symm
      have p0 : 0 ≠ q + 1 := by omega
      have p3 : 3 ≠ q + 1 := by omega
      have p4 : q + 1 ≠ 0 := by omega
      have p6 : q + 1 ≠ 3 := by omega
      have p7 : r ≠ q + 1 := by omega
      have p8 : q + 1 ≠ r := by omega
      have hcat : O.length + 1 ≤ 140737488355328 := by omega
      have hcat2 : (O.length + 1) * 8 ≤ 140737488355328 := by omega
      simp at hdel
      simp [loopAt, loopsOf, Tryz.f144, dd, h1, h4, h5, o0, o3, ho, ho5, hpos, hpos', hix, hi, hi', hge, hwi, hdel, hxi, z0, z3, z5, y0, y3, q0, q3, q4, q6, q7, q8, q9, q11, q12, q13, q14, q15, q16, p0, p3, p4, p6, p7, p8, hcat, hcat2]
      exact ⟨O ++ [left[i]], left.erase left[i], by rw [her]; simp [List.map_take, List.map_drop], by simp, by omega, by omega, by simp [hO], by rw [List.length_erase_of_mem (List.getElem_mem hi)]; omega, hnd.erase _, fun j hj => hlt j (List.mem_of_mem_erase hj), by
        rw [hv, show l.length - (m + 1) = f by omega]
        cases serGo (aheadAt l) f (left.erase left[i]) <;> simp⟩
  · rintro s o q ⟨O, left, r, r5, h1, h4, h5, o0, o3, ho, ho5, hq3, hr, hr5, z0, z3, z5, y0, y3, hO, hlen, hnd, hlt, hv⟩
    have hz : left = [] := List.eq_nil_of_length_eq_zero (by omega)
    subst hz
    rw [Nat.sub_self] at hv
    simp [serGo] at hv
    subst hv
    simp at ho
    simp [loopAt, loopsOf, Tryz.f144, h1, h4, h5, o0, o3, ho, ho5]
def serX (F : Option (List Nat)) : X := match F with
  | some w => .row 3 (w.map intT)
  | none => .nil
theorem implOrd12 (l : List Dn) (hn : l.length ≤ 40) (hf : ∀ d ∈ l, dnFit d) : run E (.call 144 [.t (.list (l.map dnT))]) = some (.res [serX (serOf l), xB (serOf l).isSome] []) := by
  rw [run_call E 144 _ rfl Tryz.func144 rfl rfl rfl (by simp)]
  obtain ⟨F, hF⟩ : ∃ F, F = serOf l := ⟨_, rfl⟩
  obtain ⟨X, A, B, C, hx⟩ := sk (so_fill2 l hn)
  obtain ⟨X2, A2, B2, C2, M2, hy⟩ := sk1 (so_pick l hn hf F hF (rAt l.length))
  simp only [loopAt, loopsOf, Tryz.f144] at hx hy
  rw [← hF]
  have w0 : rAt l.length ≠ 0 := by unfold rAt; split <;> omega
  have w2 : rAt l.length ≠ 2 := by unfold rAt; split <;> omega
  have w3 : rAt l.length ≠ 3 := by unfold rAt; split <;> omega
  generalize rAt l.length = rr at *
  cases F with
  | none =>
    simp at hx hy
    simp [hx, hy, w0, w2, w3, serX]
  | some w =>
    simp at hx hy
    simp [hx, hy, w0, w2, w3, serX]
end Go.Nd
/- SerialOrder of spec. -/
set_option linter.unusedSimpArgs false
set_option linter.unusedVariables false
namespace Go.Nd
open Go.Ev Go.Proofs Go.Pu
set_option maxRecDepth 100000
set_option maxHeartbeats 16000000
theorem specOrd12 (l : List Dn) (hn : l.length ≤ 40) (hf : ∀ d ∈ l, dnFit d) : run E (.call 142 [.t (.list (l.map dnT))]) = some (.res [.row 3 (((serOf l).getD []).map intT), xB (serOf l).isSome] []) := by
  rw [run_call E 142 _ rfl Tryz.func142 rfl rfl rfl (by simp)]
  obtain ⟨F, hF⟩ : ∃ F, F = serOf l := ⟨_, rfl⟩
  obtain ⟨X, A, B, C, M, hx⟩ := sk1 (l12_out l hn hf 1 0 F hF)
  simp only [loopAt, loopsOf, Tryz.f142] at hx
  rw [← hF]
  have h1 : l.length ≤ 140737488355328 := by omega
  have h2 : l.length ≤ 16777216 := by omega
  have h3 : (0 : Int) ≤ (l.length : Int) := by omega
  cases F with
  | none =>
    simp [boT] at hx
    simp [hx, h1, h2, h3]
  | some w =>
    simp [boT] at hx
    simp [hx, h1, h2, h3]
def serOut (l : List Dn) : List Nat × Int := if 4096 < l.length then ([], 2) else if risesOK l then (match serOf l with
  | some w => (w, 0)
  | none => ([], 19)) else ([], 1)
theorem rises_fit {l : List Dn} (h : risesOK l = true) (hs : ∀ d ∈ l, d.Sm) : l.length ≤ 40 ∧ ∀ d ∈ l, dnFit d := by
  unfold risesOK at h
  simp only [Bool.and_eq_true, decide_eq_true_eq] at h
  refine ⟨h.2, fun d hd => done_fit ?_ (hs d hd)⟩
  have h1 := steps_all.1 h.1
  obtain ⟨i, hi, rfl⟩ := List.getElem_of_mem hd
  have h2 := h1 i hi
  cases i with
  | zero =>
    rw [seq_zero hi] at h2
    exact h2
  | succ k =>
    rw [seq_succ hi] at h2
    simp only [Bool.and_eq_true] at h2
    exact h2.1
theorem specSerial (l : List Dn) (hl : l.length < 4294967296) (h : ∀ d ∈ l, d.Sm) : run E (.call 49 [.t (.list (l.map dnT))]) = some (.res [.row 3 ((serOut l).1.map intT), xI (serOut l).2] []) := by
  rw [run_call E 49 _ rfl Tryz.func49 rfl rfl rfl (by simp)]
  unfold serOut
  have h1 := specRises l hl h
  by_cases hlen : 4096 < l.length
  · have hlen' : (4096 : Int) < (l.length : Int) := by omega
    simp [hlen, hlen']
  · have hlen' : ¬ (4096 : Int) < (l.length : Int) := by omega
    cases hd : risesOK l with
    | false =>
      rw [hd] at h1
      simp [hlen, hlen', h1]
    | true =>
      rw [hd] at h1
      obtain ⟨hn, hf⟩ := rises_fit hd h
      have h2 := specOrd12 l hn hf
      cases ho : serOf l with
      | none =>
        rw [ho] at h2
        simp at h2
        simp [hlen, hlen', h1, h2]
      | some w =>
        rw [ho] at h2
        simp at h2
        simp [hlen, hlen', h1, h2]
end Go.Nd
/- SerialOrder of impl. -/
set_option linter.unusedSimpArgs false
set_option linter.unusedVariables false
namespace Go.Nd
open Go.Ev Go.Proofs Go.Pu
set_option maxRecDepth 100000
set_option maxHeartbeats 16000000
def serXs (l : List Dn) : X := if 4096 < l.length then .nil else if risesOK l then serX (serOf l) else .nil
theorem implSerial (l : List Dn) (hl : l.length < 4294967296) (h : ∀ d ∈ l, d.Sm) : run E (.call 50 [.t (.list (l.map dnT))]) = some (.res [serXs l, xI (serOut l).2] []) := by
  rw [run_call E 50 _ rfl Tryz.func50 rfl rfl rfl (by simp)]
  unfold serOut serXs
  have h1 := implRises l hl h
  by_cases hlen : 4096 < l.length
  · have hlen' : (4096 : Int) < (l.length : Int) := by omega
    simp [hlen, hlen']
  · have hlen' : ¬ (4096 : Int) < (l.length : Int) := by omega
    cases hd : risesOK l with
    | false =>
      rw [hd] at h1
      simp [hlen, hlen', h1]
    | true =>
      rw [hd] at h1
      obtain ⟨hn, hf⟩ := rises_fit hd h
      have h2 := implOrd12 l hn hf
      cases ho : serOf l with
      | none =>
        rw [ho] at h2
        simp [serX] at h2
        simp [hlen, hlen', h1, h2, serX]
      | some w =>
        rw [ho] at h2
        simp [serX] at h2
        simp [hlen, hlen', h1, h2, serX]
end Go.Nd
/- The law FnExactSerialOrder over plain data. -/
set_option linter.unusedSimpArgs false
set_option linter.unusedVariables false
namespace Go.Nd
open Go.Ev Go.Proofs Go.Pu
set_option maxRecDepth 100000
set_option maxHeartbeats 16000000
theorem serGo_len {A : Nat → Nat → Bool} : ∀ (f : Nat) (left w : List Nat), serGo A f left = some w → w.length ≤ f
  | 0, left, w, h => by
    unfold serGo at h
    split at h
    · cases h; simp
    · cases h
  | f + 1, left, w, h => by
    unfold serGo at h
    split at h
    · cases h; simp
    · split at h
      · cases h
      · rename_i k _
        cases hr : serGo A f (left.erase k) with
        | none => rw [hr] at h; simp at h
        | some v =>
          rw [hr] at h
          simp at h
          subst h
          have := serGo_len f _ v hr
          simp
          omega
theorem lawSerial_body (l : List Dn) (hw : l.length < 4294967296) (hs : ∀ d ∈ l, d.Sm) (hc : cntDs l ≤ 16777216) (z : Int) (hz : ¬ z < 0) (h1 : run E (.call 40 [.t (.list (l.map dnT)), xI 1048576]) = some (.res [xI z] [])) : run E (.call 9 [.t (.list (l.map dnT))]) = some (.res [xB true] []) := by
  rw [run_call E 9 _ rfl Tryz.func9 rfl rfl rfl (by simp)]
  have h2 := toDnS l hw (fun x hx => toDnD x (hs x hx))
  have h3 := specSerial l hw hs
  have h4 := implSerial l hw hs
  have h5 := eq_45 l (by omega) (fun x hx => eqDn x (hs x hx))
  obtain ⟨bs, h6, hbs⟩ := markDoneS l 1 (by omega) (by omega) (fun d hd => ⟨(hs d hd).changes.1, (hs d hd).reads.1, fun r hr => ⟨((hs d hd).reads.2 r hr).filter.1, fun c hcm => (((hs d hd).reads.2 r hr).filter.2 c hcm).1⟩⟩)
  rw [show ((1 : Nat) : Int) = 1 from rfl] at h6
  have hown := dnsX_own l
  have hdat := dnsX_dat l
  have hpl : (dnsX l).plain = false := srX_plain
  have hge : ¬ ((1 + cntDs l : Nat) : Int) < 0 := by omega
  generalize dnsX l = D at *
  generalize (l.map dnT) = dl at *
  generalize ((1 + cntDs l : Nat) : Int) = km at *
  obtain ⟨V0, A0, n0, i0, hb0, H0, c0, m0, low0⟩ := made hown 0 (fun _ => Ob.dead)
  have hcase : (∃ es : List Nat, es.length ≤ 2000 ∧ serXs l = .row 3 (es.map intT) ∧ serOut l = (es, 0)) ∨ ∃ c : Int, serXs l = .nil ∧ serOut l = ([], c) := by
    unfold serXs serOut
    by_cases hlen : 4096 < l.length
    · exact .inr ⟨2, by rw [if_pos hlen], by rw [if_pos hlen]⟩
    · rw [if_neg hlen, if_neg hlen]
      by_cases hd : risesOK l = true
      · rw [if_pos hd, if_pos hd]
        cases ho : serOf l with
        | none => exact .inr ⟨19, rfl, rfl⟩
        | some w => exact .inl ⟨w, by have := serGo_len _ _ _ ho; have := (rises_fit hd hs).1; omega, rfl, rfl⟩
      · rw [if_neg hd, if_neg hd]
        exact .inr ⟨1, rfl, rfl⟩
  rcases hcase with ⟨es, hes, he1, he2⟩ | ⟨c, he1, he2⟩
  · skip
    rw [he2] at h3 h4
    rw [he1] at h4
    have h7 := eqIntS es (by omega)
    have h8 := markIntS es 1 (by omega) (by omega)
    have h9 := heldIntS es.length 1 (by omega) (by omega)
    rw [show ((1 : Nat) : Int) = 1 from rfl] at h8 h9
    have hge2 : ¬ ((1 + es.length : Nat) : Int) < 0 := by omega
    have hfl := flats_ints es
    have hfl2 := flats_ints (marksI 1 es.length)
    generalize ((1 + es.length : Nat) : Int) = ki at *
    generalize (marksI 1 es.length).map intT = ms at *
    generalize es.map intT = es' at *
    obtain ⟨V1, A1, n1, i1, hb1, H1, c1, m1, low1⟩ := made hown (n0 + 1) (upd A0 n0 (.row 3 es' true))
    obtain ⟨V2, A2, n2, i2, hb2, H2, c2, m2, low2⟩ := made hown (n1 + 1) (upd A1 n1 (.row 3 es' true))
    have H12 : Held 3 A2 V1 D i1 := H1.frame (fun i hi => by
      have := c1 i hi
      rw [low2 i (by omega), upd_ne _ _ (by omega)])
    have r0 := fun s q N => look_rule H0 (by omega) s q N
    have r1 := fun s q N => look_rule H1 (by omega) s q N
    have r2 := fun s q N => look_rule H2 (by omega) s q N
    have r12 := fun s q N => look_rule H12 (by omega) s q N
    rw [hdat] at r0 r1 r2 r12
    have g1 := fun s q N => give_rule H12 (by omega) hpl ⟨s, A2, q, N⟩ (fun _ _ => rfl)
    have hrg := fun st st0 => back_rule H12 hbs st st0
    have hnd := H12.nodup
    have a1 : A1 n0 = .row 3 es' true := by rw [low1 n0 (by omega), show ∀ (o : Nat → Ob) i x, upd o i x i = x from fun _ _ _ => by simp [upd]]
    have a2 : A2 n0 = .row 3 es' true := by rw [low2 n0 (by omega), upd_ne _ _ (by omega), a1]
    have a3 : A2 n1 = .row 3 es' true := by rw [low2 n1 (by omega), show ∀ (o : Nat → Ob) i x, upd o i x i = x from fun _ _ _ => by simp [upd]]
    have k0 : deadO i1 A2 n0 = .row 3 es' true := by rw [dead_out (fun hm => by have := c1 _ hm; omega), a2]
    have k1 : deadO i1 A2 n1 = .row 3 es' true := by rw [dead_out (fun hm => by have := c1 _ hm; omega), a3]
    generalize hA3 : deadO i1 A2 = A3 at *
    have e1 : n0 ≠ n1 := by omega
    have e2 : n1 ≠ n0 := by omega
    have hb3 : ∀ s o N, St.bind ⟨s, o, n2, N⟩ D = (D.bV n2, ⟨s, D.bO n2 o, D.bN n2, N⟩) := fun s o N => bind_own hown _
    have r3 : ∀ s q N o, St.giveRo ⟨s, D.bO n2 o, q, N⟩ (D.bV n2) = some (.t (.list dl)) := fun s q N o => by
      obtain ⟨ids, hh, _⟩ := X.bHeld D 3 n2 o hown
      rw [← hdat]
      exact (look_rule hh (by omega) s q N).1
    have l30 : ∀ o, D.bO n2 o n0 = o n0 := fun o => X.bO_low D n2 o n0 (by omega)
    have l31 : ∀ o, D.bO n2 o n1 = o n1 := fun o => X.bO_low D n2 o n1 (by omega)
    have hn3 := X.bN_le D n2
    generalize D.bN n2 = n3 at *
    have e3 : n0 ≠ n3 := by omega
    have e4 : n1 ≠ n3 := by omega
    have e5 : n3 ≠ n0 := by omega
    have e6 : n3 ≠ n1 := by omega
    clear H0 H1 H2 H12 low0 low1 low2 c0 c1 c2
    simp [h1, hz, h2, h3, h4, h5, h6, h7, h8, h9, hge, hge2, hb0, hb1, hb2, r0, r1, r2, r12, g1, hrg, hnd, a1, a2, a3, k0, k1, hA3, e1, e2, e3, e4, e5, e6, hb3, r3, l30, l31, hfl, hfl2, bind_tt, bind_row, bind_nil, kill_dead, deadO_nil, dead_one, ro_row, ro_nil, ro_list, ro_int, rid_row, rid_nil, rid_t, mut_row, mut_nil, mid_row, mid_nil, rg_row, rg_nil, -St.bind, -kill, -St.giveRo, -St.roIds, -St.giveMut, -St.mutIds, -St.regain]
  · skip
    rw [he2] at h3 h4
    rw [he1] at h4
    have h7 := eqIntS [] (by simp)
    have h8 := markIntS_nil 1 (by omega)
    have h9 := heldIntS 0 1 (by omega) (by omega)
    simp [marksI] at h3 h4 h7 h8 h9
    obtain ⟨V1, A1, n1, i1, hb1, H1, c1, m1, low1⟩ := made hown (n0 + 1) (upd A0 n0 (.row 3 [] true))
    obtain ⟨V2, A2, n2, i2, hb2, H2, c2, m2, low2⟩ := made hown n1 A1
    have H12 : Held 3 A2 V1 D i1 := H1.frame (fun i hi => by
      have := c1 i hi
      rw [low2 i (by omega)])
    have r0 := fun s q N => look_rule H0 (by omega) s q N
    have r1 := fun s q N => look_rule H1 (by omega) s q N
    have r2 := fun s q N => look_rule H2 (by omega) s q N
    have r12 := fun s q N => look_rule H12 (by omega) s q N
    rw [hdat] at r0 r1 r2 r12
    have g1 := fun s q N => give_rule H12 (by omega) hpl ⟨s, A2, q, N⟩ (fun _ _ => rfl)
    have hrg := fun st st0 => back_rule H12 hbs st st0
    have hnd := H12.nodup
    have a1 : A1 n0 = .row 3 [] true := by rw [low1 n0 (by omega), show ∀ (o : Nat → Ob) i x, upd o i x i = x from fun _ _ _ => by simp [upd]]
    have a2 : A2 n0 = .row 3 [] true := by rw [low2 n0 (by omega), a1]
    have k0 : deadO i1 A2 n0 = .row 3 [] true := by rw [dead_out (fun hm => by have := c1 _ hm; omega), a2]
    generalize hA3 : deadO i1 A2 = A3 at *
    have hb3 : ∀ s o N, St.bind ⟨s, o, n2, N⟩ D = (D.bV n2, ⟨s, D.bO n2 o, D.bN n2, N⟩) := fun s o N => bind_own hown _
    have r3 : ∀ s q N o, St.giveRo ⟨s, D.bO n2 o, q, N⟩ (D.bV n2) = some (.t (.list dl)) := fun s q N o => by
      obtain ⟨ids, hh, _⟩ := X.bHeld D 3 n2 o hown
      rw [← hdat]
      exact (look_rule hh (by omega) s q N).1
    have l30 : ∀ o, D.bO n2 o n0 = o n0 := fun o => X.bO_low D n2 o n0 (by omega)
    have hn3 := X.bN_le D n2
    generalize D.bN n2 = n3 at *
    have e3 : n0 ≠ n3 := by omega
    have e5 : n3 ≠ n0 := by omega
    clear H0 H1 H2 H12 low0 low1 low2 c0 c1 c2
    simp [h1, hz, h2, h3, h4, h5, h6, h7, h8, h9, hge, T.flats, hb0, hb1, hb2, r0, r1, r2, r12, g1, hrg, hnd, a1, a2, k0, hA3, e3, e5, hb3, r3, l30, bind_tt, bind_row, bind_nil, kill_dead, deadO_nil, dead_one, ro_row, ro_nil, ro_list, ro_int, rid_row, rid_nil, rid_t, mut_row, mut_nil, mid_row, mid_nil, rg_row, rg_nil, -St.bind, -kill, -St.giveRo, -St.roIds, -St.giveMut, -St.mutIds, -St.regain]
theorem lawSerialOrder (l : List Dn) (h : W l.length ∧ ∀ d ∈ l, d.Wd) : run E (.call 9 [.t (.list (l.map dnT))]) = some (.res [xB true] []) := by
  have hW := h.1
  unfold W at hW
  have h1 := sz_40 l szDn (by omega) (fun x hx l h0 hm => szLDn x (h.2 x hx) l h0 hm) (fun x _ k hk => szDn_le x k hk) 1048576 (by omega) (by omega)
  by_cases hn : lstSz szDn l 1048576 < 0
  · rw [run_call E 9 _ rfl Tryz.func9 rfl rfl rfl (by simp)]
    simp [h1, hn]
  · obtain ⟨b1, b2⟩ := lstSz_all (P := fun y : Dn => y.Sm) (m := 1048576) (by omega) (by omega) (fun y _ k hk => szDn_le y k hk) (fun y _ k hk hm h => szDn_sm hk hm h) hn
    have hb := szDns_bd (l := l) (k := 1048576) (by omega) hn
    exact lawSerial_body l (by omega) b2 (by omega) _ hn h1
end Go.Nd
