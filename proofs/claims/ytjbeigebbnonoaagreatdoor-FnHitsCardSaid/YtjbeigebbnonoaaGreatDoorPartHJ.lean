/- What is drawn: those that were committed. -/
import Derived.Test.YtjbeigebbnonoaaGreatDoorPartHI
set_option linter.unusedSimpArgs false
set_option linter.unusedVariables false
namespace Go.Md
open Go.Ev Go.Proofs Go.Pu
set_option maxRecDepth 100000
set_option maxHeartbeats 4000000
def sameCg (x y : Chg) : Bool := x.w.coll == y.w.coll && x.w.id == y.w.id
def sameP (a b : List Chg) : Bool := a.any fun x => b.any fun y => sameCg x y
theorem same_in (a b : List Chg) (hb4 : b.length < 4294967296) (i : Nat) (hi : i < a.length) (ha4 : a.length < 4294967296) (z : Bool) (hz : z = b.any (sameCg a[i])) : ∀ s o q, (s 0 = .t (.list (a.map chgT)) ∧ s 1 = .t (.list (b.map chgT)) ∧ s 5 = .t (.int .i64 i) ∧ s 6 = .t (.int .i64 0)) →
    ∃ e s' o' q', run E (.code (.loop (loopAt Tryz.f92 1)) ⟨s, o, q, 47⟩) = some (.st e ⟨s', o', q', 47⟩) ∧ (e = (if z then .ret else .exit 2) ∧ s' 0 = .t (.list (a.map chgT)) ∧ s' 1 = .t (.list (b.map chgT)) ∧ s' 5 = .t (.int .i64 i) ∧ (z = true → s' 4 = .t (.bool true))) := by
  intro s o q hI
  have d7 := d92_7
  simp [regionOf, findR, pick, Tryz.f92] at d7
  have dd := fun st => run_region_draw E st 7 _ d7
  clear d7
  have hxi : a[i]? = some a[i] := List.getElem?_eq_getElem hi
  have hi' : (i : Int) < (a.length : Int) := by omega
  refine loop_for (c := loopAt Tryz.f92 1) (N := 47)
    (fun j s o q => s 0 = .t (.list (a.map chgT)) ∧ s 1 = .t (.list (b.map chgT)) ∧ s 5 = .t (.int .i64 i) ∧ s 6 = .t (.int .i64 j) ∧ z = (b.drop j).any (sameCg a[i]))
    (fun e s' o' q' => e = (if z then .ret else .exit 2) ∧ s' 0 = .t (.list (a.map chgT)) ∧ s' 1 = .t (.list (b.map chgT)) ∧ s' 5 = .t (.int .i64 i) ∧ (z = true → s' 4 = .t (.bool true))) b.length ?_ ?_
    b.length 0 s o q (by omega) ⟨hI.1, hI.2.1, hI.2.2.1, hI.2.2.2, by simpa using hz⟩
  · rintro j s o q hj ⟨h0, h1, h5, h6, hp⟩
    have hj' : (j : Int) < (b.length : Int) := by omega
    have hw := wrap_succ (n := j) (by omega)
    have hxj : b[j]? = some b[j] := List.getElem?_eq_getElem hj
    rw [List.drop_eq_getElem_cons hj, List.any_cons, sameCg] at hp
    cases hc : a[i].w.coll == b[j].w.coll with
    | false =>
      simp only [hc, Bool.false_and, Bool.false_or] at hp
      simp [loopAt, loopsOf, Tryz.f92, dd, h0, h1, h5, h6, hi, hi', hxi, hj, hj', hxj, hw, hc, -List.any_eq_true, -List.any_eq_false]
      exact hp
    | true =>
      cases hn : a[i].w.id == b[j].w.id with
      | false =>
        simp only [hc, hn, Bool.false_and, Bool.and_false, Bool.false_or] at hp
        simp [loopAt, loopsOf, Tryz.f92, dd, h0, h1, h5, h6, hi, hi', hxi, hj, hj', hxj, hw, hc, hn, -List.any_eq_true, -List.any_eq_false]
        exact hp
      | true =>
        simp only [hc, hn, Bool.and_self, Bool.true_or] at hp
        simp [loopAt, loopsOf, Tryz.f92, dd, h0, h1, h5, h6, hi, hi', hxi, hj, hj', hxj, hw, hc, hn, hp]
  · rintro s o q ⟨h0, h1, h5, h6, hp⟩
    simp at hp
    simp [loopAt, loopsOf, Tryz.f92, h0, h1, h5, h6, hp]
theorem same_out (a b : List Chg) (hb4 : b.length < 4294967296) (ha4 : a.length < 4294967296) (z : Bool) (hz : z = sameP a b) : ∀ s o q, (s 0 = .t (.list (a.map chgT)) ∧ s 1 = .t (.list (b.map chgT)) ∧ s 5 = .t (.int .i64 0)) →
    ∃ e s' o' q', run E (.code (.loop (loopAt Tryz.f92 0)) ⟨s, o, q, 47⟩) = some (.st e ⟨s', o', q', 47⟩) ∧ (e = (if z then .ret else .exit 0) ∧ (z = true → s' 4 = .t (.bool true))) := by
  intro s o q hI
  refine loop_for (c := loopAt Tryz.f92 0) (N := 47)
    (fun i s o q => s 0 = .t (.list (a.map chgT)) ∧ s 1 = .t (.list (b.map chgT)) ∧ s 5 = .t (.int .i64 i) ∧ z = (a.drop i).any (fun x => b.any (sameCg x)))
    (fun e s' o' q' => e = (if z then .ret else .exit 0) ∧ (z = true → s' 4 = .t (.bool true))) a.length ?_ ?_
    a.length 0 s o q (by omega) ⟨hI.1, hI.2.1, hI.2.2, by simpa [sameP] using hz⟩
  · rintro i s o q hi ⟨h0, h1, h5, hp⟩
    have hi' : (i : Int) < (a.length : Int) := by omega
    have hw := wrap_succ (n := i) (by omega)
    have hxi : a[i]? = some a[i] := List.getElem?_eq_getElem hi
    rw [List.drop_eq_getElem_cons hi, List.any_cons] at hp
    obtain ⟨y, hy⟩ : ∃ y, y = b.any (sameCg a[i]) := ⟨_, rfl⟩
    rw [← hy] at hp
    obtain ⟨X, S, O, Q, hx⟩ := sk (same_in a b hb4 i hi ha4 y hy)
    simp only [loopAt, loopsOf, Tryz.f92] at hx
    simp at hx
    clear hy
    cases y with
    | false =>
      simp only [Bool.false_or] at hp
      simp at hx
      simp [loopAt, loopsOf, Tryz.f92, h0, h1, h5, hi, hi', hxi, hw, hx, -List.any_eq_true, -List.any_eq_false]
      exact hp
    | true =>
      simp only [Bool.true_or] at hp
      simp at hx
      simp [loopAt, loopsOf, Tryz.f92, h0, h1, h5, hi, hi', hxi, hw, hx, hp]
  · rintro s o q ⟨h0, h1, h5, hp⟩
    simp at hp
    simp [loopAt, loopsOf, Tryz.f92, h0, h1, h5, hp]
theorem specSame (a b : List Chg) (ha4 : a.length < 4294967296) (hb4 : b.length < 4294967296) : run E (.call 92 [.t (.list (a.map chgT)), .t (.list (b.map chgT))]) = some (.res [xB (sameP a b)] []) := by
  rw [run_call E 92 _ rfl Tryz.func92 rfl rfl rfl (by simp)]
  obtain ⟨z, hz⟩ : ∃ z, z = sameP a b := ⟨_, rfl⟩
  obtain ⟨X, S, O, Q, hx⟩ := sk (same_out a b hb4 ha4 z hz)
  simp only [loopAt, loopsOf, Tryz.f92] at hx
  rw [← hz]
  clear hz
  cases z <;> simp at hx <;> simp [hx]
abbrev dnZ : Ob := .box 26 [.t (.int .i64 0), .t (.int .i64 0), .nil, .nil, .t (.bool false), .t (.bool false)]
abbrev dnN (snap at_ : Int) (a b : Nat) : Ob := .box 26 [.t (.int .i64 snap), .t (.int .i64 at_), .row a, .row b, .t (.bool false), .t (.bool false)]
theorem done_reads (n0 : Nat) (hn0 : n0 ≤ 2) (src : Src) (m : Nat) (hm : m + 20000 < 1000000000) (hs : src.Ok m) (sn at_ : Int) : ∀ s o q, (s 0 = .ptr 0 0 ∧ s 4 = .ptr 1 0 ∧ s 5 = .ptr 4 0 ∧ s 6 = .t (.int .i64 n0) ∧ o 0 = srcB src ∧ o 1 = dnZ ∧ o 4 = dnN sn at_ 2 3 ∧ o 2 = .row 36 [] true ∧ o 3 = .row 42 [] true ∧ 4 < q) →
    ∃ e s' o' q', run E (.code (.loop (loopAt Tryz.f35 0)) ⟨s, o, q, 50⟩) = some (.st e ⟨s', o', q', 50⟩) ∧ ∃ a : Nat × List Rd × Src, ((∀ x ∈ a.2.1, RdG x) ∧ a.2.1.length ≤ 2 ∧ a.2.2.Ok (m + 812)) ∧ (e = .exit 0 ∧ s' 0 = .ptr 0 0 ∧ s' 4 = .ptr 1 0 ∧ s' 5 = .ptr 4 0 ∧ o' 0 = srcB a.2.2 ∧ o' 1 = dnZ ∧ o' 4 = dnN sn at_ a.1 3 ∧ o' a.1 = .row 36 (a.2.1.map rdT) true ∧ o' 3 = .row 42 [] true ∧ (a.1 = 2 ∨ 4 < a.1) ∧ a.1 < q' ∧ 4 < q' ∧ a.1 ≠ 0 ∧ 0 ≠ a.1 ∧ a.1 ≠ 1 ∧ 1 ≠ a.1 ∧ a.1 ≠ 3 ∧ 3 ≠ a.1 ∧ a.1 ≠ 4 ∧ 4 ≠ a.1) := by
  intro s o q hI
  have n5 := n35_5
  have s5 := s35_5
  simp [regionOf, findR, pick, Tryz.f35] at n5 s5
  have dd := fun st => run_region_drawS E st 5 _ n5 s5
  clear n5 s5
  refine loop_wf (c := loopAt Tryz.f35 0) (N := 50)
    (fun k s o q => ∃ (r : Nat) (acc : List Rd) (sr : Src), s 0 = .ptr 0 0 ∧ s 4 = .ptr 1 0 ∧ s 5 = .ptr 4 0 ∧ s 6 = .t (.int .i64 k) ∧ o 0 = srcB sr ∧ o 1 = dnZ ∧ o 4 = dnN sn at_ r 3 ∧ o r = .row 36 (acc.map rdT) true ∧ o 3 = .row 42 [] true ∧ (r = 2 ∨ 4 < r) ∧ r < q ∧ 4 < q ∧ k ≤ 2 ∧ (∀ x ∈ acc, RdG x) ∧ acc.length + k ≤ 2 ∧ sr.Ok (m + (2 - k) * 406))
    (fun e s' o' q' => ∃ a : Nat × List Rd × Src, ((∀ x ∈ a.2.1, RdG x) ∧ a.2.1.length ≤ 2 ∧ a.2.2.Ok (m + 812)) ∧ (e = .exit 0 ∧ s' 0 = .ptr 0 0 ∧ s' 4 = .ptr 1 0 ∧ s' 5 = .ptr 4 0 ∧ o' 0 = srcB a.2.2 ∧ o' 1 = dnZ ∧ o' 4 = dnN sn at_ a.1 3 ∧ o' a.1 = .row 36 (a.2.1.map rdT) true ∧ o' 3 = .row 42 [] true ∧ (a.1 = 2 ∨ 4 < a.1) ∧ a.1 < q' ∧ 4 < q' ∧ a.1 ≠ 0 ∧ 0 ≠ a.1 ∧ a.1 ≠ 1 ∧ 1 ≠ a.1 ∧ a.1 ≠ 3 ∧ 3 ≠ a.1 ∧ a.1 ≠ 4 ∧ 4 ≠ a.1)) ?_
    n0 s o q (by
      obtain ⟨h0, h4, h5, h6, o0, o1, o4, o2, o3, p1⟩ := hI
      exact ⟨2, [], src, h0, h4, h5, h6, o0, o1, o4, o2, o3, .inl rfl, by omega, p1, hn0, by simp, by simpa using hn0, hs.up (Nat.le_add_right _ _)⟩)
  rintro k s o q ⟨r, acc, sr, h0, h4, h5, h6, o0, o1, o4, oR, o3, p1, p2, p3, hk, hacc, hlen, hok⟩
  cases k with
  | zero =>
    simp at h6
    simp [loopAt, loopsOf, Tryz.f35, h6]
    exact ⟨r, acc, sr, ⟨hacc, by omega, hok.up (by omega)⟩, h0, h4, h5, o0, o1, o4, oR, o3, p1, p2, p3, by omega, by omega, by omega, by omega, by omega, by omega, by omega, by omega⟩
  | succ k =>
    obtain ⟨x, s', hx, hxo, hso⟩ := drawRead sr (m + (2 - (k + 1)) * 406) (by omega) hok
    have hso' : s'.Ok (m + (2 - k) * 406) := hso.up (by omega)
    have hpos : (0 : Int) < (k : Int) + 1 := by omega
    have hw2 := wrap_nat (n := k) (by omega)
    have hcat : acc.length + 1 ≤ 140737488355328 := by omega
    have hcat2 : (acc.length + 1) * 40 ≤ 140737488355328 := by omega
    obtain ⟨a1, a2, a3, a4, a5, a6, a7, a8, b1, b2, b3, b4, b5, b6, b7, b8, c1, c2, c3, c4, c5, c6, c7, c8, c9, g1, g2, g3⟩ : r ≠ 0 ∧ 0 ≠ r ∧ r ≠ 1 ∧ 1 ≠ r ∧ r ≠ 3 ∧ 3 ≠ r ∧ r ≠ 4 ∧ 4 ≠ r ∧ q ≠ 0 ∧ 0 ≠ q ∧ q ≠ 1 ∧ 1 ≠ q ∧ q ≠ 3 ∧ 3 ≠ q ∧ q ≠ 4 ∧ 4 ≠ q ∧ r ≠ q ∧ q ≠ r ∧ r ≠ q + 1 ∧ r ≠ q + 1 + 1 ∧ q + 1 ≠ r ∧ 3 ≠ q + 1 ∧ 3 ≠ q + 1 + 1 ∧ 4 ≠ q + 1 ∧ 4 ≠ q + 1 + 1 ∧ 1 ≠ q + 1 ∧ 1 ≠ q + 1 + 1 ∧ 0 ≠ q + 1 + 1 := by
      clear hcat hcat2 hw2
      (repeat' apply And.intro) <;> omega
    simp at h6 hx
    simp [loopAt, loopsOf, Tryz.f35, dd, h0, h4, h5, h6, o0, o1, o4, oR, o3, hpos, hw2, hx, a1, a2, a3, a4, a5, a6, a7, a8, b1, b2, b3, b4, b5, b6, b7, b8, c1, c2, c3, c4, c5, c6, c7, c8, c9, g1, g2, g3, hcat, hcat2]
    exact ⟨k, by omega, rfl, q + 1, acc ++ [x], s', ⟨rfl, rfl, rfl⟩, rfl, by simp [b5, b6], .inr (by omega), by omega, by omega, by omega, fun y hy => by
      rcases List.mem_append.1 hy with hy | hy
      · exact hacc y hy
      · simp at hy; subst hy; exact hxo, by simp; omega, hso'⟩
theorem done_changes (n0 : Nat) (hn0 : n0 ≤ 2) (src : Src) (m : Nat) (hm : m + 20000 < 1000000000) (hs : src.Ok m) (sn at_ : Int) (ra : Nat) (rds : List Rd) (hra : ra = 2 ∨ 4 < ra) : ∀ s o q, (s 0 = .ptr 0 0 ∧ s 4 = .ptr 1 0 ∧ s 5 = .ptr 4 0 ∧ s 7 = .t (.int .i64 n0) ∧ o 0 = srcB src ∧ o 1 = dnZ ∧ o 4 = dnN sn at_ ra 3 ∧ o ra = .row 36 (rds.map rdT) true ∧ o 3 = .row 42 [] true ∧ 4 < q ∧ ra < q) →
    ∃ e s' o' q', run E (.code (.loop (loopAt Tryz.f35 1)) ⟨s, o, q, 50⟩) = some (.st e ⟨s', o', q', 50⟩) ∧ ∃ a : Nat × List Chg × Src, ((∀ x ∈ a.2.1, ChG x) ∧ a.2.1.length ≤ 2 ∧ a.2.2.Ok (m + 9400)) ∧ (e = .exit 2 ∧ s' 0 = .ptr 0 0 ∧ s' 4 = .ptr 1 0 ∧ s' 5 = .ptr 4 0 ∧ o' 0 = srcB a.2.2 ∧ o' 1 = dnZ ∧ o' 4 = dnN sn at_ ra a.1 ∧ o' ra = .row 36 (rds.map rdT) true ∧ o' a.1 = .row 42 (a.2.1.map chgT) true ∧ ra ≠ a.1 ∧ a.1 ≠ ra ∧ a.1 ≠ 0 ∧ a.1 ≠ 1 ∧ a.1 ≠ 4 ∧ 0 ≠ a.1 ∧ 1 ≠ a.1 ∧ 4 ≠ a.1 ∧ a.1 < q' ∧ ra < q' ∧ ra ≠ 0 ∧ ra ≠ 1 ∧ ra ≠ 4 ∧ 0 ≠ ra ∧ 1 ≠ ra ∧ 4 ≠ ra) := by
  intro s o q hI
  refine loop_wf (c := loopAt Tryz.f35 1) (N := 50)
    (fun k s o q => ∃ (r : Nat) (acc : List Chg) (sr : Src), s 0 = .ptr 0 0 ∧ s 4 = .ptr 1 0 ∧ s 5 = .ptr 4 0 ∧ s 7 = .t (.int .i64 k) ∧ o 0 = srcB sr ∧ o 1 = dnZ ∧ o 4 = dnN sn at_ ra r ∧ o ra = .row 36 (rds.map rdT) true ∧ o r = .row 42 (acc.map chgT) true ∧ (r = 3 ∨ 4 < r) ∧ ra ≠ r ∧ r < q ∧ ra < q ∧ 4 < q ∧ k ≤ 2 ∧ (∀ x ∈ acc, ChG x) ∧ acc.length + k ≤ 2 ∧ sr.Ok (m + (2 - k) * 4700))
    (fun e s' o' q' => ∃ a : Nat × List Chg × Src, ((∀ x ∈ a.2.1, ChG x) ∧ a.2.1.length ≤ 2 ∧ a.2.2.Ok (m + 9400)) ∧ (e = .exit 2 ∧ s' 0 = .ptr 0 0 ∧ s' 4 = .ptr 1 0 ∧ s' 5 = .ptr 4 0 ∧ o' 0 = srcB a.2.2 ∧ o' 1 = dnZ ∧ o' 4 = dnN sn at_ ra a.1 ∧ o' ra = .row 36 (rds.map rdT) true ∧ o' a.1 = .row 42 (a.2.1.map chgT) true ∧ ra ≠ a.1 ∧ a.1 ≠ ra ∧ a.1 ≠ 0 ∧ a.1 ≠ 1 ∧ a.1 ≠ 4 ∧ 0 ≠ a.1 ∧ 1 ≠ a.1 ∧ 4 ≠ a.1 ∧ a.1 < q' ∧ ra < q' ∧ ra ≠ 0 ∧ ra ≠ 1 ∧ ra ≠ 4 ∧ 0 ≠ ra ∧ 1 ≠ ra ∧ 4 ≠ ra)) ?_
    n0 s o q (by
      obtain ⟨h0, h4, h5, h7, o0, o1, o4, oa, o3, p1, p2⟩ := hI
      exact ⟨3, [], src, h0, h4, h5, h7, o0, o1, o4, oa, o3, .inl rfl, by omega, by omega, p2, p1, hn0, by simp, by simpa using hn0, hs.up (Nat.le_add_right _ _)⟩)
  rintro k s o q ⟨r, acc, sr, h0, h4, h5, h7, o0, o1, o4, oa, oR, p1, p2, p3, p4, p5, hk, hacc, hlen, hok⟩
  cases k with
  | zero =>
    simp at h7
    simp [loopAt, loopsOf, Tryz.f35, h7]
    refine ⟨r, acc, sr, ⟨hacc, by omega, hok.up (by omega)⟩, h0, h4, h5, o0, o1, o4, oa, oR, ?_⟩
    clear hlen
    (repeat' apply And.intro) <;> omega
  | succ k =>
    obtain ⟨x, s', hx, hxo, hso⟩ := drawChange sr (m + (2 - (k + 1)) * 4700) (by omega) hok
    have hso' : s'.Ok (m + (2 - k) * 4700) := hso.up (by omega)
    have hok' : sr.Ok (m + (2 - k) * 4700) := hok.up (by omega)
    have hpos : (0 : Int) < (k : Int) + 1 := by omega
    have hw2 := wrap_nat (n := k) (by omega)
    have hcat : acc.length + 1 ≤ 140737488355328 := by omega
    have hcat2 : (acc.length + 1) * 104 ≤ 140737488355328 := by omega
    have hsm := specSame acc [x] (by omega) (by simp)
    obtain ⟨a1, a2, a3, a4, a5, a6, b1, b2, b3, b4, b5, b6, c1, c2, c3, c4, c5, c6, c7, c8, c9, g1, g2, g3, g4, g5, g6, g7, g8, i1, i2, i3, i4, i5, i6, i7, i8⟩ : r ≠ 0 ∧ 0 ≠ r ∧ r ≠ 1 ∧ 1 ≠ r ∧ r ≠ 4 ∧ 4 ≠ r ∧ q ≠ 0 ∧ 0 ≠ q ∧ q ≠ 1 ∧ 1 ≠ q ∧ q ≠ 4 ∧ 4 ≠ q ∧ r ≠ q ∧ q ≠ r ∧ r ≠ q + 1 ∧ r ≠ q + 1 + 1 ∧ q + 1 ≠ r ∧ ra ≠ q ∧ ra ≠ q + 1 ∧ 4 ≠ q + 1 ∧ 4 ≠ q + 1 + 1 ∧ 1 ≠ q + 1 ∧ 1 ≠ q + 1 + 1 ∧ 0 ≠ q + 1 + 1 ∧ ra ≠ q + 1 + 1 ∧ q ≠ ra ∧ q + 1 ≠ ra ∧ ra ≠ 0 ∧ ra ≠ 1 ∧ ra ≠ 4 ∧ 0 ≠ ra ∧ 1 ≠ ra ∧ 4 ≠ ra ∧ r ≠ ra ∧ ra ≠ q + 1 + 1 + 1 ∧ 4 ≠ q + 1 + 1 + 1 ∧ 1 ≠ q + 1 + 1 + 1 := by
      clear hcat hcat2 hw2 hsm
      (repeat' apply And.intro) <;> omega
    simp at h7 hx
    cases hz : sameP acc [x] with
    | true =>
      rw [hz] at hsm
      simp at hsm
      simp [loopAt, loopsOf, Tryz.f35, h0, h4, h5, h7, o0, o1, o4, oR, oa, hpos, hw2, hx, hsm, a1, a2, a3, a4, a5, a6, b1, b2, b3, b4, b5, b6, c1, c2, c3, c4, c5, c6, c7, c8, c9, g1, g2, g3, g4, g5, g6, g7, g8, i1, i2, i3, i4, i5, i6, i7, i8, p2, hcat, hcat2]
      exact ⟨k, by omega, rfl, r, acc, s', ⟨rfl, rfl, rfl⟩, rfl, by simp [oR, a1, c1, c3], p1, p2, by omega, by omega, by omega, by omega, hacc, by omega, hso'⟩
    | false =>
      rw [hz] at hsm
      simp at hsm
      simp [loopAt, loopsOf, Tryz.f35, h0, h4, h5, h7, o0, o1, o4, oR, oa, hpos, hw2, hx, hsm, a1, a2, a3, a4, a5, a6, b1, b2, b3, b4, b5, b6, c1, c2, c3, c4, c5, c6, c7, c8, c9, g1, g2, g3, g4, g5, g6, g7, g8, i1, i2, i3, i4, i5, i6, i7, i8, p2, hcat, hcat2]
      exact ⟨k, by omega, rfl, q + 1 + 1 + 1, acc ++ [x], s', ⟨rfl, rfl, rfl⟩, rfl, by
        have : q + 1 + 1 + 1 ≠ 4 := by omega
        rw [if_neg this, if_pos rfl]
        simp, .inr (by omega), by omega, by omega, by omega, by omega, by omega, fun y hy => by
        rcases List.mem_append.1 hy with hy | hy
        · exact hacc y hy
        · simp at hy; subst hy; exact hxo, by simp; omega, hso'⟩
/-- What a state tells of a row that stands in a box. -/
def rowOf : Ob → Nat
  | .box _ [_, _, .row a, _, _, _] => a
  | _ => 0
def tsOf : Ob → List T
  | .row _ ts _ => ts
  | _ => []
@[simp] theorem rowOf_box (e : Nat) (a b : SV) (r : Nat) (c d f : SV) : rowOf (.box e [a, b, .row r, c, d, f]) = r := rfl
@[simp] theorem tsOf_row (e : Nat) (ts : List T) (l : Bool) : tsOf (.row e ts l) = ts := rfl
def SrcOK (m : Nat) (ob : Ob) : Prop := ∃ src : Src, ob = srcB src ∧ src.Ok m
def NumOK (v : SV) : Prop := ∃ n : Nat, n ≤ 2 ∧ v = .t (.int .i64 n)
def RdsOK (ts : List T) : Prop := ∃ rds : List Rd, ts = rds.map rdT ∧ (∀ x ∈ rds, RdG x) ∧ rds.length ≤ 2
theorem done_changes2 (m : Nat) (hm : m + 20000 < 1000000000) (sn at_ : Int) : ∀ s o q, (s 0 = .ptr 0 0 ∧ s 4 = .ptr 1 0 ∧ s 5 = .ptr 4 0 ∧ NumOK (s 7) ∧ SrcOK m (o 0) ∧ o 1 = dnZ ∧ o 4 = dnN sn at_ (rowOf (o 4)) 3 ∧ o (rowOf (o 4)) = .row 36 (tsOf (o (rowOf (o 4)))) true ∧ RdsOK (tsOf (o (rowOf (o 4)))) ∧ o 3 = .row 42 [] true ∧ 4 < q ∧ (rowOf (o 4) = 2 ∨ 4 < rowOf (o 4)) ∧ rowOf (o 4) < q) →
    ∃ e s' o' q', run E (.code (.loop (loopAt Tryz.f35 1)) ⟨s, o, q, 50⟩) = some (.st e ⟨s', o', q', 50⟩) ∧ ∃ a : Nat × List Chg × Src × Nat × List Rd, ((∀ x ∈ a.2.1, ChG x) ∧ a.2.1.length ≤ 2 ∧ a.2.2.1.Ok (m + 9400) ∧ (∀ x ∈ a.2.2.2.2, RdG x) ∧ a.2.2.2.2.length ≤ 2) ∧ (e = .exit 2 ∧ s' 0 = .ptr 0 0 ∧ s' 4 = .ptr 1 0 ∧ s' 5 = .ptr 4 0 ∧ o' 0 = srcB a.2.2.1 ∧ o' 1 = dnZ ∧ o' 4 = dnN sn at_ a.2.2.2.1 a.1 ∧ o' a.2.2.2.1 = .row 36 (a.2.2.2.2.map rdT) true ∧ o' a.1 = .row 42 (a.2.1.map chgT) true ∧ a.2.2.2.1 ≠ a.1 ∧ a.1 ≠ a.2.2.2.1 ∧ a.1 ≠ 0 ∧ a.1 ≠ 1 ∧ a.1 ≠ 4 ∧ 0 ≠ a.1 ∧ 1 ≠ a.1 ∧ 4 ≠ a.1 ∧ a.1 < q' ∧ a.2.2.2.1 < q' ∧ a.2.2.2.1 ≠ 0 ∧ a.2.2.2.1 ≠ 1 ∧ a.2.2.2.1 ≠ 4 ∧ 0 ≠ a.2.2.2.1 ∧ 1 ≠ a.2.2.2.1 ∧ 4 ≠ a.2.2.2.1) := by
  intro s o q ⟨h0, h4, h5, ⟨n0, hn0, h7⟩, ⟨src, o0, hok⟩, o1, o4, oa, ⟨rds, hts, hrds, hrl⟩, o3, p1, p2, p3⟩
  rw [hts] at oa
  obtain ⟨e, s', o', q', hr, a, ⟨g1, g2, g3⟩, f⟩ := done_changes n0 hn0 src m hm hok sn at_ (rowOf (o 4)) rds p2 s o q ⟨h0, h4, h5, h7, o0, o1, o4, oa, o3, p1, p3⟩
  exact ⟨e, s', o', q', hr, (a.1, a.2.1, a.2.2, rowOf (o 4), rds), ⟨g1, g2, g3, hrds, hrl⟩, f⟩
abbrev dnX0 (d : Dn) : X := .agg [.t (.int .i64 d.snap), .t (.int .i64 d.at_), .row 36 (d.reads.map rdT), .row 42 (d.changes.map chgT), .t (.bool d.inn), .t (.bool d.out)]
theorem drawDone (s : Src) (m : Nat) (hm : m + 30000 < 1000000000) (h : s.Ok m) (n : Nat) (h1 : 1 ≤ n) (h2 : n ≤ 256) : ∃ (d : Dn) (s' : Src), run E (.call 35 [srcX s, xI n]) = some (.res [dnX0 d] [some (srcX s')]) ∧ dnFit d ∧ d.at_ = (n : Int) ∧ s'.Ok (m + 11000) := by
  obtain ⟨sn, s1, a1, b1, c1⟩ := srcNext s m (by omega) h n h1 h2
  obtain ⟨n0, s2, a2, b2, c2⟩ := srcNext s1 (m + 1) (by omega) c1 3 (by omega) (by omega)
  obtain ⟨X1, A1, B1, C1, M1, hg1, hx1⟩ := skG (fun a : Nat × List Rd × Src => (∀ x ∈ a.2.1, RdG x) ∧ a.2.1.length ≤ 2 ∧ a.2.2.Ok (m + 1 + 1 + 812)) ((0, [], s2) : Nat × List Rd × Src) ⟨by simp, by simp, c2.up (by omega)⟩ (done_reads n0 (by omega) s2 (m + 1 + 1) (by omega) c2 sn n)
  have hn := fun s o q => srcNext (M1 s o q).2.2 (m + 1 + 1 + 812) (by omega) (hg1 s o q).2.2 3 (by omega) (by omega)
  obtain ⟨R, S3, hn⟩ : ∃ (R : Ss → Os → Nat → Nat) (S3 : Ss → Os → Nat → Src), ∀ s o q, run E (.call 89 [srcX (M1 s o q).2.2, xI (3 : Nat)]) = some (.res [xI (R s o q)] [some (srcX (S3 s o q))]) ∧ R s o q < 3 ∧ (S3 s o q).Ok (m + 1 + 1 + 812 + 1) :=
    ⟨fun s o q => Classical.choose (hn s o q), fun s o q => Classical.choose (Classical.choose_spec (hn s o q)), fun s o q => Classical.choose_spec (Classical.choose_spec (hn s o q))⟩
  have hR : ∀ s o q, NumOK (.t (.int .i64 (R s o q))) := fun s o q => ⟨R s o q, by have := (hn s o q).2.1; omega, rfl⟩
  have hS : ∀ s o q, SrcOK (m + 1 + 1 + 812 + 1) (srcB (S3 s o q)) := fun s o q => ⟨S3 s o q, rfl, (hn s o q).2.2⟩
  have hD : ∀ s o q, RdsOK ((M1 s o q).2.1.map rdT) := fun s o q => ⟨_, rfl, (hg1 s o q).1, (hg1 s o q).2.1⟩
  have hN := fun s o q => (hn s o q).1
  obtain ⟨X2, A2, B2, C2, M2, hg2, hx2⟩ := skG (fun a : Nat × List Chg × Src × Nat × List Rd => (∀ x ∈ a.2.1, ChG x) ∧ a.2.1.length ≤ 2 ∧ a.2.2.1.Ok (m + 1 + 1 + 812 + 1 + 9400) ∧ (∀ x ∈ a.2.2.2.2, RdG x) ∧ a.2.2.2.2.length ≤ 2) ((0, [], s2, 0, []) : Nat × List Chg × Src × Nat × List Rd) ⟨by simp, by simp, c2.up (by omega), by simp, by simp⟩ (done_changes2 (m + 1 + 1 + 812 + 1) (by omega) sn n)
  simp only [loopAt, loopsOf, Tryz.f35] at hx1 hx2
  simp at hx1 hx2 a1 a2 hN hD hS hR
  obtain ⟨Y, hY⟩ : ∃ Y, run E (.call 35 [srcX s, xI n]) = Y := ⟨_, rfl⟩
  rw [hY]
  rw [run_call E 35 _ rfl Tryz.func35 rfl rfl rfl (by simp)] at hY
  simp [a1, a2, hx1, hN, hD, hS, hR, hx2] at hY
  subst hY
  obtain ⟨g1, g2, g3, g4, g5⟩ := hg2 _ _ _
  refine ⟨⟨sn, n, _, _, false, false⟩, _, rfl, ⟨⟨⟨?_, fun x hx => (g4 x hx).1⟩, ⟨?_, fun x hx => (g1 x hx).1⟩⟩, fun x hx => (g4 x hx).2, fun x hx => (g1 x hx).2⟩, rfl, g3.up (by omega)⟩
  · exact Nat.lt_of_le_of_lt g5 (by omega)
  · exact Nat.lt_of_le_of_lt g2 (by omega)
theorem doneOf (bs : Bytes) (h : bs.length ≤ 1048576) (n : Nat) (h1 : 1 ≤ n) (h2 : n ≤ 256) : ∃ d : Dn, run E (.call 7 [.t (.list (bs.map byteT)), xI n]) = some (.res [dnX0 d] []) ∧ dnFit d ∧ d.at_ = (n : Int) := by
  obtain ⟨s, a1, a2⟩ := l00Source bs h
  obtain ⟨d, s', h3, h4, h5, _⟩ := drawDone s 0 (by omega) a2 n h1 h2
  refine ⟨d, ?_, h4, h5⟩
  rw [run_call E 7 _ rfl Tryz.func7 rfl rfl rfl (by simp)]
  try simp at h3
  simp [a1, h3]
end Go.Md
/- FnHits: the reads of one against the changes of another, one by one. -/
set_option linter.unusedSimpArgs false
set_option linter.unusedVariables false
namespace Go.Md
open Go.Ev Go.Proofs Go.Pu
set_option maxRecDepth 100000
set_option maxHeartbeats 16000000
abbrev dnR (d : Dn) (a b : Nat) : Ob := .box 26 [.t (.int .i64 d.snap), .t (.int .i64 d.at_), .row a, .row b, .t (.bool d.inn), .t (.bool d.out)]
/-- What is asked of a read and a change that are looked at. -/
structure matchFit (r : Rd) (c : Chg) : Prop where
  was : c.was = true → run E (.call 13 [.t (filT r.filter), xV c.before]) = some (.res [xB (matchF r.filter c.before), xI 0] [])
  gone : c.w.gone = false → run E (.call 13 [.t (filT r.filter), xV c.w.v]) = some (.res [xB (matchF r.filter c.w.v), xI 0] [])
theorem match_fit {r : Rd} {c : Chg} (hr : readOK r = true) (hs : r.Sm) (hc : chgOK c = true) (hcs : c.Sm) : matchFit r c := by
  unfold readOK at hr
  simp only [Bool.and_eq_true] at hr
  unfold chgOK writeOK at hc
  simp only [Bool.and_eq_true] at hc
  constructor
  · intro hw
    have h1 := verDoc_ok hc.2 (by rw [hw]; rfl)
    have h2 := implMatches r.filter c.before hs.filter hcs.before
    rw [matchesOut, hr.2, h1] at h2
    exact h2
  · intro hg
    have h1 := verDoc_ok hc.1.2 hg
    have h2 := implMatches r.filter c.w.v hs.filter hcs.w.v
    rw [matchesOut, hr.2, h1] at h2
    exact h2
theorem hits_in (A B : Dn) (i : Nat) (hi : i < A.reads.length) (hl1 : A.reads.length ≤ 100) (hl2 : B.changes.length ≤ 100) (hf : ∀ c ∈ B.changes, matchFit A.reads[i] c) (hit b : Bool) (a0 : Bool) (hb : b = (a0 || B.changes.any (hangsP A.reads[i]))) : ∀ s o q, (s 5 = .ptr 2 0 ∧ s 6 = .ptr 5 0 ∧ s 7 = .t (.bool hit) ∧ s 11 = .t (.bool a0) ∧ s 12 = .t (.int .i64 i) ∧ s 13 = .t (.int .i64 0) ∧ o 2 = dnR A 0 1 ∧ o 5 = dnR B 3 4 ∧ o 0 = .row 36 (A.reads.map rdT) true ∧ o 4 = .row 42 (B.changes.map chgT) true ∧ 5 < q) →
    ∃ e s' o' q', run E (.code (.loop (loopAt Tryz.f3 1)) ⟨s, o, q, 157⟩) = some (.st e ⟨s', o', q', 157⟩) ∧ (e = .exit 2 ∧ s' 5 = .ptr 2 0 ∧ s' 6 = .ptr 5 0 ∧ s' 7 = .t (.bool hit) ∧ s' 11 = .t (.bool b) ∧ s' 12 = .t (.int .i64 i) ∧ o' 2 = dnR A 0 1 ∧ o' 5 = dnR B 3 4 ∧ o' 0 = .row 36 (A.reads.map rdT) true ∧ o' 4 = .row 42 (B.changes.map chgT) true ∧ 5 < q') := by
  intro s o q hI
  have d21 := d3_21
  simp [regionOf, findR, pick, Tryz.f3] at d21
  have dd1 := fun st => run_region_draw E st 21 _ d21
  clear d21
  have d23 := d3_23
  simp [regionOf, findR, pick, Tryz.f3] at d23
  have dd2 := fun st => run_region_draw E st 23 _ d23
  clear d23
  have d28 := d3_28
  simp [regionOf, findR, pick, Tryz.f3] at d28
  have dd3 := fun st => run_region_draw E st 28 _ d28
  clear d28
  have hxi : A.reads[i]? = some A.reads[i] := List.getElem?_eq_getElem hi
  have hi' : (i : Int) < (A.reads.length : Int) := by omega
  refine loop_for (c := loopAt Tryz.f3 1) (N := 157)
    (fun j s o q => ∃ a : Bool, s 5 = .ptr 2 0 ∧ s 6 = .ptr 5 0 ∧ s 7 = .t (.bool hit) ∧ s 11 = .t (.bool a) ∧ s 12 = .t (.int .i64 i) ∧ s 13 = .t (.int .i64 j) ∧ o 2 = dnR A 0 1 ∧ o 5 = dnR B 3 4 ∧ o 0 = .row 36 (A.reads.map rdT) true ∧ o 4 = .row 42 (B.changes.map chgT) true ∧ 5 < q ∧ b = (a || (B.changes.drop j).any (hangsP A.reads[i])))
    (fun e s' o' q' => e = .exit 2 ∧ s' 5 = .ptr 2 0 ∧ s' 6 = .ptr 5 0 ∧ s' 7 = .t (.bool hit) ∧ s' 11 = .t (.bool b) ∧ s' 12 = .t (.int .i64 i) ∧ o' 2 = dnR A 0 1 ∧ o' 5 = dnR B 3 4 ∧ o' 0 = .row 36 (A.reads.map rdT) true ∧ o' 4 = .row 42 (B.changes.map chgT) true ∧ 5 < q') B.changes.length ?_ ?_
    B.changes.length 0 s o q (by omega) (by
      obtain ⟨h5, h6, h7, h11, h12, h13, o2, o5, o0, o4, hq⟩ := hI
      exact ⟨a0, h5, h6, h7, h11, h12, h13, o2, o5, o0, o4, hq, by simpa using hb⟩)
  · rintro j s o q hj ⟨a, h5, h6, h7, h11, h12, h13, o2, o5, o0, o4, hq, hp⟩
    have hj' : (j : Int) < (B.changes.length : Int) := by omega
    have hwj := wrap_succ (n := j) (by omega)
    have hxj : B.changes[j]? = some B.changes[j] := List.getElem?_eq_getElem hj
    have hm := hf _ (List.getElem_mem hj)
    rw [List.drop_eq_getElem_cons hj, List.any_cons] at hp
    have e1 : q ≠ 2 := by omega
    have e2 : q ≠ 5 := by omega
    have e3 : q ≠ 0 := by omega
    have e4 : q ≠ 4 := by omega
    have e5 : 2 ≠ q := by omega
    have e6 : 5 ≠ q := by omega
    have e7 : 0 ≠ q := by omega
    have e8 : 4 ≠ q := by omega
    have e9 : 5 < q + 1 := by omega
    obtain ⟨m1, m2⟩ := hm
    rw [hangsP] at hp
    cases hn : A.reads[i].coll == B.changes[j].w.coll with
    | false =>
      have hn' : (B.changes[j].w.coll == A.reads[i].coll) = false := by rw [← hn]; exact Bool.eq_iff_iff.2 (by simp only [beq_iff_eq]; exact eq_comm)
      simp [hn] at hp
      simp [loopAt, loopsOf, Tryz.f3, dd1, h5, h6, h7, h11, h12, h13, o2, o5, o0, o4, hi, hi', hxi, hj, hj', hxj, hwj, hn, hn', hq, e1, e2, e3, e4, e5, e6, e7, e8, e9, -List.any_eq_true, -List.any_eq_false]
      cases a with
      | false => exact .inl ⟨rfl, by rw [hp, Bool.false_or]⟩
      | true => exact .inr ⟨rfl, by rw [hp, Bool.true_or]⟩
    | true =>
      have hn' : (B.changes[j].w.coll == A.reads[i].coll) = true := by rw [← hn]; exact Bool.eq_iff_iff.2 (by simp only [beq_iff_eq]; exact eq_comm)
      generalize matchF A.reads[i].filter B.changes[j].before = z1 at *
      generalize matchF A.reads[i].filter B.changes[j].w.v = z2 at *
      cases hw : B.changes[j].was <;> cases hg : B.changes[j].w.gone <;> simp [hw, hg] at m1 m2 <;> cases z1 <;> cases z2 <;> cases a <;> simp [hn, hw, hg] at hp <;> simp [loopAt, loopsOf, Tryz.f3, dd1, dd2, dd3, h5, h6, h7, h11, h12, h13, o2, o5, o0, o4, hi, hi', hxi, hj, hj', hxj, hwj, hn, hn', hw, hg, m1, m2, hq, e1, e2, e3, e4, e5, e6, e7, e8, e9, -List.any_eq_true, -List.any_eq_false] <;> exact hp
  · rintro s o q ⟨a, h5, h6, h7, h11, h12, h13, o2, o5, o0, o4, hq, hp⟩
    simp at hp
    subst hp
    simp [loopAt, loopsOf, Tryz.f3, h5, h6, h7, h11, h12, h13, o2, o5, o0, o4, hq]
theorem hits_out (A B : Dn) (hl1 : A.reads.length ≤ 100) (hl2 : B.changes.length ≤ 100) (hr : ∀ r ∈ A.reads, run E (.call 12 [.t (rdT r)]) = some (.res [xB true] [])) (hf : ∀ r ∈ A.reads, ∀ c ∈ B.changes, matchFit r c) (hit : Bool) (hh : hit = hitsP A.reads B.changes) : ∀ s o q, (s 5 = .ptr 2 0 ∧ s 6 = .ptr 5 0 ∧ s 7 = .t (.bool hit) ∧ s 11 = .t (.bool false) ∧ s 12 = .t (.int .i64 0) ∧ o 2 = dnR A 0 1 ∧ o 5 = dnR B 3 4 ∧ o 0 = .row 36 (A.reads.map rdT) true ∧ o 4 = .row 42 (B.changes.map chgT) true ∧ 5 < q) →
    ∃ e s' o' q', run E (.code (.loop (loopAt Tryz.f3 0)) ⟨s, o, q, 157⟩) = some (.st e ⟨s', o', q', 157⟩) ∧ (e = .exit 0 ∧ s' 7 = .t (.bool hit) ∧ s' 11 = .t (.bool hit)) := by
  intro s o q hI
  refine loop_for (c := loopAt Tryz.f3 0) (N := 157)
    (fun i s o q => ∃ a : Bool, s 5 = .ptr 2 0 ∧ s 6 = .ptr 5 0 ∧ s 7 = .t (.bool hit) ∧ s 11 = .t (.bool a) ∧ s 12 = .t (.int .i64 i) ∧ o 2 = dnR A 0 1 ∧ o 5 = dnR B 3 4 ∧ o 0 = .row 36 (A.reads.map rdT) true ∧ o 4 = .row 42 (B.changes.map chgT) true ∧ 5 < q ∧ hit = (a || (A.reads.drop i).any (fun r => B.changes.any (hangsP r))))
    (fun e s' o' q' => e = .exit 0 ∧ s' 7 = .t (.bool hit) ∧ s' 11 = .t (.bool hit)) A.reads.length ?_ ?_
    A.reads.length 0 s o q (by omega) (by
      obtain ⟨h5, h6, h7, h11, h12, o2, o5, o0, o4, hq⟩ := hI
      exact ⟨false, h5, h6, h7, h11, h12, o2, o5, o0, o4, hq, by simpa [hitsP] using hh⟩)
  · rintro i s o q hi ⟨a, h5, h6, h7, h11, h12, o2, o5, o0, o4, hq, hp⟩
    have hi' : (i : Int) < (A.reads.length : Int) := by omega
    have hwi := wrap_succ (n := i) (by omega)
    have hxi : A.reads[i]? = some A.reads[i] := List.getElem?_eq_getElem hi
    have hro := hr _ (List.getElem_mem hi)
    rw [List.drop_eq_getElem_cons hi, List.any_cons, ← Bool.or_assoc] at hp
    obtain ⟨b, hb⟩ : ∃ b, b = (a || B.changes.any (hangsP A.reads[i])) := ⟨_, rfl⟩
    rw [← hb] at hp
    obtain ⟨X, S, O, Q, hx⟩ := sk (hits_in A B i hi hl1 hl2 (hf _ (List.getElem_mem hi)) hit b a hb)
    simp only [loopAt, loopsOf, Tryz.f3] at hx
    simp at hx
    simp [loopAt, loopsOf, Tryz.f3, h5, h6, h7, h11, h12, o2, o5, o0, o4, hi, hi', hxi, hwi, hro, hx, hq, -List.any_eq_true, -List.any_eq_false]
    clear hb
    cases b with
    | false => exact .inl ⟨rfl, by rw [hp, Bool.false_or]⟩
    | true => exact .inr ⟨rfl, by rw [hp, Bool.true_or]⟩
  · rintro s o q ⟨a, h5, h6, h7, h11, h12, o2, o5, o0, o4, hq, hp⟩
    simp at hp
    subst hp
    simp [loopAt, loopsOf, Tryz.f3, h5, h6, h7, h11, h12, o2, o5, o0, o4, hq]
/-- impl's Hits of reads and changes that are right. -/
theorem implHits (rs : List Rd) (cs : List Chg) (h1 : rs.length ≤ 20) (h2 : cs.length ≤ 60) (ha : run E (.call 42 [.t (.list (rs.map rdT))]) = some (.res [xB true] [])) (hb : run E (.call 43 [.t (.list (cs.map chgT))]) = some (.res [xB true] [])) (hc : run E (.call 44 [.t (.list (rs.map rdT)), .t (.list (cs.map chgT))]) = some (.res [xB (hitsP rs cs)] [])) :
    run E (.call 10 [.t (.list (rs.map rdT)), .t (.list (cs.map chgT))]) = some (.res [xB (hitsP rs cs), xI 0] []) := by
  rw [run_call E 10 _ rfl Tryz.func10 rfl rfl rfl (by simp)]
  have l1 : ¬ (4096 : Int) < (rs.length : Int) := by omega
  have l2 : ¬ (4096 : Int) < (cs.length : Int) := by omega
  simp [l1, l2, ha, hb, hc]
theorem specHits (rs : List Rd) (cs : List Chg) (h1 : rs.length ≤ 20) (h2 : cs.length ≤ 60) (ha : run E (.call 37 [.t (.list (rs.map rdT)), .t (.list (cs.map chgT))]) = some (.res [xB true] [])) (hc : run E (.call 45 [.t (.list (rs.map rdT)), .t (.list (cs.map chgT))]) = some (.res [xB (hitsP rs cs)] [])) :
    run E (.call 11 [.t (.list (rs.map rdT)), .t (.list (cs.map chgT))]) = some (.res [xB (hitsP rs cs), xI 0] []) := by
  rw [run_call E 11 _ rfl Tryz.func11 rfl rfl rfl (by simp)]
  have l1 : ¬ (4096 : Int) < (rs.length : Int) := by omega
  have l2 : ¬ (4096 : Int) < (cs.length : Int) := by omega
  simp [l1, l2, ha, hc]
end Go.Md
/- The law FnHits over plain data. -/
set_option linter.unusedSimpArgs false
set_option linter.unusedVariables false
namespace Go.Md
open Go.Ev Go.Proofs Go.Pu
set_option maxRecDepth 100000
set_option maxHeartbeats 8000000
theorem lawHits (c0 c1 : Bytes) : run E (.call 3 [.t (.list (c0.map byteT)), .t (.list (c1.map byteT))]) = some (.res [xB true] []) := by
  rw [run_call E 3 _ rfl Tryz.func3 rfl rfl rfl (by simp)]
  by_cases n0 : (1048576 : Int) < (c0.length : Int)
  · simp [n0]
  · by_cases n1 : (1048576 : Int) < (c1.length : Int)
    · simp [n0, n1]
    · obtain ⟨A, hA, fA, atA⟩ := doneOf c0 (by omega) 5 (by omega) (by omega)
      have sA := fA.sm
      obtain ⟨B, hB, fB, atB⟩ := doneOf c1 (by omega) 6 (by omega) (by omega)
      have sB := fB.sm
      have a1 := specDoneOK A sA
      have a2 := implDoneOK A sA
      have b1 := specDoneOK B sB
      have b2 := implDoneOK B sB
      simp at hA hB a1 a2 b1 b2
      cases ka : doneOK A with
      | false =>
        rw [ka] at a1 a2
        simp [n0, n1, hA, hB, a1, a2]
      | true =>
        rw [ka] at a1 a2
        cases kb : doneOK B with
        | false =>
          rw [kb] at b1 b2
          simp [n0, n1, hA, hB, a1, a2, b1, b2]
        | true =>
          rw [kb] at b1 b2
          have uA := ka
          have uB := kb
          unfold doneOK at uA uB
          simp only [Bool.and_eq_true, decide_eq_true_eq] at uA uB
          have rA := uA.2.1.2
          have cB := uB.2.2
          have lA := uA.2.1.1.1.2
          have lB := uB.2.1.1.2
          have hcall := implHitsIn A.reads B.changes sA.reads.1 sB.changes.1 fA.rd fB.ch
          have scall := specHitsIn A.reads B.changes sA.reads.1 sB.changes.1 fA.rd fB.ch
          have r1 := areReads A.reads sA.reads.1 sA.reads.2
          have r2 := areChanges B.changes sB.changes.1 sB.changes.2
          have r3 := specLists A.reads B.changes sA.reads.1 sA.reads.2 sB.changes.1 sB.changes.2
          have hl : listsOK A.reads B.changes = true := by
            have k2 := (done_eq B).symm.trans kb
            unfold listsOK at k2 ⊢
            simp only [Bool.and_eq_true, decide_eq_true_eq] at k2 ⊢
            exact ⟨rA, k2.2.2.2.1, lA, k2.2.2.2.2.2⟩
          rw [rA] at r1
          rw [cB] at r2
          rw [hl] at r3
          have i1 := implHits A.reads B.changes lA lB r1 r2 hcall
          have i2 := specHits A.reads B.changes lA lB r3 scall
          have hro : ∀ r ∈ A.reads, run E (.call 12 [.t (rdT r)]) = some (.res [xB true] []) := fun r hr => by
            have := implReadOK r (sA.reads.2 r hr)
            rw [List.all_eq_true.1 rA r hr] at this
            exact this
          obtain ⟨h, hh⟩ : ∃ h, h = hitsP A.reads B.changes := ⟨_, rfl⟩
          obtain ⟨X, S, O, Q, hx⟩ := sk (hits_out A B (by omega) (by omega) hro (fun r hr c hc => match_fit (List.all_eq_true.1 rA r hr) (sA.reads.2 r hr) (List.all_eq_true.1 cB c hc) (sB.changes.2 c hc)) h hh)
          simp only [loopAt, loopsOf, Tryz.f3] at hx
          rw [← hh] at i1 i2
          clear hh hcall scall
          simp at hx i1 i2
          cases h <;> simp (maxDischargeDepth := 6) [n0, n1, hA, hB, a1, a2, b1, b2, i1, i2, hx]
end Go.Md
