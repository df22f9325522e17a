/- What is drawn: those that were committed. -/
import Derived.Test.YtjbeigebbnonoaaGreatDoorPartCI
import Derived.Test.YtjbeigebbnonoaaGreatDoorPartCH
namespace Go.Md
open Go.Ev Go.Proofs Go.Pu
set_option linter.unusedSimpArgs false
set_option linter.unusedVariables false
set_option maxRecDepth 100000
set_option maxHeartbeats 4000000
def sameCg (x y : Chg) : Bool := x.w.coll == y.w.coll && x.w.id == y.w.id
def sameP (a b : List Chg) : Bool := a.any fun x => b.any fun y => sameCg x y
theorem same_in (a b : List Chg) (hb4 : b.length < 4294967296) (i : Nat) (hi : i < a.length) (ha4 : a.length < 4294967296) (z : Bool) (hz : z = b.any (sameCg a[i])) : ∀ s o q, (s 0 = .t (.list (a.map chgT)) ∧ s 1 = .t (.list (b.map chgT)) ∧ s 5 = .t (.int .i64 i) ∧ s 6 = .t (.int .i64 0)) →
    ∃ e s' o' q', run E (.code (.loop (loopAt Tryz.f92 1)) ⟨s, o, q, 47⟩) = some (.st e ⟨s', o', q', 47⟩) ∧ (e = (if z then .ret else .exit 2) ∧ s' 0 = .t (.list (a.map chgT)) ∧ s' 1 = .t (.list (b.map chgT)) ∧ s' 5 = .t (.int .i64 i) ∧ (z = true → s' 4 = .t (.bool true))) := by
  intro s o q hI
  have d7 := d92_7
  simp [regionOf, findR, pick, Tryz.f92] at d7
  have dd := fun st => run_region_draw E st 7 _ d7
  clear d7
  have hxi : a[i]? = some a[i] := List.getElem?_eq_getElem hi
  have hi' : (i : Int) < (a.length : Int) := by omega
  refine loop_for (c := loopAt Tryz.f92 1) (N := 47)
    (fun j s o q => s 0 = .t (.list (a.map chgT)) ∧ s 1 = .t (.list (b.map chgT)) ∧ s 5 = .t (.int .i64 i) ∧ s 6 = .t (.int .i64 j) ∧ z = (b.drop j).any (sameCg a[i]))
    (fun e s' o' q' => e = (if z then .ret else .exit 2) ∧ s' 0 = .t (.list (a.map chgT)) ∧ s' 1 = .t (.list (b.map chgT)) ∧ s' 5 = .t (.int .i64 i) ∧ (z = true → s' 4 = .t (.bool true))) b.length ?_ ?_
    b.length 0 s o q (by omega) ⟨hI.1, hI.2.1, hI.2.2.1, hI.2.2.2, by simpa using hz⟩
  · rintro j s o q hj ⟨h0, h1, h5, h6, hp⟩
    have hj' : (j : Int) < (b.length : Int) := by omega
    have hw := wrap_succ (n := j) (by omega)
    have hxj : b[j]? = some b[j] := List.getElem?_eq_getElem hj
    rw [List.drop_eq_getElem_cons hj, List.any_cons, sameCg] at hp
    cases hc : a[i].w.coll == b[j].w.coll with
    | false =>
      simp only [hc, Bool.false_and, Bool.false_or] at hp
      simp [loopAt, loopsOf, Tryz.f92, dd, h0, h1, h5, h6, hi, hi', hxi, hj, hj', hxj, hw, hc, -List.any_eq_true, -List.any_eq_false]
      exact hp
    | true =>
      cases hn : a[i].w.id == b[j].w.id with
      | false =>
        simp only [hc, hn, Bool.false_and, Bool.and_false, Bool.false_or] at hp
        simp [loopAt, loopsOf, Tryz.f92, dd, h0, h1, h5, h6, hi, hi', hxi, hj, hj', hxj, hw, hc, hn, -List.any_eq_true, -List.any_eq_false]
        exact hp
      | true =>
        simp only [hc, hn, Bool.and_self, Bool.true_or] at hp
        simp [loopAt, loopsOf, Tryz.f92, dd, h0, h1, h5, h6, hi, hi', hxi, hj, hj', hxj, hw, hc, hn, hp]
  · rintro s o q ⟨h0, h1, h5, h6, hp⟩
    simp at hp
    simp [loopAt, loopsOf, Tryz.f92, h0, h1, h5, h6, hp]
theorem same_out (a b : List Chg) (hb4 : b.length < 4294967296) (ha4 : a.length < 4294967296) (z : Bool) (hz : z = sameP a b) : ∀ s o q, (s 0 = .t (.list (a.map chgT)) ∧ s 1 = .t (.list (b.map chgT)) ∧ s 5 = .t (.int .i64 0)) →
    ∃ e s' o' q', run E (.code (.loop (loopAt Tryz.f92 0)) ⟨s, o, q, 47⟩) = some (.st e ⟨s', o', q', 47⟩) ∧ (e = (if z then .ret else .exit 0) ∧ (z = true → s' 4 = .t (.bool true))) := by
  intro s o q hI
  refine loop_for (c := loopAt Tryz.f92 0) (N := 47)
    (fun i s o q => s 0 = .t (.list (a.map chgT)) ∧ s 1 = .t (.list (b.map chgT)) ∧ s 5 = .t (.int .i64 i) ∧ z = (a.drop i).any (fun x => b.any (sameCg x)))
    (fun e s' o' q' => e = (if z then .ret else .exit 0) ∧ (z = true → s' 4 = .t (.bool true))) a.length ?_ ?_
    a.length 0 s o q (by omega) ⟨hI.1, hI.2.1, hI.2.2, by simpa [sameP] using hz⟩
  · rintro i s o q hi ⟨h0, h1, h5, hp⟩
    have hi' : (i : Int) < (a.length : Int) := by omega
    have hw := wrap_succ (n := i) (by omega)
    have hxi : a[i]? = some a[i] := List.getElem?_eq_getElem hi
    rw [List.drop_eq_getElem_cons hi, List.any_cons] at hp
    obtain ⟨y, hy⟩ : ∃ y, y = b.any (sameCg a[i]) := ⟨_, rfl⟩
    rw [← hy] at hp
    obtain ⟨X, S, O, Q, hx⟩ := sk (same_in a b hb4 i hi ha4 y hy)
    simp only [loopAt, loopsOf, Tryz.f92] at hx
    simp at hx
    clear hy
    cases y with
    | false =>
      simp only [Bool.false_or] at hp
      simp at hx
      simp [loopAt, loopsOf, Tryz.f92, h0, h1, h5, hi, hi', hxi, hw, hx, -List.any_eq_true, -List.any_eq_false]
      exact hp
    | true =>
      simp only [Bool.true_or] at hp
      simp at hx
      simp [loopAt, loopsOf, Tryz.f92, h0, h1, h5, hi, hi', hxi, hw, hx, hp]
  · rintro s o q ⟨h0, h1, h5, hp⟩
    simp at hp
    simp [loopAt, loopsOf, Tryz.f92, h0, h1, h5, hp]
theorem specSame (a b : List Chg) (ha4 : a.length < 4294967296) (hb4 : b.length < 4294967296) : run E (.call 92 [.t (.list (a.map chgT)), .t (.list (b.map chgT))]) = some (.res [xB (sameP a b)] []) := by
  rw [run_call E 92 _ rfl Tryz.func92 rfl rfl rfl (by simp)]
  obtain ⟨z, hz⟩ : ∃ z, z = sameP a b := ⟨_, rfl⟩
  obtain ⟨X, S, O, Q, hx⟩ := sk (same_out a b hb4 ha4 z hz)
  simp only [loopAt, loopsOf, Tryz.f92] at hx
  rw [← hz]
  clear hz
  cases z <;> simp at hx <;> simp [hx]
abbrev dnZ : Ob := .box 26 [.t (.int .i64 0), .t (.int .i64 0), .nil, .nil, .t (.bool false), .t (.bool false)]
abbrev dnN (snap at_ : Int) (a b : Nat) : Ob := .box 26 [.t (.int .i64 snap), .t (.int .i64 at_), .row a, .row b, .t (.bool false), .t (.bool false)]
theorem done_reads (n0 : Nat) (hn0 : n0 ≤ 2) (src : Src) (m : Nat) (hm : m + 20000 < 1000000000) (hs : src.Ok m) (sn at_ : Int) : ∀ s o q, (s 0 = .ptr 0 0 ∧ s 4 = .ptr 1 0 ∧ s 5 = .ptr 4 0 ∧ s 6 = .t (.int .i64 n0) ∧ o 0 = srcB src ∧ o 1 = dnZ ∧ o 4 = dnN sn at_ 2 3 ∧ o 2 = .row 36 [] true ∧ o 3 = .row 42 [] true ∧ 4 < q) →
    ∃ e s' o' q', run E (.code (.loop (loopAt Tryz.f35 0)) ⟨s, o, q, 50⟩) = some (.st e ⟨s', o', q', 50⟩) ∧ ∃ a : Nat × List Rd × Src, ((∀ x ∈ a.2.1, RdG x) ∧ a.2.1.length ≤ 2 ∧ a.2.2.Ok (m + 812)) ∧ (e = .exit 0 ∧ s' 0 = .ptr 0 0 ∧ s' 4 = .ptr 1 0 ∧ s' 5 = .ptr 4 0 ∧ o' 0 = srcB a.2.2 ∧ o' 1 = dnZ ∧ o' 4 = dnN sn at_ a.1 3 ∧ o' a.1 = .row 36 (a.2.1.map rdT) true ∧ o' 3 = .row 42 [] true ∧ (a.1 = 2 ∨ 4 < a.1) ∧ a.1 < q' ∧ 4 < q' ∧ a.1 ≠ 0 ∧ 0 ≠ a.1 ∧ a.1 ≠ 1 ∧ 1 ≠ a.1 ∧ a.1 ≠ 3 ∧ 3 ≠ a.1 ∧ a.1 ≠ 4 ∧ 4 ≠ a.1) := by
  intro s o q hI
  have n5 := n35_5
  have s5 := s35_5
  simp [regionOf, findR, pick, Tryz.f35] at n5 s5
  have dd := fun st => run_region_drawS E st 5 _ n5 s5
  clear n5 s5
  refine loop_wf (c := loopAt Tryz.f35 0) (N := 50)
    (fun k s o q => ∃ (r : Nat) (acc : List Rd) (sr : Src), s 0 = .ptr 0 0 ∧ s 4 = .ptr 1 0 ∧ s 5 = .ptr 4 0 ∧ s 6 = .t (.int .i64 k) ∧ o 0 = srcB sr ∧ o 1 = dnZ ∧ o 4 = dnN sn at_ r 3 ∧ o r = .row 36 (acc.map rdT) true ∧ o 3 = .row 42 [] true ∧ (r = 2 ∨ 4 < r) ∧ r < q ∧ 4 < q ∧ k ≤ 2 ∧ (∀ x ∈ acc, RdG x) ∧ acc.length + k ≤ 2 ∧ sr.Ok (m + (2 - k) * 406))
    (fun e s' o' q' => ∃ a : Nat × List Rd × Src, ((∀ x ∈ a.2.1, RdG x) ∧ a.2.1.length ≤ 2 ∧ a.2.2.Ok (m + 812)) ∧ (e = .exit 0 ∧ s' 0 = .ptr 0 0 ∧ s' 4 = .ptr 1 0 ∧ s' 5 = .ptr 4 0 ∧ o' 0 = srcB a.2.2 ∧ o' 1 = dnZ ∧ o' 4 = dnN sn at_ a.1 3 ∧ o' a.1 = .row 36 (a.2.1.map rdT) true ∧ o' 3 = .row 42 [] true ∧ (a.1 = 2 ∨ 4 < a.1) ∧ a.1 < q' ∧ 4 < q' ∧ a.1 ≠ 0 ∧ 0 ≠ a.1 ∧ a.1 ≠ 1 ∧ 1 ≠ a.1 ∧ a.1 ≠ 3 ∧ 3 ≠ a.1 ∧ a.1 ≠ 4 ∧ 4 ≠ a.1)) ?_
    n0 s o q (by
      obtain ⟨h0, h4, h5, h6, o0, o1, o4, o2, o3, p1⟩ := hI
      exact ⟨2, [], src, h0, h4, h5, h6, o0, o1, o4, o2, o3, .inl rfl, by omega, p1, hn0, by simp, by simpa using hn0, hs.up (Nat.le_add_right _ _)⟩)
  rintro k s o q ⟨r, acc, sr, h0, h4, h5, h6, o0, o1, o4, oR, o3, p1, p2, p3, hk, hacc, hlen, hok⟩
  cases k with
  | zero =>
    simp at h6
    simp [loopAt, loopsOf, Tryz.f35, h6]
    exact ⟨r, acc, sr, ⟨hacc, by omega, hok.up (by omega)⟩, h0, h4, h5, o0, o1, o4, oR, o3, p1, p2, p3, by omega, by omega, by omega, by omega, by omega, by omega, by omega, by omega⟩
  | succ k =>
    obtain ⟨x, s', hx, hxo, hso⟩ := drawRead sr (m + (2 - (k + 1)) * 406) (by omega) hok
    have hso' : s'.Ok (m + (2 - k) * 406) := hso.up (by omega)
    have hpos : (0 : Int) < (k : Int) + 1 := by omega
    have hw2 := wrap_nat (n := k) (by omega)
    have hcat : acc.length + 1 ≤ 140737488355328 := by omega
    have hcat2 : (acc.length + 1) * 40 ≤ 140737488355328 := by omega
    obtain ⟨a1, a2, a3, a4, a5, a6, a7, a8, b1, b2, b3, b4, b5, b6, b7, b8, c1, c2, c3, c4, c5, c6, c7, c8, c9, g1, g2, g3⟩ : r ≠ 0 ∧ 0 ≠ r ∧ r ≠ 1 ∧ 1 ≠ r ∧ r ≠ 3 ∧ 3 ≠ r ∧ r ≠ 4 ∧ 4 ≠ r ∧ q ≠ 0 ∧ 0 ≠ q ∧ q ≠ 1 ∧ 1 ≠ q ∧ q ≠ 3 ∧ 3 ≠ q ∧ q ≠ 4 ∧ 4 ≠ q ∧ r ≠ q ∧ q ≠ r ∧ r ≠ q + 1 ∧ r ≠ q + 1 + 1 ∧ q + 1 ≠ r ∧ 3 ≠ q + 1 ∧ 3 ≠ q + 1 + 1 ∧ 4 ≠ q + 1 ∧ 4 ≠ q + 1 + 1 ∧ 1 ≠ q + 1 ∧ 1 ≠ q + 1 + 1 ∧ 0 ≠ q + 1 + 1 := by
      clear hcat hcat2 hw2
      (repeat' apply And.intro) <;> omega
    simp at h6 hx
    simp [loopAt, loopsOf, Tryz.f35, dd, h0, h4, h5, h6, o0, o1, o4, oR, o3, hpos, hw2, hx, a1, a2, a3, a4, a5, a6, a7, a8, b1, b2, b3, b4, b5, b6, b7, b8, c1, c2, c3, c4, c5, c6, c7, c8, c9, g1, g2, g3, hcat, hcat2]
    exact ⟨k, by omega, rfl, q + 1, acc ++ [x], s', ⟨rfl, rfl, rfl⟩, rfl, by simp [b5, b6], .inr (by omega), by omega, by omega, by omega, fun y hy => by
      rcases List.mem_append.1 hy with hy | hy
      · exact hacc y hy
      · simp at hy; subst hy; exact hxo, by simp; omega, hso'⟩
theorem done_changes (n0 : Nat) (hn0 : n0 ≤ 2) (src : Src) (m : Nat) (hm : m + 20000 < 1000000000) (hs : src.Ok m) (sn at_ : Int) (ra : Nat) (rds : List Rd) (hra : ra = 2 ∨ 4 < ra) : ∀ s o q, (s 0 = .ptr 0 0 ∧ s 4 = .ptr 1 0 ∧ s 5 = .ptr 4 0 ∧ s 7 = .t (.int .i64 n0) ∧ o 0 = srcB src ∧ o 1 = dnZ ∧ o 4 = dnN sn at_ ra 3 ∧ o ra = .row 36 (rds.map rdT) true ∧ o 3 = .row 42 [] true ∧ 4 < q ∧ ra < q) →
    ∃ e s' o' q', run E (.code (.loop (loopAt Tryz.f35 1)) ⟨s, o, q, 50⟩) = some (.st e ⟨s', o', q', 50⟩) ∧ ∃ a : Nat × List Chg × Src, ((∀ x ∈ a.2.1, ChG x) ∧ a.2.1.length ≤ 2 ∧ a.2.2.Ok (m + 9400)) ∧ (e = .exit 2 ∧ s' 0 = .ptr 0 0 ∧ s' 4 = .ptr 1 0 ∧ s' 5 = .ptr 4 0 ∧ o' 0 = srcB a.2.2 ∧ o' 1 = dnZ ∧ o' 4 = dnN sn at_ ra a.1 ∧ o' ra = .row 36 (rds.map rdT) true ∧ o' a.1 = .row 42 (a.2.1.map chgT) true ∧ ra ≠ a.1 ∧ a.1 ≠ ra ∧ a.1 ≠ 0 ∧ a.1 ≠ 1 ∧ a.1 ≠ 4 ∧ 0 ≠ a.1 ∧ 1 ≠ a.1 ∧ 4 ≠ a.1 ∧ a.1 < q' ∧ ra < q' ∧ ra ≠ 0 ∧ ra ≠ 1 ∧ ra ≠ 4 ∧ 0 ≠ ra ∧ 1 ≠ ra ∧ 4 ≠ ra) := by
  intro s o q hI
  refine loop_wf (c := loopAt Tryz.f35 1) (N := 50)
    (fun k s o q => ∃ (r : Nat) (acc : List Chg) (sr : Src), s 0 = .ptr 0 0 ∧ s 4 = .ptr 1 0 ∧ s 5 = .ptr 4 0 ∧ s 7 = .t (.int .i64 k) ∧ o 0 = srcB sr ∧ o 1 = dnZ ∧ o 4 = dnN sn at_ ra r ∧ o ra = .row 36 (rds.map rdT) true ∧ o r = .row 42 (acc.map chgT) true ∧ (r = 3 ∨ 4 < r) ∧ ra ≠ r ∧ r < q ∧ ra < q ∧ 4 < q ∧ k ≤ 2 ∧ (∀ x ∈ acc, ChG x) ∧ acc.length + k ≤ 2 ∧ sr.Ok (m + (2 - k) * 4700))
    (fun e s' o' q' => ∃ a : Nat × List Chg × Src, ((∀ x ∈ a.2.1, ChG x) ∧ a.2.1.length ≤ 2 ∧ a.2.2.Ok (m + 9400)) ∧ (e = .exit 2 ∧ s' 0 = .ptr 0 0 ∧ s' 4 = .ptr 1 0 ∧ s' 5 = .ptr 4 0 ∧ o' 0 = srcB a.2.2 ∧ o' 1 = dnZ ∧ o' 4 = dnN sn at_ ra a.1 ∧ o' ra = .row 36 (rds.map rdT) true ∧ o' a.1 = .row 42 (a.2.1.map chgT) true ∧ ra ≠ a.1 ∧ a.1 ≠ ra ∧ a.1 ≠ 0 ∧ a.1 ≠ 1 ∧ a.1 ≠ 4 ∧ 0 ≠ a.1 ∧ 1 ≠ a.1 ∧ 4 ≠ a.1 ∧ a.1 < q' ∧ ra < q' ∧ ra ≠ 0 ∧ ra ≠ 1 ∧ ra ≠ 4 ∧ 0 ≠ ra ∧ 1 ≠ ra ∧ 4 ≠ ra)) ?_
    n0 s o q (by
      obtain ⟨h0, h4, h5, h7, o0, o1, o4, oa, o3, p1, p2⟩ := hI
      exact ⟨3, [], src, h0, h4, h5, h7, o0, o1, o4, oa, o3, .inl rfl, by omega, by omega, p2, p1, hn0, by simp, by simpa using hn0, hs.up (Nat.le_add_right _ _)⟩)
  rintro k s o q ⟨r, acc, sr, h0, h4, h5, h7, o0, o1, o4, oa, oR, p1, p2, p3, p4, p5, hk, hacc, hlen, hok⟩
  cases k with
  | zero =>
    simp at h7
    simp [loopAt, loopsOf, Tryz.f35, h7]
    refine ⟨r, acc, sr, ⟨hacc, by omega, hok.up (by omega)⟩, h0, h4, h5, o0, o1, o4, oa, oR, ?_⟩
    clear hlen
    (repeat' apply And.intro) <;> omega
  | succ k =>
    obtain ⟨x, s', hx, hxo, hso⟩ := drawChange sr (m + (2 - (k + 1)) * 4700) (by omega) hok
    have hso' : s'.Ok (m + (2 - k) * 4700) := hso.up (by omega)
    have hok' : sr.Ok (m + (2 - k) * 4700) := hok.up (by omega)
    have hpos : (0 : Int) < (k : Int) + 1 := by omega
    have hw2 := wrap_nat (n := k) (by omega)
    have hcat : acc.length + 1 ≤ 140737488355328 := by omega
    have hcat2 : (acc.length + 1) * 104 ≤ 140737488355328 := by omega
    have hsm := specSame acc [x] (by omega) (by simp)
    obtain ⟨a1, a2, a3, a4, a5, a6, b1, b2, b3, b4, b5, b6, c1, c2, c3, c4, c5, c6, c7, c8, c9, g1, g2, g3, g4, g5, g6, g7, g8, i1, i2, i3, i4, i5, i6, i7, i8⟩ : r ≠ 0 ∧ 0 ≠ r ∧ r ≠ 1 ∧ 1 ≠ r ∧ r ≠ 4 ∧ 4 ≠ r ∧ q ≠ 0 ∧ 0 ≠ q ∧ q ≠ 1 ∧ 1 ≠ q ∧ q ≠ 4 ∧ 4 ≠ q ∧ r ≠ q ∧ q ≠ r ∧ r ≠ q + 1 ∧ r ≠ q + 1 + 1 ∧ q + 1 ≠ r ∧ ra ≠ q ∧ ra ≠ q + 1 ∧ 4 ≠ q + 1 ∧ 4 ≠ q + 1 + 1 ∧ 1 ≠ q + 1 ∧ 1 ≠ q + 1 + 1 ∧ 0 ≠ q + 1 + 1 ∧ ra ≠ q + 1 + 1 ∧ q ≠ ra ∧ q + 1 ≠ ra ∧ ra ≠ 0 ∧ ra ≠ 1 ∧ ra ≠ 4 ∧ 0 ≠ ra ∧ 1 ≠ ra ∧ 4 ≠ ra ∧ r ≠ ra ∧ ra ≠ q + 1 + 1 + 1 ∧ 4 ≠ q + 1 + 1 + 1 ∧ 1 ≠ q + 1 + 1 + 1 := by
      clear hcat hcat2 hw2 hsm
      (repeat' apply And.intro) <;> omega
    simp at h7 hx
    cases hz : sameP acc [x] with
    | true =>
      rw [hz] at hsm
      simp at hsm
      simp [loopAt, loopsOf, Tryz.f35, h0, h4, h5, h7, o0, o1, o4, oR, oa, hpos, hw2, hx, hsm, a1, a2, a3, a4, a5, a6, b1, b2, b3, b4, b5, b6, c1, c2, c3, c4, c5, c6, c7, c8, c9, g1, g2, g3, g4, g5, g6, g7, g8, i1, i2, i3, i4, i5, i6, i7, i8, p2, hcat, hcat2]
      exact ⟨k, by omega, rfl, r, acc, s', ⟨rfl, rfl, rfl⟩, rfl, by simp [oR, a1, c1, c3], p1, p2, by omega, by omega, by omega, by omega, hacc, by omega, hso'⟩
    | false =>
      rw [hz] at hsm
      simp at hsm
      simp [loopAt, loopsOf, Tryz.f35, h0, h4, h5, h7, o0, o1, o4, oR, oa, hpos, hw2, hx, hsm, a1, a2, a3, a4, a5, a6, b1, b2, b3, b4, b5, b6, c1, c2, c3, c4, c5, c6, c7, c8, c9, g1, g2, g3, g4, g5, g6, g7, g8, i1, i2, i3, i4, i5, i6, i7, i8, p2, hcat, hcat2]
      exact ⟨k, by omega, rfl, q + 1 + 1 + 1, acc ++ [x], s', ⟨rfl, rfl, rfl⟩, rfl, by
        have : q + 1 + 1 + 1 ≠ 4 := by omega
        rw [if_neg this, if_pos rfl]
        simp, .inr (by omega), by omega, by omega, by omega, by omega, by omega, fun y hy => by
        rcases List.mem_append.1 hy with hy | hy
        · exact hacc y hy
        · simp at hy; subst hy; exact hxo, by simp; omega, hso'⟩
/-- What a state tells of a row that stands in a box. -/
def rowOf : Ob → Nat
  | .box _ [_, _, .row a, _, _, _] => a
  | _ => 0
def tsOf : Ob → List T
  | .row _ ts _ => ts
  | _ => []
@[simp] theorem rowOf_box (e : Nat) (a b : SV) (r : Nat) (c d f : SV) : rowOf (.box e [a, b, .row r, c, d, f]) = r := rfl
@[simp] theorem tsOf_row (e : Nat) (ts : List T) (l : Bool) : tsOf (.row e ts l) = ts := rfl
def SrcOK (m : Nat) (ob : Ob) : Prop := ∃ src : Src, ob = srcB src ∧ src.Ok m
def NumOK (v : SV) : Prop := ∃ n : Nat, n ≤ 2 ∧ v = .t (.int .i64 n)
def RdsOK (ts : List T) : Prop := ∃ rds : List Rd, ts = rds.map rdT ∧ (∀ x ∈ rds, RdG x) ∧ rds.length ≤ 2
theorem done_changes2 (m : Nat) (hm : m + 20000 < 1000000000) (sn at_ : Int) : ∀ s o q, (s 0 = .ptr 0 0 ∧ s 4 = .ptr 1 0 ∧ s 5 = .ptr 4 0 ∧ NumOK (s 7) ∧ SrcOK m (o 0) ∧ o 1 = dnZ ∧ o 4 = dnN sn at_ (rowOf (o 4)) 3 ∧ o (rowOf (o 4)) = .row 36 (tsOf (o (rowOf (o 4)))) true ∧ RdsOK (tsOf (o (rowOf (o 4)))) ∧ o 3 = .row 42 [] true ∧ 4 < q ∧ (rowOf (o 4) = 2 ∨ 4 < rowOf (o 4)) ∧ rowOf (o 4) < q) →
    ∃ e s' o' q', run E (.code (.loop (loopAt Tryz.f35 1)) ⟨s, o, q, 50⟩) = some (.st e ⟨s', o', q', 50⟩) ∧ ∃ a : Nat × List Chg × Src × Nat × List Rd, ((∀ x ∈ a.2.1, ChG x) ∧ a.2.1.length ≤ 2 ∧ a.2.2.1.Ok (m + 9400) ∧ (∀ x ∈ a.2.2.2.2, RdG x) ∧ a.2.2.2.2.length ≤ 2) ∧ (e = .exit 2 ∧ s' 0 = .ptr 0 0 ∧ s' 4 = .ptr 1 0 ∧ s' 5 = .ptr 4 0 ∧ o' 0 = srcB a.2.2.1 ∧ o' 1 = dnZ ∧ o' 4 = dnN sn at_ a.2.2.2.1 a.1 ∧ o' a.2.2.2.1 = .row 36 (a.2.2.2.2.map rdT) true ∧ o' a.1 = .row 42 (a.2.1.map chgT) true ∧ a.2.2.2.1 ≠ a.1 ∧ a.1 ≠ a.2.2.2.1 ∧ a.1 ≠ 0 ∧ a.1 ≠ 1 ∧ a.1 ≠ 4 ∧ 0 ≠ a.1 ∧ 1 ≠ a.1 ∧ 4 ≠ a.1 ∧ a.1 < q' ∧ a.2.2.2.1 < q' ∧ a.2.2.2.1 ≠ 0 ∧ a.2.2.2.1 ≠ 1 ∧ a.2.2.2.1 ≠ 4 ∧ 0 ≠ a.2.2.2.1 ∧ 1 ≠ a.2.2.2.1 ∧ 4 ≠ a.2.2.2.1) := by
  intro s o q ⟨h0, h4, h5, ⟨n0, hn0, h7⟩, ⟨src, o0, hok⟩, o1, o4, oa, ⟨rds, hts, hrds, hrl⟩, o3, p1, p2, p3⟩
  rw [hts] at oa
  obtain ⟨e, s', o', q', hr, a, ⟨g1, g2, g3⟩, f⟩ := done_changes n0 hn0 src m hm hok sn at_ (rowOf (o 4)) rds p2 s o q ⟨h0, h4, h5, h7, o0, o1, o4, oa, o3, p1, p3⟩
  exact ⟨e, s', o', q', hr, (a.1, a.2.1, a.2.2, rowOf (o 4), rds), ⟨g1, g2, g3, hrds, hrl⟩, f⟩
abbrev dnX0 (d : Dn) : X := .agg [.t (.int .i64 d.snap), .t (.int .i64 d.at_), .row 36 (d.reads.map rdT), .row 42 (d.changes.map chgT), .t (.bool d.inn), .t (.bool d.out)]
theorem drawDone (s : Src) (m : Nat) (hm : m + 30000 < 1000000000) (h : s.Ok m) (n : Nat) (h1 : 1 ≤ n) (h2 : n ≤ 256) : ∃ (d : Dn) (s' : Src), run E (.call 35 [srcX s, xI n]) = some (.res [dnX0 d] [some (srcX s')]) ∧ dnFit d ∧ d.at_ = (n : Int) ∧ s'.Ok (m + 11000) := by
  obtain ⟨sn, s1, a1, b1, c1⟩ := srcNext s m (by omega) h n h1 h2
  obtain ⟨n0, s2, a2, b2, c2⟩ := srcNext s1 (m + 1) (by omega) c1 3 (by omega) (by omega)
  obtain ⟨X1, A1, B1, C1, M1, hg1, hx1⟩ := skG (fun a : Nat × List Rd × Src => (∀ x ∈ a.2.1, RdG x) ∧ a.2.1.length ≤ 2 ∧ a.2.2.Ok (m + 1 + 1 + 812)) ((0, [], s2) : Nat × List Rd × Src) ⟨by simp, by simp, c2.up (by omega)⟩ (done_reads n0 (by omega) s2 (m + 1 + 1) (by omega) c2 sn n)
  have hn := fun s o q => srcNext (M1 s o q).2.2 (m + 1 + 1 + 812) (by omega) (hg1 s o q).2.2 3 (by omega) (by omega)
  obtain ⟨R, S3, hn⟩ : ∃ (R : Ss → Os → Nat → Nat) (S3 : Ss → Os → Nat → Src), ∀ s o q, run E (.call 89 [srcX (M1 s o q).2.2, xI (3 : Nat)]) = some (.res [xI (R s o q)] [some (srcX (S3 s o q))]) ∧ R s o q < 3 ∧ (S3 s o q).Ok (m + 1 + 1 + 812 + 1) :=
    ⟨fun s o q => Classical.choose (hn s o q), fun s o q => Classical.choose (Classical.choose_spec (hn s o q)), fun s o q => Classical.choose_spec (Classical.choose_spec (hn s o q))⟩
  have hR : ∀ s o q, NumOK (.t (.int .i64 (R s o q))) := fun s o q => ⟨R s o q, by have := (hn s o q).2.1; omega, rfl⟩
  have hS : ∀ s o q, SrcOK (m + 1 + 1 + 812 + 1) (srcB (S3 s o q)) := fun s o q => ⟨S3 s o q, rfl, (hn s o q).2.2⟩
  have hD : ∀ s o q, RdsOK ((M1 s o q).2.1.map rdT) := fun s o q => ⟨_, rfl, (hg1 s o q).1, (hg1 s o q).2.1⟩
  have hN := fun s o q => (hn s o q).1
  obtain ⟨X2, A2, B2, C2, M2, hg2, hx2⟩ := skG (fun a : Nat × List Chg × Src × Nat × List Rd => (∀ x ∈ a.2.1, ChG x) ∧ a.2.1.length ≤ 2 ∧ a.2.2.1.Ok (m + 1 + 1 + 812 + 1 + 9400) ∧ (∀ x ∈ a.2.2.2.2, RdG x) ∧ a.2.2.2.2.length ≤ 2) ((0, [], s2, 0, []) : Nat × List Chg × Src × Nat × List Rd) ⟨by simp, by simp, c2.up (by omega), by simp, by simp⟩ (done_changes2 (m + 1 + 1 + 812 + 1) (by omega) sn n)
  simp only [loopAt, loopsOf, Tryz.f35] at hx1 hx2
  simp at hx1 hx2 a1 a2 hN hD hS hR
  obtain ⟨Y, hY⟩ : ∃ Y, run E (.call 35 [srcX s, xI n]) = Y := ⟨_, rfl⟩
  rw [hY]
  rw [run_call E 35 _ rfl Tryz.func35 rfl rfl rfl (by simp)] at hY
  simp [a1, a2, hx1, hN, hD, hS, hR, hx2] at hY
  subst hY
  obtain ⟨g1, g2, g3, g4, g5⟩ := hg2 _ _ _
  refine ⟨⟨sn, n, _, _, false, false⟩, _, rfl, ⟨⟨⟨?_, fun x hx => (g4 x hx).1⟩, ⟨?_, fun x hx => (g1 x hx).1⟩⟩, fun x hx => (g4 x hx).2, fun x hx => (g1 x hx).2⟩, rfl, g3.up (by omega)⟩
  · exact Nat.lt_of_le_of_lt g5 (by omega)
  · exact Nat.lt_of_le_of_lt g2 (by omega)
theorem doneOf (bs : Bytes) (h : bs.length ≤ 1048576) (n : Nat) (h1 : 1 ≤ n) (h2 : n ≤ 256) : ∃ d : Dn, run E (.call 7 [.t (.list (bs.map byteT)), xI n]) = some (.res [dnX0 d] []) ∧ dnFit d ∧ d.at_ = (n : Int) := by
  obtain ⟨s, a1, a2⟩ := l00Source bs h
  obtain ⟨d, s', h3, h4, h5, _⟩ := drawDone s 0 (by omega) a2 n h1 h2
  refine ⟨d, ?_, h4, h5⟩
  rw [run_call E 7 _ rfl Tryz.func7 rfl rfl rfl (by simp)]
  try simp at h3
  simp [a1, h3]
end Go.Md
namespace Go.Md
open Go.Ev Go.Proofs Go.Pu
set_option linter.unusedSimpArgs false
set_option linter.unusedVariables false
/-- Nothing that is left must come ahead of it. -/
def freeIn (A : Nat → Nat → Bool) (left : List Nat) (i : Nat) : Bool := !left.any (fun o => o != i && A o i)
def serGo (A : Nat → Nat → Bool) : Nat → List Nat → Option (List Nat)
  | 0, left => if left.isEmpty then some [] else none
  | f + 1, left => if left.isEmpty then some [] else match left.find? (freeIn A left) with
    | none => none
    | some k => (serGo A f (left.erase k)).map (k :: ·)
/-- Those that are not taken. -/
def leftOf (tk : List Bool) : List Nat := (List.range tk.length).filter fun i => !tk.getD i true
end Go.Md
namespace Go.Md
open Go.Ev Go.Proofs Go.Pu
set_option linter.unusedSimpArgs false
set_option linter.unusedVariables false
set_option maxRecDepth 100000
set_option maxHeartbeats 4000000
set_option maxHeartbeats 16000000
def risesOK (l : List Dn) : Bool := seqOK doneOK dnOrd l && decide (l.length ≤ 40)
abbrev boT (b : Bool) : T := .bool b
/-- Does `j` not stand in the way of `i`? -/
def letsBy (l : List Dn) (tk : List Bool) (i j : Nat) : Bool := tk.getD j true || (j == i || !aheadAt l j i)
def goesBy (l : List Dn) (tk : List Bool) (i : Nat) : Bool := !tk.getD i true && stepsFrom l.length (letsBy l tk i) 0
def tkOf (tk : List Bool) : Option Nat → List Bool
  | none => tk
  | some k => tk.set k true
/-- What the trial makes of it. -/
def serOf (l : List Dn) : Option (List Nat) := serGo (aheadAt l) l.length (List.range l.length)
def rAt (i : Nat) : Nat := if i = 0 then 1 else 2 * i + 3
def serX (F : Option (List Nat)) : X := match F with
  | some w => .row 3 (w.map intT)
  | none => .nil
def serOut (l : List Dn) : List Nat × Int := if 4096 < l.length then ([], 2) else if risesOK l then (match serOf l with
  | some w => (w, 0)
  | none => ([], 19)) else ([], 1)
def serXs (l : List Dn) : X := if 4096 < l.length then .nil else if risesOK l then serX (serOf l) else .nil
end Go.Md
namespace Go.Md
open Go.Ev Go.Proofs Go.Pu
set_option linter.unusedSimpArgs false
set_option linter.unusedVariables false
set_option maxRecDepth 100000
/-- What one read and the other changed is told at both, if they were there at one time. -/
def toldP (a b : Dn) : Prop := b.snap < a.at_ → a.snap < b.at_ → hitsP a.reads b.changes = true → a.out = true ∧ b.inn = true
def toldB (a b : Dn) : Prop := toldP a b ∧ toldP b a
theorem toldB.symm {a b : Dn} (h : toldB a b) : toldB b a := ⟨h.2, h.1⟩
/-- Only the two marks may have been set. -/
structure upD (a b : Dn) : Prop where
  snap : b.snap = a.snap
  at_ : b.at_ = a.at_
  reads : b.reads = a.reads
  changes : b.changes = a.changes
  inn : a.inn = true → b.inn = true
  out : a.out = true → b.out = true
theorem upD.refl (a : Dn) : upD a a := ⟨rfl, rfl, rfl, rfl, id, id⟩
theorem upD.trans {a b c : Dn} (h : upD a b) (k : upD b c) : upD a c :=
  ⟨k.snap.trans h.snap, k.at_.trans h.at_, k.reads.trans h.reads, k.changes.trans h.changes, fun x => k.inn (h.inn x), fun x => k.out (h.out x)⟩
theorem toldP.up {a b a' b' : Dn} (h : toldP a b) (ha : upD a a') (hb : upD b b') : toldP a' b' := by
  intro h1 h2 h3
  rw [hb.snap, ha.at_] at h1
  rw [ha.snap, hb.at_] at h2
  rw [ha.reads, hb.changes] at h3
  exact ⟨ha.out (h h1 h2 h3).1, hb.inn (h h1 h2 h3).2⟩
theorem toldB.up {a b a' b' : Dn} (h : toldB a b) (ha : upD a a') (hb : upD b b') : toldB a' b' := ⟨h.1.up ha hb, h.2.up hb ha⟩
/-- One of those that were there, and the one to be certified, behind a look at each other. -/
def certU (d u : Dn) : Dn := { u with inn := u.inn || hitsP d.reads u.changes, out := u.out || hitsP u.reads d.changes }
def certD (d u : Dn) : Dn := { d with inn := d.inn || hitsP u.reads d.changes, out := d.out || hitsP d.reads u.changes }
theorem certU_up (d u : Dn) : upD u (certU d u) := ⟨rfl, rfl, rfl, rfl, fun h => by simp [certU, h], fun h => by simp [certU, h]⟩
theorem certD_up (d u : Dn) : upD d (certD d u) := ⟨rfl, rfl, rfl, rfl, fun h => by simp [certD, h], fun h => by simp [certD, h]⟩
theorem cert_told (d u : Dn) : toldB (certU d u) (certD d u) := by
  constructor
  · intro _ _ h
    exact ⟨by simp [certU]; exact Or.inr h, by simp [certD]; exact Or.inr h⟩
  · intro _ _ h
    exact ⟨by simp [certD]; exact Or.inr h, by simp [certU]; exact Or.inr h⟩
/-- All of those that were there are looked at; none if one has both marks then. -/
def certL (d : Dn) : List Dn → Option (Dn × List Dn)
  | [] => some (d, [])
  | u :: r =>
    if u.at_ ≤ d.snap then (certL d r).map (fun x => (x.1, u :: x.2))
    else if ((certU d u).inn && (certU d u).out) = true then none
    else (certL (certD d u) r).map (fun x => (x.1, certU d u :: x.2))
theorem certL_ok : ∀ (l : List Dn) (d d' : Dn) (l' : List Dn), certL d l = some (d', l') →
    upD d d' ∧ (∀ x ∈ l', toldB x d' ∧ ∃ y ∈ l, upD y x) ∧ (l.Pairwise toldB → l'.Pairwise toldB) ∧ l'.length = l.length
  | [], d, d', l', h => by
    simp [certL] at h
    obtain ⟨rfl, rfl⟩ := h
    exact ⟨upD.refl _, by simp, by simp, rfl⟩
  | u :: r, d, d', l', h => by
    unfold certL at h
    split at h
    · rename_i hu
      cases hc : certL d r with
      | none => simp [hc] at h
      | some x =>
        simp [hc] at h
        obtain ⟨rfl, rfl⟩ := h
        obtain ⟨h1, h2, h3, h4⟩ := certL_ok r d x.1 x.2 hc
        refine ⟨h1, ?_, ?_, by simp [h4]⟩
        · intro y hy
          rcases List.mem_cons.1 hy with rfl | hy
          · refine ⟨⟨fun a _ _ => ?_, fun _ b _ => ?_⟩, y, by simp, upD.refl _⟩
            · rw [h1.snap] at a; omega
            · rw [h1.snap] at b; omega
          · obtain ⟨a, z, hz, b⟩ := h2 y hy
            exact ⟨a, z, List.mem_cons_of_mem _ hz, b⟩
        · intro hp
          rw [List.pairwise_cons] at hp ⊢
          refine ⟨fun y hy => ?_, h3 hp.2⟩
          obtain ⟨_, z, hz, b⟩ := h2 y hy
          exact (hp.1 z hz).up (upD.refl _) b
    · split at h
      · simp at h
      · cases hc : certL (certD d u) r with
        | none => simp [hc] at h
        | some x =>
          simp [hc] at h
          obtain ⟨rfl, rfl⟩ := h
          obtain ⟨h1, h2, h3, h4⟩ := certL_ok r (certD d u) x.1 x.2 hc
          refine ⟨(certD_up d u).trans h1, ?_, ?_, by simp [h4]⟩
          · intro y hy
            rcases List.mem_cons.1 hy with rfl | hy
            · exact ⟨(cert_told d u).up (upD.refl _) h1, u, by simp, certU_up d u⟩
            · obtain ⟨a, z, hz, b⟩ := h2 y hy
              exact ⟨a, z, List.mem_cons_of_mem _ hz, b⟩
          · intro hp
            rw [List.pairwise_cons] at hp ⊢
            refine ⟨fun y hy => ?_, h3 hp.2⟩
            obtain ⟨_, z, hz, b⟩ := h2 y hy
            exact (hp.1 z hz).up (certU_up d u) b
def sameL (a b : List Chg) : Bool := a.any fun x => b.any fun y => x.w.coll == y.w.coll && x.w.id == y.w.id
def sameAny (d : Dn) (l : List Dn) : Bool := l.any fun x => decide (d.snap < x.at_) && sameL x.changes d.changes
def noMark (d : Dn) : Dn := { d with inn := false, out := false }
/-- What certifying makes of a list, and its code. -/
def certOut (l : List Dn) (d : Dn) : List Dn × Int :=
  if sameAny d l then (l, 15) else match certL (noMark d) l with
    | none => (l, 16)
    | some x => if (x.1.inn && x.1.out) = true then (l, 16) else if l.length = 30 then (l, 7) else (x.2 ++ [x.1], 0)
theorem certOut_told (l : List Dn) (d : Dn) (h : l.Pairwise toldB) : (certOut l d).1.Pairwise toldB := by
  unfold certOut
  split
  · exact h
  · cases hc : certL (noMark d) l with
    | none => exact h
    | some x =>
      dsimp only
      split
      · exact h
      · split
        · exact h
        · obtain ⟨_, h2, h3, _⟩ := certL_ok l _ x.1 x.2 hc
          rw [List.pairwise_append]
          refine ⟨h3 h, by simp, fun a ha b hb => ?_⟩
          simp at hb
          subst hb
          exact (h2 a ha).1
/-- Numbers two by two, each pair with a property. -/
def pairsOK (P : Nat → Nat → Prop) (l : List Nat) : Prop := l.length % 2 = 0 ∧ ∀ j a b, l[2 * j]? = some a → l[2 * j + 1]? = some b → P a b
/-- A pair that is bound to an order. -/
def boundP (l : List Dn) (i k : Nat) : Prop := i < l.length ∧ k < l.length ∧ i ≠ k ∧ aheadAt l i k = true
theorem dones_each {l : List Dn} (h : donesOK l = true) : (∀ d ∈ l, dnFine d = true) ∧ ∀ k, (hk : k + 1 < l.length) → l[k].at_ < l[k + 1].at_ := by
  unfold donesOK at h
  simp only [Bool.and_eq_true, decide_eq_true_eq] at h
  have h1 := steps_all.1 h.1
  refine ⟨fun d hd => ?_, fun k hk => ?_⟩
  · obtain ⟨i, hi, rfl⟩ := List.getElem_of_mem hd
    have h2 := h1 i hi
    cases i with
    | zero => rwa [seq_zero hi] at h2
    | succ k =>
      rw [seq_succ hi] at h2
      simp only [Bool.and_eq_true] at h2
      exact h2.1
  · have h2 := h1 (k + 1) hk
    rw [seq_succ hk] at h2
    simp only [Bool.and_eq_true] at h2
    simpa [dnOrd] using h2.2
theorem upD.done {a b : Dn} (h : upD a b) : doneOK b = doneOK a := by
  unfold doneOK timesOK
  rw [h.snap, h.at_, h.reads, h.changes]
theorem certL_keep : ∀ (l : List Dn) (d d' : Dn) (l' : List Dn), certL d l = some (d', l') →
    l'.map Dn.at_ = l.map Dn.at_ ∧ ((∀ x ∈ l, (x.inn && x.out) = false) → ∀ x ∈ l', (x.inn && x.out) = false)
  | [], d, d', l', h => by
    simp [certL] at h
    obtain ⟨rfl, rfl⟩ := h
    exact ⟨rfl, by simp⟩
  | u :: r, d, d', l', h => by
    unfold certL at h
    split at h
    · cases hc : certL d r with
      | none => simp [hc] at h
      | some x =>
        simp [hc] at h
        obtain ⟨rfl, rfl⟩ := h
        obtain ⟨h1, h2⟩ := certL_keep r d x.1 x.2 hc
        refine ⟨by simp [h1], fun hx y hy => ?_⟩
        rcases List.mem_cons.1 hy with rfl | hy
        · exact hx _ (by simp)
        · exact h2 (fun z hz => hx z (List.mem_cons_of_mem _ hz)) y hy
    · split at h
      · simp at h
      · rename_i hb
        cases hc : certL (certD d u) r with
        | none => simp [hc] at h
        | some x =>
          simp [hc] at h
          obtain ⟨rfl, rfl⟩ := h
          obtain ⟨h1, h2⟩ := certL_keep r (certD d u) x.1 x.2 hc
          refine ⟨by simp [h1]; rfl, fun hx y hy => ?_⟩
          rcases List.mem_cons.1 hy with rfl | hy
          · simpa using hb
          · exact h2 (fun z hz => hx z (List.mem_cons_of_mem _ hz)) y hy
theorem dones_iff {l : List Dn} : donesOK l = true ↔ (∀ d ∈ l, dnFine d = true) ∧ (∀ k, (hk : k + 1 < l.length) → l[k].at_ < l[k + 1].at_) ∧ l.length ≤ 30 := by
  constructor
  · intro h
    obtain ⟨h1, h2⟩ := dones_each h
    unfold donesOK at h
    simp only [Bool.and_eq_true, decide_eq_true_eq] at h
    exact ⟨h1, h2, h.2⟩
  · rintro ⟨h1, h2, h3⟩
    unfold donesOK
    simp only [Bool.and_eq_true, decide_eq_true_eq]
    refine ⟨steps_all.2 fun i hi => ?_, h3⟩
    cases i with
    | zero => rw [seq_zero hi]; exact h1 _ (List.getElem_mem hi)
    | succ k =>
      rw [seq_succ hi]
      simp only [Bool.and_eq_true]
      exact ⟨h1 _ (List.getElem_mem hi), by simpa [dnOrd] using h2 k hi⟩
theorem certOut_len (l : List Dn) (d : Dn) : (certOut l d).1.length ≤ l.length + 1 ∧ (∀ b : Int, (∀ x ∈ l, x.at_ ≤ b) → d.at_ ≤ b → ∀ x ∈ (certOut l d).1, x.at_ ≤ b) := by
  unfold certOut
  split
  · exact ⟨by simp, fun b h _ => h⟩
  · cases hc : certL (noMark d) l with
    | none => exact ⟨by simp, fun b h _ => h⟩
    | some x =>
      dsimp only
      split
      · exact ⟨by simp, fun b h _ => h⟩
      · split
        · exact ⟨by simp, fun b h _ => h⟩
        · obtain ⟨h1, h2, _, h4⟩ := certL_ok l _ x.1 x.2 hc
          refine ⟨by simp [h4], fun b hb hd y hy => ?_⟩
          rcases List.mem_append.1 hy with hy | hy
          · obtain ⟨_, z, hz, hu⟩ := h2 y hy
            rw [hu.at_]; exact hb z hz
          · simp at hy
            subst hy
            rw [h1.at_]; exact hd
theorem cert_dones {l : List Dn} {d : Dn} (h : donesOK l = true) (hd : doneOK d = true) (hat : ∀ x ∈ l, x.at_ < d.at_) : donesOK (certOut l d).1 = true := by
  obtain ⟨h1, h2, h3⟩ := dones_iff.1 h
  unfold certOut
  split
  · exact h
  · cases hc : certL (noMark d) l with
    | none => exact h
    | some x =>
      dsimp only
      split
      · exact h
      · rename_i hb
        split
        · exact h
        · rename_i hn
          obtain ⟨k1, k2, _, k4⟩ := certL_ok l _ x.1 x.2 hc
          obtain ⟨m1, m2⟩ := certL_keep l _ x.1 x.2 hc
          have hmk : ∀ y ∈ l, (y.inn && y.out) = false := fun y hy => by
            have := h1 y hy
            unfold dnFine at this
            have h9 := (Bool.and_eq_true_iff.1 this).2
            revert h9
            cases (y.inn && y.out) <;> decide
          have hat' : ∀ (k : Nat) (hk : k < x.2.length), x.2[k].at_ = (l[k]'(by omega)).at_ := by
            intro k hk
            have := congrArg (fun z => z[k]?) m1
            simpa [hk, show k < l.length by omega] using this
          refine dones_iff.2 ⟨fun y hy => ?_, fun k hk => ?_, by simp [k4]; omega⟩
          · unfold dnFine
            rcases List.mem_append.1 hy with hy | hy
            · obtain ⟨_, z, hz, hu⟩ := k2 y hy
              rw [hu.done, m2 hmk y hy]
              have := h1 z hz
              unfold dnFine at this
              simpa using (Bool.and_eq_true_iff.1 this).1
            · simp at hy
              subst hy
              rw [k1.done]
              have : doneOK (noMark d) = doneOK d := rfl
              rw [this, hd]
              cases hz : (x.1.inn && x.1.out) with
              | true => exact absurd hz hb
              | false => rfl
          · rw [List.length_append, List.length_singleton] at hk
            by_cases hlt : k + 1 < x.2.length
            · rw [List.getElem_append_left hlt, List.getElem_append_left (by omega), hat' k (by omega), hat' (k + 1) hlt]
              exact h2 k (by omega)
            · rw [List.getElem_append_left (by omega), List.getElem_append_right (by omega), hat' k (by omega)]
              simp only [List.getElem_singleton]
              rw [k1.at_]
              exact hat _ (List.getElem_mem _)
theorem certL_far : ∀ (l : List Dn) (d : Dn), (∀ x ∈ l, x.at_ ≤ d.snap) → certL d l = some (d, l)
  | [], d, _ => rfl
  | u :: r, d, h => by
    unfold certL
    rw [if_pos (h u (by simp)), certL_far r d (fun x hx => h x (List.mem_cons_of_mem _ hx))]
    rfl
/-- Without company one is always certified. -/
theorem cert_far {l : List Dn} {d : Dn} (h : ∀ x ∈ l, x.at_ ≤ d.snap) (hn : l.length < 30) : certOut l d = (l ++ [noMark d], 0) := by
  unfold certOut
  have hs : sameAny d l = false := by
    unfold sameAny
    simp only [List.any_eq_false, Bool.and_eq_true, decide_eq_true_eq, not_and]
    intro x hx h1
    have := h x hx
    omega
  rw [hs, certL_far l (noMark d) h]
  simp only [Bool.false_eq_true, if_false]
  rw [if_neg (by simp [noMark]), if_neg (by omega)]
theorem cert_code (l : List Dn) (d : Dn) (hn : l.length < 30) : ((certOut l d).2 = 0 ∧ ∃ x l', certOut l d = (l' ++ [x], 0) ∧ x.at_ = d.at_ ∧ l'.length = l.length) ∨ (((certOut l d).2 = 15 ∨ (certOut l d).2 = 16) ∧ (certOut l d).1 = l) := by
  unfold certOut
  split
  · exact .inr ⟨.inl rfl, rfl⟩
  · cases hc : certL (noMark d) l with
    | none => exact .inr ⟨.inr rfl, rfl⟩
    | some x =>
      dsimp only
      split
      · exact .inr ⟨.inr rfl, rfl⟩
      · rw [if_neg (by omega)]
        obtain ⟨k1, _, _, k4⟩ := certL_ok l _ x.1 x.2 hc
        exact .inl ⟨rfl, x.1, x.2, rfl, k1.at_, k4⟩
end Go.Md
namespace Go.Md
open Go.Ev Go.Proofs Go.Pu
set_option linter.unusedSimpArgs false
set_option linter.unusedVariables false
set_option maxRecDepth 100000
set_option maxHeartbeats 4000000
theorem sameL_eq (a b : List Chg) : sameL a b = sameP a b := rfl
/-- What the frame knows of the one to be certified. -/
abbrev dnB3 (d : Dn) (i o : Bool) : Ob := .box 26 [.t (.int .i64 d.snap), .t (.int .i64 d.at_), .t (.list (d.reads.map rdT)), .t (.list (d.changes.map chgT)), .t (.bool i), .t (.bool o)]
theorem cert_same (l : List Dn) (d : Dn) (hl : l.length ≤ 100) (hs : ∀ x ∈ l, x.Sm) (hd : d.Sm) (v0 : SV) (r : Nat) (z : Bool) (hz : z = sameAny d l) : ∀ s o q, (s 0 = v0 ∧ s 3 = .ptr 0 0 ∧ s 6 = .row r ∧ s 7 = .t (.int .i64 0) ∧ o 0 = dnB3 d d.inn d.out ∧ o r = .row 26 (l.map dnT) true ∧ r < q ∧ r ≠ 0 ∧ 0 < q) →
    ∃ e s' o' q', run E (.code (.loop (loopAt Tryz.f61 0)) ⟨s, o, q, 104⟩) = some (.st e ⟨s', o', q', 104⟩) ∧ (e = (if z then .ret else .exit 0) ∧ s' 0 = v0 ∧ s' 3 = .ptr 0 0 ∧ s' 6 = .row r ∧ o' = o ∧ q' = q ∧ (z = true → s' 4 = v0 ∧ s' 5 = .t (.int .i64 15))) := by
  intro s o q hI
  have d5 := d61_5
  simp [regionOf, findR, pick, Tryz.f61] at d5
  have dd := fun st => run_region_draw E st 5 _ d5
  clear d5
  refine loop_for (c := loopAt Tryz.f61 0) (N := 104)
    (fun i s o' q' => s 0 = v0 ∧ s 3 = .ptr 0 0 ∧ s 6 = .row r ∧ s 7 = .t (.int .i64 i) ∧ o' = o ∧ q' = q ∧ z = (l.drop i).any (fun x => decide (d.snap < x.at_) && sameL x.changes d.changes))
    (fun e s' o' q' => e = (if z then .ret else .exit 0) ∧ s' 0 = v0 ∧ s' 3 = .ptr 0 0 ∧ s' 6 = .row r ∧ o' = o ∧ q' = q ∧ (z = true → s' 4 = v0 ∧ s' 5 = .t (.int .i64 15))) l.length ?_ ?_
    l.length 0 s o q (by omega) ⟨hI.1, hI.2.1, hI.2.2.1, hI.2.2.2.1, rfl, rfl, by simpa [sameAny] using hz⟩
  · obtain ⟨_, _, _, _, o0, oR, p1, p2, p3⟩ := hI
    rintro i s' o' q' hi ⟨h0, h3, h6, h7, ho, hq, hp⟩
    have hi' : (i : Int) < (l.length : Int) := by omega
    have hw := wrap_succ (n := i) (by omega)
    have hxi : l[i]? = some l[i] := List.getElem?_eq_getElem hi
    have hsx := hs _ (List.getElem_mem hi)
    have hsm := specSame l[i].changes d.changes hsx.changes.1 hd.changes.1
    rw [← sameL_eq] at hsm
    rw [List.drop_eq_getElem_cons hi, List.any_cons] at hp
    by_cases ht : d.snap < l[i].at_
    · have ht' : (decide (d.snap < l[i].at_)) = true := decide_eq_true ht
      rw [ht', Bool.true_and] at hp
      generalize sameL l[i].changes d.changes = y at *
      cases y with
      | true =>
        simp only [Bool.true_or] at hp
        simp [loopAt, loopsOf, Tryz.f61, dd, h0, h3, h6, h7, ho, hq, o0, oR, hi, hi', hxi, hw, hsm, ht, hp]
      | false =>
        simp only [Bool.false_or] at hp
        simp [loopAt, loopsOf, Tryz.f61, dd, h0, h3, h6, h7, ho, hq, o0, oR, hi, hi', hxi, hw, hsm, ht, -List.any_eq_true, -List.any_eq_false]
        exact hp
    · have ht' : (decide (d.snap < l[i].at_)) = false := decide_eq_false ht
      rw [ht', Bool.false_and, Bool.false_or] at hp
      simp [loopAt, loopsOf, Tryz.f61, dd, h0, h3, h6, h7, ho, hq, o0, oR, hi, hi', hxi, hw, ht, -List.any_eq_true, -List.any_eq_false]
      exact hp
  · obtain ⟨_, _, _, _, o0, oR, p1, p2, p3⟩ := hI
    rintro s' o' q' ⟨h0, h3, h6, h7, ho, hq, hp⟩
    simp at hp
    simp [loopAt, loopsOf, Tryz.f61, h0, h3, h6, h7, ho, hq, o0, oR, hp]
theorem cert_marks (l : List Dn) (d : Dn) (hl : l.length ≤ 100) (hs : ∀ x ∈ l, dnFit x) (hd : dnFit d) (v0 : SV) (r : Nat) (F : Option (Dn × List Dn)) (hF : F = certL d l) : ∀ s o q, (s 0 = v0 ∧ s 3 = .ptr 0 0 ∧ s 6 = .row r ∧ s 8 = .t (.int .i64 0) ∧ o 0 = dnB3 d d.inn d.out ∧ o r = .row 26 (l.map dnT) true ∧ r < q ∧ r ≠ 0 ∧ 0 < q) →
    ∃ e s' o' q', run E (.code (.loop (loopAt Tryz.f61 1)) ⟨s, o, q, 104⟩) = some (.st e ⟨s', o', q', 104⟩) ∧ ((F = none → e = .ret ∧ s' 4 = v0 ∧ s' 5 = .t (.int .i64 16)) ∧ (∀ D P, F = some (D, P) → e = .exit 2 ∧ s' 0 = v0 ∧ s' 3 = .ptr 0 0 ∧ s' 6 = .row r ∧ o' 0 = dnB3 D D.inn D.out ∧ o' r = .row 26 (P.map dnT) true ∧ q' = q ∧ (∀ i, i ≠ 0 → i ≠ r → o' i = o i))) := by
  intro s o q hI
  have d13 := d61_13
  simp [regionOf, findR, pick, Tryz.f61] at d13
  have dd1 := fun st => run_region_draw E st 13 _ d13
  clear d13
  have d14 := d61_14
  simp [regionOf, findR, pick, Tryz.f61] at d14
  have dd2 := fun st => run_region_draw E st 14 _ d14
  clear d14
  have d17 := d61_17
  simp [regionOf, findR, pick, Tryz.f61] at d17
  have dd3 := fun st => run_region_draw E st 17 _ d17
  clear d17
  obtain ⟨h0, h3, h6, h8, o0, oR, p1, p2, p3⟩ := hI
  refine loop_for (c := loopAt Tryz.f61 1) (N := 104)
    (fun i s o' q' => ∃ (D : Dn) (P : List Dn), s 0 = v0 ∧ s 3 = .ptr 0 0 ∧ s 6 = .row r ∧ s 8 = .t (.int .i64 i) ∧ o' 0 = dnB3 D D.inn D.out ∧ o' r = .row 26 ((P ++ l.drop i).map dnT) true ∧ q' = q ∧ (∀ i, i ≠ 0 → i ≠ r → o' i = o i) ∧ P.length = i ∧ dnFit D ∧ F = (certL D (l.drop i)).map (fun x => (x.1, P ++ x.2)))
    (fun e s' o' q' => (F = none → e = .ret ∧ s' 4 = v0 ∧ s' 5 = .t (.int .i64 16)) ∧ (∀ D P, F = some (D, P) → e = .exit 2 ∧ s' 0 = v0 ∧ s' 3 = .ptr 0 0 ∧ s' 6 = .row r ∧ o' 0 = dnB3 D D.inn D.out ∧ o' r = .row 26 (P.map dnT) true ∧ q' = q ∧ (∀ i, i ≠ 0 → i ≠ r → o' i = o i))) l.length ?_ ?_
    l.length 0 s o q (by omega) ⟨d, [], h0, h3, h6, h8, o0, oR, rfl, fun _ _ _ => rfl, rfl, hd, by rw [hF, List.drop_zero]; cases certL d l <;> rfl⟩
  · rintro i s' o' q' hi ⟨D, P, h0, h3, h6, h8, o0, oR, hq, hO, hP, hD, hf⟩
    subst hP
    have hi' : (P.length : Int) < (l.length : Int) := by omega
    have hw := wrap_succ (n := P.length) (by omega)
    have hxi : l[P.length]? = some l[P.length] := List.getElem?_eq_getElem hi
    have hux := hs _ (List.getElem_mem hi)
    rw [List.drop_eq_getElem_cons hi] at oR hf
    generalize hU : l[P.length] = U at *
    have hc1 := specHitsIn D.reads U.changes hD.sm.reads.1 hux.sm.changes.1 hD.rd hux.ch
    have hc2 := specHitsIn U.reads D.changes hux.sm.reads.1 hD.sm.changes.1 hux.rd hD.ch
    rw [certL] at hf
    have hlen : (P ++ U :: List.drop (P.length + 1) l).length = l.length := by simp; omega
    have hget : (List.map dnT (P ++ U :: List.drop (P.length + 1) l))[P.length]? = some (dnT U) := by simp
    have hset : ∀ t : T, (List.map dnT (P ++ U :: List.drop (P.length + 1) l)).set P.length t = List.map dnT P ++ t :: List.map dnT (List.drop (P.length + 1) l) := fun t => by
      rw [List.map_append, List.map_cons]
      have : P.length = (List.map dnT P).length := by simp
      rw [this, List.set_append_right _ _ (Nat.le_refl _)]
      simp
    have hnz : r ≠ 0 := p2
    have hnz' : 0 ≠ r := fun e => p2 e.symm
    have hlt : (P.length : Int) < (P.length : Int) + (((l.length - (P.length + 1) : Nat) : Int) + 1) := by omega
    have hlt2 : P.length < P.length + (l.length - (P.length + 1) + 1) := by omega
    by_cases ht : U.at_ ≤ D.snap
    · rw [if_pos ht] at hf
      simp [loopAt, loopsOf, Tryz.f61, dd1, dd2, dd3, h0, h3, h6, h8, o0, oR, hq, hlen, hget, hset, hi', hw, hnz, hnz', p1, p2, p3, hlt, hlt2, ht]
      refine ⟨D, ⟨rfl, rfl, rfl, rfl, rfl, rfl⟩, P ++ [U], by simp, hO, by simp, hD, ?_⟩
      rw [hf]
      cases certL D (List.drop (P.length + 1) l) <;> simp
    · rw [if_neg ht] at hf
      have hDf : ∀ x y : Bool, dnFit ⟨D.snap, D.at_, D.reads, D.changes, x, y⟩ := fun x y => ⟨⟨hD.sm.reads, hD.sm.changes⟩, hD.rd, hD.ch⟩
      unfold certU certD at hf
      generalize hitsP D.reads U.changes = y1 at *
      generalize hitsP U.reads D.changes = y2 at *
      obtain ⟨us, ua, ur, uc, ui, uo⟩ := U
      simp only at ht hc1 hc2 hf
      cases y1 with
      | false =>
        cases y2 with
        | false =>
          cases ui with
          | false =>
            cases uo with
            | false =>
              simp only [Bool.or_true, Bool.or_false, Bool.true_or, Bool.and_true, Bool.and_false, Bool.true_and, Bool.false_and, Bool.false_eq_true, if_false] at hf
              simp [loopAt, loopsOf, Tryz.f61, dd1, dd2, dd3, h0, h3, h6, h8, o0, oR, hq, hlen, hget, hset, hi', hw, hnz, hnz', p1, p2, p3, hlt, hlt2, ht, hc1, hc2]
              refine ⟨⟨D.snap, D.at_, D.reads, D.changes, D.inn, D.out⟩, ⟨rfl, rfl, rfl, rfl, rfl, rfl⟩, P ++ [⟨us, ua, ur, uc, false, false⟩], by simp, ?_, by simp, hDf _ _, ?_⟩
              · intro i h1 h2
                first | exact hO i h1 h2 | (simp [h1, h2]; exact hO i h1 h2) | simp [h1, h2, hO i h1 h2]
              · rw [hf]
                cases certL _ (List.drop (P.length + 1) l) <;> simp
            | true =>
              simp only [Bool.or_true, Bool.or_false, Bool.true_or, Bool.and_true, Bool.and_false, Bool.true_and, Bool.false_and, Bool.false_eq_true, if_false] at hf
              simp [loopAt, loopsOf, Tryz.f61, dd1, dd2, dd3, h0, h3, h6, h8, o0, oR, hq, hlen, hget, hset, hi', hw, hnz, hnz', p1, p2, p3, hlt, hlt2, ht, hc1, hc2]
              refine ⟨⟨D.snap, D.at_, D.reads, D.changes, D.inn, D.out⟩, ⟨rfl, rfl, rfl, rfl, rfl, rfl⟩, P ++ [⟨us, ua, ur, uc, false, true⟩], by simp, ?_, by simp, hDf _ _, ?_⟩
              · intro i h1 h2
                first | exact hO i h1 h2 | (simp [h1, h2]; exact hO i h1 h2) | simp [h1, h2, hO i h1 h2]
              · rw [hf]
                cases certL _ (List.drop (P.length + 1) l) <;> simp
          | true =>
            cases uo with
            | false =>
              simp only [Bool.or_true, Bool.or_false, Bool.true_or, Bool.and_true, Bool.and_false, Bool.true_and, Bool.false_and, Bool.false_eq_true, if_false] at hf
              simp [loopAt, loopsOf, Tryz.f61, dd1, dd2, dd3, h0, h3, h6, h8, o0, oR, hq, hlen, hget, hset, hi', hw, hnz, hnz', p1, p2, p3, hlt, hlt2, ht, hc1, hc2]
              refine ⟨⟨D.snap, D.at_, D.reads, D.changes, D.inn, D.out⟩, ⟨rfl, rfl, rfl, rfl, rfl, rfl⟩, P ++ [⟨us, ua, ur, uc, true, false⟩], by simp, ?_, by simp, hDf _ _, ?_⟩
              · intro i h1 h2
                first | exact hO i h1 h2 | (simp [h1, h2]; exact hO i h1 h2) | simp [h1, h2, hO i h1 h2]
              · rw [hf]
                cases certL _ (List.drop (P.length + 1) l) <;> simp
            | true =>
              simp at hf
              simp [loopAt, loopsOf, Tryz.f61, dd1, dd2, dd3, h0, h3, h6, h8, o0, oR, hq, hlen, hget, hset, hi', hw, hnz, hnz', p1, p2, p3, hlt, hlt2, ht, hc1, hc2, hf]
        | true =>
          cases ui with
          | false =>
            cases uo with
            | false =>
              simp only [Bool.or_true, Bool.or_false, Bool.true_or, Bool.and_true, Bool.and_false, Bool.true_and, Bool.false_and, Bool.false_eq_true, if_false] at hf
              simp [loopAt, loopsOf, Tryz.f61, dd1, dd2, dd3, h0, h3, h6, h8, o0, oR, hq, hlen, hget, hset, hi', hw, hnz, hnz', p1, p2, p3, hlt, hlt2, ht, hc1, hc2]
              refine ⟨⟨D.snap, D.at_, D.reads, D.changes, true, D.out⟩, ⟨rfl, rfl, rfl, rfl, rfl, rfl⟩, P ++ [⟨us, ua, ur, uc, false, true⟩], by simp, ?_, by simp, hDf _ _, ?_⟩
              · intro i h1 h2
                first | exact hO i h1 h2 | (simp [h1, h2]; exact hO i h1 h2) | simp [h1, h2, hO i h1 h2]
              · rw [hf]
                cases certL _ (List.drop (P.length + 1) l) <;> simp
            | true =>
              simp only [Bool.or_true, Bool.or_false, Bool.true_or, Bool.and_true, Bool.and_false, Bool.true_and, Bool.false_and, Bool.false_eq_true, if_false] at hf
              simp [loopAt, loopsOf, Tryz.f61, dd1, dd2, dd3, h0, h3, h6, h8, o0, oR, hq, hlen, hget, hset, hi', hw, hnz, hnz', p1, p2, p3, hlt, hlt2, ht, hc1, hc2]
              refine ⟨⟨D.snap, D.at_, D.reads, D.changes, true, D.out⟩, ⟨rfl, rfl, rfl, rfl, rfl, rfl⟩, P ++ [⟨us, ua, ur, uc, false, true⟩], by simp, ?_, by simp, hDf _ _, ?_⟩
              · intro i h1 h2
                first | exact hO i h1 h2 | (simp [h1, h2]; exact hO i h1 h2) | simp [h1, h2, hO i h1 h2]
              · rw [hf]
                cases certL _ (List.drop (P.length + 1) l) <;> simp
          | true =>
            cases uo with
            | false =>
              simp at hf
              simp [loopAt, loopsOf, Tryz.f61, dd1, dd2, dd3, h0, h3, h6, h8, o0, oR, hq, hlen, hget, hset, hi', hw, hnz, hnz', p1, p2, p3, hlt, hlt2, ht, hc1, hc2, hf]
            | true =>
              simp at hf
              simp [loopAt, loopsOf, Tryz.f61, dd1, dd2, dd3, h0, h3, h6, h8, o0, oR, hq, hlen, hget, hset, hi', hw, hnz, hnz', p1, p2, p3, hlt, hlt2, ht, hc1, hc2, hf]
      | true =>
        cases y2 with
        | false =>
          cases ui with
          | false =>
            cases uo with
            | false =>
              simp only [Bool.or_true, Bool.or_false, Bool.true_or, Bool.and_true, Bool.and_false, Bool.true_and, Bool.false_and, Bool.false_eq_true, if_false] at hf
              simp [loopAt, loopsOf, Tryz.f61, dd1, dd2, dd3, h0, h3, h6, h8, o0, oR, hq, hlen, hget, hset, hi', hw, hnz, hnz', p1, p2, p3, hlt, hlt2, ht, hc1, hc2]
              refine ⟨⟨D.snap, D.at_, D.reads, D.changes, D.inn, true⟩, ⟨rfl, rfl, rfl, rfl, rfl, rfl⟩, P ++ [⟨us, ua, ur, uc, true, false⟩], by simp, ?_, by simp, hDf _ _, ?_⟩
              · intro i h1 h2
                first | exact hO i h1 h2 | (simp [h1, h2]; exact hO i h1 h2) | simp [h1, h2, hO i h1 h2]
              · rw [hf]
                cases certL _ (List.drop (P.length + 1) l) <;> simp
            | true =>
              simp at hf
              simp [loopAt, loopsOf, Tryz.f61, dd1, dd2, dd3, h0, h3, h6, h8, o0, oR, hq, hlen, hget, hset, hi', hw, hnz, hnz', p1, p2, p3, hlt, hlt2, ht, hc1, hc2, hf]
          | true =>
            cases uo with
            | false =>
              simp only [Bool.or_true, Bool.or_false, Bool.true_or, Bool.and_true, Bool.and_false, Bool.true_and, Bool.false_and, Bool.false_eq_true, if_false] at hf
              simp [loopAt, loopsOf, Tryz.f61, dd1, dd2, dd3, h0, h3, h6, h8, o0, oR, hq, hlen, hget, hset, hi', hw, hnz, hnz', p1, p2, p3, hlt, hlt2, ht, hc1, hc2]
              refine ⟨⟨D.snap, D.at_, D.reads, D.changes, D.inn, true⟩, ⟨rfl, rfl, rfl, rfl, rfl, rfl⟩, P ++ [⟨us, ua, ur, uc, true, false⟩], by simp, ?_, by simp, hDf _ _, ?_⟩
              · intro i h1 h2
                first | exact hO i h1 h2 | (simp [h1, h2]; exact hO i h1 h2) | simp [h1, h2, hO i h1 h2]
              · rw [hf]
                cases certL _ (List.drop (P.length + 1) l) <;> simp
            | true =>
              simp at hf
              simp [loopAt, loopsOf, Tryz.f61, dd1, dd2, dd3, h0, h3, h6, h8, o0, oR, hq, hlen, hget, hset, hi', hw, hnz, hnz', p1, p2, p3, hlt, hlt2, ht, hc1, hc2, hf]
        | true =>
          cases ui with
          | false =>
            cases uo with
            | false =>
              simp at hf
              simp [loopAt, loopsOf, Tryz.f61, dd1, dd2, dd3, h0, h3, h6, h8, o0, oR, hq, hlen, hget, hset, hi', hw, hnz, hnz', p1, p2, p3, hlt, hlt2, ht, hc1, hc2, hf]
            | true =>
              simp at hf
              simp [loopAt, loopsOf, Tryz.f61, dd1, dd2, dd3, h0, h3, h6, h8, o0, oR, hq, hlen, hget, hset, hi', hw, hnz, hnz', p1, p2, p3, hlt, hlt2, ht, hc1, hc2, hf]
          | true =>
            cases uo with
            | false =>
              simp at hf
              simp [loopAt, loopsOf, Tryz.f61, dd1, dd2, dd3, h0, h3, h6, h8, o0, oR, hq, hlen, hget, hset, hi', hw, hnz, hnz', p1, p2, p3, hlt, hlt2, ht, hc1, hc2, hf]
            | true =>
              simp at hf
              simp [loopAt, loopsOf, Tryz.f61, dd1, dd2, dd3, h0, h3, h6, h8, o0, oR, hq, hlen, hget, hset, hi', hw, hnz, hnz', p1, p2, p3, hlt, hlt2, ht, hc1, hc2, hf]
  · rintro s' o' q' ⟨D, P, h0, h3, h6, h8, o0, oR, hq, hO, hP, hD, hf⟩
    rw [List.drop_of_length_le (Nat.le_refl _), certL] at hf
    simp at hf
    rw [List.drop_of_length_le (Nat.le_refl _), List.append_nil] at oR
    subst hf
    simp [loopAt, loopsOf, Tryz.f61, h0, h3, h6, h8, oR, hP]
    exact ⟨o0, hq, hO⟩
def certX (l : List Dn) (d : Dn) : X := if (certOut l d).2 = 0 then .row 26 ((certOut l d).1.map dnT) else .t (.list (l.map dnT))
theorem noMark_fit {d : Dn} (h : dnFit d) : dnFit (noMark d) := ⟨⟨h.sm.reads, h.sm.changes⟩, h.rd, h.ch⟩
theorem specCert (l : List Dn) (d : Dn) (hl : l.length ≤ 100) (hs : ∀ x ∈ l, dnFit x) (hd : dnFit d) : run E (.call 61 [.t (.list (l.map dnT)), .t (dnT d)]) = some (.res [certX l d, xI (certOut l d).2] []) := by
  rw [run_call E 61 _ rfl Tryz.func61 rfl rfl rfl (by simp)]
  obtain ⟨z, hz⟩ : ∃ z, z = sameAny d l := ⟨_, rfl⟩
  obtain ⟨F, hF⟩ : ∃ F, F = certL (noMark d) l := ⟨_, rfl⟩
  obtain ⟨X1, A1, B1, C1, hx1⟩ := sk (cert_same l d hl (fun x hx => (hs x hx).sm) hd.sm (.t (.list (l.map dnT))) 2 z hz)
  obtain ⟨X2, A2, B2, C2, hx2⟩ := sk (cert_marks l (noMark d) hl hs (noMark_fit hd) (.t (.list (l.map dnT))) 2 F hF)
  simp only [loopAt, loopsOf, Tryz.f61] at hx1 hx2
  unfold certX certOut
  rw [← hz, ← hF]
  have hcat : l.length ≤ 140737488355328 := by omega
  have hcat2 : l.length * 72 ≤ 140737488355328 := by omega
  have hPl : ∀ D P, F = some (D, P) → P.length = l.length := fun D P h => (certL_ok l (noMark d) D P (by rw [← hF, h])).2.2.2
  clear hz hF
  cases z with
  | true =>
    simp at hx1
    simp [hx1, hcat, hcat2]
  | false =>
    cases F with
    | none =>
      simp [noMark] at hx1 hx2
      simp [hx1, hx2, hcat, hcat2]
    | some x =>
      obtain ⟨⟨ds, da, dr, dc, di, do'⟩, P⟩ := x
      have hx2' := fun s o q h => And.intro (hx2 s o q h).1 ((hx2 s o q h).2.2 _ P rfl)
      have hP := hPl _ P rfl
      have hcat3 : P.length + 1 ≤ 140737488355328 := by omega
      have hcat4 : (P.length + 1) * 72 ≤ 140737488355328 := by omega
      simp [noMark] at hx1 hx2'
      by_cases h30 : l.length = 30
      · have h30' : (P.length : Int) = 30 := by omega
        cases di <;> cases do' <;> simp [hx1, hx2', hcat, hcat2, h30, h30', hcat3, hcat4]
      · have h30' : ¬ (P.length : Int) = 30 := by omega
        cases di <;> cases do' <;> simp [hx1, hx2', hcat, hcat2, h30, h30', hcat3, hcat4]
theorem take_snoc {α β : Type} (f : α → β) (l : List α) (k : Nat) (hk : k < l.length) : List.take k (l.map f) ++ [f l[k]] = List.take (k + 1) (l.map f) := by
  rw [List.take_add_one, List.getElem?_map, List.getElem?_eq_getElem hk]
  rfl
/-- Sizes that a copy needs. -/
def RdL (r : Rd) : Prop := r.filter.length < 4294967296 ∧ ∀ c ∈ r.filter, c.length < 4294967296
theorem ownReads_in (rs : List Rd) (hl : rs.length < 4294967296) (i : Nat) (hi : i < rs.length) (hr : RdL rs[i]) (r3 : Nat) (A : List T) : ∀ s o q, (s 0 = .t (.list (rs.map rdT)) ∧ s 3 = .row r3 ∧ s 4 = .t (.int .i64 i) ∧ (∃ r0, s 5 = .row r0 ∧ o r0 = .row 151 [] true ∧ r0 ≠ r3 ∧ r0 < q) ∧ s 6 = .t (.int .i64 0) ∧ o r3 = .row 36 A true ∧ r3 < q) →
    ∃ e s' o' q', run E (.code (.loop (loopAt Tryz.f122 1)) ⟨s, o, q, 54⟩) = some (.st e ⟨s', o', q', 54⟩) ∧ ∃ r : Nat, (e = .exit 2 ∧ s' 0 = .t (.list (rs.map rdT)) ∧ s' 3 = .row r3 ∧ s' 4 = .t (.int .i64 i) ∧ s' 5 = .row r ∧ o' r = .row 151 (rs[i].filter.map clsT) true ∧ o' r3 = .row 36 A true ∧ r ≠ r3 ∧ r3 ≠ r ∧ r < q' ∧ r3 < q' ∧ r3 ≠ q' ∧ r ≠ q' ∧ r3 ≠ q' + 1 ∧ q' ≠ r3 ∧ q' ≠ r) := by
  intro s o q hI
  have hxi : rs[i]? = some rs[i] := List.getElem?_eq_getElem hi
  have hi' : (i : Int) < (rs.length : Int) := by omega
  refine loop_for (c := loopAt Tryz.f122 1) (N := 54)
    (fun k s o q => ∃ r : Nat, s 0 = .t (.list (rs.map rdT)) ∧ s 3 = .row r3 ∧ s 4 = .t (.int .i64 i) ∧ s 5 = .row r ∧ s 6 = .t (.int .i64 k) ∧ o r = .row 151 ((rs[i].filter.take k).map clsT) true ∧ o r3 = .row 36 A true ∧ r ≠ r3 ∧ r < q ∧ r3 < q)
    (fun e s' o' q' => ∃ r : Nat, (e = .exit 2 ∧ s' 0 = .t (.list (rs.map rdT)) ∧ s' 3 = .row r3 ∧ s' 4 = .t (.int .i64 i) ∧ s' 5 = .row r ∧ o' r = .row 151 (rs[i].filter.map clsT) true ∧ o' r3 = .row 36 A true ∧ r ≠ r3 ∧ r3 ≠ r ∧ r < q' ∧ r3 < q' ∧ r3 ≠ q' ∧ r ≠ q' ∧ r3 ≠ q' + 1 ∧ q' ≠ r3 ∧ q' ≠ r)) rs[i].filter.length ?_ ?_
    rs[i].filter.length 0 s o q (by omega) (by
      obtain ⟨h0, h3, h4, ⟨r0, h5, o5, p1, p2⟩, h6, o3, p3⟩ := hI
      exact ⟨r0, h0, h3, h4, h5, h6, by simpa using o5, o3, p1, p2, p3⟩)
  · rintro k s o q hk ⟨r, h0, h3, h4, h5, h6, o5, o3, p1, p2, p3⟩
    have hk' : (k : Int) < (rs[i].filter.length : Int) := by omega
    have hrl := hr.1
    have hw := wrap_succ (n := k) (by omega)
    have hxk : rs[i].filter[k]? = some rs[i].filter[k] := List.getElem?_eq_getElem hk
    have hcl := hr.2 _ (List.getElem_mem hk)
    have htk : List.take (k + 1) rs[i].filter = List.take k rs[i].filter ++ [rs[i].filter[k]] := by rw [List.take_add_one, hxk]; rfl
    have hc1 : rs[i].filter[k].length ≤ 140737488355328 := by omega
    have hc2 : rs[i].filter[k].length * 56 ≤ 140737488355328 := by omega
    have hm : min k rs[i].filter.length = k := Nat.min_eq_left (by omega)
    have hc3 : k + 1 ≤ 140737488355328 := by omega
    have hc4 : (k + 1) * 24 ≤ 140737488355328 := by omega
    obtain ⟨a1, a2, a3, a4, a5, a6, a7, a8, a9, b1, b2⟩ : r ≠ q ∧ q ≠ r ∧ r3 ≠ q ∧ q ≠ r3 ∧ r ≠ q + 1 ∧ r3 ≠ q + 1 ∧ r3 ≠ q + 1 + 1 ∧ r3 ≠ r ∧ r ≠ q + 1 + 1 ∧ r3 ≠ q + 1 + 1 + 1 ∧ q + 1 ≠ r := by
      clear hc1 hc2 hc3 hc4 hw hcl hrl
      (repeat' apply And.intro) <;> omega
    simp [loopAt, loopsOf, Tryz.f122, h0, h3, h4, h5, h6, o5, o3, hi, hi', hxi, hk, hk', hxk, hw, hc1, hc2, hc3, hc4, hm, a1, a2, a3, a4, a5, a6, a7, a8, a9, b1, b2, p1]
    exact ⟨take_snoc clsT rs[i].filter k hk, by omega, by omega⟩
  · rintro s o q ⟨r, h0, h3, h4, h5, h6, o5, o3, p1, p2, p3⟩
    rw [List.take_of_length_le (Nat.le_refl _)] at o5
    have e1 : r3 ≠ r := fun h => p1 h.symm
    simp [loopAt, loopsOf, Tryz.f122, h0, h3, h4, h5, h6, o5, o3, hi, hi', hxi]
    (repeat' apply And.intro) <;> omega
theorem ownReads_out (rs : List Rd) (hl : rs.length < 4294967296) (hr : ∀ r ∈ rs, RdL r) : ∀ s o q, (s 0 = .t (.list (rs.map rdT)) ∧ s 3 = .row 0 ∧ s 4 = .t (.int .i64 0) ∧ o 0 = .row 36 [] true ∧ 0 < q) →
    ∃ e s' o' q', run E (.code (.loop (loopAt Tryz.f122 0)) ⟨s, o, q, 54⟩) = some (.st e ⟨s', o', q', 54⟩) ∧ ∃ r : Nat, (e = .exit 0 ∧ s' 3 = .row r ∧ o' r = .row 36 (rs.map rdT) true) := by
  intro s o q hI
  refine loop_for (c := loopAt Tryz.f122 0) (N := 54)
    (fun i s o q => ∃ r : Nat, s 0 = .t (.list (rs.map rdT)) ∧ s 3 = .row r ∧ s 4 = .t (.int .i64 i) ∧ o r = .row 36 ((rs.take i).map rdT) true ∧ r < q)
    (fun e s' o' q' => ∃ r : Nat, (e = .exit 0 ∧ s' 3 = .row r ∧ o' r = .row 36 (rs.map rdT) true)) rs.length ?_ ?_
    rs.length 0 s o q (by omega) ⟨0, hI.1, hI.2.1, hI.2.2.1, by simpa using hI.2.2.2.1, hI.2.2.2.2⟩
  · rintro i s o q hi ⟨r, h0, h3, h4, o3, p1⟩
    have hi' : (i : Int) < (rs.length : Int) := by omega
    have hw := wrap_succ (n := i) (by omega)
    have hxi : rs[i]? = some rs[i] := List.getElem?_eq_getElem hi
    have hti : List.take (i + 1) rs = List.take i rs ++ [rs[i]] := by rw [List.take_add_one, hxi]; rfl
    have hm : min i rs.length = i := Nat.min_eq_left (by omega)
    have hc3 : i + 1 ≤ 140737488355328 := by omega
    have hc4 : (i + 1) * 40 ≤ 140737488355328 := by omega
    obtain ⟨X, S, O, Q, M, hx⟩ := sk1 (ownReads_in rs hl i hi (hr _ (List.getElem_mem hi)) r ((rs.take i).map rdT))
    simp only [loopAt, loopsOf, Tryz.f122] at hx
    simp at hx
    obtain ⟨a1, a2, a3, a4, a5, a6⟩ : r ≠ q ∧ q ≠ r ∧ r ≠ q + 1 ∧ r < q + 1 ∧ q < q + 1 ∧ r < q + 1 + 1 := by
      clear hc3 hc4 hw
      (repeat' apply And.intro) <;> omega
    simp [loopAt, loopsOf, Tryz.f122, h0, h3, h4, o3, hi, hi', hxi, hw, hc3, hc4, hm, hx, a1, a2, a3, a4, a5, a6]
    exact take_snoc rdT rs i hi
  · rintro s o q ⟨r, h0, h3, h4, o3, p1⟩
    rw [List.take_of_length_le (Nat.le_refl _)] at o3
    simp [loopAt, loopsOf, Tryz.f122, h0, h3, h4, o3]
theorem ownReads (rs : List Rd) (hl : rs.length < 4294967296) (hr : ∀ r ∈ rs, RdL r) : run E (.call 122 [.t (.list (rs.map rdT))]) = some (.res [.row 36 (rs.map rdT)] []) := by
  rw [run_call E 122 _ rfl Tryz.func122 rfl rfl rfl (by simp)]
  obtain ⟨X, S, O, Q, M, hx⟩ := sk1 (ownReads_out rs hl hr)
  simp only [loopAt, loopsOf, Tryz.f122] at hx
  simp at hx
  simp [hx]
/-- Sizes that a copy of one needs. -/
def DnL (d : Dn) : Prop := d.reads.length < 4294967296 ∧ (∀ r ∈ d.reads, RdL r) ∧ d.changes.length < 4294967296
theorem own_loop (l : List Dn) (hl : l.length < 4294967296) (hd : ∀ d ∈ l, DnL d) : ∀ s o q, (s 0 = .t (.list (l.map dnT)) ∧ s 3 = .row 0 ∧ s 4 = .t (.int .i64 0) ∧ o 0 = .row 26 [] true ∧ 0 < q) →
    ∃ e s' o' q', run E (.code (.loop (loopAt Tryz.f62 0)) ⟨s, o, q, 31⟩) = some (.st e ⟨s', o', q', 31⟩) ∧ ∃ r : Nat, (e = .exit 0 ∧ s' 3 = .row r ∧ o' r = .row 26 (l.map dnT) true) := by
  intro s o q hI
  refine loop_for (c := loopAt Tryz.f62 0) (N := 31)
    (fun i s o q => ∃ r : Nat, s 0 = .t (.list (l.map dnT)) ∧ s 3 = .row r ∧ s 4 = .t (.int .i64 i) ∧ o r = .row 26 ((l.take i).map dnT) true ∧ r < q)
    (fun e s' o' q' => ∃ r : Nat, (e = .exit 0 ∧ s' 3 = .row r ∧ o' r = .row 26 (l.map dnT) true)) l.length ?_ ?_
    l.length 0 s o q (by omega) ⟨0, hI.1, hI.2.1, hI.2.2.1, by simpa using hI.2.2.2.1, hI.2.2.2.2⟩
  · rintro i s o q hi ⟨r, h0, h3, h4, o3, p1⟩
    have hi' : (i : Int) < (l.length : Int) := by omega
    have hw := wrap_succ (n := i) (by omega)
    have hxi : l[i]? = some l[i] := List.getElem?_eq_getElem hi
    have hm : min i l.length = i := Nat.min_eq_left (by omega)
    have hdi := hd _ (List.getElem_mem hi)
    have hR := ownReads l[i].reads hdi.1 hdi.2.1
    have hcl := hdi.2.2
    have hc1 : l[i].changes.length ≤ 140737488355328 := by omega
    have hc2 : l[i].changes.length * 104 ≤ 140737488355328 := by omega
    have hc3 : i + 1 ≤ 140737488355328 := by omega
    have hc4 : (i + 1) * 72 ≤ 140737488355328 := by omega
    obtain ⟨a1, a2, a3, a4, a5, a6, a7, a8⟩ : r ≠ q ∧ q ≠ r ∧ r ≠ q + 1 ∧ r ≠ q + 1 + 1 ∧ r ≠ q + 1 + 1 + 1 ∧ r ≠ q + 1 + 1 + 1 + 1 ∧ q + 1 ≠ r ∧ q + 1 + 1 ≠ r := by
      clear hc1 hc2 hc3 hc4 hw hcl hdi
      (repeat' apply And.intro) <;> omega
    obtain ⟨f1, f2, f3, f4, f5, f6, f7, f8, f9, g1, g2, g3, g4⟩ : (q ≠ q + 1) ∧ (q ≠ q + 1 + 1) ∧ (q ≠ q + 1 + 1 + 1) ∧ (q ≠ q + 1 + 1 + 1 + 1) ∧ (q + 1 ≠ q + 1 + 1) ∧ (q + 1 ≠ q + 1 + 1 + 1) ∧ (q + 1 ≠ q + 1 + 1 + 1 + 1) ∧ (q + 1 + 1 ≠ q + 1 + 1 + 1) ∧ (q + 1 + 1 ≠ q + 1 + 1 + 1 + 1) ∧ (q + 1 + 1 + 1 ≠ q + 1 + 1 + 1 + 1) ∧ (q + 1 ≠ q) ∧ (q + 1 + 1 ≠ q) ∧ (q + 1 + 1 + 1 ≠ q) := by
      clear hc1 hc2 hc3 hc4 hw hcl hdi a1 a2 a3 a4 a5 a6 a7 a8
      (repeat' apply And.intro) <;> omega
    try simp at hR
    simp [loopAt, loopsOf, Tryz.f62, h0, h3, h4, o3, hi, hi', hxi, hw, hc1, hc2, hc3, hc4, hm, hR, a1, a2, a3, a4, a5, a6, a7, a8, f1, f2, f3, f4, f5, f6, f7, f8, f9, g1, g2, g3, g4]
    exact take_snoc dnT l i hi
  · rintro s o q ⟨r, h0, h3, h4, o3, p1⟩
    rw [List.take_of_length_le (Nat.le_refl _)] at o3
    simp [loopAt, loopsOf, Tryz.f62, h0, h3, h4, o3]
theorem ownDones (l : List Dn) (hl : l.length < 4294967296) (hd : ∀ d ∈ l, DnL d) : run E (.call 62 [.t (.list (l.map dnT))]) = some (.res [.row 26 (l.map dnT)] []) := by
  rw [run_call E 62 _ rfl Tryz.func62 rfl rfl rfl (by simp)]
  obtain ⟨X, S, O, Q, M, hx⟩ := sk1 (own_loop l hl hd)
  simp only [loopAt, loopsOf, Tryz.f62] at hx
  simp at hx
  simp [hx]
theorem fit_L {d : Dn} (h : dnFit d) : DnL d :=
  ⟨h.sm.reads.1, fun r hr => ⟨(h.sm.reads.2 r hr).filter.1, fun c hc => ((h.sm.reads.2 r hr).filter.2 c hc).1⟩, h.sm.changes.1⟩
/-- What is known of what was drawn so far. -/
structure Drawn (b : Int) (n : Nat) (L : List Dn) : Prop where
  fit : ∀ x ∈ L, dnFit x
  len : L.length ≤ n
  told : L.Pairwise toldB
  at_ : ∀ x ∈ L, x.at_ ≤ b
theorem cert_fit {L : List Dn} {d : Dn} (h : ∀ x ∈ L, dnFit x) (hd : dnFit d) : ∀ x ∈ (certOut L d).1, dnFit x := by
  unfold certOut
  split
  · exact h
  · cases hc : certL (noMark d) L with
    | none => exact h
    | some y =>
      dsimp only
      split
      · exact h
      · split
        · exact h
        · obtain ⟨h1, h2, _, _⟩ := certL_ok L _ y.1 y.2 hc
          intro x hx
          have up : ∀ {a b : Dn}, upD a b → dnFit a → dnFit b := fun {a b} u f => by
            obtain ⟨s1, s2, s3, s4, _, _⟩ := u
            refine ⟨⟨by rw [s3]; exact f.sm.reads, by rw [s4]; exact f.sm.changes⟩, by rw [s3]; exact f.rd, by rw [s4]; exact f.ch⟩
          rcases List.mem_append.1 hx with hx | hx
          · obtain ⟨_, z, hz, u⟩ := h2 x hx
            exact up u (h z hz)
          · simp at hx
            subst hx
            exact up h1 (noMark_fit hd)
theorem Drawn.next {b b' : Int} {n n' : Nat} {L : List Dn} {d : Dn} (h : Drawn b n L) (hd : dnFit d) (hat : d.at_ ≤ b') (hb : b ≤ b') (hn : n + 1 ≤ n') : Drawn b' n' (certOut L d).1 := by
  obtain ⟨h1, h2⟩ := certOut_len L d
  exact ⟨cert_fit h.fit hd, by have := h.len; omega, certOut_told L d h.told, h2 b' (fun x hx => by have := h.at_ x hx; omega) hat⟩
theorem Drawn.up {b b' : Int} {n n' : Nat} {L : List Dn} (h : Drawn b n L) (hb : b ≤ b') (hn : n ≤ n') : Drawn b' n' L :=
  ⟨h.fit, by have := h.len; omega, h.told, fun x hx => by have := h.at_ x hx; omega⟩
/-- The list that stands in a slot. -/
def Vis (v : SV) (o : Nat → Ob) (q : Nat) (L : List Dn) : Prop := v = .t (.list (L.map dnT)) ∨ ∃ r, v = .row r ∧ o r = .row 26 (L.map dnT) true ∧ r ≠ 0 ∧ r < q
theorem dones_loop (n0 : Nat) (hn0 : n0 ≤ 7) (src : Src) (m : Nat) (hm : m + 100000 < 1000000000) (hs : src.Ok m) : ∀ s o q, (s 0 = .ptr 0 0 ∧ s 3 = .row 1 ∧ s 4 = .t (.int .i64 n0) ∧ o 0 = srcB src ∧ o 1 = .row 26 [] true ∧ 1 < q) →
    ∃ e s' o' q', run E (.code (.loop (loopAt Tryz.f50 0)) ⟨s, o, q, 24⟩) = some (.st e ⟨s', o', q', 24⟩) ∧ ∃ a : Src × List Dn, ((e = .exit 0 ∧ s' 0 = .ptr 0 0 ∧ Vis (s' 3) o' q' a.2 ∧ o' 0 = srcB a.1 ∧ 1 < q') ∧ Drawn 8 7 a.2) := by
  intro s o q hI
  refine loop_wf (c := loopAt Tryz.f50 0) (N := 24)
    (fun k s o q => ∃ (sr : Src) (L : List Dn), s 0 = .ptr 0 0 ∧ Vis (s 3) o q L ∧ s 4 = .t (.int .i64 k) ∧ o 0 = srcB sr ∧ 1 < q ∧ k ≤ 7 ∧ Drawn (8 - (k : Int)) (7 - k) L ∧ sr.Ok (m + (7 - k) * 11000))
    (fun e s' o' q' => ∃ a : Src × List Dn, ((e = .exit 0 ∧ s' 0 = .ptr 0 0 ∧ Vis (s' 3) o' q' a.2 ∧ o' 0 = srcB a.1 ∧ 1 < q') ∧ Drawn 8 7 a.2)) ?_
    n0 s o q (by
      obtain ⟨h0, h3, h4, o0, o1, p1⟩ := hI
      exact ⟨src, [], h0, .inr ⟨1, h3, by simpa using o1, by omega, p1⟩, h4, o0, p1, hn0, ⟨by simp, by simp, by simp, by simp⟩, hs.up (Nat.le_add_right _ _)⟩)
  rintro k s o q ⟨sr, L, h0, hv, h4, o0, p1, hk, hD, hok⟩
  cases k with
  | zero =>
    simp at h4
    simp [loopAt, loopsOf, Tryz.f50, h4]
    exact ⟨sr, L, ⟨h0, hv, o0, p1⟩, hD.up (by simp) (by omega)⟩
  | succ k =>
    obtain ⟨d, s', hx, hxo, hat, hso⟩ := drawDone sr (m + (7 - (k + 1)) * 11000) (by omega) hok (9 - (k + 1)) (by omega) (by omega)
    have hso' : s'.Ok (m + (7 - k) * 11000) := hso.up (by omega)
    have hpos : (0 : Int) < (k : Int) + 1 := by omega
    have hw2 := wrap_nat (n := k) (by omega)
    have hsub : IntKind.i64.wrap (9 - ((k : Int) + 1)) = ((9 - (k + 1) : Nat) : Int) := by rw [wrap_of (by omega) (by omega)]; omega
    have hnx : Drawn (8 - (k : Int)) (7 - k) (certOut L d).1 := hD.next hxo (by rw [hat]; omega) (by omega) (by omega)
    have hcert := specCert L d (by have := hD.len; omega) hD.fit hxo
    have hcode := cert_code L d (by have := hD.len; omega)
    generalize hN : (9 - (k + 1) : Nat) = N at *
    obtain ⟨e1, e2, e3, e4, e5, e6, e7, e8⟩ : 0 ≠ q ∧ q ≠ 0 ∧ 0 ≠ q + 1 ∧ 0 ≠ q + 1 + 1 ∧ q ≠ q + 1 ∧ q + 1 ≠ q ∧ q ≠ q + 1 + 1 ∧ q + 1 ≠ q + 1 + 1 := by
      clear hsub hw2
      (repeat' apply And.intro) <;> omega
    by_cases hc : (certOut L d).2 = 0
    · rw [certX, if_pos hc, hc] at hcert
      rcases hv with hv | ⟨r, hv, hr, r0, rq⟩
      · simp at h4 hx hcert
        simp [loopAt, loopsOf, Tryz.f50, h0, h4, hv, o0, hpos, hw2, hsub, hx, hcert, e1, e2, e3, e4, e5, e6, e7, e8]
        exact ⟨k, by omega, s', (certOut L d).1, .inr ⟨q + 1 + 1, rfl, by simp [upd], by omega, by omega⟩, rfl, ⟨rfl, rfl, rfl⟩, by omega, hnx, hso'⟩
      · have g1 : r ≠ q := by omega
        have g2 : r ≠ q + 1 := by omega
        have g3 : 0 ≠ r := fun h => r0 h.symm
        have g4 : r ≠ q + 1 + 1 := by omega
        have g5 : q ≠ r := by omega
        have g6 : q + 1 ≠ r := by omega
        simp at h4 hx hcert
        simp [loopAt, loopsOf, Tryz.f50, h0, h4, hv, hr, r0, o0, hpos, hw2, hsub, hx, hcert, e1, e2, e3, e4, e5, e6, e7, e8, g1, g2, g3, g4, g5, g6]
        exact ⟨k, by omega, s', (certOut L d).1, .inr ⟨q + 1 + 1, rfl, by simp [upd], by omega, by omega⟩, rfl, ⟨rfl, rfl, rfl⟩, by omega, hnx, hso'⟩
    · have hL : (certOut L d).1 = L := by
        rcases hcode with ⟨h, _⟩ | ⟨_, h⟩
        · exact absurd h hc
        · exact h
      rw [hL] at hnx
      rw [certX, if_neg hc] at hcert
      generalize (certOut L d).2 = code at *
      rcases hv with hv | ⟨r, hv, hr, r0, rq⟩
      · simp at h4 hx hcert
        simp [loopAt, loopsOf, Tryz.f50, h0, h4, hv, o0, hpos, hw2, hsub, hx, hcert, e1, e2, e3, e4, e5, e6, e7, e8]
        exact ⟨k, by omega, s', L, .inl rfl, rfl, ⟨rfl, rfl, rfl⟩, by omega, hnx, hso'⟩
      · have g1 : r ≠ q := by omega
        have g2 : r ≠ q + 1 := by omega
        have g3 : 0 ≠ r := fun h => r0 h.symm
        have g4 : r ≠ q + 1 + 1 := by omega
        have g5 : q ≠ r := by omega
        have g6 : q + 1 ≠ r := by omega
        simp at h4 hx hcert
        simp [loopAt, loopsOf, Tryz.f50, h0, h4, hv, hr, r0, o0, hpos, hw2, hsub, hx, hcert, e1, e2, e3, e4, e5, e6, e7, e8, g1, g2, g3, g4, g5, g6]
        exact ⟨k, by omega, s', L, .inl rfl, rfl, ⟨rfl, rfl, rfl⟩, by omega, hnx, hso'⟩
theorem drawDones (s : Src) (m : Nat) (hm : m + 200000 < 1000000000) (h : s.Ok m) : ∃ (L : List Dn) (s' : Src), run E (.call 50 [srcX s]) = some (.res [.row 26 (L.map dnT)] [some (srcX s')]) ∧ Drawn 8 7 L := by
  obtain ⟨n0, s1, a1, b1, c1⟩ := srcNext s m (by omega) h 7 (by omega) (by omega)
  have hw : IntKind.i64.wrap (1 + (n0 : Int)) = ((n0 + 1 : Nat) : Int) := by rw [wrap_of (by omega) (by omega)]; omega
  have key := dones_loop (n0 + 1) (by omega) s1 (m + 1) (by omega) c1
  obtain ⟨Y, hY⟩ : ∃ Y, run E (.call 50 [srcX s]) = Y := ⟨_, rfl⟩
  rw [hY]
  rw [run_call E 50 _ rfl Tryz.func50 rfl rfl rfl (by simp)] at hY
  simp at a1
  simp [a1, hw] at hY
  obtain ⟨e, s', o', q', hr, ⟨s2, L⟩, ⟨he, h0, hv, o0, hq1⟩, hD⟩ := key
    (upd (upd (upd (upd (upd (upd (upd (fun i => [SV.ptr 0 0][i]?.getD SV.undef) 2 SV.nil) 5 (SV.row 1)) 3 (SV.row 1)) 6 (SV.ptr 0 0)) 7 (SV.t (T.int IntKind.i64 (n0 : Int)))) 8 (SV.t (T.int IntKind.i64 ((n0 : Int) + 1)))) 4 (SV.t (T.int IntKind.i64 ((n0 : Int) + 1))))
    (upd (upd (upd (upd (fun x => Ob.dead) 0 (srcB s)) 1 (Ob.row 26 [] true)) 0 Ob.dead) 0 (srcB s1)) 2
    (by simp)
  simp only [loopAt, loopsOf, Tryz.f50] at hr
  subst he
  replace hD : Drawn 8 7 L := hD
  replace hv : Vis (s' 3) o' q' L := hv
  replace o0 : o' 0 = srcB s2 := o0
  have hO := ownDones L (by have := hD.len; omega) (fun d hd => fit_L (hD.fit d hd))
  simp at hr
  rw [hr] at hY
  have g2 : 0 ≠ q' := by omega
  have g5 : q' ≠ 0 := by omega
  rcases hv with hv | ⟨r, hv, hr', r0, rq⟩
  · simp [hv, h0, o0, hO, g2, g5] at hY
    subst hY
    exact ⟨L, s2, rfl, hD⟩
  · have g1 : 0 ≠ r := fun h => r0 h.symm
    have g3 : r ≠ q' := by omega
    have g4 : q' ≠ r := by omega
    simp [hv, hr', r0, h0, o0, hO, g1, g2, g3, g4, g5] at hY
    subst hY
    exact ⟨L, s2, rfl, hD⟩
theorem donesOf (bs : Bytes) (h : bs.length ≤ 1048576) : ∃ L : List Dn, run E (.call 14 [.t (.list (bs.map byteT))]) = some (.res [.row 26 (L.map dnT)] []) ∧ Drawn 8 7 L := by
  obtain ⟨s, a1, a2⟩ := l00Source bs h
  obtain ⟨L, s', h3, h4⟩ := drawDones s 0 (by omega) a2
  refine ⟨L, ?_, h4⟩
  rw [run_call E 14 _ rfl Tryz.func14 rfl rfl rfl (by simp)]
  simp [a1, h3]
set_option maxHeartbeats 16000000
theorem specEdges_in (l : List Dn) (hn : l.length ≤ 30) (hf : ∀ d ∈ l, dnFit d) (i : Nat) (hi : i < l.length) (pre : List Nat) (hp : pre.length ≤ 2000) (r0 : Nat) : ∀ s o q, (s 0 = .t (.list (l.map dnT)) ∧ s 4 = .row r0 ∧ s 5 = .t (.int .i64 i) ∧ s 6 = .t (.int .i64 0) ∧ o r0 = .row 3 (pre.map intT) true ∧ r0 < q) →
    ∃ e s' o' q', run E (.code (.loop (loopAt Tryz.f15 1)) ⟨s, o, q, 48⟩) = some (.st e ⟨s', o', q', 48⟩) ∧ ∃ r : Nat, (e = .exit 2 ∧ s' 0 = .t (.list (l.map dnT)) ∧ s' 4 = .row r ∧ s' 5 = .t (.int .i64 i) ∧ o' r = .row 3 ((pre ++ edgesI l i l.length).map intT) true ∧ r < q') := by
  intro s o q hI
  have d12 := d15_12
  simp [regionOf, findR, pick, Tryz.f15] at d12
  have dd := fun st => run_region_draw E st 12 _ d12
  clear d12
  refine loop_for (c := loopAt Tryz.f15 1) (N := 48)
    (fun k s o q => ∃ r : Nat, s 0 = .t (.list (l.map dnT)) ∧ s 4 = .row r ∧ s 5 = .t (.int .i64 i) ∧ s 6 = .t (.int .i64 k) ∧ o r = .row 3 ((pre ++ edgesI l i k).map intT) true ∧ r < q)
    (fun e s' o' q' => ∃ r : Nat, (e = .exit 2 ∧ s' 0 = .t (.list (l.map dnT)) ∧ s' 4 = .row r ∧ s' 5 = .t (.int .i64 i) ∧ o' r = .row 3 ((pre ++ edgesI l i l.length).map intT) true ∧ r < q')) l.length ?_ ?_
    l.length 0 s o q (by omega) (by
      obtain ⟨h0, h4, h5, h6, ho, hq⟩ := hI
      exact ⟨r0, h0, h4, h5, h6, by simpa [edgesI] using ho, hq⟩)
  · rintro k s o q hk ⟨r, h0, h4, h5, h6, ho, hq⟩
    have hk' : (k : Int) < (l.length : Int) := by omega
    have hi' : (i : Int) < (l.length : Int) := by omega
    have hwk := wrap_succ (n := k) (by omega)
    have hxi : l[i]? = some l[i] := List.getElem?_eq_getElem hi
    have hxk : l[k]? = some l[k] := List.getElem?_eq_getElem hk
    have hc := specAhead l[i] l[k] (hf _ (List.getElem_mem hi)) (hf _ (List.getElem_mem hk))
    have hes := edgesI_succ l i k
    have hel := edgesI_len l i k
    rw [aheadAt_eq hi hk] at hes
    generalize aheadP l[i] l[k] = z at *
    generalize edgesI l i k = es at *
    have hr2 : ([0, 1] : List Nat) = List.range 2 := rfl
    have hq1 : r ≠ q := by omega
    have hq2 : q ≠ r := by omega
    have hcat : pre.length + es.length + 2 ≤ 140737488355328 := by omega
    have hcat2 : (pre.length + es.length + 2) * 8 ≤ 140737488355328 := by omega
    by_cases hik : i = k
    · subst hik
      simp at hes
      simp [loopAt, loopsOf, Tryz.f15, dd, h0, h4, h5, h6, ho, hi, hi', hwk, hes, hq]
    · have hik' : ¬ ((i : Int) = (k : Int)) := by omega
      have hbn : ((i : Int) != (k : Int)) = true := by simp; omega
      cases z with
      | false =>
        simp at hes
        simp [loopAt, loopsOf, Tryz.f15, dd, h0, h4, h5, h6, ho, hk', hi', hxi, hxk, hwk, hc, hik', hbn, hes, hq]
      | true =>
        simp [hik] at hes
        simp [loopAt, loopsOf, Tryz.f15, dd, h0, h4, h5, h6, ho, hk', hi', hxi, hxk, hwk, hc, hik', hbn, hes, hq, hr2, hq1, hq2, hcat, hcat2]
  · rintro s o q ⟨r, h0, h4, h5, h6, ho, hq⟩
    simp at ho
    simp [loopAt, loopsOf, Tryz.f15, h0, h4, h5, h6, ho, hq]
theorem specEdges_loop (l : List Dn) (hn : l.length ≤ 30) (hf : ∀ d ∈ l, dnFit d) (r0 : Nat) : ∀ s o q, (s 0 = .t (.list (l.map dnT)) ∧ s 4 = .row r0 ∧ s 5 = .t (.int .i64 0) ∧ o r0 = .row 3 [] true ∧ r0 < q) →
    ∃ e s' o' q', run E (.code (.loop (loopAt Tryz.f15 0)) ⟨s, o, q, 48⟩) = some (.st e ⟨s', o', q', 48⟩) ∧ ∃ r : Nat, (e = .exit 0 ∧ s' 4 = .row r ∧ o' r = .row 3 ((edgesP l l.length).map intT) true ∧ r < q') := by
  intro s o q hI
  refine loop_for (c := loopAt Tryz.f15 0) (N := 48)
    (fun i s o q => ∃ r : Nat, s 0 = .t (.list (l.map dnT)) ∧ s 4 = .row r ∧ s 5 = .t (.int .i64 i) ∧ o r = .row 3 ((edgesP l i).map intT) true ∧ r < q)
    (fun e s' o' q' => ∃ r : Nat, (e = .exit 0 ∧ s' 4 = .row r ∧ o' r = .row 3 ((edgesP l l.length).map intT) true ∧ r < q')) l.length ?_ ?_
    l.length 0 s o q (by omega) (by
      obtain ⟨h0, h4, h5, ho, hq⟩ := hI
      exact ⟨r0, h0, h4, h5, by simpa [edgesP] using ho, hq⟩)
  · rintro i s o q hi ⟨r, h0, h4, h5, ho, hq⟩
    have hi' : (i : Int) < (l.length : Int) := by omega
    have hwi := wrap_succ (n := i) (by omega)
    have hlen := edgesP_len l i
    have hlen2 : i * (2 * l.length) ≤ 2000 := by
      have := Nat.mul_le_mul (show i ≤ 30 by omega) (show 2 * l.length ≤ 60 by omega)
      omega
    obtain ⟨X, A, B, C, M, hx⟩ := sk1 (specEdges_in l hn hf i hi (edgesP l i) (by omega) r)
    simp only [loopAt, loopsOf, Tryz.f15] at hx
    rw [← edgesP_succ] at hx
    simp at hx
    simp [loopAt, loopsOf, Tryz.f15, h0, h4, h5, ho, hi', hwi, hq, hx]
  · rintro s o q ⟨r, h0, h4, h5, ho, hq⟩
    simp [loopAt, loopsOf, Tryz.f15, h0, h4, h5, ho, hq]
def edgesOut (l : List Dn) : List Nat × Int := if 4096 < l.length then ([], 2) else if donesOK l then (edgesP l l.length, 0) else ([], 1)
theorem dones_fit {l : List Dn} (h : donesOK l = true) (hs : ∀ d ∈ l, d.Sm) : l.length ≤ 30 ∧ ∀ d ∈ l, dnFit d := by
  unfold donesOK at h
  simp only [Bool.and_eq_true, decide_eq_true_eq] at h
  refine ⟨h.2, fun d hd => done_fit ?_ (hs d hd)⟩
  have h1 := steps_all.1 h.1
  obtain ⟨i, hi, rfl⟩ := List.getElem_of_mem hd
  have h2 := h1 i hi
  cases i with
  | zero =>
    rw [seq_zero hi] at h2
    unfold dnFine at h2
    simp only [Bool.and_eq_true] at h2
    exact h2.1
  | succ k =>
    rw [seq_succ hi] at h2
    unfold dnFine at h2
    simp only [Bool.and_eq_true] at h2
    exact h2.1.1
theorem specEdges (l : List Dn) (hl : l.length < 4294967296) (h : ∀ d ∈ l, d.Sm) : run E (.call 15 [.t (.list (l.map dnT))]) = some (.res [.row 3 ((edgesOut l).1.map intT), xI (edgesOut l).2] []) := by
  rw [run_call E 15 _ rfl Tryz.func15 rfl rfl rfl (by simp)]
  unfold edgesOut
  have h1 := specDones l hl h
  by_cases hlen : 4096 < l.length
  · have hlen' : (4096 : Int) < (l.length : Int) := by omega
    simp [hlen, hlen']
  · have hlen' : ¬ (4096 : Int) < (l.length : Int) := by omega
    cases hd : donesOK l with
    | false =>
      rw [hd] at h1
      simp [hlen, hlen', h1]
    | true =>
      rw [hd] at h1
      obtain ⟨hn, hf⟩ := dones_fit hd h
      obtain ⟨X, A, B, C, M, hx⟩ := sk1 (specEdges_loop l hn hf 0)
      simp only [loopAt, loopsOf, Tryz.f15] at hx
      simp at hx
      simp [hlen, hlen', h1, hx]
abbrev dnB (d : Dn) : Ob := .box 26 [.t (.int .i64 d.snap), .t (.int .i64 d.at_), .t (.list (d.reads.map rdT)), .t (.list (d.changes.map chgT)), .t (.bool d.inn), .t (.bool d.out)]
theorem implEdges_in (l : List Dn) (hn : l.length ≤ 30) (hf : ∀ d ∈ l, dnFit d) (i : Nat) (hi : i < l.length) (pre : List Nat) (hp : pre.length ≤ 2000) (r0 a : Nat) : ∀ s o q, (s 0 = .t (.list (l.map dnT)) ∧ s 4 = .row r0 ∧ s 5 = .t (.int .i64 i) ∧ s 6 = .ptr a 0 ∧ s 18 = .t (.list (l.map dnT)) ∧ s 19 = .t (.int .i64 l.length) ∧ s 20 = .t (.int .i64 i) ∧ s 25 = .t (.list (l.map dnT)) ∧ s 26 = .t (.int .i64 l.length) ∧ s 27 = .t (.int .i64 0) ∧ o r0 = .row 3 (pre.map intT) true ∧ o a = dnB l[i] ∧ r0 < q ∧ a < q ∧ r0 ≠ a) →
    ∃ e s' o' q', run E (.code (.loop (loopAt Tryz.f24 1)) ⟨s, o, q, 48⟩) = some (.st e ⟨s', o', q', 48⟩) ∧ ∃ r : Nat, (e = .exit 3 ∧ s' 0 = .t (.list (l.map dnT)) ∧ s' 4 = .row r ∧ s' 18 = .t (.list (l.map dnT)) ∧ s' 19 = .t (.int .i64 l.length) ∧ s' 20 = .t (.int .i64 i) ∧ o' r = .row 3 ((pre ++ edgesI l i l.length).map intT) true ∧ r < q') := by
  intro s o q hI
  refine loop_for (c := loopAt Tryz.f24 1) (N := 48)
    (fun k s o q => ∃ r : Nat, s 0 = .t (.list (l.map dnT)) ∧ s 4 = .row r ∧ s 5 = .t (.int .i64 i) ∧ s 6 = .ptr a 0 ∧ s 18 = .t (.list (l.map dnT)) ∧ s 19 = .t (.int .i64 l.length) ∧ s 20 = .t (.int .i64 i) ∧ s 25 = .t (.list (l.map dnT)) ∧ s 26 = .t (.int .i64 l.length) ∧ s 27 = .t (.int .i64 k) ∧ o r = .row 3 ((pre ++ edgesI l i k).map intT) true ∧ o a = dnB l[i] ∧ r < q ∧ a < q ∧ r ≠ a)
    (fun e s' o' q' => ∃ r : Nat, (e = .exit 3 ∧ s' 0 = .t (.list (l.map dnT)) ∧ s' 4 = .row r ∧ s' 18 = .t (.list (l.map dnT)) ∧ s' 19 = .t (.int .i64 l.length) ∧ s' 20 = .t (.int .i64 i) ∧ o' r = .row 3 ((pre ++ edgesI l i l.length).map intT) true ∧ r < q')) l.length ?_ ?_
    l.length 0 s o q (by omega) (by
      obtain ⟨h0, h4, h5, h6, h18, h19, h20, h25, h26, h27, ho, ha, hq, hqa, hra⟩ := hI
      exact ⟨r0, h0, h4, h5, h6, h18, h19, h20, h25, h26, h27, by simpa [edgesI] using ho, ha, hq, hqa, hra⟩)
  · rintro k s o q hk ⟨r, h0, h4, h5, h6, h18, h19, h20, h25, h26, h27, ho, ha, hq, hqa, hra⟩
    have hk' : (k : Int) < (l.length : Int) := by omega
    have hwk := wrap_succ (n := k) (by omega)
    have hxk : l[k]? = some l[k] := List.getElem?_eq_getElem hk
    have hc := implAhead l[i] l[k] (hf _ (List.getElem_mem hi)) (hf _ (List.getElem_mem hk))
    have hes := edgesI_succ l i k
    have hel := edgesI_len l i k
    rw [aheadAt_eq hi hk] at hes
    generalize aheadP l[i] l[k] = z at *
    generalize edgesI l i k = es at *
    have hr2 : ([0, 1] : List Nat) = List.range 2 := rfl
    have q1 : r ≠ q := by omega
    have q2 : q ≠ r := by omega
    have q3 : a ≠ q := by omega
    have q4 : q ≠ a := by omega
    have q5 : r ≠ q + 1 := by omega
    have q6 : q + 1 ≠ r := by omega
    have q7 : a ≠ q + 1 := by omega
    have q8 : a ≠ r := fun e => hra e.symm
    have q9 : a ≠ q + 1 + 1 := by omega
    have q10 : a ≠ q + 2 := by omega
    have hcat : pre.length + es.length + 2 ≤ 140737488355328 := by omega
    have hcat2 : (pre.length + es.length + 2) * 8 ≤ 140737488355328 := by omega
    by_cases hik : i = k
    · subst hik
      simp at hes
      simp [loopAt, loopsOf, Tryz.f24, h0, h4, h5, h6, h18, h19, h20, h25, h26, h27, ho, ha, hk, hk', hxk, hwk, hes, q1, q2, q3, q4, q8]
      try omega
    · have hik' : ¬ ((i : Int) = (k : Int)) := by omega
      have hbn : ((i : Int) != (k : Int)) = true := by simp; omega
      cases z with
      | false =>
        simp at hes
        simp [loopAt, loopsOf, Tryz.f24, h0, h4, h5, h6, h18, h19, h20, h25, h26, h27, ho, ha, hk, hk', hxk, hwk, hc, hik', hbn, hes, q1, q2, q3, q4, q8]
        try omega
      | true =>
        simp [hik] at hes
        simp [loopAt, loopsOf, Tryz.f24, h0, h4, h5, h6, h18, h19, h20, h25, h26, h27, ho, ha, hk, hk', hxk, hwk, hc, hik', hbn, hes, hr2, q1, q2, q3, q4, q5, q6, q7, q8, q9, q10, hcat, hcat2]
        try omega
  · rintro s o q ⟨r, h0, h4, h5, h6, h18, h19, h20, h25, h26, h27, ho, ha, hq, hqa, hra⟩
    simp at ho
    simp [loopAt, loopsOf, Tryz.f24, h0, h4, h5, h6, h18, h19, h20, h25, h26, h27, ho, hq]
theorem implEdges_loop (l : List Dn) (hn : l.length ≤ 30) (hf : ∀ d ∈ l, dnFit d) (r0 : Nat) : ∀ s o q, (s 0 = .t (.list (l.map dnT)) ∧ s 4 = .row r0 ∧ s 18 = .t (.list (l.map dnT)) ∧ s 19 = .t (.int .i64 l.length) ∧ s 20 = .t (.int .i64 0) ∧ o r0 = .row 3 [] true ∧ r0 < q) →
    ∃ e s' o' q', run E (.code (.loop (loopAt Tryz.f24 0)) ⟨s, o, q, 48⟩) = some (.st e ⟨s', o', q', 48⟩) ∧ ∃ r : Nat, (e = .exit 1 ∧ s' 4 = .row r ∧ o' r = .row 3 ((edgesP l l.length).map intT) true ∧ r < q') := by
  intro s o q hI
  refine loop_for (c := loopAt Tryz.f24 0) (N := 48)
    (fun i s o q => ∃ r : Nat, s 0 = .t (.list (l.map dnT)) ∧ s 4 = .row r ∧ s 18 = .t (.list (l.map dnT)) ∧ s 19 = .t (.int .i64 l.length) ∧ s 20 = .t (.int .i64 i) ∧ o r = .row 3 ((edgesP l i).map intT) true ∧ r < q)
    (fun e s' o' q' => ∃ r : Nat, (e = .exit 1 ∧ s' 4 = .row r ∧ o' r = .row 3 ((edgesP l l.length).map intT) true ∧ r < q')) l.length ?_ ?_
    l.length 0 s o q (by omega) (by
      obtain ⟨h0, h4, h18, h19, h20, ho, hq⟩ := hI
      exact ⟨r0, h0, h4, h18, h19, h20, by simpa [edgesP] using ho, hq⟩)
  · rintro i s o q hi ⟨r, h0, h4, h18, h19, h20, ho, hq⟩
    have hi' : (i : Int) < (l.length : Int) := by omega
    have hwi := wrap_succ (n := i) (by omega)
    have hxi : l[i]? = some l[i] := List.getElem?_eq_getElem hi
    have hlen := edgesP_len l i
    have hlen2 : i * (2 * l.length) ≤ 2000 := by
      have := Nat.mul_le_mul (show i ≤ 30 by omega) (show 2 * l.length ≤ 60 by omega)
      omega
    have q1 : r ≠ q := by omega
    have q2 : q ≠ r := by omega
    obtain ⟨X, A, B, C, M, hx⟩ := sk1 (implEdges_in l hn hf i hi (edgesP l i) (by omega) r q)
    simp only [loopAt, loopsOf, Tryz.f24] at hx
    rw [← edgesP_succ] at hx
    simp at hx
    have hrq : r < q + 1 := by omega
    simp [loopAt, loopsOf, Tryz.f24, h0, h4, h18, h19, h20, ho, hi, hi', hxi, hwi, hq, hrq, q1, q2, hx]
  · rintro s o q ⟨r, h0, h4, h18, h19, h20, ho, hq⟩
    simp [loopAt, loopsOf, Tryz.f24, h0, h4, h18, h19, h20, ho, hq]
def edgesX (l : List Dn) : X := if 4096 < l.length then .nil else if donesOK l then .row 3 ((edgesP l l.length).map intT) else .nil
theorem implEdges (l : List Dn) (hl : l.length < 4294967296) (h : ∀ d ∈ l, d.Sm) : run E (.call 24 [.t (.list (l.map dnT))]) = some (.res [edgesX l, xI (edgesOut l).2] []) := by
  rw [run_call E 24 _ rfl Tryz.func24 rfl rfl rfl (by simp)]
  unfold edgesOut edgesX
  have h1 := implDones l hl h
  by_cases hlen : 4096 < l.length
  · have hlen' : (4096 : Int) < (l.length : Int) := by omega
    simp [hlen, hlen']
  · have hlen' : ¬ (4096 : Int) < (l.length : Int) := by omega
    cases hd : donesOK l with
    | false =>
      rw [hd] at h1
      simp [hlen, hlen', h1]
    | true =>
      rw [hd] at h1
      obtain ⟨hn, hf⟩ := dones_fit hd h
      obtain ⟨X, A, B, C, M, hx⟩ := sk1 (implEdges_loop l hn hf 0)
      simp only [loopAt, loopsOf, Tryz.f24] at hx
      simp at hx
      simp [hlen, hlen', h1, hx]
set_option maxHeartbeats 4000000
theorem sameInts_self (xs : List Nat) (hl : xs.length < 4294967296) : run E (.call 18 [.t (.list (xs.map intT)), .t (.list (xs.map intT))]) = some (.res [xB true] []) := by
  rw [run_call E 18 _ rfl Tryz.func18 rfl rfl rfl (by simp)]
  have d6 := d18_6
  simp [regionOf, findR, pick, Tryz.f18] at d6
  have dd := fun st => run_region_draw E st 6 _ d6
  clear d6
  have lp := sk (fun s o q hI => loop_for (c := loopAt Tryz.f18 0) (N := 26)
    (fun i s o q => s 0 = .t (.list (xs.map intT)) ∧ s 1 = .t (.list (xs.map intT)) ∧ s 5 = .t (.int .i64 i))
    (fun e s' o' q' => e = .exit 0) xs.length
    (by
      rintro i s o q hi ⟨h0, h1, h5⟩
      have hi' : (i : Int) < (xs.length : Int) := by omega
      have hw := wrap_succ (n := i) (by omega)
      have hxi : xs[i]? = some xs[i] := List.getElem?_eq_getElem hi
      simp [loopAt, loopsOf, Tryz.f18, dd, h0, h1, h5, hi, hi', hxi, hw])
    (by
      rintro s o q ⟨h0, h1, h5⟩
      simp [loopAt, loopsOf, Tryz.f18, h0, h1, h5])
    xs.length 0 s o q (by omega) hI)
  obtain ⟨X, A, B, C, hx⟩ := lp
  simp only [loopAt, loopsOf, Tryz.f18] at hx
  simp at hx
  simp [hx]
theorem nodup_inj {w : List Nat} (h : w.Nodup) {a b : Nat} (ha : a < w.length) (hb : b < w.length) (e : w[a] = w[b]) : a = b := by
  rcases Nat.lt_trichotomy a b with h1 | h1 | h1
  · exact absurd e (List.pairwise_iff_getElem.1 h a b ha hb h1)
  · exact h1
  · exact absurd e.symm (List.pairwise_iff_getElem.1 h b a hb ha h1)
theorem contains_snoc (l : List Nat) (x j : Nat) : (l ++ [x]).contains j = (l.contains j || j == x) := by
  rw [Bool.eq_iff_iff]
  simp only [List.contains_iff_mem, List.mem_append, List.mem_singleton, Bool.or_eq_true, beq_iff_eq]
/-- What the first loop has laid down. -/
structure Placed (w : List Nat) (n i : Nat) (P : List Nat) (S : List Bool) : Prop where
  pl : P.length = n
  sl : S.length = n
  seen : ∀ j, j < n → S[j]? = some ((w.take i).contains j)
  at_ : ∀ a (ha : a < w.length), a < i → P[w[a]]? = some a
theorem Placed.next {w : List Nat} {n i : Nat} {P : List Nat} {S : List Bool} (h : Placed w n i P S) (hp : w.Perm (List.range n)) (hi : i < w.length) : Placed w n (i + 1) (P.set w[i] i) (S.set w[i] true) ∧ S[w[i]]? = some false ∧ w[i] < n := by
  have hn : w.Nodup := hp.nodup_iff.2 List.nodup_range
  have hlt : w[i] < n := by simpa using hp.mem_iff.1 (List.getElem_mem hi)
  have hns : (w.take i).contains w[i] = false := by
    rw [Bool.eq_false_iff]
    intro hc
    have hm : w[i] ∈ w.take i := by simpa using hc
    obtain ⟨a, ha, hE⟩ := List.getElem_of_mem hm
    rw [List.getElem_take] at hE
    rw [List.length_take] at ha
    have := nodup_inj hn _ _ hE
    omega
  refine ⟨⟨by simp [h.pl], by simp [h.sl], fun j hj => ?_, fun a ha hai => ?_⟩, by rw [h.seen _ hlt, hns], hlt⟩
  · have ht : w.take (i + 1) = w.take i ++ [w[i]] := by rw [List.take_add_one, List.getElem?_eq_getElem hi]; rfl
    rw [List.getElem?_set, ht, contains_snoc]
    by_cases hw : w[i] = j
    · subst hw
      rw [if_pos rfl, if_pos (by rw [h.sl]; exact hlt), beq_self_eq_true, Bool.or_true]
    · rw [if_neg hw, h.seen j hj]
      have : (j == w[i]) = false := by rw [beq_eq_false_iff_ne]; exact fun e => hw e.symm
      rw [this, Bool.or_false]
  · rw [List.getElem?_set]
    by_cases hw : w[i] = w[a]
    · have := nodup_inj hn hi ha hw
      subst this
      rw [if_pos rfl, if_pos (by rw [h.pl]; exact hlt)]
    · rw [if_neg hw]
      exact h.at_ a ha (by
        rcases Nat.lt_or_ge a i with h1 | h1
        · exact h1
        · have : a = i := by omega
          subst this
          exact absurd rfl hw)
theorem sameChanges_self (xs : List Chg) (hl : xs.length < 4294967296) : run E (.call 64 [.t (.list (xs.map chgT)), .t (.list (xs.map chgT))]) = some (.res [xB true] []) := by
  rw [run_call E 64 _ rfl Tryz.func64 rfl rfl rfl (by simp)]
  have d6 := d64_6
  simp [regionOf, findR, pick, Tryz.f64] at d6
  have dd := fun st => run_region_draw E st 6 _ d6
  clear d6
  have lp := sk (fun s o q hI => loop_for (c := loopAt Tryz.f64 0) (N := 26)
    (fun i s o q => s 0 = .t (.list (xs.map chgT)) ∧ s 1 = .t (.list (xs.map chgT)) ∧ s 5 = .t (.int .i64 i))
    (fun e s' o' q' => e = .exit 0) xs.length
    (by
      rintro i s o q hi ⟨h0, h1, h5⟩
      have hi' : (i : Int) < (xs.length : Int) := by omega
      have hw := wrap_succ (n := i) (by omega)
      have hxi : xs[i]? = some xs[i] := List.getElem?_eq_getElem hi
      simp [loopAt, loopsOf, Tryz.f64, dd, h0, h1, h5, hi, hi', hxi, hw])
    (by
      rintro s o q ⟨h0, h1, h5⟩
      simp [loopAt, loopsOf, Tryz.f64, h0, h1, h5])
    xs.length 0 s o q (by omega) hI)
  obtain ⟨X, A, B, C, hx⟩ := lp
  simp only [loopAt, loopsOf, Tryz.f64] at hx
  simp at hx
  simp [hx]
abbrev filBx (f : List (List Trm)) : Ob := .box 34 [.t (.list (f.map clsT))]
theorem sameFilter_in (f : List (List Trm)) (i : Nat) (hi : i < f.length) (hc : f[i].length < 4294967296) (hl : f.length < 4294967296) : ∀ s o q, (s 2 = .ptr 0 0 ∧ s 3 = .ptr 1 0 ∧ s 5 = .t (.int .i64 i) ∧ s 6 = .t (.int .i64 0) ∧ o 0 = filBx f ∧ o 1 = filBx f) →
    ∃ e s' o' q', run E (.code (.loop (loopAt Tryz.f123 1)) ⟨s, o, q, 66⟩) = some (.st e ⟨s', o', q', 66⟩) ∧ (e = .exit 2 ∧ s' 2 = .ptr 0 0 ∧ s' 3 = .ptr 1 0 ∧ s' 5 = .t (.int .i64 i) ∧ o' = o ∧ q' = q) := by
  intro s o q hI
  have d11 := d123_11
  simp [regionOf, findR, pick, Tryz.f123] at d11
  have dd := fun st => run_region_draw E st 11 _ d11
  clear d11
  have hxi : f[i]? = some f[i] := List.getElem?_eq_getElem hi
  have hi' : (i : Int) < (f.length : Int) := by omega
  obtain ⟨_, _, _, _, o0, o1⟩ := hI
  refine loop_for (c := loopAt Tryz.f123 1) (N := 66)
    (fun k s o' q' => s 2 = .ptr 0 0 ∧ s 3 = .ptr 1 0 ∧ s 5 = .t (.int .i64 i) ∧ s 6 = .t (.int .i64 k) ∧ o' = o ∧ q' = q)
    (fun e s' o' q' => e = .exit 2 ∧ s' 2 = .ptr 0 0 ∧ s' 3 = .ptr 1 0 ∧ s' 5 = .t (.int .i64 i) ∧ o' = o ∧ q' = q) f[i].length ?_ ?_
    f[i].length 0 s o q (by omega) ⟨by assumption, by assumption, by assumption, by assumption, rfl, rfl⟩
  · rintro k s o' q' hk ⟨h2, h3, h5, h6, ho, hq⟩
    have hk' : (k : Int) < (f[i].length : Int) := by omega
    have hw := wrap_succ (n := k) (by omega)
    have hxk : f[i][k]? = some f[i][k] := List.getElem?_eq_getElem hk
    simp [loopAt, loopsOf, Tryz.f123, dd, h2, h3, h5, h6, ho, hq, o0, o1, hi, hi', hxi, hk, hk', hxk, hw]
  · rintro s o' q' ⟨h2, h3, h5, h6, ho, hq⟩
    simp [loopAt, loopsOf, Tryz.f123, h2, h3, h5, h6, ho, hq, o0, o1, hi, hi', hxi]
theorem sameFilter_self (f : List (List Trm)) (hl : f.length < 4294967296) (hc : ∀ c ∈ f, c.length < 4294967296) : run E (.call 123 [.t (filT f), .t (filT f)]) = some (.res [xB true] []) := by
  rw [run_call E 123 _ rfl Tryz.func123 rfl rfl rfl (by simp)]
  have d6 := d123_6
  simp [regionOf, findR, pick, Tryz.f123] at d6
  have dd := fun st => run_region_draw E st 6 _ d6
  clear d6
  have lp := sk (fun s o q hI => loop_for (c := loopAt Tryz.f123 0) (N := 66)
    (fun i s o q => s 2 = .ptr 0 0 ∧ s 3 = .ptr 1 0 ∧ s 5 = .t (.int .i64 i) ∧ o 0 = filBx f ∧ o 1 = filBx f)
    (fun e s' o' q' => e = .exit 0) f.length
    (by
      rintro i s o q hi ⟨h2, h3, h5, o0, o1⟩
      have hi' : (i : Int) < (f.length : Int) := by omega
      have hw := wrap_succ (n := i) (by omega)
      have hxi : f[i]? = some f[i] := List.getElem?_eq_getElem hi
      obtain ⟨X, A, B, C, hx⟩ := sk (sameFilter_in f i hi (hc _ (List.getElem_mem hi)) hl)
      simp only [loopAt, loopsOf, Tryz.f123] at hx
      simp at hx
      simp [loopAt, loopsOf, Tryz.f123, dd, h2, h3, h5, o0, o1, hi, hi', hxi, hw, hx])
    (by
      rintro s o q ⟨h2, h3, h5, o0, o1⟩
      simp [loopAt, loopsOf, Tryz.f123, h2, h3, h5, o0, o1])
    f.length 0 s o q (by omega) hI)
  obtain ⟨X, A, B, C, hx⟩ := lp
  simp only [loopAt, loopsOf, Tryz.f123] at hx
  simp at hx
  simp [hx]
theorem sameReads_self (xs : List Rd) (hl : xs.length < 4294967296) (hr : ∀ r ∈ xs, RdL r) : run E (.call 63 [.t (.list (xs.map rdT)), .t (.list (xs.map rdT))]) = some (.res [xB true] []) := by
  rw [run_call E 63 _ rfl Tryz.func63 rfl rfl rfl (by simp)]
  have d6 := d63_6
  simp [regionOf, findR, pick, Tryz.f63] at d6
  have dd := fun st => run_region_draw E st 6 _ d6
  clear d6
  have lp := sk (fun s o q hI => loop_for (c := loopAt Tryz.f63 0) (N := 42)
    (fun i s o q => s 0 = .t (.list (xs.map rdT)) ∧ s 1 = .t (.list (xs.map rdT)) ∧ s 5 = .t (.int .i64 i))
    (fun e s' o' q' => e = .exit 0) xs.length
    (by
      rintro i s o q hi ⟨h0, h1, h5⟩
      have hi' : (i : Int) < (xs.length : Int) := by omega
      have hw := wrap_succ (n := i) (by omega)
      have hxi : xs[i]? = some xs[i] := List.getElem?_eq_getElem hi
      have hri := hr _ (List.getElem_mem hi)
      have hf := sameFilter_self xs[i].filter hri.1 hri.2
      simp [loopAt, loopsOf, Tryz.f63, dd, h0, h1, h5, hi, hi', hxi, hw, hf])
    (by
      rintro s o q ⟨h0, h1, h5⟩
      simp [loopAt, loopsOf, Tryz.f63, h0, h1, h5])
    xs.length 0 s o q (by omega) hI)
  obtain ⟨X, A, B, C, hx⟩ := lp
  simp only [loopAt, loopsOf, Tryz.f63] at hx
  simp at hx
  simp [hx]
theorem sameDones_self (xs : List Dn) (hl : xs.length < 4294967296) (hr : ∀ d ∈ xs, DnL d) : run E (.call 21 [.t (.list (xs.map dnT)), .t (.list (xs.map dnT))]) = some (.res [xB true] []) := by
  rw [run_call E 21 _ rfl Tryz.func21 rfl rfl rfl (by simp)]
  have d6 := d21_6
  simp [regionOf, findR, pick, Tryz.f21] at d6
  have dd := fun st => run_region_draw E st 6 _ d6
  clear d6
  have lp := sk (fun s o q hI => loop_for (c := loopAt Tryz.f21 0) (N := 95)
    (fun i s o q => s 0 = .t (.list (xs.map dnT)) ∧ s 1 = .t (.list (xs.map dnT)) ∧ s 5 = .t (.int .i64 i))
    (fun e s' o' q' => e = .exit 0) xs.length
    (by
      rintro i s o q hi ⟨h0, h1, h5⟩
      have hi' : (i : Int) < (xs.length : Int) := by omega
      have hw := wrap_succ (n := i) (by omega)
      have hxi : xs[i]? = some xs[i] := List.getElem?_eq_getElem hi
      have hri := hr _ (List.getElem_mem hi)
      have h1' := sameReads_self xs[i].reads hri.1 hri.2.1
      have h2' := sameChanges_self xs[i].changes hri.2.2
      simp [loopAt, loopsOf, Tryz.f21, dd, h0, h1, h5, hi, hi', hxi, hw, h1', h2'])
    (by
      rintro s o q ⟨h0, h1, h5⟩
      simp [loopAt, loopsOf, Tryz.f21, h0, h1, h5])
    xs.length 0 s o q (by omega) hI)
  obtain ⟨X, A, B, C, hx⟩ := lp
  simp only [loopAt, loopsOf, Tryz.f21] at hx
  simp at hx
  simp [hx]
theorem cloneTerms (xs : List Trm) (hl : xs.length < 4294967296) : run E (.call 263 [.t (.list (xs.map trmT))]) = some (.res [.row 154 (xs.map trmT)] []) := by
  rw [run_ext E 263 _ rfl]
  have h1 : ((xs.map trmT).all fun x => x.cells.length == 5) = true := by
    rw [List.all_eq_true]
    intro x hx
    obtain ⟨t, _, rfl⟩ := List.mem_map.1 hx
    rfl
  simp only [h1, List.length_map, hl, and_self, if_true, Option.map_some]
theorem cloneChanges (xs : List Chg) (hl : xs.length < 4294967296) : run E (.call 175 [.t (.list (xs.map chgT))]) = some (.res [.row 42 (xs.map chgT)] []) := by
  rw [run_ext E 175 _ rfl]
  have h1 : ((xs.map chgT).all fun x => x.cells.length == 10) = true := by
    rw [List.all_eq_true]
    intro x hx
    obtain ⟨t, _, rfl⟩ := List.mem_map.1 hx
    rfl
  simp only [h1, List.length_map, hl, and_self, if_true, Option.map_some]
theorem cloneDones (xs : List Dn) (hl : xs.length < 4294967296) : run E (.call 60 [.t (.list (xs.map dnT))]) = some (.res [.row 26 (xs.map dnT)] []) := by
  rw [run_ext E 60 _ rfl]
  have h1 : ((xs.map dnT).all fun x => x.cells.length == 6) = true := by
    rw [List.all_eq_true]
    intro x hx
    obtain ⟨t, _, rfl⟩ := List.mem_map.1 hx
    rfl
  simp only [h1, List.length_map, hl, and_self, if_true, Option.map_some]
def filX (f : List (List Trm)) : X := if f = [] then .nil else .row 151 (f.map clsT)
/-- What stands in the box of a filter's copy. -/
def FilAt (f : List (List Trm)) (k : Nat) (o : Nat → Ob) (q : Nat) : Prop := (k = 0 ∧ o 2 = .box 34 [.nil]) ∨ (0 < k ∧ ∃ r, o 2 = .box 34 [.row r] ∧ o r = .row 151 ((f.take k).map clsT) true ∧ 2 < r ∧ r < q)
theorem cloneFilter_loop (f : List (List Trm)) (hl : f.length < 4294967296) (hc : ∀ c ∈ f, c.length < 4294967296) (b2 : Ob) : ∀ s o q, (s 2 = .ptr 1 0 ∧ s 3 = .ptr 2 0 ∧ s 8 = .t (.list (f.map clsT)) ∧ s 9 = .t (.int .i64 f.length) ∧ s 10 = .t (.int .i64 0) ∧ o 1 = b2 ∧ o 2 = .box 34 [.nil] ∧ 2 < q) →
    ∃ e s' o' q', run E (.code (.loop (loopAt Tryz.f222 0)) ⟨s, o, q, 25⟩) = some (.st e ⟨s', o', q', 25⟩) ∧ ∃ r : Nat, (e = .exit 0 ∧ s' 2 = .ptr 1 0 ∧ s' 3 = .ptr 2 0 ∧ o' 1 = b2 ∧ (f = [] → o' 2 = .box 34 [.nil]) ∧ (f ≠ [] → o' 2 = .box 34 [.row r] ∧ o' r = .row 151 (f.map clsT) true ∧ r ≠ 1 ∧ r ≠ 2 ∧ 1 ≠ r ∧ 2 ≠ r)) := by
  intro s o q hI
  have n5 := n222_5
  have s5 := s222_5
  simp [regionOf, findR, pick, Tryz.f222] at n5 s5
  have dd := fun st => run_region_drawS E st 5 _ n5 s5
  clear n5 s5
  refine loop_for (c := loopAt Tryz.f222 0) (N := 25)
    (fun k s o q => s 2 = .ptr 1 0 ∧ s 3 = .ptr 2 0 ∧ s 8 = .t (.list (f.map clsT)) ∧ s 9 = .t (.int .i64 f.length) ∧ s 10 = .t (.int .i64 k) ∧ o 1 = b2 ∧ FilAt f k o q ∧ 2 < q)
    (fun e s' o' q' => ∃ r : Nat, (e = .exit 0 ∧ s' 2 = .ptr 1 0 ∧ s' 3 = .ptr 2 0 ∧ o' 1 = b2 ∧ (f = [] → o' 2 = .box 34 [.nil]) ∧ (f ≠ [] → o' 2 = .box 34 [.row r] ∧ o' r = .row 151 (f.map clsT) true ∧ r ≠ 1 ∧ r ≠ 2 ∧ 1 ≠ r ∧ 2 ≠ r))) f.length ?_ ?_
    f.length 0 s o q (by omega) (by
      obtain ⟨h2, h3, h8, h9, h10, o1, o2, p⟩ := hI
      exact ⟨h2, h3, h8, h9, h10, o1, .inl ⟨rfl, o2⟩, p⟩)
  · rintro k s o q hk ⟨h2, h3, h8, h9, h10, o1, hA, p⟩
    have hk' : (k : Int) < (f.length : Int) := by omega
    have hw := wrap_succ (n := k) (by omega)
    have hxk : f[k]? = some f[k] := List.getElem?_eq_getElem hk
    have hcl := hc _ (List.getElem_mem hk)
    have hT := cloneTerms f[k] hcl
    obtain ⟨e1, e2, e3, e4, e5, e6, e7, e8, e9, f1, f2, f3, f4, f5, f6, f7, f8, f9, g1, g2, g3⟩ : (q ≠ q + 1) ∧ (q ≠ q + 1 + 1) ∧ (q ≠ q + 1 + 1 + 1) ∧ (q + 1 ≠ q + 1 + 1) ∧ (q + 1 ≠ q + 1 + 1 + 1) ∧ (q + 1 + 1 ≠ q + 1 + 1 + 1) ∧ (q + 1 ≠ q) ∧ (q + 1 + 1 ≠ q) ∧ (q + 1 + 1 + 1 ≠ q) ∧ 1 ≠ q ∧ 2 ≠ q ∧ 1 ≠ q + 1 ∧ 2 ≠ q + 1 ∧ 1 ≠ q + 1 + 1 ∧ 2 ≠ q + 1 + 1 ∧ 1 ≠ q + 1 + 1 + 1 ∧ 2 ≠ q + 1 + 1 + 1 ∧ q ≠ 1 ∧ q ≠ 2 ∧ q ≠ 0 ∧ q + 1 ≠ 2 := by
      clear hw hcl hT
      (repeat' apply And.intro) <;> omega
    have ht : f.take (k + 1) = f.take k ++ [f[k]] := by rw [List.take_add_one, hxk]; rfl
    have hm : min k f.length = k := Nat.min_eq_left (by omega)
    have hc3 : k + 1 ≤ 140737488355328 := by omega
    have hc4 : (k + 1) * 24 ≤ 140737488355328 := by omega
    rcases hA with ⟨hk0, o2⟩ | ⟨hk0, r, o2, oR, r2, rq⟩
    · subst hk0
      try simp at hT
      simp [loopAt, loopsOf, Tryz.f222, dd, h2, h3, h8, h9, h10, o1, o2, hk, hk', hxk, hw, hT, e1, e2, e3, e4, e5, e6, e7, e8, e9, f1, f2, f3, f4, f5, f6, f7, f8, f9, g1, g2, g3]
      refine ⟨.inr ⟨by omega, q + 1, by simp [upd], ?_, by omega, by omega⟩, by omega⟩
      have hq2 : q + 1 ≠ 2 := g3
      rw [show List.take 1 f = [f[0]] from ht]
      simp [upd, hq2]
      try omega
    · have k1 : r ≠ q := by omega
      have k2 : r ≠ q + 1 := by omega
      have k3 : r ≠ q + 1 + 1 := by omega
      have k4 : r ≠ 1 := by omega
      have k5 : r ≠ 2 := by omega
      have k6 : 1 ≠ r := by omega
      have k7 : 2 ≠ r := by omega
      have k8 : q ≠ r := by omega
      have k9 : q + 1 ≠ r := by omega
      try simp at hT
      simp [loopAt, loopsOf, Tryz.f222, dd, h2, h3, h8, h9, h10, o1, o2, oR, hk, hk', hxk, hw, hT, hm, hc3, hc4, e1, e2, e3, e4, e5, e6, e7, e8, e9, f1, f2, f3, f4, f5, f6, f7, f8, f9, g1, g2, g3, k1, k2, k3, k4, k5, k6, k7, k8, k9]
      refine ⟨.inr ⟨by omega, q + 1, by simp [upd], ?_, by omega, by omega⟩, by omega⟩
      have hq2 : q + 1 ≠ 2 := g3
      rw [ht, List.map_append, List.map_take]
      simp [upd, hq2]
      try omega
  · rintro s o q ⟨h2, h3, h8, h9, h10, o1, hA, p⟩
    simp [loopAt, loopsOf, Tryz.f222, h2, h3, h8, h9, h10, o1]
    rcases hA with ⟨hk0, o2⟩ | ⟨hk0, r, o2, oR, r2, rq⟩
    · exact ⟨fun _ => o2, 0, fun h => absurd (List.length_eq_zero_iff.1 hk0) h⟩
    · rw [List.take_of_length_le (Nat.le_refl _)] at oR
      exact ⟨fun h => (by subst h; simp at hk0), r, fun _ => ⟨o2, oR, by omega, by omega, by omega, by omega⟩⟩
theorem cloneFilter (f : List (List Trm)) (hl : f.length < 4294967296) (hc : ∀ c ∈ f, c.length < 4294967296) : run E (.call 222 [.t (filT f)]) = some (.res [.agg [filX f]] []) := by
  rw [run_call E 222 _ rfl Tryz.func222 rfl rfl rfl (by simp)]
  obtain ⟨X, A, B, C, M, hx⟩ := sk1 (cloneFilter_loop f hl hc (.box 34 [.nil]))
  simp only [loopAt, loopsOf, Tryz.f222] at hx
  unfold filX
  by_cases hf : f = []
  · subst hf
    simp at hx
    simp [hx]
  · simp [hf] at hx
    simp [hx, hf]
theorem cloneReads_loop (rs : List Rd) (hl : rs.length < 4294967296) (hr : ∀ r ∈ rs, RdL r) (hne : ∀ r ∈ rs, r.filter ≠ []) : ∀ s o q, (s 3 = .row 0 ∧ s 7 = .t (.list (rs.map rdT)) ∧ s 8 = .t (.int .i64 rs.length) ∧ s 9 = .t (.int .i64 0) ∧ o 0 = .row 36 [] true ∧ 0 < q) →
    ∃ e s' o' q', run E (.code (.loop (loopAt Tryz.f174 0)) ⟨s, o, q, 24⟩) = some (.st e ⟨s', o', q', 24⟩) ∧ ∃ r : Nat, (e = .exit 0 ∧ s' 3 = .row r ∧ o' r = .row 36 (rs.map rdT) true) := by
  intro s o q hI
  have d5 := d174_5
  simp [regionOf, findR, pick, Tryz.f174] at d5
  have dd := fun st => run_region_draw E st 5 _ d5
  clear d5
  refine loop_for (c := loopAt Tryz.f174 0) (N := 24)
    (fun i s o q => ∃ r : Nat, s 3 = .row r ∧ s 7 = .t (.list (rs.map rdT)) ∧ s 8 = .t (.int .i64 rs.length) ∧ s 9 = .t (.int .i64 i) ∧ o r = .row 36 ((rs.take i).map rdT) true ∧ r < q)
    (fun e s' o' q' => ∃ r : Nat, (e = .exit 0 ∧ s' 3 = .row r ∧ o' r = .row 36 (rs.map rdT) true)) rs.length ?_ ?_
    rs.length 0 s o q (by omega) ⟨0, hI.1, hI.2.1, hI.2.2.1, hI.2.2.2.1, by simpa using hI.2.2.2.2.1, hI.2.2.2.2.2⟩
  · rintro i s o q hi ⟨r, h3, h7, h8, h9, oR, p1⟩
    have hi' : (i : Int) < (rs.length : Int) := by omega
    have hw := wrap_succ (n := i) (by omega)
    have hxi : rs[i]? = some rs[i] := List.getElem?_eq_getElem hi
    have hri := hr _ (List.getElem_mem hi)
    have hF := cloneFilter rs[i].filter hri.1 hri.2
    have hm : min i rs.length = i := Nat.min_eq_left (by omega)
    have hc3 : i + 1 ≤ 140737488355328 := by omega
    have hc4 : (i + 1) * 40 ≤ 140737488355328 := by omega
    obtain ⟨a1, a2, a3, a4, a5, a6, f1, f2, f3, f4, f5, f6, f7, f8, f9⟩ : r ≠ q ∧ q ≠ r ∧ r ≠ q + 1 ∧ r ≠ q + 1 + 1 ∧ r ≠ q + 1 + 1 + 1 ∧ q + 1 ≠ r ∧ (q ≠ q + 1) ∧ (q ≠ q + 1 + 1) ∧ (q ≠ q + 1 + 1 + 1) ∧ (q + 1 ≠ q + 1 + 1) ∧ (q + 1 ≠ q + 1 + 1 + 1) ∧ (q + 1 + 1 ≠ q + 1 + 1 + 1) ∧ (q + 1 ≠ q) ∧ (q + 1 + 1 ≠ q) ∧ (q + 1 + 1 + 1 ≠ q) := by
      clear hc3 hc4 hw hF hri
      (repeat' apply And.intro) <;> omega
    unfold filX at hF
    have hf : ¬ rs[i].filter = [] := hne _ (List.getElem_mem hi)
    simp [hf] at hF
    simp [loopAt, loopsOf, Tryz.f174, dd, h3, h7, h8, h9, oR, hi, hi', hxi, hw, hF, hf, hm, hc3, hc4, a1, a2, a3, a4, a5, a6, f1, f2, f3, f4, f5, f6, f7, f8, f9]
    exact take_snoc rdT rs i hi
  · rintro s o q ⟨r, h3, h7, h8, h9, oR, p1⟩
    rw [List.take_of_length_le (Nat.le_refl _)] at oR
    simp [loopAt, loopsOf, Tryz.f174, h3, h7, h8, h9, oR]
theorem cloneReads (rs : List Rd) (hl : rs.length < 4294967296) (hr : ∀ r ∈ rs, RdL r) (hne : ∀ r ∈ rs, r.filter ≠ []) : run E (.call 174 [.t (.list (rs.map rdT))]) = some (.res [.row 36 (rs.map rdT)] []) := by
  rw [run_call E 174 _ rfl Tryz.func174 rfl rfl rfl (by simp)]
  obtain ⟨X, S, O, Q, M, hx⟩ := sk1 (cloneReads_loop rs hl hr hne)
  simp only [loopAt, loopsOf, Tryz.f174] at hx
  simp at hx
  simp [hx]
/-- What impl's copies ask. -/
structure DnK (d : Dn) : Prop where
  l : DnL d
  ne : ∀ r ∈ d.reads, r.filter ≠ []
theorem cloneDn (d : Dn) (h : DnK d) : run E (.call 121 [.t (dnT d)]) = some (.res [dnX0 d] []) := by
  rw [run_call E 121 _ rfl Tryz.func121 rfl rfl rfl (by simp)]
  have d1 := d121_1
  simp [regionOf, findR, pick, Tryz.f121] at d1
  have dd := fun st => run_region_draw E st 1 _ d1
  clear d1
  have h1 := cloneReads d.reads h.l.1 h.l.2.1 h.ne
  have h2 := cloneChanges d.changes h.l.2.2
  simp [dd, h1, h2]
theorem cloneDone_loop (l : List Dn) (hl : l.length < 4294967296) (hd : ∀ d ∈ l, DnK d) : ∀ s o q, (s 3 = .row 0 ∧ s 7 = .t (.list (l.map dnT)) ∧ s 8 = .t (.int .i64 l.length) ∧ s 9 = .t (.int .i64 0) ∧ o 0 = .row 26 [] true ∧ 0 < q) →
    ∃ e s' o' q', run E (.code (.loop (loopAt Tryz.f59 0)) ⟨s, o, q, 20⟩) = some (.st e ⟨s', o', q', 20⟩) ∧ ∃ r : Nat, (e = .exit 0 ∧ s' 3 = .row r ∧ o' r = .row 26 (l.map dnT) true) := by
  intro s o q hI
  refine loop_for (c := loopAt Tryz.f59 0) (N := 20)
    (fun i s o q => ∃ r : Nat, s 3 = .row r ∧ s 7 = .t (.list (l.map dnT)) ∧ s 8 = .t (.int .i64 l.length) ∧ s 9 = .t (.int .i64 i) ∧ o r = .row 26 ((l.take i).map dnT) true ∧ r < q)
    (fun e s' o' q' => ∃ r : Nat, (e = .exit 0 ∧ s' 3 = .row r ∧ o' r = .row 26 (l.map dnT) true)) l.length ?_ ?_
    l.length 0 s o q (by omega) ⟨0, hI.1, hI.2.1, hI.2.2.1, hI.2.2.2.1, by simpa using hI.2.2.2.2.1, hI.2.2.2.2.2⟩
  · rintro i s o q hi ⟨r, h3, h7, h8, h9, oR, p1⟩
    have hi' : (i : Int) < (l.length : Int) := by omega
    have hw := wrap_succ (n := i) (by omega)
    have hxi : l[i]? = some l[i] := List.getElem?_eq_getElem hi
    have hC := cloneDn l[i] (hd _ (List.getElem_mem hi))
    have hm : min i l.length = i := Nat.min_eq_left (by omega)
    have hc3 : i + 1 ≤ 140737488355328 := by omega
    have hc4 : (i + 1) * 72 ≤ 140737488355328 := by omega
    obtain ⟨a1, a2, a3, a4, a5, a6, f1, f2, f3, f4, f5, f6, f7, f8, f9⟩ : r ≠ q ∧ q ≠ r ∧ r ≠ q + 1 ∧ r ≠ q + 1 + 1 ∧ r ≠ q + 1 + 1 + 1 ∧ q + 1 ≠ r ∧ (q ≠ q + 1) ∧ (q ≠ q + 1 + 1) ∧ (q ≠ q + 1 + 1 + 1) ∧ (q + 1 ≠ q + 1 + 1) ∧ (q + 1 ≠ q + 1 + 1 + 1) ∧ (q + 1 + 1 ≠ q + 1 + 1 + 1) ∧ (q + 1 ≠ q) ∧ (q + 1 + 1 ≠ q) ∧ (q + 1 + 1 + 1 ≠ q) := by
      clear hc3 hc4 hw hC
      (repeat' apply And.intro) <;> omega
    have a7 : q + 1 + 1 ≠ r := by omega
    try simp at hC
    simp [loopAt, loopsOf, Tryz.f59, h3, h7, h8, h9, oR, hi, hi', hxi, hw, hC, hm, hc3, hc4, a1, a2, a3, a4, a5, a6, a7, f1, f2, f3, f4, f5, f6, f7, f8, f9]
    exact take_snoc dnT l i hi
  · rintro s o q ⟨r, h3, h7, h8, h9, oR, p1⟩
    rw [List.take_of_length_le (Nat.le_refl _)] at oR
    simp [loopAt, loopsOf, Tryz.f59, h3, h7, h8, h9, oR]
theorem cloneDone (l : List Dn) (hl : l.length < 4294967296) (hd : ∀ d ∈ l, DnK d) : run E (.call 59 [.t (.list (l.map dnT))]) = some (.res [.row 26 (l.map dnT)] []) := by
  rw [run_call E 59 _ rfl Tryz.func59 rfl rfl rfl (by simp)]
  obtain ⟨X, S, O, Q, M, hx⟩ := sk1 (cloneDone_loop l hl hd)
  simp only [loopAt, loopsOf, Tryz.f59] at hx
  simp at hx
  simp [hx]
theorem done_K {d : Dn} (h : doneOK d = true) (hs : d.Sm) : DnK d := by
  refine ⟨fit_L (done_fit h hs), fun r hr e => ?_⟩
  unfold doneOK at h
  simp only [Bool.and_eq_true, List.all_eq_true] at h
  have := h.2.1.2 r hr
  unfold readOK at this
  simp only [Bool.and_eq_true] at this
  have h2 := this.2
  rw [e] at h2
  simp [filterOK] at h2
abbrev chgQ (c : Chg) : List T := [.str c.w.coll, .int .i64 c.w.id, .bool c.w.gone, .int .i64 c.w.v.k, .int .i64 c.w.v.n, .str c.w.v.t, .int .i64 c.before.k, .int .i64 c.before.n, .str c.before.t, .bool c.was]
abbrev dnQ (d : Dn) : List T := [.int .i64 d.snap, .int .i64 d.at_, .list (d.reads.map rdT), .list (d.changes.map chgT), .bool d.inn, .bool d.out]
theorem certClosIn (c own : Chg) : run E (.call 120 [.t (chgT own), .dref (chgQ c)]) = some (.res [xB (sameC c own)] []) := by
  rw [run_call E 120 _ rfl Tryz.func120 rfl rfl rfl (by simp)]
  have h := sameDoc c own
  simp [h]
theorem certClos (c : Chg) (d : Dn) (hd : d.changes.length < 4294967296) : run E (.call 119 [.t (chgT c), .dref (dnQ d)]) = some (.res [xB (d.changes.any (sameC c))] []) := by
  rw [run_call E 119 _ rfl Tryz.func119 rfl rfl rfl (by simp)]
  have h := containsFunc_99_1 d.changes 120 (chgQ c) (sameC c) (by omega) rfl (by simp) (fun x _ => certClosIn c x)
  simp [h, -List.any_eq_true, -List.any_eq_false]
theorem sameL_clos (a b : List Chg) : sameL a b = a.any (fun c => b.any (sameC c)) := rfl
theorem icert_same (l : List Dn) (d : Dn) (hl : l.length ≤ 100) (hs : ∀ x ∈ l, x.Sm) (hd : d.Sm) (v0 : SV) (z : Bool) (hz : z = sameAny d l) : ∀ s o q, (s 0 = v0 ∧ s 3 = .ptr 0 0 ∧ s 11 = .t (.list (l.map dnT)) ∧ s 12 = .t (.int .i64 l.length) ∧ s 13 = .t (.int .i64 0) ∧ o 0 = dnB3 d d.inn d.out ∧ 0 < q) →
    ∃ e s' o' q', run E (.code (.loop (loopAt Tryz.f58 0)) ⟨s, o, q, 98⟩) = some (.st e ⟨s', o', q', 98⟩) ∧ (e = (if z then .ret else .exit 0) ∧ s' 0 = v0 ∧ s' 3 = .ptr 0 0 ∧ o' 0 = dnB3 d d.inn d.out ∧ 0 < q' ∧ 0 ≠ q' ∧ q' ≠ 0 ∧ (z = true → s' 4 = .nil ∧ s' 5 = .t (.int .i64 15))) := by
  intro s o q hI
  refine loop_for (c := loopAt Tryz.f58 0) (N := 98)
    (fun i s o q => s 0 = v0 ∧ s 3 = .ptr 0 0 ∧ s 11 = .t (.list (l.map dnT)) ∧ s 12 = .t (.int .i64 l.length) ∧ s 13 = .t (.int .i64 i) ∧ o 0 = dnB3 d d.inn d.out ∧ 0 < q ∧ z = (l.drop i).any (fun x => decide (d.snap < x.at_) && sameL x.changes d.changes))
    (fun e s' o' q' => e = (if z then .ret else .exit 0) ∧ s' 0 = v0 ∧ s' 3 = .ptr 0 0 ∧ o' 0 = dnB3 d d.inn d.out ∧ 0 < q' ∧ 0 ≠ q' ∧ q' ≠ 0 ∧ (z = true → s' 4 = .nil ∧ s' 5 = .t (.int .i64 15))) l.length ?_ ?_
    l.length 0 s o q (by omega) ⟨hI.1, hI.2.1, hI.2.2.1, hI.2.2.2.1, hI.2.2.2.2.1, hI.2.2.2.2.2.1, hI.2.2.2.2.2.2, by simpa [sameAny] using hz⟩
  · rintro i s o q hi ⟨h0, h3, h11, h12, h13, o0, hq, hp⟩
    have hi' : (i : Int) < (l.length : Int) := by omega
    have hw := wrap_succ (n := i) (by omega)
    have hxi : l[i]? = some l[i] := List.getElem?_eq_getElem hi
    have hsx := hs _ (List.getElem_mem hi)
    have hsm := containsFunc_99_1 l[i].changes 119 (dnQ d) (fun c => d.changes.any (sameC c)) (by have := hsx.changes.1; omega) rfl (by simp) (fun c _ => certClos c d hd.changes.1)
    rw [← sameL_clos] at hsm
    rw [List.drop_eq_getElem_cons hi, List.any_cons] at hp
    have e1 : 0 ≠ q := by omega
    have e2 : q ≠ 0 := by omega
    by_cases ht : d.snap < l[i].at_
    · have ht' : (decide (d.snap < l[i].at_)) = true := decide_eq_true ht
      rw [ht', Bool.true_and] at hp
      generalize sameL l[i].changes d.changes = y at *
      cases y with
      | true =>
        simp only [Bool.true_or] at hp
        try simp at hsm
        simp [loopAt, loopsOf, Tryz.f58, h0, h3, h11, h12, h13, hq, o0, hi, hi', hxi, hw, hsm, ht, hp, e1, e2]
      | false =>
        simp only [Bool.false_or] at hp
        try simp at hsm
        simp [loopAt, loopsOf, Tryz.f58, h0, h3, h11, h12, h13, hq, o0, hi, hi', hxi, hw, hsm, ht, e1, e2, -List.any_eq_true, -List.any_eq_false]
        exact hp
    · have ht' : (decide (d.snap < l[i].at_)) = false := decide_eq_false ht
      rw [ht', Bool.false_and, Bool.false_or] at hp
      simp [loopAt, loopsOf, Tryz.f58, h0, h3, h11, h12, h13, hq, o0, hi, hi', hxi, hw, ht, e1, e2, -List.any_eq_true, -List.any_eq_false]
      exact hp
  · rintro s o q ⟨h0, h3, h11, h12, h13, o0, hq, hp⟩
    simp at hp
    have e1 : 0 ≠ q := by omega
    have e2 : q ≠ 0 := by omega
    simp [loopAt, loopsOf, Tryz.f58, h0, h3, h11, h12, h13, hq, o0, hp, e1, e2]
abbrev dnB4 (d : Dn) (a b : Nat) : Ob := .box 26 [.t (.int .i64 d.snap), .t (.int .i64 d.at_), .row a, .row b, .t (.bool d.inn), .t (.bool d.out)]
theorem icert_marks (l : List Dn) (d : Dn) (hl : l.length ≤ 100) (hs : ∀ x ∈ l, dnFit x) (hd : dnFit d) (r a b : Nat) (F : Option (Dn × List Dn)) (hF : F = certL d l) (n1 : r ≠ 0) (n2 : a ≠ 0) (n3 : b ≠ 0) (n4 : r ≠ a) (n5 : r ≠ b) (n6 : a ≠ b) : ∀ s o q, (s 3 = .ptr 0 0 ∧ s 8 = .row r ∧ s 36 = .t (.int .i64 l.length) ∧ s 37 = .t (.int .i64 0) ∧ o 0 = dnB4 d a b ∧ o r = .row 26 (l.map dnT) true ∧ o a = .row 36 (d.reads.map rdT) true ∧ o b = .row 42 (d.changes.map chgT) true) →
    ∃ e s' o' q', run E (.code (.loop (loopAt Tryz.f58 1)) ⟨s, o, q, 98⟩) = some (.st e ⟨s', o', q', 98⟩) ∧ ((F = none → e = .ret ∧ s' 4 = .nil ∧ s' 5 = .t (.int .i64 16)) ∧ (∀ D P, F = some (D, P) → e = .exit 2 ∧ s' 3 = .ptr 0 0 ∧ s' 8 = .row r ∧ o' 0 = dnB4 D a b ∧ o' r = .row 26 (P.map dnT) true ∧ o' a = .row 36 (D.reads.map rdT) true ∧ o' b = .row 42 (D.changes.map chgT) true ∧ q' = q)) := by
  intro s o q hI
  have d14 := d58_14
  simp [regionOf, findR, pick, Tryz.f58] at d14
  have dd1 := fun st => run_region_draw E st 14 _ d14
  clear d14
  have d15 := d58_15
  simp [regionOf, findR, pick, Tryz.f58] at d15
  have dd2 := fun st => run_region_draw E st 15 _ d15
  clear d15
  have d17 := d58_17
  simp [regionOf, findR, pick, Tryz.f58] at d17
  have dd3 := fun st => run_region_draw E st 17 _ d17
  clear d17
  have m1 : 0 ≠ r := fun e => n1 e.symm
  have m2 : 0 ≠ a := fun e => n2 e.symm
  have m3 : 0 ≠ b := fun e => n3 e.symm
  have m4 : a ≠ r := fun e => n4 e.symm
  have m5 : b ≠ r := fun e => n5 e.symm
  have m6 : b ≠ a := fun e => n6 e.symm
  obtain ⟨h3, h8, h36, h37, o0, oR, oA, oB⟩ := hI
  refine loop_for (c := loopAt Tryz.f58 1) (N := 98)
    (fun i s o' q' => ∃ (D : Dn) (P : List Dn), s 3 = .ptr 0 0 ∧ s 8 = .row r ∧ s 36 = .t (.int .i64 l.length) ∧ s 37 = .t (.int .i64 i) ∧ o' 0 = dnB4 D a b ∧ o' r = .row 26 ((P ++ l.drop i).map dnT) true ∧ o' a = .row 36 (D.reads.map rdT) true ∧ o' b = .row 42 (D.changes.map chgT) true ∧ q' = q ∧ P.length = i ∧ dnFit D ∧ F = (certL D (l.drop i)).map (fun x => (x.1, P ++ x.2)))
    (fun e s' o' q' => (F = none → e = .ret ∧ s' 4 = .nil ∧ s' 5 = .t (.int .i64 16)) ∧ (∀ D P, F = some (D, P) → e = .exit 2 ∧ s' 3 = .ptr 0 0 ∧ s' 8 = .row r ∧ o' 0 = dnB4 D a b ∧ o' r = .row 26 (P.map dnT) true ∧ o' a = .row 36 (D.reads.map rdT) true ∧ o' b = .row 42 (D.changes.map chgT) true ∧ q' = q)) l.length ?_ ?_
    l.length 0 s o q (by omega) ⟨d, [], h3, h8, h36, h37, o0, oR, oA, oB, rfl, rfl, hd, by rw [hF, List.drop_zero]; cases certL d l <;> rfl⟩
  · clear h3 h8 h36 h37 o0 oR oA oB
    rintro i s' o' q' hi ⟨D, P, h3, h8, h36, h37, o0, oR, oA, oB, hq, hP, hD, hf⟩
    subst hP
    have hi' : (P.length : Int) < (l.length : Int) := by omega
    have hw := wrap_succ (n := P.length) (by omega)
    have hxi : l[P.length]? = some l[P.length] := List.getElem?_eq_getElem hi
    have hux := hs _ (List.getElem_mem hi)
    rw [List.drop_eq_getElem_cons hi] at oR hf
    generalize hU : l[P.length] = U at *
    have hc1 := implHitsIn D.reads U.changes hD.sm.reads.1 hux.sm.changes.1 hD.rd hux.ch
    have hc2 := implHitsIn U.reads D.changes hux.sm.reads.1 hD.sm.changes.1 hux.rd hD.ch
    rw [certL] at hf
    have hlen : (P ++ U :: List.drop (P.length + 1) l).length = l.length := by simp; omega
    have hget : (List.map dnT (P ++ U :: List.drop (P.length + 1) l))[P.length]? = some (dnT U) := by simp
    have hset : ∀ t : T, (List.map dnT (P ++ U :: List.drop (P.length + 1) l)).set P.length t = List.map dnT P ++ t :: List.map dnT (List.drop (P.length + 1) l) := fun t => by
      rw [List.map_append, List.map_cons]
      have : P.length = (List.map dnT P).length := by simp
      rw [this, List.set_append_right _ _ (Nat.le_refl _)]
      simp
    have hlt : (P.length : Int) < (P.length : Int) + (((l.length - (P.length + 1) : Nat) : Int) + 1) := by omega
    have hlt2 : P.length < P.length + (l.length - (P.length + 1) + 1) := by omega
    by_cases ht : U.at_ ≤ D.snap
    · rw [if_pos ht] at hf
      simp [loopAt, loopsOf, Tryz.f58, dd1, dd2, dd3, h3, h8, h36, h37, o0, oR, oA, oB, hq, hlen, hget, hset, hi', hw, n1, n2, n3, n4, n5, n6, m1, m2, m3, m4, m5, m6, hlt, hlt2, ht]
      refine ⟨D, ⟨rfl, rfl, rfl, rfl⟩, P ++ [U], by simp, rfl, rfl, by simp, hD, ?_⟩
      rw [hf]
      cases certL D (List.drop (P.length + 1) l) <;> simp
    · rw [if_neg ht] at hf
      have hDf : ∀ x y : Bool, dnFit ⟨D.snap, D.at_, D.reads, D.changes, x, y⟩ := fun x y => ⟨⟨hD.sm.reads, hD.sm.changes⟩, hD.rd, hD.ch⟩
      unfold certU certD at hf
      generalize hitsP D.reads U.changes = y1 at *
      generalize hitsP U.reads D.changes = y2 at *
      obtain ⟨us, ua, ur, uc, ui, uo⟩ := U
      simp only at ht hc1 hc2 hf
      cases y1 with
      | false =>
        cases y2 with
        | false =>
          cases ui with
          | false =>
            cases uo with
            | false =>
              simp only [Bool.or_true, Bool.or_false, Bool.true_or, Bool.and_true, Bool.and_false, Bool.true_and, Bool.false_and, Bool.false_eq_true, if_false] at hf
              simp [loopAt, loopsOf, Tryz.f58, dd1, dd2, dd3, h3, h8, h36, h37, o0, oR, oA, oB, hq, hlen, hget, hset, hi', hw, n1, n2, n3, n4, n5, n6, m1, m2, m3, m4, m5, m6, hlt, hlt2, ht, hc1, hc2]
              refine ⟨⟨D.snap, D.at_, D.reads, D.changes, D.inn, D.out⟩, ⟨rfl, rfl, rfl, rfl⟩, P ++ [⟨us, ua, ur, uc, false, false⟩], by simp, rfl, rfl, by simp, hDf _ _, ?_⟩
              rw [hf]
              cases certL _ (List.drop (P.length + 1) l) <;> simp
            | true =>
              simp only [Bool.or_true, Bool.or_false, Bool.true_or, Bool.and_true, Bool.and_false, Bool.true_and, Bool.false_and, Bool.false_eq_true, if_false] at hf
              simp [loopAt, loopsOf, Tryz.f58, dd1, dd2, dd3, h3, h8, h36, h37, o0, oR, oA, oB, hq, hlen, hget, hset, hi', hw, n1, n2, n3, n4, n5, n6, m1, m2, m3, m4, m5, m6, hlt, hlt2, ht, hc1, hc2]
              refine ⟨⟨D.snap, D.at_, D.reads, D.changes, D.inn, D.out⟩, ⟨rfl, rfl, rfl, rfl⟩, P ++ [⟨us, ua, ur, uc, false, true⟩], by simp, rfl, rfl, by simp, hDf _ _, ?_⟩
              rw [hf]
              cases certL _ (List.drop (P.length + 1) l) <;> simp
          | true =>
            cases uo with
            | false =>
              simp only [Bool.or_true, Bool.or_false, Bool.true_or, Bool.and_true, Bool.and_false, Bool.true_and, Bool.false_and, Bool.false_eq_true, if_false] at hf
              simp [loopAt, loopsOf, Tryz.f58, dd1, dd2, dd3, h3, h8, h36, h37, o0, oR, oA, oB, hq, hlen, hget, hset, hi', hw, n1, n2, n3, n4, n5, n6, m1, m2, m3, m4, m5, m6, hlt, hlt2, ht, hc1, hc2]
              refine ⟨⟨D.snap, D.at_, D.reads, D.changes, D.inn, D.out⟩, ⟨rfl, rfl, rfl, rfl⟩, P ++ [⟨us, ua, ur, uc, true, false⟩], by simp, rfl, rfl, by simp, hDf _ _, ?_⟩
              rw [hf]
              cases certL _ (List.drop (P.length + 1) l) <;> simp
            | true =>
              simp at hf
              simp [loopAt, loopsOf, Tryz.f58, dd1, dd2, dd3, h3, h8, h36, h37, o0, oR, oA, oB, hq, hlen, hget, hset, hi', hw, n1, n2, n3, n4, n5, n6, m1, m2, m3, m4, m5, m6, hlt, hlt2, ht, hc1, hc2, hf]
        | true =>
          cases ui with
          | false =>
            cases uo with
            | false =>
              simp only [Bool.or_true, Bool.or_false, Bool.true_or, Bool.and_true, Bool.and_false, Bool.true_and, Bool.false_and, Bool.false_eq_true, if_false] at hf
              simp [loopAt, loopsOf, Tryz.f58, dd1, dd2, dd3, h3, h8, h36, h37, o0, oR, oA, oB, hq, hlen, hget, hset, hi', hw, n1, n2, n3, n4, n5, n6, m1, m2, m3, m4, m5, m6, hlt, hlt2, ht, hc1, hc2]
              refine ⟨⟨D.snap, D.at_, D.reads, D.changes, true, D.out⟩, ⟨rfl, rfl, rfl, rfl⟩, P ++ [⟨us, ua, ur, uc, false, true⟩], by simp, rfl, rfl, by simp, hDf _ _, ?_⟩
              rw [hf]
              cases certL _ (List.drop (P.length + 1) l) <;> simp
            | true =>
              simp only [Bool.or_true, Bool.or_false, Bool.true_or, Bool.and_true, Bool.and_false, Bool.true_and, Bool.false_and, Bool.false_eq_true, if_false] at hf
              simp [loopAt, loopsOf, Tryz.f58, dd1, dd2, dd3, h3, h8, h36, h37, o0, oR, oA, oB, hq, hlen, hget, hset, hi', hw, n1, n2, n3, n4, n5, n6, m1, m2, m3, m4, m5, m6, hlt, hlt2, ht, hc1, hc2]
              refine ⟨⟨D.snap, D.at_, D.reads, D.changes, true, D.out⟩, ⟨rfl, rfl, rfl, rfl⟩, P ++ [⟨us, ua, ur, uc, false, true⟩], by simp, rfl, rfl, by simp, hDf _ _, ?_⟩
              rw [hf]
              cases certL _ (List.drop (P.length + 1) l) <;> simp
          | true =>
            cases uo with
            | false =>
              simp at hf
              simp [loopAt, loopsOf, Tryz.f58, dd1, dd2, dd3, h3, h8, h36, h37, o0, oR, oA, oB, hq, hlen, hget, hset, hi', hw, n1, n2, n3, n4, n5, n6, m1, m2, m3, m4, m5, m6, hlt, hlt2, ht, hc1, hc2, hf]
            | true =>
              simp at hf
              simp [loopAt, loopsOf, Tryz.f58, dd1, dd2, dd3, h3, h8, h36, h37, o0, oR, oA, oB, hq, hlen, hget, hset, hi', hw, n1, n2, n3, n4, n5, n6, m1, m2, m3, m4, m5, m6, hlt, hlt2, ht, hc1, hc2, hf]
      | true =>
        cases y2 with
        | false =>
          cases ui with
          | false =>
            cases uo with
            | false =>
              simp only [Bool.or_true, Bool.or_false, Bool.true_or, Bool.and_true, Bool.and_false, Bool.true_and, Bool.false_and, Bool.false_eq_true, if_false] at hf
              simp [loopAt, loopsOf, Tryz.f58, dd1, dd2, dd3, h3, h8, h36, h37, o0, oR, oA, oB, hq, hlen, hget, hset, hi', hw, n1, n2, n3, n4, n5, n6, m1, m2, m3, m4, m5, m6, hlt, hlt2, ht, hc1, hc2]
              refine ⟨⟨D.snap, D.at_, D.reads, D.changes, D.inn, true⟩, ⟨rfl, rfl, rfl, rfl⟩, P ++ [⟨us, ua, ur, uc, true, false⟩], by simp, rfl, rfl, by simp, hDf _ _, ?_⟩
              rw [hf]
              cases certL _ (List.drop (P.length + 1) l) <;> simp
            | true =>
              simp at hf
              simp [loopAt, loopsOf, Tryz.f58, dd1, dd2, dd3, h3, h8, h36, h37, o0, oR, oA, oB, hq, hlen, hget, hset, hi', hw, n1, n2, n3, n4, n5, n6, m1, m2, m3, m4, m5, m6, hlt, hlt2, ht, hc1, hc2, hf]
          | true =>
            cases uo with
            | false =>
              simp only [Bool.or_true, Bool.or_false, Bool.true_or, Bool.and_true, Bool.and_false, Bool.true_and, Bool.false_and, Bool.false_eq_true, if_false] at hf
              simp [loopAt, loopsOf, Tryz.f58, dd1, dd2, dd3, h3, h8, h36, h37, o0, oR, oA, oB, hq, hlen, hget, hset, hi', hw, n1, n2, n3, n4, n5, n6, m1, m2, m3, m4, m5, m6, hlt, hlt2, ht, hc1, hc2]
              refine ⟨⟨D.snap, D.at_, D.reads, D.changes, D.inn, true⟩, ⟨rfl, rfl, rfl, rfl⟩, P ++ [⟨us, ua, ur, uc, true, false⟩], by simp, rfl, rfl, by simp, hDf _ _, ?_⟩
              rw [hf]
              cases certL _ (List.drop (P.length + 1) l) <;> simp
            | true =>
              simp at hf
              simp [loopAt, loopsOf, Tryz.f58, dd1, dd2, dd3, h3, h8, h36, h37, o0, oR, oA, oB, hq, hlen, hget, hset, hi', hw, n1, n2, n3, n4, n5, n6, m1, m2, m3, m4, m5, m6, hlt, hlt2, ht, hc1, hc2, hf]
        | true =>
          cases ui with
          | false =>
            cases uo with
            | false =>
              simp at hf
              simp [loopAt, loopsOf, Tryz.f58, dd1, dd2, dd3, h3, h8, h36, h37, o0, oR, oA, oB, hq, hlen, hget, hset, hi', hw, n1, n2, n3, n4, n5, n6, m1, m2, m3, m4, m5, m6, hlt, hlt2, ht, hc1, hc2, hf]
            | true =>
              simp at hf
              simp [loopAt, loopsOf, Tryz.f58, dd1, dd2, dd3, h3, h8, h36, h37, o0, oR, oA, oB, hq, hlen, hget, hset, hi', hw, n1, n2, n3, n4, n5, n6, m1, m2, m3, m4, m5, m6, hlt, hlt2, ht, hc1, hc2, hf]
          | true =>
            cases uo with
            | false =>
              simp at hf
              simp [loopAt, loopsOf, Tryz.f58, dd1, dd2, dd3, h3, h8, h36, h37, o0, oR, oA, oB, hq, hlen, hget, hset, hi', hw, n1, n2, n3, n4, n5, n6, m1, m2, m3, m4, m5, m6, hlt, hlt2, ht, hc1, hc2, hf]
            | true =>
              simp at hf
              simp [loopAt, loopsOf, Tryz.f58, dd1, dd2, dd3, h3, h8, h36, h37, o0, oR, oA, oB, hq, hlen, hget, hset, hi', hw, n1, n2, n3, n4, n5, n6, m1, m2, m3, m4, m5, m6, hlt, hlt2, ht, hc1, hc2, hf]
  · clear h3 h8 h36 h37 o0 oR oA oB
    rintro s' o' q' ⟨D, P, h3, h8, h36, h37, o0, oR, oA, oB, hq, hP, hD, hf⟩
    rw [List.drop_of_length_le (Nat.le_refl _), certL] at hf
    simp at hf
    rw [List.drop_of_length_le (Nat.le_refl _), List.append_nil] at oR
    subst hf
    simp [loopAt, loopsOf, Tryz.f58, h3, h8, h36, h37, oR, hP]
    exact ⟨o0, oA, oB, hq⟩
def rowS : SV → Nat
  | .row r => r
  | _ => 0
def rowOf3 : Ob → Nat
  | .box _ [_, _, _, .row a, _, _] => a
  | _ => 0
@[simp] theorem rowS_row (r : Nat) : rowS (.row r) = r := rfl
@[simp] theorem rowOf3_box (e : Nat) (a b c : SV) (r : Nat) (d f : SV) : rowOf3 (.box e [a, b, c, .row r, d, f]) = r := rfl
theorem icert_marks2 (l : List Dn) (d : Dn) (hl : l.length ≤ 100) (hs : ∀ x ∈ l, dnFit x) (hd : dnFit d) (F : Option (Dn × List Dn)) (hF : F = certL d l) : ∀ s o q, (s 3 = .ptr 0 0 ∧ s 8 = .row (rowS (s 8)) ∧ s 36 = .t (.int .i64 l.length) ∧ s 37 = .t (.int .i64 0) ∧ o 0 = dnB4 d (rowOf (o 0)) (rowOf3 (o 0)) ∧ o (rowS (s 8)) = .row 26 (l.map dnT) true ∧ o (rowOf (o 0)) = .row 36 (d.reads.map rdT) true ∧ o (rowOf3 (o 0)) = .row 42 (d.changes.map chgT) true ∧ rowS (s 8) ≠ 0 ∧ rowOf (o 0) ≠ 0 ∧ rowOf3 (o 0) ≠ 0 ∧ rowS (s 8) ≠ rowOf (o 0) ∧ rowS (s 8) ≠ rowOf3 (o 0) ∧ rowOf (o 0) ≠ rowOf3 (o 0) ∧ rowS (s 8) < q ∧ rowOf (o 0) < q ∧ rowOf3 (o 0) < q) →
    ∃ e s' o' q', run E (.code (.loop (loopAt Tryz.f58 1)) ⟨s, o, q, 98⟩) = some (.st e ⟨s', o', q', 98⟩) ∧ ∃ m : Nat × Nat × Nat, True ∧ ((F = none → e = .ret ∧ s' 4 = .nil ∧ s' 5 = .t (.int .i64 16)) ∧ (∀ D P, F = some (D, P) → e = .exit 2 ∧ s' 3 = .ptr 0 0 ∧ s' 8 = .row m.1 ∧ o' 0 = dnB4 D m.2.1 m.2.2 ∧ o' m.1 = .row 26 (P.map dnT) true ∧ o' m.2.1 = .row 36 (D.reads.map rdT) true ∧ o' m.2.2 = .row 42 (D.changes.map chgT) true ∧ m.1 ≠ 0 ∧ m.2.1 ≠ 0 ∧ m.2.2 ≠ 0 ∧ 0 ≠ m.1 ∧ 0 ≠ m.2.1 ∧ 0 ≠ m.2.2 ∧ m.1 ≠ m.2.1 ∧ m.1 ≠ m.2.2 ∧ m.2.1 ≠ m.2.2 ∧ m.2.1 ≠ m.1 ∧ m.2.2 ≠ m.1 ∧ m.2.2 ≠ m.2.1 ∧ m.1 ≠ q' ∧ m.2.1 ≠ q' ∧ m.2.2 ≠ q' ∧ q' ≠ m.1 ∧ q' ≠ m.2.1 ∧ q' ≠ m.2.2 ∧ m.1 ≠ q' + 1 ∧ m.2.1 ≠ q' + 1 ∧ m.2.2 ≠ q' + 1)) := by
  intro s o q ⟨h3, h8, h36, h37, o0, oR, oA, oB, n1, n2, n3, n4, n5, n6, l1, l2, l3⟩
  obtain ⟨e, s', o', q', hr, g1, g2⟩ := icert_marks l d hl hs hd _ _ _ F hF n1 n2 n3 n4 n5 n6 s o q ⟨h3, h8, h36, h37, o0, oR, oA, oB⟩
  refine ⟨e, s', o', q', hr, (rowS (s 8), rowOf (o 0), rowOf3 (o 0)), trivial, g1, fun D P h => ?_⟩
  obtain ⟨k1, k2, k3, k4, k5, k6, k7, rfl⟩ := g2 D P h
  refine ⟨k1, k2, k3, k4, k5, k6, k7, ?_⟩
  simp only
  clear hr g1 g2 k4 k5 k6 k7 o0 oR oA oB h3 h8 h36 h37
  generalize rowS (s 8) = r at *
  generalize rowOf (o 0) = a at *
  generalize rowOf3 (o 0) = b at *
  (repeat' apply And.intro) <;> omega
def icertX (l : List Dn) (d : Dn) : X := if (certOut l d).2 = 0 then .row 26 ((certOut l d).1.map dnT) else .nil
theorem implCert (l : List Dn) (d : Dn) (hl : l.length ≤ 100) (hs : ∀ x ∈ l, dnFit x) (hk : ∀ x ∈ l, DnK x) (hd : dnFit d) (hdk : DnK d) : run E (.call 58 [.t (.list (l.map dnT)), .t (dnT d)]) = some (.res [icertX l d, xI (certOut l d).2] []) := by
  rw [run_call E 58 _ rfl Tryz.func58 rfl rfl rfl (by simp)]
  obtain ⟨z, hz⟩ : ∃ z, z = sameAny d l := ⟨_, rfl⟩
  obtain ⟨F, hF⟩ : ∃ F, F = certL (noMark d) l := ⟨_, rfl⟩
  obtain ⟨X1, A1, B1, C1, hx1⟩ := sk (icert_same l d hl (fun x hx => (hs x hx).sm) hd.sm (.t (.list (l.map dnT))) z hz)
  obtain ⟨X2, A2, B2, C2, M2, _, hx2⟩ := skG (fun _ : Nat × Nat × Nat => True) ((0, 0, 0) : Nat × Nat × Nat) trivial (fun s o q h => by
    obtain ⟨e, s', o', q', hr, m, _, hm⟩ := icert_marks2 l (noMark d) hl hs (noMark_fit hd) F hF s o q h
    exact ⟨e, s', o', q', hr, m, trivial, hm⟩)
  simp only [loopAt, loopsOf, Tryz.f58] at hx1 hx2
  have hC1 := cloneDone l (by omega) hk
  have hC2 := cloneDn d hdk
  unfold icertX certOut
  rw [← hz, ← hF]
  have hPl : ∀ D P, F = some (D, P) → P.length = l.length := fun D P h => (certL_ok l (noMark d) D P (by rw [← hF, h])).2.2.2
  clear hz hF
  try simp at hC2
  have u1 : ∀ n : Nat, (n = n + 1) = False := fun n => eq_false (by omega)
  have u2 : ∀ n : Nat, (n = n + 1 + 1) = False := fun n => eq_false (by omega)
  have u3 : ∀ n : Nat, (n = n + 1 + 1 + 1) = False := fun n => eq_false (by omega)
  have u4 : ∀ n : Nat, (n + 1 = n) = False := fun n => eq_false (by omega)
  have u5 : ∀ n : Nat, (n + 1 + 1 = n) = False := fun n => eq_false (by omega)
  have v1 : ∀ n : Nat, (n < n + 1 + 1 + 1) = True := fun n => eq_true (by omega)
  have v2 : ∀ n : Nat, (n + 1 < n + 1 + 1 + 1) = True := fun n => eq_true (by omega)
  have v3 : ∀ n : Nat, (n + 1 + 1 < n + 1 + 1 + 1) = True := fun n => eq_true (by omega)
  have u6 : ∀ n : Nat, (n + 1 + 1 + 1 = n) = False := fun n => eq_false (by omega)
  cases z with
  | true =>
    simp at hx1
    simp [hx1]
  | false =>
    cases F with
    | none =>
      simp [noMark] at hx1 hx2
      simp [hx1, hx2, hC1, hC2, u1, u2, u3, u4, u5, u6, v1, v2, v3]
    | some x =>
      obtain ⟨⟨ds, da, dr, dc, di, do'⟩, P⟩ := x
      have hx2' := fun s o q h => And.intro (hx2 s o q h).1 ((hx2 s o q h).2.2 _ P rfl)
      have hP := hPl _ P rfl
      have hcat3 : P.length + 1 ≤ 140737488355328 := by omega
      have hcat4 : (P.length + 1) * 72 ≤ 140737488355328 := by omega
      simp [noMark] at hx1 hx2'
      by_cases h30 : l.length = 30
      · have h30' : (P.length : Int) = 30 := by omega
        cases di <;> cases do' <;> simp [hx1, hx2', hC1, hC2, u1, u2, u3, u4, u5, u6, v1, v2, v3, h30, h30', hcat3, hcat4]
      · have h30' : ¬ (P.length : Int) = 30 := by omega
        cases di <;> cases do' <;> simp [hx1, hx2', hC1, hC2, u1, u2, u3, u4, u5, u6, v1, v2, v3, h30, h30', hcat3, hcat4]
theorem cert_K {l : List Dn} {d : Dn} (hk : ∀ x ∈ l, DnK x) (hd : DnK d) : ∀ x ∈ (certOut l d).1, DnK x := by
  unfold certOut
  split
  · exact hk
  · cases hc : certL (noMark d) l with
    | none => exact hk
    | some y =>
      dsimp only
      split
      · exact hk
      · split
        · exact hk
        · obtain ⟨h1, h2, _, _⟩ := certL_ok l _ y.1 y.2 hc
          intro x hx
          have up : ∀ {a b : Dn}, upD a b → DnK a → DnK b := fun {a b} u f => by
            obtain ⟨s1, s2, s3, s4, _, _⟩ := u
            refine ⟨⟨by rw [s3]; exact f.l.1, by rw [s3]; exact f.l.2.1, by rw [s4]; exact f.l.2.2⟩, by rw [s3]; exact f.ne⟩
          rcases List.mem_append.1 hx with hx | hx
          · obtain ⟨_, z, hz, u⟩ := h2 x hx
            exact up u (hk z hz)
          · simp at hx
            subst hx
            exact up h1 ⟨hd.l, hd.ne⟩
/-- impl's Certify of what is right. -/
theorem implCertify (l : List Dn) (d : Dn) (hl : l.length < 30) (hs : ∀ x ∈ l, dnFit x) (hk : ∀ x ∈ l, DnK x) (hd : dnFit d) (hdk : DnK d) (hok : donesOK l = true) (hdo : doneOK d = true) (hat : ∀ x ∈ l, x.at_ < d.at_) : run E (.call 19 [.t (.list (l.map dnT)), .t (dnT d)]) = some (.res [.row 26 ((certOut l d).1.map dnT), xI (certOut l d).2] []) := by
  rw [run_call E 19 _ rfl Tryz.func19 rfl rfl rfl (by simp)]
  have d5 := d19_5
  simp [regionOf, findR, pick, Tryz.f19] at d5
  have dd := fun st => run_region_draw E st 5 _ d5
  clear d5
  have h1 := implDones l (by omega) (fun x hx => (hs x hx).sm)
  have h2 := implDoneOK d hd.sm
  rw [hok] at h1
  rw [hdo] at h2
  have h3 := implCert l d (by omega) hs hk hd hdk
  have h4 := cloneDone l (by omega) hk
  have hcode := cert_code l d hl
  have hcl : (certOut l d).1.length ≤ l.length + 1 := (certOut_len l d).1
  have h5 := cloneDones (certOut l d).1 (by omega)
  have hb : ¬ (4096 : Int) < (l.length : Int) := by omega
  unfold icertX at h3
  by_cases hl0 : l.length = 0
  · have hle : l = [] := List.length_eq_zero_iff.1 hl0
    subst hle
    by_cases hc : (certOut [] d).2 = 0
    · rw [if_pos hc, hc] at h3
      rw [hc]
      try simp at h1 h2 h3 h4 h5
      simp [dd, h1, h2, h3, h4, h5]
    · rw [if_neg hc] at h3
      have hE : (certOut [] d).1 = [] := by
        rcases hcode with ⟨h, _⟩ | ⟨_, h⟩
        · exact absurd h hc
        · exact h
      rw [hE]
      generalize (certOut [] d).2 = code at *
      try simp at h1 h2 h3 h4
      simp [dd, h1, h2, h3, h4, hc]
  · have hpos : 0 < l.length := by omega
    have hpos' : (0 : Int) < (l.length : Int) := by omega
    have hwr : IntKind.i64.wrap ((l.length : Int) - 1) = ((l.length - 1 : Nat) : Int) := by rw [wrap_of (by omega) (by omega)]; omega
    obtain ⟨N, hN⟩ : ∃ N, N = l.length - 1 := ⟨_, rfl⟩
    rw [← hN] at hwr
    have hlt : N < l.length := by omega
    have hlt' : (N : Int) < (l.length : Int) := by omega
    have hgx : l[N]? = some l[N] := List.getElem?_eq_getElem hlt
    have hno : ¬ d.at_ ≤ l[N].at_ := by have := hat _ (List.getElem_mem hlt); omega
    clear hN
    by_cases hc : (certOut l d).2 = 0
    · rw [if_pos hc, hc] at h3
      rw [hc]
      try simp at h1 h2 h3 h4 h5
      simp [dd, h1, h2, h3, h4, h5, hb, hpos, hpos', hwr, hlt, hlt', hgx, hno]
    · rw [if_neg hc] at h3
      have hE : (certOut l d).1 = l := by
        rcases hcode with ⟨h, _⟩ | ⟨_, h⟩
        · exact absurd h hc
        · exact h
      rw [hE]
      generalize (certOut l d).2 = code at *
      try simp at h1 h2 h3 h4
      simp [dd, h1, h2, h3, h4, hb, hpos, hpos', hwr, hlt, hlt', hgx, hno, hc]
theorem specCertify (l : List Dn) (d : Dn) (hl : l.length < 30) (hs : ∀ x ∈ l, dnFit x) (hd : dnFit d) (hok : donesOK l = true) (hdo : doneOK d = true) (hat : ∀ x ∈ l, x.at_ < d.at_) : run E (.call 20 [.t (.list (l.map dnT)), .t (dnT d)]) = some (.res [.row 26 ((certOut l d).1.map dnT), xI (certOut l d).2] []) := by
  rw [run_call E 20 _ rfl Tryz.func20 rfl rfl rfl (by simp)]
  have d5 := d20_5
  simp [regionOf, findR, pick, Tryz.f20] at d5
  have dd := fun st => run_region_draw E st 5 _ d5
  clear d5
  have h1 := specDones l (by omega) (fun x hx => (hs x hx).sm)
  have h2 := specDoneOK d hd.sm
  rw [hok] at h1
  rw [hdo] at h2
  have h3 := specCert l d (by omega) hs hd
  have hcode := cert_code l d hl
  have hcl : (certOut l d).1.length ≤ l.length + 1 := (certOut_len l d).1
  have h4 := ownDones (certOut l d).1 (by omega) (fun x hx => fit_L (cert_fit hs hd x hx))
  have hb : ¬ (4096 : Int) < (l.length : Int) := by omega
  unfold certX at h3
  by_cases hl0 : l.length = 0
  · have hle : l = [] := List.length_eq_zero_iff.1 hl0
    subst hle
    by_cases hc : (certOut [] d).2 = 0
    · rw [if_pos hc, hc] at h3
      rw [hc]
      try simp at h1 h2 h3 h4
      simp [dd, h1, h2, h3, h4]
    · rw [if_neg hc] at h3
      have hE : (certOut [] d).1 = [] := by
        rcases hcode with ⟨h, _⟩ | ⟨_, h⟩
        · exact absurd h hc
        · exact h
      rw [hE] at h4 ⊢
      generalize (certOut [] d).2 = code at *
      try simp at h1 h2 h3 h4
      simp [dd, h1, h2, h3, h4, hc]
  · have hpos : 0 < l.length := by omega
    have hpos' : (0 : Int) < (l.length : Int) := by omega
    have hwr : IntKind.i64.wrap ((l.length : Int) - 1) = ((l.length - 1 : Nat) : Int) := by rw [wrap_of (by omega) (by omega)]; omega
    obtain ⟨N, hN⟩ : ∃ N, N = l.length - 1 := ⟨_, rfl⟩
    rw [← hN] at hwr
    have hlt : N < l.length := by omega
    have hlt' : (N : Int) < (l.length : Int) := by omega
    have hgx : l[N]? = some l[N] := List.getElem?_eq_getElem hlt
    have hno : ¬ d.at_ ≤ l[N].at_ := by have := hat _ (List.getElem_mem hlt); omega
    clear hN
    by_cases hc : (certOut l d).2 = 0
    · rw [if_pos hc, hc] at h3
      rw [hc]
      try simp at h1 h2 h3 h4
      simp [dd, h1, h2, h3, h4, hb, hpos, hpos', hwr, hlt, hlt', hgx, hno]
    · rw [if_neg hc] at h3
      have hE : (certOut l d).1 = l := by
        rcases hcode with ⟨h, _⟩ | ⟨_, h⟩
        · exact absurd h hc
        · exact h
      rw [hE] at h4 ⊢
      generalize (certOut l d).2 = code at *
      try simp at h1 h2 h3 h4
      simp [dd, h1, h2, h3, h4, hb, hpos, hpos', hwr, hlt, hlt', hgx, hno, hc]
/-- Those behind a time. -/
def cleanP (n : Int) (l : List Dn) : List Dn := l.filter fun d => decide (n < d.at_)
theorem clean_loop (l : List Dn) (hl : l.length ≤ 1000) (n : Int) : ∀ s o q, (s 0 = .t (.list (l.map dnT)) ∧ s 1 = .t (.int .i64 n) ∧ s 5 = .row 0 ∧ s 6 = .t (.int .i64 0) ∧ o 0 = .row 26 [] true ∧ 0 < q) →
    ∃ e s' o' q', run E (.code (.loop (loopAt Tryz.f66 0)) ⟨s, o, q, 29⟩) = some (.st e ⟨s', o', q', 29⟩) ∧ ∃ r : Nat, (e = .exit 0 ∧ s' 5 = .row r ∧ o' r = .row 26 ((cleanP n l).map dnT) true) := by
  intro s o q hI
  refine loop_for (c := loopAt Tryz.f66 0) (N := 29)
    (fun i s o q => ∃ (r : Nat) (A : List Dn), s 0 = .t (.list (l.map dnT)) ∧ s 1 = .t (.int .i64 n) ∧ s 5 = .row r ∧ s 6 = .t (.int .i64 i) ∧ o r = .row 26 (A.map dnT) true ∧ r < q ∧ A.length ≤ i ∧ cleanP n l = A ++ cleanP n (l.drop i))
    (fun e s' o' q' => ∃ r : Nat, (e = .exit 0 ∧ s' 5 = .row r ∧ o' r = .row 26 ((cleanP n l).map dnT) true)) l.length ?_ ?_
    l.length 0 s o q (by omega) ⟨0, [], hI.1, hI.2.1, hI.2.2.1, hI.2.2.2.1, by simpa using hI.2.2.2.2.1, hI.2.2.2.2.2, by simp, by simp⟩
  · rintro i s o q hi ⟨r, A, h0, h1, h5, h6, oR, p1, hAl, hc⟩
    have hi' : (i : Int) < (l.length : Int) := by omega
    have hw := wrap_succ (n := i) (by omega)
    have hxi : l[i]? = some l[i] := List.getElem?_eq_getElem hi
    have hc3 : A.length + 1 ≤ 140737488355328 := by omega
    have hc4 : (A.length + 1) * 72 ≤ 140737488355328 := by omega
    obtain ⟨a1, a2, a3⟩ : r ≠ q ∧ q ≠ r ∧ r ≠ q + 1 := ⟨by omega, by omega, by omega⟩
    rw [List.drop_eq_getElem_cons hi, cleanP, cleanP, List.filter_cons] at hc
    by_cases ht : n < l[i].at_
    · rw [if_pos (by simpa using ht)] at hc
      simp [loopAt, loopsOf, Tryz.f66, h0, h1, h5, h6, oR, hi, hi', hxi, hw, hc3, hc4, ht, a1, a2, a3]
      exact ⟨A ++ [l[i]], by simp, by simp; omega, by rw [cleanP, hc]; simp [cleanP]⟩
    · rw [if_neg (by simpa using ht)] at hc
      simp [loopAt, loopsOf, Tryz.f66, h0, h1, h5, h6, oR, hi, hi', hxi, hw, ht, a1, a2, a3]
      exact ⟨A, rfl, p1, by omega, by rw [cleanP, hc]; rfl⟩
  · rintro s o q ⟨r, A, h0, h1, h5, h6, oR, p1, hAl, hc⟩
    rw [List.drop_of_length_le (Nat.le_refl _)] at hc
    simp [cleanP] at hc
    simp [loopAt, loopsOf, Tryz.f66, h0, h1, h5, h6, oR]
    rw [cleanP, hc]
theorem specClean (l : List Dn) (hl : l.length ≤ 1000) (n : Int) : run E (.call 66 [.t (.list (l.map dnT)), xI n]) = some (.res [.row 26 ((cleanP n l).map dnT)] []) := by
  rw [run_call E 66 _ rfl Tryz.func66 rfl rfl rfl (by simp)]
  obtain ⟨X, S, O, Q, M, hx⟩ := sk1 (clean_loop l hl n)
  simp only [loopAt, loopsOf, Tryz.f66] at hx
  simp at hx
  simp [hx]
theorem specCleanDone (l : List Dn) (hl : l.length ≤ 1000) (n : Int) (hs : ∀ x ∈ l, dnFit x) (hok : donesOK l = true) : run E (.call 23 [.t (.list (l.map dnT)), xI n]) = some (.res [.row 26 ((cleanP n l).map dnT), xI 0] []) := by
  rw [run_call E 23 _ rfl Tryz.func23 rfl rfl rfl (by simp)]
  have h1 := specDones l (by omega) (fun x hx => (hs x hx).sm)
  rw [hok] at h1
  have h2 := specClean l hl n
  have hcl : (cleanP n l).length ≤ l.length := List.length_filter_le _ _
  have h3 := ownDones (cleanP n l) (by omega) (fun x hx => fit_L (hs x (List.mem_filter.1 (show x ∈ l.filter _ from hx)).1))
  have hb : ¬ (4096 : Int) < (l.length : Int) := by omega
  try simp at h1 h2 h3
  simp [h1, h2, h3, hb]
end Go.Md
