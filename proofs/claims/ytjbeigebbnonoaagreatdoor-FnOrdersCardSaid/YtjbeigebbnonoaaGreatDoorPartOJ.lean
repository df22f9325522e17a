/- What is drawn: those that were committed. -/
import Derived.Test.YtjbeigebbnonoaaGreatDoorPartOI
import Derived.Test.YtjbeigebbnonoaaGreatDoorPartOH
set_option linter.unusedSimpArgs false
set_option linter.unusedVariables false
namespace Go.Md
open Go.Ev Go.Proofs Go.Pu
set_option maxRecDepth 100000
set_option maxHeartbeats 4000000
def sameCg (x y : Chg) : Bool := x.w.coll == y.w.coll && x.w.id == y.w.id
def sameP (a b : List Chg) : Bool := a.any fun x => b.any fun y => sameCg x y
theorem same_in (a b : List Chg) (hb4 : b.length < 4294967296) (i : Nat) (hi : i < a.length) (ha4 : a.length < 4294967296) (z : Bool) (hz : z = b.any (sameCg a[i])) : ∀ s o q, (s 0 = .t (.list (a.map chgT)) ∧ s 1 = .t (.list (b.map chgT)) ∧ s 5 = .t (.int .i64 i) ∧ s 6 = .t (.int .i64 0)) →
    ∃ e s' o' q', run E (.code (.loop (loopAt Tryz.f92 1)) ⟨s, o, q, 47⟩) = some (.st e ⟨s', o', q', 47⟩) ∧ (e = (if z then .ret else .exit 2) ∧ s' 0 = .t (.list (a.map chgT)) ∧ s' 1 = .t (.list (b.map chgT)) ∧ s' 5 = .t (.int .i64 i) ∧ (z = true → s' 4 = .t (.bool true))) := by
  intro s o q hI
  have d7 := d92_7
  simp [regionOf, findR, pick, Tryz.f92] at d7
  have dd := fun st => run_region_draw E st 7 _ d7
  clear d7
  have hxi : a[i]? = some a[i] := List.getElem?_eq_getElem hi
  have hi' : (i : Int) < (a.length : Int) := by omega
  refine loop_for (c := loopAt Tryz.f92 1) (N := 47)
    (fun j s o q => s 0 = .t (.list (a.map chgT)) ∧ s 1 = .t (.list (b.map chgT)) ∧ s 5 = .t (.int .i64 i) ∧ s 6 = .t (.int .i64 j) ∧ z = (b.drop j).any (sameCg a[i]))
    (fun e s' o' q' => e = (if z then .ret else .exit 2) ∧ s' 0 = .t (.list (a.map chgT)) ∧ s' 1 = .t (.list (b.map chgT)) ∧ s' 5 = .t (.int .i64 i) ∧ (z = true → s' 4 = .t (.bool true))) b.length ?_ ?_
    b.length 0 s o q (by omega) ⟨hI.1, hI.2.1, hI.2.2.1, hI.2.2.2, by simpa using hz⟩
  · rintro j s o q hj ⟨h0, h1, h5, h6, hp⟩
    have hj' : (j : Int) < (b.length : Int) := by omega
    have hw := wrap_succ (n := j) (by omega)
    have hxj : b[j]? = some b[j] := List.getElem?_eq_getElem hj
    rw [List.drop_eq_getElem_cons hj, List.any_cons, sameCg] at hp
    cases hc : a[i].w.coll == b[j].w.coll with
    | false =>
      simp only [hc, Bool.false_and, Bool.false_or] at hp
      simp [loopAt, loopsOf, Tryz.f92, dd, h0, h1, h5, h6, hi, hi', hxi, hj, hj', hxj, hw, hc, -List.any_eq_true, -List.any_eq_false]
      exact hp
    | true =>
      cases hn : a[i].w.id == b[j].w.id with
      | false =>
        simp only [hc, hn, Bool.false_and, Bool.and_false, Bool.false_or] at hp
        simp [loopAt, loopsOf, Tryz.f92, dd, h0, h1, h5, h6, hi, hi', hxi, hj, hj', hxj, hw, hc, hn, -List.any_eq_true, -List.any_eq_false]
        exact hp
      | true =>
        simp only [hc, hn, Bool.and_self, Bool.true_or] at hp
        simp [loopAt, loopsOf, Tryz.f92, dd, h0, h1, h5, h6, hi, hi', hxi, hj, hj', hxj, hw, hc, hn, hp]
  · rintro s o q ⟨h0, h1, h5, h6, hp⟩
    simp at hp
    simp [loopAt, loopsOf, Tryz.f92, h0, h1, h5, h6, hp]
theorem same_out (a b : List Chg) (hb4 : b.length < 4294967296) (ha4 : a.length < 4294967296) (z : Bool) (hz : z = sameP a b) : ∀ s o q, (s 0 = .t (.list (a.map chgT)) ∧ s 1 = .t (.list (b.map chgT)) ∧ s 5 = .t (.int .i64 0)) →
    ∃ e s' o' q', run E (.code (.loop (loopAt Tryz.f92 0)) ⟨s, o, q, 47⟩) = some (.st e ⟨s', o', q', 47⟩) ∧ (e = (if z then .ret else .exit 0) ∧ (z = true → s' 4 = .t (.bool true))) := by
  intro s o q hI
  refine loop_for (c := loopAt Tryz.f92 0) (N := 47)
    (fun i s o q => s 0 = .t (.list (a.map chgT)) ∧ s 1 = .t (.list (b.map chgT)) ∧ s 5 = .t (.int .i64 i) ∧ z = (a.drop i).any (fun x => b.any (sameCg x)))
    (fun e s' o' q' => e = (if z then .ret else .exit 0) ∧ (z = true → s' 4 = .t (.bool true))) a.length ?_ ?_
    a.length 0 s o q (by omega) ⟨hI.1, hI.2.1, hI.2.2, by simpa [sameP] using hz⟩
  · rintro i s o q hi ⟨h0, h1, h5, hp⟩
    have hi' : (i : Int) < (a.length : Int) := by omega
    have hw := wrap_succ (n := i) (by omega)
    have hxi : a[i]? = some a[i] := List.getElem?_eq_getElem hi
    rw [List.drop_eq_getElem_cons hi, List.any_cons] at hp
    obtain ⟨y, hy⟩ : ∃ y, y = b.any (sameCg a[i]) := ⟨_, rfl⟩
    rw [← hy] at hp
    obtain ⟨X, S, O, Q, hx⟩ := sk (same_in a b hb4 i hi ha4 y hy)
    simp only [loopAt, loopsOf, Tryz.f92] at hx
    simp at hx
    clear hy
    cases y with
    | false =>
      simp only [Bool.false_or] at hp
      simp at hx
      simp [loopAt, loopsOf, Tryz.f92, h0, h1, h5, hi, hi', hxi, hw, hx, -List.any_eq_true, -List.any_eq_false]
      exact hp
    | true =>
      simp only [Bool.true_or] at hp
      simp at hx
      simp [loopAt, loopsOf, Tryz.f92, h0, h1, h5, hi, hi', hxi, hw, hx, hp]
  · rintro s o q ⟨h0, h1, h5, hp⟩
    simp at hp
    simp [loopAt, loopsOf, Tryz.f92, h0, h1, h5, hp]
theorem specSame (a b : List Chg) (ha4 : a.length < 4294967296) (hb4 : b.length < 4294967296) : run E (.call 92 [.t (.list (a.map chgT)), .t (.list (b.map chgT))]) = some (.res [xB (sameP a b)] []) := by
  rw [run_call E 92 _ rfl Tryz.func92 rfl rfl rfl (by simp)]
  obtain ⟨z, hz⟩ : ∃ z, z = sameP a b := ⟨_, rfl⟩
  obtain ⟨X, S, O, Q, hx⟩ := sk (same_out a b hb4 ha4 z hz)
  simp only [loopAt, loopsOf, Tryz.f92] at hx
  rw [← hz]
  clear hz
  cases z <;> simp at hx <;> simp [hx]
abbrev dnZ : Ob := .box 26 [.t (.int .i64 0), .t (.int .i64 0), .nil, .nil, .t (.bool false), .t (.bool false)]
abbrev dnN (snap at_ : Int) (a b : Nat) : Ob := .box 26 [.t (.int .i64 snap), .t (.int .i64 at_), .row a, .row b, .t (.bool false), .t (.bool false)]
theorem done_reads (n0 : Nat) (hn0 : n0 ≤ 2) (src : Src) (m : Nat) (hm : m + 20000 < 1000000000) (hs : src.Ok m) (sn at_ : Int) : ∀ s o q, (s 0 = .ptr 0 0 ∧ s 4 = .ptr 1 0 ∧ s 5 = .ptr 4 0 ∧ s 6 = .t (.int .i64 n0) ∧ o 0 = srcB src ∧ o 1 = dnZ ∧ o 4 = dnN sn at_ 2 3 ∧ o 2 = .row 36 [] true ∧ o 3 = .row 42 [] true ∧ 4 < q) →
    ∃ e s' o' q', run E (.code (.loop (loopAt Tryz.f35 0)) ⟨s, o, q, 50⟩) = some (.st e ⟨s', o', q', 50⟩) ∧ ∃ a : Nat × List Rd × Src, ((∀ x ∈ a.2.1, RdG x) ∧ a.2.1.length ≤ 2 ∧ a.2.2.Ok (m + 812)) ∧ (e = .exit 0 ∧ s' 0 = .ptr 0 0 ∧ s' 4 = .ptr 1 0 ∧ s' 5 = .ptr 4 0 ∧ o' 0 = srcB a.2.2 ∧ o' 1 = dnZ ∧ o' 4 = dnN sn at_ a.1 3 ∧ o' a.1 = .row 36 (a.2.1.map rdT) true ∧ o' 3 = .row 42 [] true ∧ (a.1 = 2 ∨ 4 < a.1) ∧ a.1 < q' ∧ 4 < q' ∧ a.1 ≠ 0 ∧ 0 ≠ a.1 ∧ a.1 ≠ 1 ∧ 1 ≠ a.1 ∧ a.1 ≠ 3 ∧ 3 ≠ a.1 ∧ a.1 ≠ 4 ∧ 4 ≠ a.1) := by
  intro s o q hI
  have n5 := n35_5
  have s5 := s35_5
  simp [regionOf, findR, pick, Tryz.f35] at n5 s5
  have dd := fun st => run_region_drawS E st 5 _ n5 s5
  clear n5 s5
  refine loop_wf (c := loopAt Tryz.f35 0) (N := 50)
    (fun k s o q => ∃ (r : Nat) (acc : List Rd) (sr : Src), s 0 = .ptr 0 0 ∧ s 4 = .ptr 1 0 ∧ s 5 = .ptr 4 0 ∧ s 6 = .t (.int .i64 k) ∧ o 0 = srcB sr ∧ o 1 = dnZ ∧ o 4 = dnN sn at_ r 3 ∧ o r = .row 36 (acc.map rdT) true ∧ o 3 = .row 42 [] true ∧ (r = 2 ∨ 4 < r) ∧ r < q ∧ 4 < q ∧ k ≤ 2 ∧ (∀ x ∈ acc, RdG x) ∧ acc.length + k ≤ 2 ∧ sr.Ok (m + (2 - k) * 406))
    (fun e s' o' q' => ∃ a : Nat × List Rd × Src, ((∀ x ∈ a.2.1, RdG x) ∧ a.2.1.length ≤ 2 ∧ a.2.2.Ok (m + 812)) ∧ (e = .exit 0 ∧ s' 0 = .ptr 0 0 ∧ s' 4 = .ptr 1 0 ∧ s' 5 = .ptr 4 0 ∧ o' 0 = srcB a.2.2 ∧ o' 1 = dnZ ∧ o' 4 = dnN sn at_ a.1 3 ∧ o' a.1 = .row 36 (a.2.1.map rdT) true ∧ o' 3 = .row 42 [] true ∧ (a.1 = 2 ∨ 4 < a.1) ∧ a.1 < q' ∧ 4 < q' ∧ a.1 ≠ 0 ∧ 0 ≠ a.1 ∧ a.1 ≠ 1 ∧ 1 ≠ a.1 ∧ a.1 ≠ 3 ∧ 3 ≠ a.1 ∧ a.1 ≠ 4 ∧ 4 ≠ a.1)) ?_
    n0 s o q (by
      obtain ⟨h0, h4, h5, h6, o0, o1, o4, o2, o3, p1⟩ := hI
      exact ⟨2, [], src, h0, h4, h5, h6, o0, o1, o4, o2, o3, .inl rfl, by omega, p1, hn0, by simp, by simpa using hn0, hs.up (Nat.le_add_right _ _)⟩)
  rintro k s o q ⟨r, acc, sr, h0, h4, h5, h6, o0, o1, o4, oR, o3, p1, p2, p3, hk, hacc, hlen, hok⟩
  cases k with
  | zero =>
    simp at h6
    simp [loopAt, loopsOf, Tryz.f35, h6]
    exact ⟨r, acc, sr, ⟨hacc, by omega, hok.up (by omega)⟩, h0, h4, h5, o0, o1, o4, oR, o3, p1, p2, p3, by omega, by omega, by omega, by omega, by omega, by omega, by omega, by omega⟩
  | succ k =>
    obtain ⟨x, s', hx, hxo, hso⟩ := drawRead sr (m + (2 - (k + 1)) * 406) (by omega) hok
    have hso' : s'.Ok (m + (2 - k) * 406) := hso.up (by omega)
    have hpos : (0 : Int) < (k : Int) + 1 := by omega
    have hw2 := wrap_nat (n := k) (by omega)
    have hcat : acc.length + 1 ≤ 140737488355328 := by omega
    have hcat2 : (acc.length + 1) * 40 ≤ 140737488355328 := by omega
    obtain ⟨a1, a2, a3, a4, a5, a6, a7, a8, b1, b2, b3, b4, b5, b6, b7, b8, c1, c2, c3, c4, c5, c6, c7, c8, c9, g1, g2, g3⟩ : r ≠ 0 ∧ 0 ≠ r ∧ r ≠ 1 ∧ 1 ≠ r ∧ r ≠ 3 ∧ 3 ≠ r ∧ r ≠ 4 ∧ 4 ≠ r ∧ q ≠ 0 ∧ 0 ≠ q ∧ q ≠ 1 ∧ 1 ≠ q ∧ q ≠ 3 ∧ 3 ≠ q ∧ q ≠ 4 ∧ 4 ≠ q ∧ r ≠ q ∧ q ≠ r ∧ r ≠ q + 1 ∧ r ≠ q + 1 + 1 ∧ q + 1 ≠ r ∧ 3 ≠ q + 1 ∧ 3 ≠ q + 1 + 1 ∧ 4 ≠ q + 1 ∧ 4 ≠ q + 1 + 1 ∧ 1 ≠ q + 1 ∧ 1 ≠ q + 1 + 1 ∧ 0 ≠ q + 1 + 1 := by
      clear hcat hcat2 hw2
      (repeat' apply And.intro) <;> omega
    simp at h6 hx
    simp [loopAt, loopsOf, Tryz.f35, dd, h0, h4, h5, h6, o0, o1, o4, oR, o3, hpos, hw2, hx, a1, a2, a3, a4, a5, a6, a7, a8, b1, b2, b3, b4, b5, b6, b7, b8, c1, c2, c3, c4, c5, c6, c7, c8, c9, g1, g2, g3, hcat, hcat2]
    exact ⟨k, by omega, rfl, q + 1, acc ++ [x], s', ⟨rfl, rfl, rfl⟩, rfl, by simp [b5, b6], .inr (by omega), by omega, by omega, by omega, fun y hy => by
      rcases List.mem_append.1 hy with hy | hy
      · exact hacc y hy
      · simp at hy; subst hy; exact hxo, by simp; omega, hso'⟩
theorem done_changes (n0 : Nat) (hn0 : n0 ≤ 2) (src : Src) (m : Nat) (hm : m + 20000 < 1000000000) (hs : src.Ok m) (sn at_ : Int) (ra : Nat) (rds : List Rd) (hra : ra = 2 ∨ 4 < ra) : ∀ s o q, (s 0 = .ptr 0 0 ∧ s 4 = .ptr 1 0 ∧ s 5 = .ptr 4 0 ∧ s 7 = .t (.int .i64 n0) ∧ o 0 = srcB src ∧ o 1 = dnZ ∧ o 4 = dnN sn at_ ra 3 ∧ o ra = .row 36 (rds.map rdT) true ∧ o 3 = .row 42 [] true ∧ 4 < q ∧ ra < q) →
    ∃ e s' o' q', run E (.code (.loop (loopAt Tryz.f35 1)) ⟨s, o, q, 50⟩) = some (.st e ⟨s', o', q', 50⟩) ∧ ∃ a : Nat × List Chg × Src, ((∀ x ∈ a.2.1, ChG x) ∧ a.2.1.length ≤ 2 ∧ a.2.2.Ok (m + 9400)) ∧ (e = .exit 2 ∧ s' 0 = .ptr 0 0 ∧ s' 4 = .ptr 1 0 ∧ s' 5 = .ptr 4 0 ∧ o' 0 = srcB a.2.2 ∧ o' 1 = dnZ ∧ o' 4 = dnN sn at_ ra a.1 ∧ o' ra = .row 36 (rds.map rdT) true ∧ o' a.1 = .row 42 (a.2.1.map chgT) true ∧ ra ≠ a.1 ∧ a.1 ≠ ra ∧ a.1 ≠ 0 ∧ a.1 ≠ 1 ∧ a.1 ≠ 4 ∧ 0 ≠ a.1 ∧ 1 ≠ a.1 ∧ 4 ≠ a.1 ∧ a.1 < q' ∧ ra < q' ∧ ra ≠ 0 ∧ ra ≠ 1 ∧ ra ≠ 4 ∧ 0 ≠ ra ∧ 1 ≠ ra ∧ 4 ≠ ra) := by
  intro s o q hI
  refine loop_wf (c := loopAt Tryz.f35 1) (N := 50)
    (fun k s o q => ∃ (r : Nat) (acc : List Chg) (sr : Src), s 0 = .ptr 0 0 ∧ s 4 = .ptr 1 0 ∧ s 5 = .ptr 4 0 ∧ s 7 = .t (.int .i64 k) ∧ o 0 = srcB sr ∧ o 1 = dnZ ∧ o 4 = dnN sn at_ ra r ∧ o ra = .row 36 (rds.map rdT) true ∧ o r = .row 42 (acc.map chgT) true ∧ (r = 3 ∨ 4 < r) ∧ ra ≠ r ∧ r < q ∧ ra < q ∧ 4 < q ∧ k ≤ 2 ∧ (∀ x ∈ acc, ChG x) ∧ acc.length + k ≤ 2 ∧ sr.Ok (m + (2 - k) * 4700))
    (fun e s' o' q' => ∃ a : Nat × List Chg × Src, ((∀ x ∈ a.2.1, ChG x) ∧ a.2.1.length ≤ 2 ∧ a.2.2.Ok (m + 9400)) ∧ (e = .exit 2 ∧ s' 0 = .ptr 0 0 ∧ s' 4 = .ptr 1 0 ∧ s' 5 = .ptr 4 0 ∧ o' 0 = srcB a.2.2 ∧ o' 1 = dnZ ∧ o' 4 = dnN sn at_ ra a.1 ∧ o' ra = .row 36 (rds.map rdT) true ∧ o' a.1 = .row 42 (a.2.1.map chgT) true ∧ ra ≠ a.1 ∧ a.1 ≠ ra ∧ a.1 ≠ 0 ∧ a.1 ≠ 1 ∧ a.1 ≠ 4 ∧ 0 ≠ a.1 ∧ 1 ≠ a.1 ∧ 4 ≠ a.1 ∧ a.1 < q' ∧ ra < q' ∧ ra ≠ 0 ∧ ra ≠ 1 ∧ ra ≠ 4 ∧ 0 ≠ ra ∧ 1 ≠ ra ∧ 4 ≠ ra)) ?_
    n0 s o q (by
      obtain ⟨h0, h4, h5, h7, o0, o1, o4, oa, o3, p1, p2⟩ := hI
      exact ⟨3, [], src, h0, h4, h5, h7, o0, o1, o4, oa, o3, .inl rfl, by omega, by omega, p2, p1, hn0, by simp, by simpa using hn0, hs.up (Nat.le_add_right _ _)⟩)
  rintro k s o q ⟨r, acc, sr, h0, h4, h5, h7, o0, o1, o4, oa, oR, p1, p2, p3, p4, p5, hk, hacc, hlen, hok⟩
  cases k with
  | zero =>
    simp at h7
    simp [loopAt, loopsOf, Tryz.f35, h7]
    refine ⟨r, acc, sr, ⟨hacc, by omega, hok.up (by omega)⟩, h0, h4, h5, o0, o1, o4, oa, oR, ?_⟩
    clear hlen
    (repeat' apply And.intro) <;> omega
  | succ k =>
    obtain ⟨x, s', hx, hxo, hso⟩ := drawChange sr (m + (2 - (k + 1)) * 4700) (by omega) hok
    have hso' : s'.Ok (m + (2 - k) * 4700) := hso.up (by omega)
    have hok' : sr.Ok (m + (2 - k) * 4700) := hok.up (by omega)
    have hpos : (0 : Int) < (k : Int) + 1 := by omega
    have hw2 := wrap_nat (n := k) (by omega)
    have hcat : acc.length + 1 ≤ 140737488355328 := by omega
    have hcat2 : (acc.length + 1) * 104 ≤ 140737488355328 := by omega
    have hsm := specSame acc [x] (by omega) (by simp)
    obtain ⟨a1, a2, a3, a4, a5, a6, b1, b2, b3, b4, b5, b6, c1, c2, c3, c4, c5, c6, c7, c8, c9, g1, g2, g3, g4, g5, g6, g7, g8, i1, i2, i3, i4, i5, i6, i7, i8⟩ : r ≠ 0 ∧ 0 ≠ r ∧ r ≠ 1 ∧ 1 ≠ r ∧ r ≠ 4 ∧ 4 ≠ r ∧ q ≠ 0 ∧ 0 ≠ q ∧ q ≠ 1 ∧ 1 ≠ q ∧ q ≠ 4 ∧ 4 ≠ q ∧ r ≠ q ∧ q ≠ r ∧ r ≠ q + 1 ∧ r ≠ q + 1 + 1 ∧ q + 1 ≠ r ∧ ra ≠ q ∧ ra ≠ q + 1 ∧ 4 ≠ q + 1 ∧ 4 ≠ q + 1 + 1 ∧ 1 ≠ q + 1 ∧ 1 ≠ q + 1 + 1 ∧ 0 ≠ q + 1 + 1 ∧ ra ≠ q + 1 + 1 ∧ q ≠ ra ∧ q + 1 ≠ ra ∧ ra ≠ 0 ∧ ra ≠ 1 ∧ ra ≠ 4 ∧ 0 ≠ ra ∧ 1 ≠ ra ∧ 4 ≠ ra ∧ r ≠ ra ∧ ra ≠ q + 1 + 1 + 1 ∧ 4 ≠ q + 1 + 1 + 1 ∧ 1 ≠ q + 1 + 1 + 1 := by
      clear hcat hcat2 hw2 hsm
      (repeat' apply And.intro) <;> omega
    simp at h7 hx
    cases hz : sameP acc [x] with
    | true =>
      rw [hz] at hsm
      simp at hsm
      simp [loopAt, loopsOf, Tryz.f35, h0, h4, h5, h7, o0, o1, o4, oR, oa, hpos, hw2, hx, hsm, a1, a2, a3, a4, a5, a6, b1, b2, b3, b4, b5, b6, c1, c2, c3, c4, c5, c6, c7, c8, c9, g1, g2, g3, g4, g5, g6, g7, g8, i1, i2, i3, i4, i5, i6, i7, i8, p2, hcat, hcat2]
      exact ⟨k, by omega, rfl, r, acc, s', ⟨rfl, rfl, rfl⟩, rfl, by simp [oR, a1, c1, c3], p1, p2, by omega, by omega, by omega, by omega, hacc, by omega, hso'⟩
    | false =>
      rw [hz] at hsm
      simp at hsm
      simp [loopAt, loopsOf, Tryz.f35, h0, h4, h5, h7, o0, o1, o4, oR, oa, hpos, hw2, hx, hsm, a1, a2, a3, a4, a5, a6, b1, b2, b3, b4, b5, b6, c1, c2, c3, c4, c5, c6, c7, c8, c9, g1, g2, g3, g4, g5, g6, g7, g8, i1, i2, i3, i4, i5, i6, i7, i8, p2, hcat, hcat2]
      exact ⟨k, by omega, rfl, q + 1 + 1 + 1, acc ++ [x], s', ⟨rfl, rfl, rfl⟩, rfl, by
        have : q + 1 + 1 + 1 ≠ 4 := by omega
        rw [if_neg this, if_pos rfl]
        simp, .inr (by omega), by omega, by omega, by omega, by omega, by omega, fun y hy => by
        rcases List.mem_append.1 hy with hy | hy
        · exact hacc y hy
        · simp at hy; subst hy; exact hxo, by simp; omega, hso'⟩
/-- What a state tells of a row that stands in a box. -/
def rowOf : Ob → Nat
  | .box _ [_, _, .row a, _, _, _] => a
  | _ => 0
def tsOf : Ob → List T
  | .row _ ts _ => ts
  | _ => []
@[simp] theorem rowOf_box (e : Nat) (a b : SV) (r : Nat) (c d f : SV) : rowOf (.box e [a, b, .row r, c, d, f]) = r := rfl
@[simp] theorem tsOf_row (e : Nat) (ts : List T) (l : Bool) : tsOf (.row e ts l) = ts := rfl
def SrcOK (m : Nat) (ob : Ob) : Prop := ∃ src : Src, ob = srcB src ∧ src.Ok m
def NumOK (v : SV) : Prop := ∃ n : Nat, n ≤ 2 ∧ v = .t (.int .i64 n)
def RdsOK (ts : List T) : Prop := ∃ rds : List Rd, ts = rds.map rdT ∧ (∀ x ∈ rds, RdG x) ∧ rds.length ≤ 2
theorem done_changes2 (m : Nat) (hm : m + 20000 < 1000000000) (sn at_ : Int) : ∀ s o q, (s 0 = .ptr 0 0 ∧ s 4 = .ptr 1 0 ∧ s 5 = .ptr 4 0 ∧ NumOK (s 7) ∧ SrcOK m (o 0) ∧ o 1 = dnZ ∧ o 4 = dnN sn at_ (rowOf (o 4)) 3 ∧ o (rowOf (o 4)) = .row 36 (tsOf (o (rowOf (o 4)))) true ∧ RdsOK (tsOf (o (rowOf (o 4)))) ∧ o 3 = .row 42 [] true ∧ 4 < q ∧ (rowOf (o 4) = 2 ∨ 4 < rowOf (o 4)) ∧ rowOf (o 4) < q) →
    ∃ e s' o' q', run E (.code (.loop (loopAt Tryz.f35 1)) ⟨s, o, q, 50⟩) = some (.st e ⟨s', o', q', 50⟩) ∧ ∃ a : Nat × List Chg × Src × Nat × List Rd, ((∀ x ∈ a.2.1, ChG x) ∧ a.2.1.length ≤ 2 ∧ a.2.2.1.Ok (m + 9400) ∧ (∀ x ∈ a.2.2.2.2, RdG x) ∧ a.2.2.2.2.length ≤ 2) ∧ (e = .exit 2 ∧ s' 0 = .ptr 0 0 ∧ s' 4 = .ptr 1 0 ∧ s' 5 = .ptr 4 0 ∧ o' 0 = srcB a.2.2.1 ∧ o' 1 = dnZ ∧ o' 4 = dnN sn at_ a.2.2.2.1 a.1 ∧ o' a.2.2.2.1 = .row 36 (a.2.2.2.2.map rdT) true ∧ o' a.1 = .row 42 (a.2.1.map chgT) true ∧ a.2.2.2.1 ≠ a.1 ∧ a.1 ≠ a.2.2.2.1 ∧ a.1 ≠ 0 ∧ a.1 ≠ 1 ∧ a.1 ≠ 4 ∧ 0 ≠ a.1 ∧ 1 ≠ a.1 ∧ 4 ≠ a.1 ∧ a.1 < q' ∧ a.2.2.2.1 < q' ∧ a.2.2.2.1 ≠ 0 ∧ a.2.2.2.1 ≠ 1 ∧ a.2.2.2.1 ≠ 4 ∧ 0 ≠ a.2.2.2.1 ∧ 1 ≠ a.2.2.2.1 ∧ 4 ≠ a.2.2.2.1) := by
  intro s o q ⟨h0, h4, h5, ⟨n0, hn0, h7⟩, ⟨src, o0, hok⟩, o1, o4, oa, ⟨rds, hts, hrds, hrl⟩, o3, p1, p2, p3⟩
  rw [hts] at oa
  obtain ⟨e, s', o', q', hr, a, ⟨g1, g2, g3⟩, f⟩ := done_changes n0 hn0 src m hm hok sn at_ (rowOf (o 4)) rds p2 s o q ⟨h0, h4, h5, h7, o0, o1, o4, oa, o3, p1, p3⟩
  exact ⟨e, s', o', q', hr, (a.1, a.2.1, a.2.2, rowOf (o 4), rds), ⟨g1, g2, g3, hrds, hrl⟩, f⟩
abbrev dnX0 (d : Dn) : X := .agg [.t (.int .i64 d.snap), .t (.int .i64 d.at_), .row 36 (d.reads.map rdT), .row 42 (d.changes.map chgT), .t (.bool d.inn), .t (.bool d.out)]
theorem drawDone (s : Src) (m : Nat) (hm : m + 30000 < 1000000000) (h : s.Ok m) (n : Nat) (h1 : 1 ≤ n) (h2 : n ≤ 256) : ∃ (d : Dn) (s' : Src), run E (.call 35 [srcX s, xI n]) = some (.res [dnX0 d] [some (srcX s')]) ∧ dnFit d ∧ d.at_ = (n : Int) ∧ s'.Ok (m + 11000) := by
  obtain ⟨sn, s1, a1, b1, c1⟩ := srcNext s m (by omega) h n h1 h2
  obtain ⟨n0, s2, a2, b2, c2⟩ := srcNext s1 (m + 1) (by omega) c1 3 (by omega) (by omega)
  obtain ⟨X1, A1, B1, C1, M1, hg1, hx1⟩ := skG (fun a : Nat × List Rd × Src => (∀ x ∈ a.2.1, RdG x) ∧ a.2.1.length ≤ 2 ∧ a.2.2.Ok (m + 1 + 1 + 812)) ((0, [], s2) : Nat × List Rd × Src) ⟨by simp, by simp, c2.up (by omega)⟩ (done_reads n0 (by omega) s2 (m + 1 + 1) (by omega) c2 sn n)
  have hn := fun s o q => srcNext (M1 s o q).2.2 (m + 1 + 1 + 812) (by omega) (hg1 s o q).2.2 3 (by omega) (by omega)
  obtain ⟨R, S3, hn⟩ : ∃ (R : Ss → Os → Nat → Nat) (S3 : Ss → Os → Nat → Src), ∀ s o q, run E (.call 89 [srcX (M1 s o q).2.2, xI (3 : Nat)]) = some (.res [xI (R s o q)] [some (srcX (S3 s o q))]) ∧ R s o q < 3 ∧ (S3 s o q).Ok (m + 1 + 1 + 812 + 1) :=
    ⟨fun s o q => Classical.choose (hn s o q), fun s o q => Classical.choose (Classical.choose_spec (hn s o q)), fun s o q => Classical.choose_spec (Classical.choose_spec (hn s o q))⟩
  have hR : ∀ s o q, NumOK (.t (.int .i64 (R s o q))) := fun s o q => ⟨R s o q, by have := (hn s o q).2.1; omega, rfl⟩
  have hS : ∀ s o q, SrcOK (m + 1 + 1 + 812 + 1) (srcB (S3 s o q)) := fun s o q => ⟨S3 s o q, rfl, (hn s o q).2.2⟩
  have hD : ∀ s o q, RdsOK ((M1 s o q).2.1.map rdT) := fun s o q => ⟨_, rfl, (hg1 s o q).1, (hg1 s o q).2.1⟩
  have hN := fun s o q => (hn s o q).1
  obtain ⟨X2, A2, B2, C2, M2, hg2, hx2⟩ := skG (fun a : Nat × List Chg × Src × Nat × List Rd => (∀ x ∈ a.2.1, ChG x) ∧ a.2.1.length ≤ 2 ∧ a.2.2.1.Ok (m + 1 + 1 + 812 + 1 + 9400) ∧ (∀ x ∈ a.2.2.2.2, RdG x) ∧ a.2.2.2.2.length ≤ 2) ((0, [], s2, 0, []) : Nat × List Chg × Src × Nat × List Rd) ⟨by simp, by simp, c2.up (by omega), by simp, by simp⟩ (done_changes2 (m + 1 + 1 + 812 + 1) (by omega) sn n)
  simp only [loopAt, loopsOf, Tryz.f35] at hx1 hx2
  simp at hx1 hx2 a1 a2 hN hD hS hR
  obtain ⟨Y, hY⟩ : ∃ Y, run E (.call 35 [srcX s, xI n]) = Y := ⟨_, rfl⟩
  rw [hY]
  rw [run_call E 35 _ rfl Tryz.func35 rfl rfl rfl (by simp)] at hY
  simp [a1, a2, hx1, hN, hD, hS, hR, hx2] at hY
  subst hY
  obtain ⟨g1, g2, g3, g4, g5⟩ := hg2 _ _ _
  refine ⟨⟨sn, n, _, _, false, false⟩, _, rfl, ⟨⟨⟨?_, fun x hx => (g4 x hx).1⟩, ⟨?_, fun x hx => (g1 x hx).1⟩⟩, fun x hx => (g4 x hx).2, fun x hx => (g1 x hx).2⟩, rfl, g3.up (by omega)⟩
  · exact Nat.lt_of_le_of_lt g5 (by omega)
  · exact Nat.lt_of_le_of_lt g2 (by omega)
end Go.Md
/- slices.Delete of numbers. -/
set_option linter.unusedSimpArgs false
set_option linter.unusedVariables false
namespace Go.Md
open Go.Ev Go.Proofs Go.Pu
set_option maxRecDepth 100000
set_option maxHeartbeats 4000000
theorem take_parts {α : Type} {A B C : List α} {m : Nat} (h : A.length + B.length = m) (z : List α) : List.take m (List.take m (A ++ (B ++ C)) ++ z) = A ++ B := by
  have e : List.take m (A ++ (B ++ C)) = A ++ B := by
    rw [← List.append_assoc]
    exact List.take_left' (by simp [h])
  rw [e]
  exact List.take_left' (by simp [h])
theorem del_244 (xs : List Nat) (k : Nat) (hk : k < xs.length) (hl : xs.length < 4294967296) : run E (.call 118 [.row 3 (xs.map intT), xI k, xI (k + 1 : Nat)]) = some (.res [.row 3 ((xs.take k ++ xs.drop (k + 1)).map intT)] [none]) := by
  rw [run_call E 118 _ rfl Tryz.func118 rfl rfl rfl (by simp)]
  have d5 := d118_5
  simp [regionOf, findR, pick, Tryz.f118] at d5
  have dd := fun st => run_region_draw E st 5 _ d5
  clear d5
  have h1 : (k : Int) < (xs.length : Int) := by omega
  have h2 : ¬ ((k : Int) = (k : Int) + 1) := by omega
  have h3 : (0 : Int) ≤ (k : Int) + 1 := by omega
  have h4 : k + 1 ≤ xs.length := by omega
  have h5 : ¬ (xs.length = k) := by omega
  have h6 : k ≤ xs.length := by omega
  obtain ⟨m, hm⟩ : ∃ m, xs.length = m + 1 := ⟨xs.length - 1, by omega⟩
  have h7 : k + (m + 1 - (k + 1)) = m := by omega
  have h8 : k + (m - k) = m := by omega
  have h9 : ¬ (m + 1 = k) := by omega
  have h10 : k ≤ m := by omega
  have h11 : min k (m + 1) = k := by omega
  have h12 : k + 1 ≤ m + 1 := by omega
  have h13 : (k : Int) < (m : Int) + 1 := by omega
  have h15 : k ≤ m + 1 := by omega
  have h16 : m + 1 ≤ k + (m - k + 1) := by omega
  have ht : List.take (m + 1) (xs.map intT) = xs.map intT := List.take_of_length_le (by simp; omega)
  have h17 : m ≤ min m (k + (m - k + 1)) + (k + (m - k + 1) - (m + 1) + 1) := by omega
  have h18 := fun C z => take_parts (A := List.take k (xs.map intT)) (B := List.drop (k + 1) (xs.map intT)) (C := C) (m := m) (by simp; omega) z
  have h14 : (0 : Int) ≤ (m : Int) + 1 := by omega
  simp [dd, hm, h1, h2, h3, h4, h5, h6, h7, h8, h9, h10, h11, h12, h13, h14, h15, h16, h17, h18, ht, hk]
end Go.Md
/- Serial orders, in plain lists. -/
set_option linter.unusedSimpArgs false
set_option linter.unusedVariables false
namespace Go.Md
open Go.Ev Go.Proofs Go.Pu
/-- Nothing that is left must come ahead of it. -/
def freeIn (A : Nat → Nat → Bool) (left : List Nat) (i : Nat) : Bool := !left.any (fun o => o != i && A o i)
def serGo (A : Nat → Nat → Bool) : Nat → List Nat → Option (List Nat)
  | 0, left => if left.isEmpty then some [] else none
  | f + 1, left => if left.isEmpty then some [] else match left.find? (freeIn A left) with
    | none => none
    | some k => (serGo A f (left.erase k)).map (k :: ·)
/-- Those that are not taken. -/
def leftOf (tk : List Bool) : List Nat := (List.range tk.length).filter fun i => !tk.getD i true
theorem leftOf_nodup (tk : List Bool) : (leftOf tk).Nodup := List.Pairwise.filter _ List.nodup_range
theorem leftOf_mem {tk : List Bool} {i : Nat} : i ∈ leftOf tk ↔ i < tk.length ∧ tk.getD i true = false := by
  simp [leftOf]
theorem leftOf_set {tk : List Bool} {k : Nat} (hk : k < tk.length) : leftOf (tk.set k true) = (leftOf tk).erase k := by
  rw [(leftOf_nodup tk).erase_eq_filter]
  unfold leftOf
  rw [List.filter_filter, List.length_set]
  apply List.filter_congr
  intro i hi
  simp only [List.mem_range] at hi
  by_cases h : i = k
  · subst h
    simp [List.getD, List.getElem?_set, hi]
  · have h' : k ≠ i := fun e => h e.symm
    simp [List.getD, List.getElem?_set, h, h']
theorem leftOf_find (tk : List Bool) (q : Nat → Bool) : (leftOf tk).find? q = (List.range tk.length).find? (fun i => !tk.getD i true && q i) := by
  unfold leftOf
  rw [List.find?_filter]
  congr 1
  funext a
  cases tk.getD a true <;> cases q a <;> rfl
theorem free_all (A : Nat → Nat → Bool) (tk : List Bool) (k : Nat) : freeIn A (leftOf tk) k = (List.range tk.length).all (fun i => tk.getD i true || (i == k || !A i k)) := by
  rw [Bool.eq_iff_iff]
  simp only [freeIn, Bool.not_eq_true', List.any_eq_false, List.all_eq_true, leftOf_mem, List.mem_range]
  constructor
  · intro h i hi
    cases ht : tk.getD i true with
    | true => rfl
    | false =>
      have := h i ⟨hi, ht⟩
      simp only [Bool.and_eq_true, bne_iff_ne, ne_eq, not_and, Bool.not_eq_true] at this
      by_cases hik : i = k
      · simp [hik]
      · simp [hik, this hik]
  · rintro h i ⟨hi, ht⟩
    have := h i hi
    rw [ht] at this
    simp only [Bool.false_or, Bool.or_eq_true, beq_iff_eq, Bool.not_eq_true'] at this
    rcases this with h1 | h1
    · simp [h1]
    · simp [h1]
theorem erase_at {l : List Nat} (h : l.Nodup) {i : Nat} (hi : i < l.length) : l.erase l[i] = l.take i ++ l.drop (i + 1) := by
  rw [List.erase_eq_eraseIdx_of_idxOf, List.eraseIdx_eq_take_drop_succ]
  · exact (h.idxOf_getElem i hi)
end Go.Md
/- SerialOrder of impl: who may come next. -/
set_option linter.unusedSimpArgs false
set_option linter.unusedVariables false
namespace Go.Md
open Go.Ev Go.Proofs Go.Pu
set_option maxRecDepth 100000
set_option maxHeartbeats 4000000
theorem indexFunc_240_2 (xs : List Nat) (g : Nat) (c0 c1 : List T) (p : Nat → Bool) (hl : xs.length < 9223372036854775807) (hm : E.md g = []) (hf : E.flat g = true) (hp : ∀ x ∈ xs, run E (.call g [.t (intT x), .dref c0, .dref c1]) = some (.res [xB (p x)] [])) :
    run E (.call 114 [.t (.list (xs.map intT)), .fn g [c0, c1]]) = some (.res [xI (idxP p xs)] []) := by
  rw [run_call E 114 _ rfl Tryz.func114 rfl rfl rfl (by simp)]
  rw [E_md] at hm
  have lp := fun (r : Int) (hr : r = idxP p xs) => sk (fun s o q hI => loop_for (c := loopAt Tryz.f114 0) (N := 19)
    (fun i s o q => s 0 = .t (.list (xs.map intT)) ∧ s 1 = .fn g [.dptr c0, .dptr c1] ∧ s 7 = .t (.int .i64 xs.length) ∧ s 8 = .t (.int .i64 i) ∧ r = if idxP p (xs.drop i) < 0 then -1 else idxP p (xs.drop i) + i)
    (fun e s' o' q' => e = (if r < 0 then .exit 0 else .ret) ∧ (0 ≤ r → s' 4 = .t (.int .i64 r))) xs.length
    (by
      rintro i s o q hi ⟨h0, h1, h7, h8, hr⟩
      have hd : xs.drop i = xs[i] :: xs.drop (i + 1) := by rw [List.drop_eq_getElem_cons hi]
      have hi' : (i : Int) < (xs.length : Int) := by omega
      have hw := wrap_succ (n := i) (by omega)
      have hx := hp xs[i] (List.getElem_mem hi)
      rw [hd, idxP] at hr
      cases hpx : p xs[i] with
      | true =>
        simp [hpx] at hr hx
        have hr' : ¬ r < 0 := by omega
        simp [-mdOf, loopAt, loopsOf, Tryz.f114, h0, h1, h7, h8, hi, hi', hx, hw, hm, hf, hr', hr]
      | false =>
        simp [hpx] at hr hx
        have hr2 : r = if idxP p (xs.drop (i + 1)) < 0 then -1 else idxP p (xs.drop (i + 1)) + ((i : Int) + 1) := by
          rw [hr]
          by_cases hq : idxP p (xs.drop (i + 1)) < 0
          · simp [hq]
          · have : ¬ idxP p (xs.drop (i + 1)) + 1 < 0 := by omega
            simp [hq, this]; omega
        clear hr
        simp [-mdOf, loopAt, loopsOf, Tryz.f114, h0, h1, h7, h8, hi, hi', hx, hw, hm, hf]
        exact hr2)
    (by
      rintro s o q ⟨h0, h1, h7, h8, hr⟩
      simp [idxP] at hr
      simp [loopAt, loopsOf, Tryz.f114, h0, h1, h7, h8, hr])
    xs.length 0 s o q (by omega) hI)
  simp only [loopAt, loopsOf, Tryz.f114] at lp
  obtain ⟨X, A, B, C, hx⟩ := lp _ rfl
  have hz : idxP p xs = if idxP p xs < 0 then -1 else idxP p xs := by
    cases xs with
    | nil => simp [idxP]
    | cons x r =>
      unfold idxP
      split
      · simp
      · split
        · simp
        · have : ¬ idxP p r + 1 < 0 := by omega
          simp [this]
  simp [← hz] at hx
  by_cases h : idxP p xs < 0
  · have h1 : idxP p xs = -1 := by rw [hz]; simp [h]
    simp [h] at hx
    simp [hx, h1]
  · have h2 : 0 ≤ idxP p xs := by omega
    simp [h, h2] at hx
    simp [hx]
theorem containsFunc_242_2 (xs : List Nat) (g : Nat) (c0 c1 : List T) (p : Nat → Bool) (hl : xs.length < 9223372036854775807) (hm : E.md g = []) (hf : E.flat g = true) (hp : ∀ x ∈ xs, run E (.call g [.t (intT x), .dref c0, .dref c1]) = some (.res [xB (p x)] [])) :
    run E (.call 116 [.t (.list (xs.map intT)), .fn g [c0, c1]]) = some (.res [xB (xs.any p)] []) := by
  rw [run_call E 116 _ rfl Tryz.func116 rfl rfl rfl (by simp)]
  have h := indexFunc_240_2 xs g c0 c1 p hl hm hf hp
  simp [h, idxP_ge]
theorem ahead_243 (l : List Dn) (hf : ∀ d ∈ l, dnFit d) (i k : Nat) (hi : i < l.length) (hk : k < l.length) : run E (.call 117 [.t (intT i), .dref [.int .i64 k], .dref [.list (l.map dnT)]]) = some (.res [xB (i != k && aheadP l[i] l[k])] []) := by
  rw [run_call E 117 _ rfl Tryz.func117 rfl rfl rfl (by simp)]
  have d1 := d117_1
  simp [regionOf, findR, pick, Tryz.f117] at d1
  have dd := fun st => run_region_draw E st 1 _ d1
  clear d1
  have hc := implAhead l[i] l[k] (hf _ (List.getElem_mem hi)) (hf _ (List.getElem_mem hk))
  have hi' : (i : Int) < (l.length : Int) := by omega
  have hk' : (k : Int) < (l.length : Int) := by omega
  have hxi : l[i]? = some l[i] := List.getElem?_eq_getElem hi
  have hxk : l[k]? = some l[k] := List.getElem?_eq_getElem hk
  generalize aheadP l[i] l[k] = z at *
  by_cases hik : i = k
  · subst hik
    simp [dd, hi, hi']
  · have hb : ((i : Int) != (k : Int)) = true := by simp; omega
    have hb2 : (i != k) = true := by simp [hik]
    simp [dd, hb, hb2, hi, hi', hk, hk', hxi, hxk, hc]
theorem free_241 (l : List Dn) (hf : ∀ d ∈ l, dnFit d) (left : List Nat) (hl : ∀ i ∈ left, i < l.length) (hn : left.length < 9223372036854775807) (k : Nat) (hk : k < l.length) : run E (.call 115 [.t (intT k), .dref [.list (left.map intT)], .dref [.list (l.map dnT)]]) = some (.res [xB (!left.any (fun o => o != k && aheadAt l o k))] []) := by
  rw [run_call E 115 _ rfl Tryz.func115 rfl rfl rfl (by simp)]
  have h := containsFunc_242_2 left 117 [.int .i64 k] [.list (l.map dnT)] (fun o => o != k && aheadAt l o k) hn rfl rfl (fun x hx => by
    have := ahead_243 l hf x k (hl x hx) hk
    rw [this, aheadAt_eq (hl x hx) hk])
  generalize left.any (fun o => o != k && aheadAt l o k) = z at *
  simp [h]
end Go.Md
/- SerialOrder: what is asked of those that were committed. -/
set_option linter.unusedSimpArgs false
set_option linter.unusedVariables false
namespace Go.Md
open Go.Ev Go.Proofs Go.Pu
set_option maxRecDepth 100000
set_option maxHeartbeats 16000000
theorem specRises_loop (l : List Dn) (hl : l.length < 4294967296) (h : ∀ c ∈ l, c.Sm) (b : Bool) (hb : b = seqOK doneOK dnOrd l) : ∀ s o q, (s 0 = .t (.list (l.map dnT)) ∧ s 3 = .t (.int .i64 0)) →
    ∃ e s' o' q', run E (.code (.loop (loopAt Tryz.f55 0)) ⟨s, o, q, 37⟩) = some (.st e ⟨s', o', q', 37⟩) ∧ e = (if b then .exit 0 else .ret) ∧ s' 0 = .t (.list (l.map dnT)) ∧ (b = false → s' 2 = .t (.bool false)) := by
  intro s o q hI
  have d4 := d55_4
  simp [regionOf, findR, pick, Tryz.f55] at d4
  have dd := fun st => run_region_draw E st 4 _ d4
  clear d4
  refine loop_for (c := loopAt Tryz.f55 0) (N := 37)
    (fun i s o q => s 0 = .t (.list (l.map dnT)) ∧ s 3 = .t (.int .i64 i) ∧ b = stepsFrom l.length (seqStep doneOK dnOrd l) i)
    (fun e s' o' q' => e = (if b then .exit 0 else .ret) ∧ s' 0 = .t (.list (l.map dnT)) ∧ (b = false → s' 2 = .t (.bool false))) l.length ?_ ?_
    l.length 0 s o q (by omega) ⟨hI.1, hI.2, hb⟩
  · rintro i s o q hi ⟨h0, h3, hp⟩
    have hxi : l[i]? = some l[i] := List.getElem?_eq_getElem hi
    have hi' : (i : Int) < (l.length : Int) := by omega
    have hw := wrap_succ (n := i) (by omega)
    have hc := specDoneOK l[i] (h _ (List.getElem_mem hi))
    rw [stepsFrom_lt hi] at hp
    cases i with
    | zero =>
      rw [seq_zero hi] at hp
      simp at h3 hw hxi hi'
      generalize doneOK l[0] = z at *
      cases z <;> simp at hp <;> simp [loopAt, loopsOf, Tryz.f55, dd, h0, h3, hi, hi', hxi, hw, hc, hp]
    | succ k =>
      rw [seq_succ hi] at hp
      have hk : k < l.length := by omega
      have hxk : l[k]? = some l[k] := List.getElem?_eq_getElem hk
      have hwk := wrap_nat (n := k) (by omega)
      have hpos : (0 : Int) < (k : Int) + 1 := by omega
      have hge : (0 : Int) ≤ (k : Int) + 1 := by omega
      simp at h3 hw hi'
      rw [show dnOrd l[k] l[k + 1] = decide (l[k].at_ < l[k + 1].at_) from rfl] at hp
      generalize doneOK l[k + 1] = z at *
      by_cases hy : l[k].at_ < l[k + 1].at_
      · have hy' : ¬ l[k + 1].at_ ≤ l[k].at_ := by omega
        cases z <;> simp [hy] at hp <;> simp [loopAt, loopsOf, Tryz.f55, dd, h0, h3, hi, hi', hxi, hw, hc, hp, hk, hxk, hwk, hpos, hge, hy, hy']
      · have hy' : l[k + 1].at_ ≤ l[k].at_ := by omega
        cases z <;> simp [hy] at hp <;> simp [loopAt, loopsOf, Tryz.f55, dd, h0, h3, hi, hi', hxi, hw, hc, hp, hk, hxk, hwk, hpos, hge, hy, hy']
  · rintro s o q ⟨h0, h3, hp⟩
    rw [stepsFrom_end] at hp
    simp [loopAt, loopsOf, Tryz.f55, h0, h3, hp]
def risesOK (l : List Dn) : Bool := seqOK doneOK dnOrd l && decide (l.length ≤ 40)
theorem specRises (l : List Dn) (hl : l.length < 4294967296) (h : ∀ c ∈ l, c.Sm) : run E (.call 55 [.t (.list (l.map dnT))]) = some (.res [xB (risesOK l)] []) := by
  rw [run_call E 55 _ rfl Tryz.func55 rfl rfl rfl (by simp)]
  obtain ⟨b, hb⟩ : ∃ b, b = seqOK doneOK dnOrd l := ⟨_, rfl⟩
  obtain ⟨X, A, B, C, hx⟩ := sk (specRises_loop l hl h b hb)
  simp only [loopAt, loopsOf, Tryz.f55] at hx
  have l3 : ((l.length : Int) ≤ 40) = (l.length ≤ 40) := by simp; omega
  unfold risesOK
  rw [← hb]
  cases b <;> simp at hx <;> simp [hx, l3]
theorem implRises_loop (l : List Dn) (hl : l.length < 4294967296) (h : ∀ c ∈ l, c.Sm) (b : Bool) (hb : b = seqOK doneOK dnOrd l) : ∀ s o q, (s 0 = .t (.list (l.map dnT)) ∧ s 5 = .t (.list (l.map dnT)) ∧ s 6 = .t (.int .i64 l.length) ∧ s 7 = .t (.int .i64 0)) →
    ∃ e s' o' q', run E (.code (.loop (loopAt Tryz.f53 0)) ⟨s, o, q, 34⟩) = some (.st e ⟨s', o', q', 34⟩) ∧ e = (if b then .exit 0 else .ret) ∧ s' 0 = .t (.list (l.map dnT)) ∧ (b = false → s' 2 = .t (.bool false)) := by
  intro s o q hI
  have d4 := d53_4
  simp [regionOf, findR, pick, Tryz.f53] at d4
  have dd := fun st => run_region_draw E st 4 _ d4
  clear d4
  refine loop_for (c := loopAt Tryz.f53 0) (N := 34)
    (fun i s o q => s 0 = .t (.list (l.map dnT)) ∧ s 5 = .t (.list (l.map dnT)) ∧ s 6 = .t (.int .i64 l.length) ∧ s 7 = .t (.int .i64 i) ∧ b = stepsFrom l.length (seqStep doneOK dnOrd l) i)
    (fun e s' o' q' => e = (if b then .exit 0 else .ret) ∧ s' 0 = .t (.list (l.map dnT)) ∧ (b = false → s' 2 = .t (.bool false))) l.length ?_ ?_
    l.length 0 s o q (by omega) ⟨hI.1, hI.2.1, hI.2.2.1, hI.2.2.2, hb⟩
  · rintro i s o q hi ⟨h0, h5, h6, h7, hp⟩
    have hxi : l[i]? = some l[i] := List.getElem?_eq_getElem hi
    have hi' : (i : Int) < (l.length : Int) := by omega
    have hw := wrap_succ (n := i) (by omega)
    have hc := implDoneOK l[i] (h _ (List.getElem_mem hi))
    rw [stepsFrom_lt hi] at hp
    cases i with
    | zero =>
      rw [seq_zero hi] at hp
      simp at h7 hw hxi hi'
      generalize doneOK l[0] = z at *
      cases z <;> simp at hp <;> simp [loopAt, loopsOf, Tryz.f53, dd, h0, h5, h6, h7, hi, hi', hxi, hw, hc, hp]
    | succ k =>
      rw [seq_succ hi] at hp
      have hk : k < l.length := by omega
      have hxk : l[k]? = some l[k] := List.getElem?_eq_getElem hk
      have hwk := wrap_nat (n := k) (by omega)
      have hpos : (0 : Int) < (k : Int) + 1 := by omega
      have hge : (0 : Int) ≤ (k : Int) + 1 := by omega
      simp at h7 hw hi'
      rw [show dnOrd l[k] l[k + 1] = decide (l[k].at_ < l[k + 1].at_) from rfl] at hp
      generalize doneOK l[k + 1] = z at *
      by_cases hy : l[k].at_ < l[k + 1].at_
      · have hy' : ¬ l[k + 1].at_ ≤ l[k].at_ := by omega
        cases z <;> simp [hy] at hp <;> simp [loopAt, loopsOf, Tryz.f53, dd, h0, h5, h6, h7, hi, hi', hxi, hw, hc, hp, hk, hxk, hwk, hpos, hge, hy, hy']
      · have hy' : l[k + 1].at_ ≤ l[k].at_ := by omega
        cases z <;> simp [hy] at hp <;> simp [loopAt, loopsOf, Tryz.f53, dd, h0, h5, h6, h7, hi, hi', hxi, hw, hc, hp, hk, hxk, hwk, hpos, hge, hy, hy']
  · rintro s o q ⟨h0, h5, h6, h7, hp⟩
    rw [stepsFrom_end] at hp
    simp [loopAt, loopsOf, Tryz.f53, h0, h5, h6, h7, hp]
theorem implRises (l : List Dn) (hl : l.length < 4294967296) (h : ∀ c ∈ l, c.Sm) : run E (.call 53 [.t (.list (l.map dnT))]) = some (.res [xB (risesOK l)] []) := by
  rw [run_call E 53 _ rfl Tryz.func53 rfl rfl rfl (by simp)]
  obtain ⟨b, hb⟩ : ∃ b, b = seqOK doneOK dnOrd l := ⟨_, rfl⟩
  obtain ⟨X, A, B, C, hx⟩ := sk (implRises_loop l hl h b hb)
  simp only [loopAt, loopsOf, Tryz.f53] at hx
  have l3 : ((l.length : Int) ≤ 40) = (l.length ≤ 40) := by simp; omega
  unfold risesOK
  rw [← hb]
  cases b <;> simp at hx <;> simp [hx, l3]
end Go.Md
/- SerialOrder of spec: the order by trial. -/
set_option linter.unusedSimpArgs false
set_option linter.unusedVariables false
namespace Go.Md
open Go.Ev Go.Proofs Go.Pu
set_option maxRecDepth 100000
set_option maxHeartbeats 16000000
abbrev boT (b : Bool) : T := .bool b
/-- Does `j` not stand in the way of `i`? -/
def letsBy (l : List Dn) (tk : List Bool) (i j : Nat) : Bool := tk.getD j true || (j == i || !aheadAt l j i)
theorem l12_in (l : List Dn) (hn : l.length ≤ 40) (hf : ∀ d ∈ l, dnFit d) (tk : List Bool) (ht : tk.length = l.length) (i : Nat) (hi : i < l.length) (r r4 : Nat) (v6 : SV) (O : Nat → Ob) (Q : Nat) (hO : O r = .row 4 (tk.map boT) true) (b : Bool) (z0 : Bool) (hb : b = (z0 && stepsFrom l.length (letsBy l tk i) 0)) : ∀ s o q, (s 0 = .t (.list (l.map dnT)) ∧ s 4 = .row r4 ∧ s 5 = .row r ∧ s 6 = v6 ∧ s 7 = .t (.int .i64 i) ∧ s 8 = .t (.bool z0) ∧ s 9 = .t (.int .i64 0) ∧ o = O ∧ q = Q) →
    ∃ e s' o' q', run E (.code (.loop (loopAt Tryz.f56 2)) ⟨s, o, q, 76⟩) = some (.st e ⟨s', o', q', 76⟩) ∧ (e = .exit 4 ∧ s' 0 = .t (.list (l.map dnT)) ∧ s' 4 = .row r4 ∧ s' 5 = .row r ∧ s' 6 = v6 ∧ s' 7 = .t (.int .i64 i) ∧ s' 8 = .t (.bool b) ∧ o' = O ∧ q' = Q) := by
  intro s o q hI
  have d12 := d56_12
  simp [regionOf, findR, pick, Tryz.f56] at d12
  have dd := fun st => run_region_draw E st 12 _ d12
  clear d12
  refine loop_for (c := loopAt Tryz.f56 2) (N := 76)
    (fun j s o q => ∃ z : Bool, s 0 = .t (.list (l.map dnT)) ∧ s 4 = .row r4 ∧ s 5 = .row r ∧ s 6 = v6 ∧ s 7 = .t (.int .i64 i) ∧ s 8 = .t (.bool z) ∧ s 9 = .t (.int .i64 j) ∧ o = O ∧ q = Q ∧ b = (z && stepsFrom l.length (letsBy l tk i) j))
    (fun e s' o' q' => e = .exit 4 ∧ s' 0 = .t (.list (l.map dnT)) ∧ s' 4 = .row r4 ∧ s' 5 = .row r ∧ s' 6 = v6 ∧ s' 7 = .t (.int .i64 i) ∧ s' 8 = .t (.bool b) ∧ o' = O ∧ q' = Q) l.length ?_ ?_
    l.length 0 s o q (by omega) (by
      obtain ⟨h0, h4, h5, h6, h7, h8, h9, ho, hq⟩ := hI
      exact ⟨z0, h0, h4, h5, h6, h7, h8, h9, ho, hq, hb⟩)
  · rintro j s o q hj ⟨z, h0, h4, h5, h6, h7, h8, h9, ho, hq, hz⟩
    have hj' : (j : Int) < (l.length : Int) := by omega
    cases z with
    | false =>
      simp at hz
      simp [loopAt, loopsOf, Tryz.f56, h0, h4, h5, h6, h7, h8, h9, ho, hq, hO, hj', hz]
    | true =>
      have hi' : (i : Int) < (l.length : Int) := by omega
      have hwj := wrap_succ (n := j) (by omega)
      have htj : j < tk.length := by omega
      have htj' : (j : Int) < (tk.length : Int) := by omega
      have hxj : tk[j]? = some tk[j] := List.getElem?_eq_getElem htj
      have hlj : l[j]? = some l[j] := List.getElem?_eq_getElem hj
      have hli : l[i]? = some l[i] := List.getElem?_eq_getElem hi
      have hc := specAhead l[j] l[i] (hf _ (List.getElem_mem hj)) (hf _ (List.getElem_mem hi))
      rw [stepsFrom_lt hj] at hz
      have hP : letsBy l tk i j = (tk[j] || (j == i || !aheadP l[j] l[i])) := by
        unfold letsBy
        rw [aheadAt_eq hj hi, List.getD_eq_getElem?_getD, hxj]
        rfl
      rw [hP] at hz
      clear hP
      obtain ⟨x, hx⟩ : ∃ x, tk[j] = x := ⟨_, rfl⟩
      rw [hx] at hz hxj
      generalize aheadP l[j] l[i] = y at *
      by_cases hij : j = i
      · subst hij
        cases x <;> simp at hz <;> simp [loopAt, loopsOf, Tryz.f56, dd, h0, h4, h5, h6, h7, h8, h9, ho, hq, hO, hj, hj', hwj, htj, htj', hxj, hx, boT, hlj, hz]
      · have hb1 : ((j : Int) == (i : Int)) = false := by simp; omega
        have hb2 : (j == i) = false := by simp [hij]
        have hb3 : ¬ ((j : Int) = (i : Int)) := by omega
        rw [hb2] at hz
        cases x <;> cases y <;> simp at hz <;> simp [loopAt, loopsOf, Tryz.f56, dd, h0, h4, h5, h6, h7, h8, h9, ho, hq, hO, hj, hj', hi, hi', hwj, htj, htj', hxj, hx, boT, hlj, hli, hb1, hb3, hc, hz]
  · rintro s o q ⟨z, h0, h4, h5, h6, h7, h8, h9, ho, hq, hz⟩
    rw [stepsFrom_end] at hz
    simp at hz
    simp [loopAt, loopsOf, Tryz.f56, h0, h4, h5, h6, h7, h8, h9, ho, hq, hO, hz]
def goesBy (l : List Dn) (tk : List Bool) (i : Nat) : Bool := !tk.getD i true && stepsFrom l.length (letsBy l tk i) 0
def tkOf (tk : List Bool) : Option Nat → List Bool
  | none => tk
  | some k => tk.set k true
theorem range_drop {n i : Nat} (h : i < n) : (List.range n).drop i = i :: (List.range n).drop (i + 1) := by
  rw [List.drop_eq_getElem_cons (by simpa using h)]
  simp
theorem l12_mid (l : List Dn) (hn : l.length ≤ 40) (hf : ∀ d ∈ l, dnFit d) (tk : List Bool) (ht : tk.length = l.length) (O : List Nat) (hO : O.length ≤ 40) (r r4 : Nat) (w : Option Nat) (hw : w = (List.range l.length).find? (goesBy l tk)) : ∀ s o q, (s 0 = .t (.list (l.map dnT)) ∧ s 4 = .row r4 ∧ s 5 = .row r ∧ s 6 = .t (.bool false) ∧ s 7 = .t (.int .i64 0) ∧ o r = .row 4 (tk.map boT) true ∧ o r4 = .row 3 (O.map intT) true ∧ r < q ∧ r4 < q ∧ r ≠ r4) →
    ∃ e s' o' q', run E (.code (.loop (loopAt Tryz.f56 1)) ⟨s, o, q, 76⟩) = some (.st e ⟨s', o', q', 76⟩) ∧ ∃ r' : Nat, (e = .exit 2 ∧ s' 0 = .t (.list (l.map dnT)) ∧ s' 4 = .row r' ∧ s' 5 = .row r ∧ s' 6 = .t (.bool w.isSome) ∧ o' r = .row 4 ((tkOf tk w).map boT) true ∧ o' r' = .row 3 ((O ++ w.toList).map intT) true ∧ r < q' ∧ r' < q' ∧ r ≠ r') := by
  intro s o q hI
  refine loop_for (c := loopAt Tryz.f56 1) (N := 76)
    (fun i s o q => ∃ (v : Option Nat) (r' : Nat), s 0 = .t (.list (l.map dnT)) ∧ s 4 = .row r' ∧ s 5 = .row r ∧ s 6 = .t (.bool v.isSome) ∧ s 7 = .t (.int .i64 i) ∧ o r = .row 4 ((tkOf tk v).map boT) true ∧ o r' = .row 3 ((O ++ v.toList).map intT) true ∧ r < q ∧ r' < q ∧ r ≠ r' ∧ w = (match v with
      | some k => some k
      | none => ((List.range l.length).drop i).find? (goesBy l tk)))
    (fun e s' o' q' => ∃ r' : Nat, (e = .exit 2 ∧ s' 0 = .t (.list (l.map dnT)) ∧ s' 4 = .row r' ∧ s' 5 = .row r ∧ s' 6 = .t (.bool w.isSome) ∧ o' r = .row 4 ((tkOf tk w).map boT) true ∧ o' r' = .row 3 ((O ++ w.toList).map intT) true ∧ r < q' ∧ r' < q' ∧ r ≠ r')) l.length ?_ ?_
    l.length 0 s o q (by omega) (by
      obtain ⟨h0, h4, h5, h6, h7, ho, ho4, hr, hr4, hne⟩ := hI
      exact ⟨none, r4, h0, h4, h5, h6, h7, ho, by simpa using ho4, hr, hr4, hne, by simpa using hw⟩)
  · rintro i s o q hi ⟨v, r', h0, h4, h5, h6, h7, ho, ho4, hr, hr4, hne, hv⟩
    have hi' : (i : Int) < (l.length : Int) := by omega
    have hne2 : r' ≠ r := fun e => hne e.symm
    cases v with
    | some k =>
      simp at hv
      subst hv
      simp at h6 ho ho4
      simp [loopAt, loopsOf, Tryz.f56, h0, h4, h5, h6, h7, ho, ho4, hr, hr4, hne, hne2, hi']
    | none =>
      simp at h6 ho4
      rw [show tkOf tk none = tk from rfl] at ho
      rw [range_drop hi, List.find?_cons] at hv
      have hwi := wrap_succ (n := i) (by omega)
      have hti : i < tk.length := by omega
      have hti' : (i : Int) < (tk.length : Int) := by omega
      have hxi : tk[i]? = some tk[i] := List.getElem?_eq_getElem hti
      obtain ⟨x, hx⟩ : ∃ x, tk[i] = x := ⟨_, rfl⟩
      rw [hx] at hxi
      obtain ⟨X, A, B, C, hin⟩ := sk (l12_in l hn hf tk ht i hi r r' (.t (.bool false)) o q ho (goesBy l tk i) (!x) (by unfold goesBy; rw [List.getD_eq_getElem?_getD, hxi]; rfl))
      simp only [loopAt, loopsOf, Tryz.f56] at hin
      simp at hin
      generalize goesBy l tk i = y at *
      have q1 : r ≠ q := by omega
      have q2 : q ≠ r := by omega
      have q3 : r' ≠ q := by omega
      have q4 : q ≠ r' := by omega
      have q5 : r ≠ q + 1 := by omega
      have q6 : q + 1 ≠ r := by omega
      have q7 : r' ≠ q + 1 := by omega
      have q8 : q + 1 ≠ r' := by omega
      have hcat : O.length + 1 ≤ 140737488355328 := by omega
      have hcat2 : (O.length + 1) * 8 ≤ 140737488355328 := by omega
      have hr1 : ([0] : List Nat) = List.range 1 := rfl
      cases y with
      | false =>
        simp at hv
        simp [loopAt, loopsOf, Tryz.f56, h0, h4, h5, h6, h7, ho, ho4, hr, hr4, hne, hne2, hi, hi', hti, hti', hxi, hx, boT, hwi, hin]
        exact ⟨rfl, hv⟩
      | true =>
        simp at hv
        simp [loopAt, loopsOf, Tryz.f56, h0, h4, h5, h6, h7, ho, ho4, hr, hr4, hne, hne2, hi, hi', hti, hti', hxi, hx, boT, hwi, hin, hcat, hcat2, q1, q2, q3, q4, q5, q6, q7, q8]
        exact ⟨some i, rfl, by simp [tkOf, boT, List.map_set], rfl, by omega, hv⟩
  · rintro s o q ⟨v, r', h0, h4, h5, h6, h7, ho, ho4, hr, hr4, hne, hv⟩
    have hv' : v = w := by
      cases v with
      | some k => simp at hv; exact hv.symm
      | none =>
        rw [List.drop_of_length_le (by simp)] at hv
        simpa using hv.symm
    subst hv'
    simp [loopAt, loopsOf, Tryz.f56, h0, h4, h5, h6, h7, ho, ho4, hr, hr4, hne]
theorem goes_find (l : List Dn) (tk : List Bool) (ht : tk.length = l.length) : (List.range l.length).find? (goesBy l tk) = (leftOf tk).find? (freeIn (aheadAt l) (leftOf tk)) := by
  rw [leftOf_find, ht]
  congr 1
  funext i
  unfold goesBy
  rw [free_all, ht]
  rfl
/-- What the trial makes of it. -/
def serOf (l : List Dn) : Option (List Nat) := serGo (aheadAt l) l.length (List.range l.length)
theorem serGo_none {A : Nat → Nat → Bool} {f : Nat} {left : List Nat} (h : left.length = f + 1) (hw : left.find? (freeIn A left) = none) : serGo A (f + 1) left = none := by
  have : left.isEmpty = false := by cases left <;> simp at h ⊢
  simp [serGo, this, hw]
theorem serGo_some {A : Nat → Nat → Bool} {f k : Nat} {left : List Nat} (h : left.length = f + 1) (hw : left.find? (freeIn A left) = some k) : serGo A (f + 1) left = (serGo A f (left.erase k)).map (k :: ·) := by
  have : left.isEmpty = false := by cases left <;> simp at h ⊢
  simp [serGo, this, hw]
theorem l12_out (l : List Dn) (hn : l.length ≤ 40) (hf : ∀ d ∈ l, dnFit d) (r r4 : Nat) (F : Option (List Nat)) (hF : F = serOf l) : ∀ s o q, (s 0 = .t (.list (l.map dnT)) ∧ s 4 = .row r4 ∧ s 5 = .row r ∧ o r = .row 4 ((List.replicate l.length false).map boT) true ∧ o r4 = .row 3 [] true ∧ r < q ∧ r4 < q ∧ r ≠ r4) →
    ∃ e s' o' q', run E (.code (.loop (loopAt Tryz.f56 0)) ⟨s, o, q, 76⟩) = some (.st e ⟨s', o', q', 76⟩) ∧ ∃ r' : Nat, ((F = none → e = .ret ∧ s' 2 = .row r' ∧ o' r' = .row 3 [] true ∧ s' 3 = .t (.bool false)) ∧ (∀ w, F = some w → e = .exit 0 ∧ s' 4 = .row r' ∧ o' r' = .row 3 (w.map intT) true)) := by
  intro s o q hI
  refine loop_for (c := loopAt Tryz.f56 0) (N := 76)
    (fun m s o q => ∃ (O : List Nat) (tk : List Bool) (r4 : Nat), s 0 = .t (.list (l.map dnT)) ∧ s 4 = .row r4 ∧ s 5 = .row r ∧ o r = .row 4 (tk.map boT) true ∧ o r4 = .row 3 (O.map intT) true ∧ r < q ∧ r4 < q ∧ r ≠ r4 ∧ O.length = m ∧ tk.length = l.length ∧ (leftOf tk).length + m = l.length ∧ F = (serGo (aheadAt l) (l.length - m) (leftOf tk)).map (O ++ ·))
    (fun e s' o' q' => ∃ r' : Nat, ((F = none → e = .ret ∧ s' 2 = .row r' ∧ o' r' = .row 3 [] true ∧ s' 3 = .t (.bool false)) ∧ (∀ w, F = some w → e = .exit 0 ∧ s' 4 = .row r' ∧ o' r' = .row 3 (w.map intT) true))) l.length ?_ ?_
    l.length 0 s o q (by omega) (by
      obtain ⟨h0, h4, h5, ho, ho4, hr, hr4, hne⟩ := hI
      have hlf : leftOf (List.replicate l.length false) = List.range l.length := by
        unfold leftOf
        rw [List.length_replicate, List.filter_eq_self]
        intro a ha
        simp at ha
        simp [List.getD_eq_getElem?_getD, ha]
      exact ⟨[], List.replicate l.length false, r4, h0, h4, h5, ho, ho4, hr, hr4, hne, rfl, by simp, by rw [hlf]; simp, by rw [hlf, hF]; simp [serOf]⟩)
  · rintro m s o q hm ⟨O, tk, r4, h0, h4, h5, ho, ho4, hr, hr4, hne, hlo, ht, hlf, hv⟩
    have hm' : (O.length : Int) < (l.length : Int) := by omega
    obtain ⟨f, hfm⟩ : ∃ f, l.length - m = f + 1 := ⟨l.length - m - 1, by omega⟩
    obtain ⟨w, hw⟩ : ∃ w, w = (List.range l.length).find? (goesBy l tk) := ⟨_, rfl⟩
    obtain ⟨X, A, B, C, M, hin⟩ := sk1 (l12_mid l hn hf tk ht O (by omega) r r4 w hw)
    simp only [loopAt, loopsOf, Tryz.f56] at hin
    simp at hin
    rw [goes_find l tk ht] at hw
    rw [hfm] at hv
    cases w with
    | none =>
      rw [serGo_none (by omega) hw.symm] at hv
      simp at hv
      subst hv
      simp [loopAt, loopsOf, Tryz.f56, h0, h4, h5, ho, ho4, hr, hr4, hne, hm', hin]
    | some k =>
      rw [serGo_some (by omega) hw.symm] at hv
      have hk := List.mem_of_find?_eq_some hw.symm
      have hk2 := leftOf_mem.1 hk
      have hl2 := leftOf_set hk2.1
      have hlen := List.length_erase_of_mem hk
      simp at hin
      simp [loopAt, loopsOf, Tryz.f56, h0, h4, h5, ho, ho4, hr, hr4, hne, hm', hin]
      exact ⟨O ++ [k], tk.set k true, rfl, by simp, by simp [hlo], by simp [ht], by rw [hl2, hlen]; omega, by
        rw [hv, hl2, show l.length - (m + 1) = f by omega]
        cases serGo (aheadAt l) f ((leftOf tk).erase k) <;> simp⟩
  · rintro s o q ⟨O, tk, r4, h0, h4, h5, ho, ho4, hr, hr4, hne, hlo, ht, hlf, hv⟩
    have hz : leftOf tk = [] := List.eq_nil_of_length_eq_zero (by omega)
    rw [hz, Nat.sub_self] at hv
    simp [serGo] at hv
    subst hv
    simp [loopAt, loopsOf, Tryz.f56, h0, h4, h5, ho, ho4, hr, hr4, hne, hlo]
end Go.Md
/- SerialOrder of impl: the loops. -/
set_option linter.unusedSimpArgs false
set_option linter.unusedVariables false
namespace Go.Md
open Go.Ev Go.Proofs Go.Pu
set_option maxRecDepth 100000
set_option maxHeartbeats 16000000
def rAt (i : Nat) : Nat := if i = 0 then 1 else 2 * i + 3
theorem so_fill (l : List Dn) (hn : l.length ≤ 40) : ∀ s o q, (s 1 = .ptr 0 0 ∧ s 4 = .ptr 3 0 ∧ s 5 = .row 2 ∧ s 11 = .t (.int .i64 l.length) ∧ s 12 = .t (.int .i64 0) ∧ o 0 = .box 45 [.t (.list (l.map dnT))] ∧ o 2 = .row 3 [] true ∧ o 3 = .box 47 [.row 1] ∧ o 1 = .row 3 [] true ∧ q = 4) →
    ∃ e s' o' q', run E (.code (.loop (loopAt Tryz.f54 0)) ⟨s, o, q, 41⟩) = some (.st e ⟨s', o', q', 41⟩) ∧ ∃ r : Nat, (r = rAt l.length ∧ e = .exit 0 ∧ s' 1 = .ptr 0 0 ∧ s' 4 = .ptr 3 0 ∧ s' 5 = .row 2 ∧ o' 0 = .box 45 [.t (.list (l.map dnT))] ∧ o' 2 = .row 3 [] true ∧ o' 3 = .box 47 [.row r] ∧ o' r = .row 3 ((List.range l.length).map intT) true ∧ 3 < q' ∧ r < q' ∧ r ≠ 0 ∧ r ≠ 2 ∧ r ≠ 3) := by
  intro s o q hI
  refine loop_for (c := loopAt Tryz.f54 0) (N := 41)
    (fun i s o q => ∃ r : Nat, r = rAt i ∧ q = 4 + 2 * i ∧ s 1 = .ptr 0 0 ∧ s 4 = .ptr 3 0 ∧ s 5 = .row 2 ∧ s 11 = .t (.int .i64 l.length) ∧ s 12 = .t (.int .i64 i) ∧ o 0 = .box 45 [.t (.list (l.map dnT))] ∧ o 2 = .row 3 [] true ∧ o 3 = .box 47 [.row r] ∧ o r = .row 3 ((List.range i).map intT) true ∧ 3 < q ∧ r < q ∧ r ≠ 0 ∧ r ≠ 2 ∧ r ≠ 3)
    (fun e s' o' q' => ∃ r : Nat, (r = rAt l.length ∧ e = .exit 0 ∧ s' 1 = .ptr 0 0 ∧ s' 4 = .ptr 3 0 ∧ s' 5 = .row 2 ∧ o' 0 = .box 45 [.t (.list (l.map dnT))] ∧ o' 2 = .row 3 [] true ∧ o' 3 = .box 47 [.row r] ∧ o' r = .row 3 ((List.range l.length).map intT) true ∧ 3 < q' ∧ r < q' ∧ r ≠ 0 ∧ r ≠ 2 ∧ r ≠ 3)) l.length ?_ ?_
    l.length 0 s o q (by omega) (by
      obtain ⟨h1, h4, h5, h11, h12, o0, o2, o3, o1, hq⟩ := hI
      exact ⟨1, rfl, by omega, h1, h4, h5, h11, h12, o0, o2, o3, by simpa using o1, by omega, by omega, by omega, by omega, by omega⟩)
  · rintro i s o q hi ⟨r, hrr, hqq, h1, h4, h5, h11, h12, o0, o2, o3, ho, hq3, hr, r0, r2, r3⟩
    have hi' : (i : Int) < (l.length : Int) := by omega
    have hwi := wrap_succ (n := i) (by omega)
    have q0 : 0 ≠ q := by omega
    have q2 : 2 ≠ q := by omega
    have q3 : 3 ≠ q := by omega
    have q4 : q ≠ 0 := by omega
    have q5 : q ≠ 2 := by omega
    have q6 : q ≠ 3 := by omega
    have q7 : r ≠ q := by omega
    have q8 : q ≠ r := by omega
    have q9 : 0 ≠ r := fun e => r0 e.symm
    have q10 : 2 ≠ r := fun e => r2 e.symm
    have q11 : 3 ≠ r := fun e => r3 e.symm
    have p0 : 0 ≠ q + 1 := by omega
    have p2 : 2 ≠ q + 1 := by omega
    have p3 : 3 ≠ q + 1 := by omega
    have p4 : q + 1 ≠ 0 := by omega
    have p5 : q + 1 ≠ 2 := by omega
    have p6 : q + 1 ≠ 3 := by omega
    have p7 : r ≠ q + 1 := by omega
    have p8 : q + 1 ≠ r := by omega
    have hra : rAt (i + 1) = q + 1 := by unfold rAt; rw [if_neg (by omega)]; omega
    have hcat : i + 1 ≤ 140737488355328 := by omega
    have hcat2 : (i + 1) * 8 ≤ 140737488355328 := by omega
    simp [loopAt, loopsOf, Tryz.f54, h1, h4, h5, h11, h12, o0, o2, o3, ho, hi', hwi, q0, q2, q3, q4, q5, q6, q7, q8, q9, q10, q11, p0, p2, p3, p4, p5, p6, p7, p8, r0, r2, r3, hcat, hcat2, hra, List.range_succ]
    first | (refine ⟨?_, ?_, ?_⟩ <;> omega) | (refine ⟨?_, ?_⟩ <;> omega) | omega | (refine ⟨?_, ?_, ?_, ?_⟩ <;> omega) | trace_state
  · rintro s o q ⟨r, hrr, hqq, h1, h4, h5, h11, h12, o0, o2, o3, ho, hq3, hr, r0, r2, r3⟩
    subst hrr
    simp [loopAt, loopsOf, Tryz.f54, h1, h4, h5, h11, h12, o0, o2, o3, ho, hq3, hr, r0, r2, r3]
theorem so_fill2 (l : List Dn) (hn : l.length ≤ 40) : ∀ s o q, (s 1 = .ptr 0 0 ∧ s 4 = .ptr 3 0 ∧ s 5 = .row 2 ∧ s 11 = .t (.int .i64 l.length) ∧ s 12 = .t (.int .i64 0) ∧ o 0 = .box 45 [.t (.list (l.map dnT))] ∧ o 2 = .row 3 [] true ∧ o 3 = .box 47 [.row 1] ∧ o 1 = .row 3 [] true ∧ q = 4) →
    ∃ e s' o' q', run E (.code (.loop (loopAt Tryz.f54 0)) ⟨s, o, q, 41⟩) = some (.st e ⟨s', o', q', 41⟩) ∧ (e = .exit 0 ∧ s' 1 = .ptr 0 0 ∧ s' 4 = .ptr 3 0 ∧ s' 5 = .row 2 ∧ o' 0 = .box 45 [.t (.list (l.map dnT))] ∧ o' 2 = .row 3 [] true ∧ o' 3 = .box 47 [.row (rAt l.length)] ∧ o' (rAt l.length) = .row 3 ((List.range l.length).map intT) true ∧ 3 < q' ∧ rAt l.length < q' ∧ rAt l.length ≠ 0 ∧ rAt l.length ≠ 2 ∧ rAt l.length ≠ 3) := by
  intro s o q hI
  obtain ⟨e, s', o', q', h, r, rfl, h2⟩ := so_fill l hn s o q hI
  exact ⟨e, s', o', q', h, h2⟩
theorem idx_find {α : Type} {p : α → Bool} : ∀ xs : List α, (idxP p xs = -1 ∧ xs.find? p = none) ∨ ∃ (i : Nat) (h : i < xs.length), idxP p xs = (i : Int) ∧ xs.find? p = some xs[i]
  | [] => .inl ⟨rfl, rfl⟩
  | x :: r => by
    unfold idxP
    cases hp : p x with
    | true => exact .inr ⟨0, by simp, by simp, by simp [hp]⟩
    | false =>
      rcases idx_find (p := p) r with ⟨h1, h2⟩ | ⟨i, h, h1, h2⟩
      · exact .inl ⟨by simp [h1], by simp [hp, h2]⟩
      · refine .inr ⟨i + 1, by simpa using h, ?_, by simp [hp, h2]⟩
        have : ¬ ((i : Int) < 0) := by omega
        simp [h1, this]
theorem so_pick (l : List Dn) (hn : l.length ≤ 40) (hf : ∀ d ∈ l, dnFit d) (F : Option (List Nat)) (hF : F = serGo (aheadAt l) l.length (List.range l.length)) (r0 : Nat) : ∀ s o q, (s 1 = .ptr 0 0 ∧ s 4 = .ptr 3 0 ∧ s 5 = .row 2 ∧ o 0 = .box 45 [.t (.list (l.map dnT))] ∧ o 2 = .row 3 [] true ∧ o 3 = .box 47 [.row r0] ∧ o r0 = .row 3 ((List.range l.length).map intT) true ∧ 3 < q ∧ r0 < q ∧ r0 ≠ 0 ∧ r0 ≠ 2 ∧ r0 ≠ 3) →
    ∃ e s' o' q', run E (.code (.loop (loopAt Tryz.f54 1)) ⟨s, o, q, 41⟩) = some (.st e ⟨s', o', q', 41⟩) ∧ ∃ r' : Nat, ((F = none → e = .ret ∧ s' 2 = .nil ∧ s' 3 = .t (.bool false)) ∧ (∀ w, F = some w → e = .exit 2 ∧ s' 5 = .row r' ∧ o' r' = .row 3 (w.map intT) true)) := by
  intro s o q hI
  have n11 := n54_11
  have s11 := s54_11
  simp [regionOf, findR, pick, Tryz.f54] at n11 s11
  have dd := fun st => run_region_drawS E st 11 _ n11 s11
  clear n11 s11
  refine loop_for (c := loopAt Tryz.f54 1) (N := 41)
    (fun m s o q => ∃ (O left : List Nat) (r r5 : Nat), s 1 = .ptr 0 0 ∧ s 4 = .ptr 3 0 ∧ s 5 = .row r5 ∧ o 0 = .box 45 [.t (.list (l.map dnT))] ∧ o 3 = .box 47 [.row r] ∧ o r = .row 3 (left.map intT) true ∧ o r5 = .row 3 (O.map intT) true ∧ 3 < q ∧ r < q ∧ r5 < q ∧ r ≠ 0 ∧ r ≠ 3 ∧ r ≠ r5 ∧ r5 ≠ 0 ∧ r5 ≠ 3 ∧ O.length = m ∧ left.length + m = l.length ∧ left.Nodup ∧ (∀ i ∈ left, i < l.length) ∧ F = (serGo (aheadAt l) (l.length - m) left).map (O ++ ·))
    (fun e s' o' q' => ∃ r' : Nat, ((F = none → e = .ret ∧ s' 2 = .nil ∧ s' 3 = .t (.bool false)) ∧ (∀ w, F = some w → e = .exit 2 ∧ s' 5 = .row r' ∧ o' r' = .row 3 (w.map intT) true))) l.length ?_ ?_
    l.length 0 s o q (by omega) (by
      obtain ⟨h1, h4, h5, o0, o2, o3, ho, hq3, hr, z0, z2, z3⟩ := hI
      exact ⟨[], List.range l.length, r0, 2, h1, h4, h5, o0, o3, ho, by simpa using o2, hq3, hr, by omega, z0, z3, z2, by omega, by omega, rfl, by simp, List.nodup_range, by simp, by simp [hF]⟩)
  · rintro m s o q hm ⟨O, left, r, r5, h1, h4, h5, o0, o3, ho, ho5, hq3, hr, hr5, z0, z3, z5, y0, y3, hO, hlen, hnd, hlt, hv⟩
    have hpos : 0 < left.length := by omega
    have hpos' : (0 : Int) < (left.length : Int) := by omega
    obtain ⟨f, hfm⟩ : ∃ f, l.length - m = f + 1 := ⟨l.length - m - 1, by omega⟩
    rw [hfm] at hv
    have hix := indexFunc_240_2 left 115 [.list (left.map intT)] [.list (l.map dnT)] (freeIn (aheadAt l) left) (by omega) rfl rfl (fun x hx => free_241 l hf left hlt (by omega) x (hlt x hx))
    rcases idx_find (p := freeIn (aheadAt l) left) left with ⟨e1, e2⟩ | ⟨i, hi, e1, e2⟩
    · rw [serGo_none (by omega) e2] at hv
      simp at hv
      subst hv
      rw [e1] at hix
      simp [loopAt, loopsOf, Tryz.f54, h1, h4, h5, o0, o3, ho, ho5, hpos, hpos', hix]
    · rw [serGo_some (by omega) e2] at hv
      rw [e1] at hix
      have hi' : (i : Int) < (left.length : Int) := by omega
      have hge : ¬ ((i : Int) < 0) := by omega
      have hwi := wrap_succ (n := i) (by omega)
      have hdel := del_244 left i hi (by omega)
      have her := erase_at hnd hi
      have hxi : left[i]? = some left[i] := List.getElem?_eq_getElem hi
      have q0 : 0 ≠ q := by omega
      have q3 : 3 ≠ q := by omega
      have q4 : q ≠ 0 := by omega
      have q6 : q ≠ 3 := by omega
      have q7 : r ≠ q := by omega
      have q8 : q ≠ r := by omega
      have q9 : 0 ≠ r := fun e => z0 e.symm
      have q11 : 3 ≠ r := fun e => z3 e.symm
      have q12 : r5 ≠ q := by omega
      have q13 : q ≠ r5 := by omega
      have q14 : r5 ≠ r := fun e => z5 e.symm
      have q15 : 0 ≠ r5 := fun e => y0 e.symm
      have q16 : 3 ≠ r5 := fun e => y3 e.symm
      have p0 : 0 ≠ q + 1 := by omega
      have p3 : 3 ≠ q + 1 := by omega
      have p4 : q + 1 ≠ 0 := by omega
      have p6 : q + 1 ≠ 3 := by omega
      have p7 : r ≠ q + 1 := by omega
      have p8 : q + 1 ≠ r := by omega
      have hcat : O.length + 1 ≤ 140737488355328 := by omega
      have hcat2 : (O.length + 1) * 8 ≤ 140737488355328 := by omega
      simp at hdel
      simp [loopAt, loopsOf, Tryz.f54, dd, h1, h4, h5, o0, o3, ho, ho5, hpos, hpos', hix, hi, hi', hge, hwi, hdel, hxi, z0, z3, z5, y0, y3, q0, q3, q4, q6, q7, q8, q9, q11, q12, q13, q14, q15, q16, p0, p3, p4, p6, p7, p8, hcat, hcat2]
      exact ⟨O ++ [left[i]], left.erase left[i], by rw [her]; simp [List.map_take, List.map_drop], by simp, by omega, by omega, by simp [hO], by rw [List.length_erase_of_mem (List.getElem_mem hi)]; omega, hnd.erase _, fun j hj => hlt j (List.mem_of_mem_erase hj), by
        rw [hv, show l.length - (m + 1) = f by omega]
        cases serGo (aheadAt l) f (left.erase left[i]) <;> simp⟩
  · rintro s o q ⟨O, left, r, r5, h1, h4, h5, o0, o3, ho, ho5, hq3, hr, hr5, z0, z3, z5, y0, y3, hO, hlen, hnd, hlt, hv⟩
    have hz : left = [] := List.eq_nil_of_length_eq_zero (by omega)
    subst hz
    rw [Nat.sub_self] at hv
    simp [serGo] at hv
    subst hv
    simp at ho
    simp [loopAt, loopsOf, Tryz.f54, h1, h4, h5, o0, o3, ho, ho5]
def serX (F : Option (List Nat)) : X := match F with
  | some w => .row 3 (w.map intT)
  | none => .nil
theorem implOrd12 (l : List Dn) (hn : l.length ≤ 40) (hf : ∀ d ∈ l, dnFit d) : run E (.call 54 [.t (.list (l.map dnT))]) = some (.res [serX (serOf l), xB (serOf l).isSome] []) := by
  rw [run_call E 54 _ rfl Tryz.func54 rfl rfl rfl (by simp)]
  obtain ⟨F, hF⟩ : ∃ F, F = serOf l := ⟨_, rfl⟩
  obtain ⟨X, A, B, C, hx⟩ := sk (so_fill2 l hn)
  obtain ⟨X2, A2, B2, C2, M2, hy⟩ := sk1 (so_pick l hn hf F hF (rAt l.length))
  simp only [loopAt, loopsOf, Tryz.f54] at hx hy
  rw [← hF]
  have w0 : rAt l.length ≠ 0 := by unfold rAt; split <;> omega
  have w2 : rAt l.length ≠ 2 := by unfold rAt; split <;> omega
  have w3 : rAt l.length ≠ 3 := by unfold rAt; split <;> omega
  generalize rAt l.length = rr at *
  cases F with
  | none =>
    simp at hx hy
    simp [hx, hy, w0, w2, w3, serX]
  | some w =>
    simp at hx hy
    simp [hx, hy, w0, w2, w3, serX]
end Go.Md
/- SerialOrder of spec. -/
set_option linter.unusedSimpArgs false
set_option linter.unusedVariables false
namespace Go.Md
open Go.Ev Go.Proofs Go.Pu
set_option maxRecDepth 100000
set_option maxHeartbeats 16000000
theorem specOrd12 (l : List Dn) (hn : l.length ≤ 40) (hf : ∀ d ∈ l, dnFit d) : run E (.call 56 [.t (.list (l.map dnT))]) = some (.res [.row 3 (((serOf l).getD []).map intT), xB (serOf l).isSome] []) := by
  rw [run_call E 56 _ rfl Tryz.func56 rfl rfl rfl (by simp)]
  obtain ⟨F, hF⟩ : ∃ F, F = serOf l := ⟨_, rfl⟩
  obtain ⟨X, A, B, C, M, hx⟩ := sk1 (l12_out l hn hf 1 0 F hF)
  simp only [loopAt, loopsOf, Tryz.f56] at hx
  rw [← hF]
  have h1 : l.length ≤ 140737488355328 := by omega
  have h2 : l.length ≤ 16777216 := by omega
  have h3 : (0 : Int) ≤ (l.length : Int) := by omega
  cases F with
  | none =>
    simp [boT] at hx
    simp [hx, h1, h2, h3]
  | some w =>
    simp [boT] at hx
    simp [hx, h1, h2, h3]
def serOut (l : List Dn) : List Nat × Int := if 4096 < l.length then ([], 2) else if risesOK l then (match serOf l with
  | some w => (w, 0)
  | none => ([], 19)) else ([], 1)
theorem rises_fit {l : List Dn} (h : risesOK l = true) (hs : ∀ d ∈ l, d.Sm) : l.length ≤ 40 ∧ ∀ d ∈ l, dnFit d := by
  unfold risesOK at h
  simp only [Bool.and_eq_true, decide_eq_true_eq] at h
  refine ⟨h.2, fun d hd => done_fit ?_ (hs d hd)⟩
  have h1 := steps_all.1 h.1
  obtain ⟨i, hi, rfl⟩ := List.getElem_of_mem hd
  have h2 := h1 i hi
  cases i with
  | zero =>
    rw [seq_zero hi] at h2
    exact h2
  | succ k =>
    rw [seq_succ hi] at h2
    simp only [Bool.and_eq_true] at h2
    exact h2.1
theorem specSerial (l : List Dn) (hl : l.length < 4294967296) (h : ∀ d ∈ l, d.Sm) : run E (.call 17 [.t (.list (l.map dnT))]) = some (.res [.row 3 ((serOut l).1.map intT), xI (serOut l).2] []) := by
  rw [run_call E 17 _ rfl Tryz.func17 rfl rfl rfl (by simp)]
  unfold serOut
  have h1 := specRises l hl h
  by_cases hlen : 4096 < l.length
  · have hlen' : (4096 : Int) < (l.length : Int) := by omega
    simp [hlen, hlen']
  · have hlen' : ¬ (4096 : Int) < (l.length : Int) := by omega
    cases hd : risesOK l with
    | false =>
      rw [hd] at h1
      simp [hlen, hlen', h1]
    | true =>
      rw [hd] at h1
      obtain ⟨hn, hf⟩ := rises_fit hd h
      have h2 := specOrd12 l hn hf
      cases ho : serOf l with
      | none =>
        rw [ho] at h2
        simp at h2
        simp [hlen, hlen', h1, h2]
      | some w =>
        rw [ho] at h2
        simp at h2
        simp [hlen, hlen', h1, h2]
end Go.Md
/- SerialOrder of impl. -/
set_option linter.unusedSimpArgs false
set_option linter.unusedVariables false
namespace Go.Md
open Go.Ev Go.Proofs Go.Pu
set_option maxRecDepth 100000
set_option maxHeartbeats 16000000
def serXs (l : List Dn) : X := if 4096 < l.length then .nil else if risesOK l then serX (serOf l) else .nil
theorem implSerial (l : List Dn) (hl : l.length < 4294967296) (h : ∀ d ∈ l, d.Sm) : run E (.call 16 [.t (.list (l.map dnT))]) = some (.res [serXs l, xI (serOut l).2] []) := by
  rw [run_call E 16 _ rfl Tryz.func16 rfl rfl rfl (by simp)]
  unfold serOut serXs
  have h1 := implRises l hl h
  by_cases hlen : 4096 < l.length
  · have hlen' : (4096 : Int) < (l.length : Int) := by omega
    simp [hlen, hlen']
  · have hlen' : ¬ (4096 : Int) < (l.length : Int) := by omega
    cases hd : risesOK l with
    | false =>
      rw [hd] at h1
      simp [hlen, hlen', h1]
    | true =>
      rw [hd] at h1
      obtain ⟨hn, hf⟩ := rises_fit hd h
      have h2 := implOrd12 l hn hf
      cases ho : serOf l with
      | none =>
        rw [ho] at h2
        simp [serX] at h2
        simp [hlen, hlen', h1, h2, serX]
      | some w =>
        rw [ho] at h2
        simp [serX] at h2
        simp [hlen, hlen', h1, h2, serX]
end Go.Md
/- Those that were certified one by one may have come in some order, in plain lists. -/
set_option linter.unusedSimpArgs false
set_option linter.unusedVariables false
namespace Go.Md
open Go.Ev Go.Proofs Go.Pu
set_option maxRecDepth 100000
/-- What one read and the other changed is told at both, if they were there at one time. -/
def toldP (a b : Dn) : Prop := b.snap < a.at_ → a.snap < b.at_ → hitsP a.reads b.changes = true → a.out = true ∧ b.inn = true
def toldB (a b : Dn) : Prop := toldP a b ∧ toldP b a
theorem toldB.symm {a b : Dn} (h : toldB a b) : toldB b a := ⟨h.2, h.1⟩
/-- Only the two marks may have been set. -/
structure upD (a b : Dn) : Prop where
  snap : b.snap = a.snap
  at_ : b.at_ = a.at_
  reads : b.reads = a.reads
  changes : b.changes = a.changes
  inn : a.inn = true → b.inn = true
  out : a.out = true → b.out = true
theorem upD.refl (a : Dn) : upD a a := ⟨rfl, rfl, rfl, rfl, id, id⟩
theorem upD.trans {a b c : Dn} (h : upD a b) (k : upD b c) : upD a c :=
  ⟨k.snap.trans h.snap, k.at_.trans h.at_, k.reads.trans h.reads, k.changes.trans h.changes, fun x => k.inn (h.inn x), fun x => k.out (h.out x)⟩
theorem toldP.up {a b a' b' : Dn} (h : toldP a b) (ha : upD a a') (hb : upD b b') : toldP a' b' := by
  intro h1 h2 h3
  rw [hb.snap, ha.at_] at h1
  rw [ha.snap, hb.at_] at h2
  rw [ha.reads, hb.changes] at h3
  exact ⟨ha.out (h h1 h2 h3).1, hb.inn (h h1 h2 h3).2⟩
theorem toldB.up {a b a' b' : Dn} (h : toldB a b) (ha : upD a a') (hb : upD b b') : toldB a' b' := ⟨h.1.up ha hb, h.2.up hb ha⟩
/-- One of those that were there, and the one to be certified, behind a look at each other. -/
def certU (d u : Dn) : Dn := { u with inn := u.inn || hitsP d.reads u.changes, out := u.out || hitsP u.reads d.changes }
def certD (d u : Dn) : Dn := { d with inn := d.inn || hitsP u.reads d.changes, out := d.out || hitsP d.reads u.changes }
theorem certU_up (d u : Dn) : upD u (certU d u) := ⟨rfl, rfl, rfl, rfl, fun h => by simp [certU, h], fun h => by simp [certU, h]⟩
theorem certD_up (d u : Dn) : upD d (certD d u) := ⟨rfl, rfl, rfl, rfl, fun h => by simp [certD, h], fun h => by simp [certD, h]⟩
theorem cert_told (d u : Dn) : toldB (certU d u) (certD d u) := by
  constructor
  · intro _ _ h
    exact ⟨by simp [certU]; exact Or.inr h, by simp [certD]; exact Or.inr h⟩
  · intro _ _ h
    exact ⟨by simp [certD]; exact Or.inr h, by simp [certU]; exact Or.inr h⟩
/-- All of those that were there are looked at; none if one has both marks then. -/
def certL (d : Dn) : List Dn → Option (Dn × List Dn)
  | [] => some (d, [])
  | u :: r =>
    if u.at_ ≤ d.snap then (certL d r).map (fun x => (x.1, u :: x.2))
    else if ((certU d u).inn && (certU d u).out) = true then none
    else (certL (certD d u) r).map (fun x => (x.1, certU d u :: x.2))
theorem certL_ok : ∀ (l : List Dn) (d d' : Dn) (l' : List Dn), certL d l = some (d', l') →
    upD d d' ∧ (∀ x ∈ l', toldB x d' ∧ ∃ y ∈ l, upD y x) ∧ (l.Pairwise toldB → l'.Pairwise toldB) ∧ l'.length = l.length
  | [], d, d', l', h => by
    simp [certL] at h
    obtain ⟨rfl, rfl⟩ := h
    exact ⟨upD.refl _, by simp, by simp, rfl⟩
  | u :: r, d, d', l', h => by
    unfold certL at h
    split at h
    · rename_i hu
      cases hc : certL d r with
      | none => simp [hc] at h
      | some x =>
        simp [hc] at h
        obtain ⟨rfl, rfl⟩ := h
        obtain ⟨h1, h2, h3, h4⟩ := certL_ok r d x.1 x.2 hc
        refine ⟨h1, ?_, ?_, by simp [h4]⟩
        · intro y hy
          rcases List.mem_cons.1 hy with rfl | hy
          · refine ⟨⟨fun a _ _ => ?_, fun _ b _ => ?_⟩, y, by simp, upD.refl _⟩
            · rw [h1.snap] at a; omega
            · rw [h1.snap] at b; omega
          · obtain ⟨a, z, hz, b⟩ := h2 y hy
            exact ⟨a, z, List.mem_cons_of_mem _ hz, b⟩
        · intro hp
          rw [List.pairwise_cons] at hp ⊢
          refine ⟨fun y hy => ?_, h3 hp.2⟩
          obtain ⟨_, z, hz, b⟩ := h2 y hy
          exact (hp.1 z hz).up (upD.refl _) b
    · split at h
      · simp at h
      · cases hc : certL (certD d u) r with
        | none => simp [hc] at h
        | some x =>
          simp [hc] at h
          obtain ⟨rfl, rfl⟩ := h
          obtain ⟨h1, h2, h3, h4⟩ := certL_ok r (certD d u) x.1 x.2 hc
          refine ⟨(certD_up d u).trans h1, ?_, ?_, by simp [h4]⟩
          · intro y hy
            rcases List.mem_cons.1 hy with rfl | hy
            · exact ⟨(cert_told d u).up (upD.refl _) h1, u, by simp, certU_up d u⟩
            · obtain ⟨a, z, hz, b⟩ := h2 y hy
              exact ⟨a, z, List.mem_cons_of_mem _ hz, b⟩
          · intro hp
            rw [List.pairwise_cons] at hp ⊢
            refine ⟨fun y hy => ?_, h3 hp.2⟩
            obtain ⟨_, z, hz, b⟩ := h2 y hy
            exact (hp.1 z hz).up (certU_up d u) b
def sameL (a b : List Chg) : Bool := a.any fun x => b.any fun y => x.w.coll == y.w.coll && x.w.id == y.w.id
def sameAny (d : Dn) (l : List Dn) : Bool := l.any fun x => decide (d.snap < x.at_) && sameL x.changes d.changes
def noMark (d : Dn) : Dn := { d with inn := false, out := false }
/-- What certifying makes of a list, and its code. -/
def certOut (l : List Dn) (d : Dn) : List Dn × Int :=
  if sameAny d l then (l, 15) else match certL (noMark d) l with
    | none => (l, 16)
    | some x => if (x.1.inn && x.1.out) = true then (l, 16) else if l.length = 30 then (l, 7) else (x.2 ++ [x.1], 0)
theorem certOut_told (l : List Dn) (d : Dn) (h : l.Pairwise toldB) : (certOut l d).1.Pairwise toldB := by
  unfold certOut
  split
  · exact h
  · cases hc : certL (noMark d) l with
    | none => exact h
    | some x =>
      dsimp only
      split
      · exact h
      · split
        · exact h
        · obtain ⟨_, h2, h3, _⟩ := certL_ok l _ x.1 x.2 hc
          rw [List.pairwise_append]
          refine ⟨h3 h, by simp, fun a ha b hb => ?_⟩
          simp at hb
          subst hb
          exact (h2 a ha).1
theorem serGo_ok (A : Nat → Nat → Bool) : ∀ (f : Nat) (left : List Nat), left.length ≤ f → left.Nodup → (∀ S : List Nat, (∀ x ∈ S, x ∈ left) → S ≠ [] → ∃ k ∈ S, freeIn A S k = true) →
    ∃ w, serGo A f left = some w ∧ w.Perm left ∧ w.Pairwise (fun a b => A b a = false)
  | 0, left, hl, _, _ => by
    have : left = [] := List.length_eq_zero_iff.1 (by omega)
    subst this
    exact ⟨[], by simp [serGo], List.Perm.refl _, by simp⟩
  | f + 1, left, hl, hn, hS => by
    cases left with
    | nil => exact ⟨[], by simp [serGo], List.Perm.refl _, by simp⟩
    | cons a r =>
      obtain ⟨k0, hk0, hf0⟩ := hS (a :: r) (fun _ h => h) (by simp)
      cases hw : (a :: r).find? (freeIn A (a :: r)) with
      | none => exact absurd hf0 (by simpa using List.find?_eq_none.1 hw k0 hk0)
      | some k =>
        have hm := List.mem_of_find?_eq_some hw
        have hk := List.find?_some hw
        obtain ⟨w, h1, h2, h3⟩ := serGo_ok A f ((a :: r).erase k) (by rw [List.length_erase_of_mem hm]; simp at hl ⊢; omega) (hn.erase k) (fun S hs => hS S (fun x hx => List.mem_of_mem_erase (hs x hx)))
        refine ⟨k :: w, by simp only [serGo, hw, h1]; rfl, (h2.cons k).trans (List.perm_cons_erase hm).symm, ?_⟩
        rw [List.pairwise_cons]
        refine ⟨fun b hb => ?_, h3⟩
        have hb' := h2.mem_iff.1 hb
        rw [hn.mem_erase_iff] at hb'
        simp only [freeIn, Bool.not_eq_true', List.any_eq_false] at hk
        have := hk b hb'.2
        simpa [hb'.1] using this
/-- The least of some. -/
theorem least_mem : ∀ S : List Nat, S ≠ [] → ∃ m ∈ S, ∀ x ∈ S, m ≤ x
  | [], h => absurd rfl h
  | [a], _ => ⟨a, by simp, by simp⟩
  | a :: b :: r, _ => by
    obtain ⟨m, hm, hl⟩ := least_mem (b :: r) (by simp)
    by_cases h : a ≤ m
    · refine ⟨a, by simp, fun x hx => ?_⟩
      rcases List.mem_cons.1 hx with rfl | hx
      · exact Nat.le_refl _
      · exact Nat.le_trans h (hl x hx)
    · refine ⟨m, List.mem_cons_of_mem _ hm, fun x hx => ?_⟩
      rcases List.mem_cons.1 hx with rfl | hx
      · omega
      · exact hl x hx
theorem free_exists (l : List Dn) (hA : ∀ d ∈ l, (d.inn && d.out) = false ∧ d.snap < d.at_) (ho : ∀ (i k : Nat) (hi : i < l.length) (hk : k < l.length), i < k → l[i].at_ < l[k].at_) (hp : l.Pairwise toldB)
    (S : List Nat) (hS : ∀ x ∈ S, x < l.length) (hne : S ≠ []) : ∃ k ∈ S, freeIn (aheadAt l) S k = true := by
  have hB : ∀ (i k : Nat) (hi : i < l.length) (hk : k < l.length), i ≠ k → toldB l[i] l[k] := by
    intro i k hi hk hne
    rcases Nat.lt_or_gt_of_ne hne with h | h
    · exact List.pairwise_iff_getElem.1 hp i k hi hk h
    · exact (List.pairwise_iff_getElem.1 hp k i hk hi h).symm
  obtain ⟨t, ht, hmin⟩ := least_mem S hne
  have htl := hS t ht
  have hle : ∀ x (hx : x ∈ S), l[t].at_ ≤ (l[x]'(hS x hx)).at_ := by
    intro x hx
    by_cases h : t = x
    · subst h; exact Int.le_refl _
    · have := ho t x htl (hS x hx) (by have := hmin x hx; omega)
      omega
  by_cases hf : freeIn (aheadAt l) S t = true
  · exact ⟨t, ht, hf⟩
  · simp only [freeIn, Bool.not_eq_true', Bool.not_eq_false, List.any_eq_true, Bool.and_eq_true, bne_iff_ne, ne_eq] at hf
    obtain ⟨p, hpS, hpt, hap⟩ := hf
    have hpl := hS p hpS
    rw [aheadAt_eq hpl htl] at hap
    have hlt : l[t].at_ < l[p].at_ := ho t p htl hpl (by have := hmin p hpS; omega)
    have hts := (hA l[t] (List.getElem_mem htl)).2
    simp only [aheadP, Bool.or_eq_true, decide_eq_true_eq, Bool.and_eq_true] at hap
    have hap2 : l[p].snap < l[t].at_ ∧ hitsP l[p].reads l[t].changes = true := by
      rcases hap with h | h
      · omega
      · exact h
    have hout := ((hB p t hpl htl hpt).1 (by omega) hap2.1 hap2.2).1
    refine ⟨p, hpS, ?_⟩
    simp only [freeIn, Bool.not_eq_true', List.any_eq_false, Bool.and_eq_true, bne_iff_ne, ne_eq, not_and, Bool.not_eq_true]
    intro q hq hqp
    have hql := hS q hq
    rw [aheadAt_eq hql hpl]
    cases haq : aheadP l[q] l[p] with
    | false => rfl
    | true =>
      exfalso
      simp only [aheadP, Bool.or_eq_true, decide_eq_true_eq, Bool.and_eq_true] at haq
      have h1 := hle q hq
      have haq2 : l[q].snap < l[p].at_ ∧ hitsP l[q].reads l[p].changes = true := by
        rcases haq with h | h
        · omega
        · exact h
      have hinn := ((hB q p hql hpl hqp).1 (by omega) haq2.1 haq2.2).2
      have := (hA l[p] (List.getElem_mem hpl)).1
      simp [hout, hinn] at this
/-- Numbers two by two, each pair with a property. -/
def pairsOK (P : Nat → Nat → Prop) (l : List Nat) : Prop := l.length % 2 = 0 ∧ ∀ j a b, l[2 * j]? = some a → l[2 * j + 1]? = some b → P a b
theorem pairsOK_nil (P : Nat → Nat → Prop) : pairsOK P [] := ⟨rfl, fun j a b h => by simp at h⟩
theorem pairsOK_append {P : Nat → Nat → Prop} {l m : List Nat} (hl : pairsOK P l) (hm : pairsOK P m) : pairsOK P (l ++ m) := by
  refine ⟨by rw [List.length_append]; have := hl.1; have := hm.1; omega, fun j a b h1 h2 => ?_⟩
  have he := hl.1
  by_cases h : 2 * j < l.length
  · rw [List.getElem?_append_left h] at h1
    rw [List.getElem?_append_left (by omega)] at h2
    exact hl.2 j a b h1 h2
  · rw [List.getElem?_append_right (by omega)] at h1 h2
    obtain ⟨c, hc⟩ : ∃ c, l.length = 2 * c := ⟨l.length / 2, by omega⟩
    exact hm.2 (j - c) a b (by rw [← h1]; congr 1; omega) (by rw [← h2]; congr 1; omega)
theorem pairsOK_flat {α : Type} {P : Nat → Nat → Prop} {f : α → List Nat} : ∀ {l : List α}, (∀ x ∈ l, pairsOK P (f x)) → pairsOK P (l.flatMap f)
  | [], _ => pairsOK_nil P
  | x :: r, h => by
    rw [List.flatMap_cons]
    exact pairsOK_append (h x (by simp)) (pairsOK_flat fun y hy => h y (List.mem_cons_of_mem _ hy))
/-- A pair that is bound to an order. -/
def boundP (l : List Dn) (i k : Nat) : Prop := i < l.length ∧ k < l.length ∧ i ≠ k ∧ aheadAt l i k = true
theorem edges_pairs (l : List Dn) : pairsOK (boundP l) (edgesP l l.length) := by
  refine pairsOK_flat fun i hi => pairsOK_flat fun k hk => ?_
  simp only [List.mem_range] at hi hk
  split
  · rename_i h
    refine ⟨by simp, fun j a b h1 h2 => ?_⟩
    cases j with
    | zero =>
      simp at h1 h2
      subst h1 h2
      exact ⟨hi, hk, h.1, h.2⟩
    | succ j => simp [Nat.mul_add] at h1
  · exact pairsOK_nil _
theorem dones_each {l : List Dn} (h : donesOK l = true) : (∀ d ∈ l, dnFine d = true) ∧ ∀ k, (hk : k + 1 < l.length) → l[k].at_ < l[k + 1].at_ := by
  unfold donesOK at h
  simp only [Bool.and_eq_true, decide_eq_true_eq] at h
  have h1 := steps_all.1 h.1
  refine ⟨fun d hd => ?_, fun k hk => ?_⟩
  · obtain ⟨i, hi, rfl⟩ := List.getElem_of_mem hd
    have h2 := h1 i hi
    cases i with
    | zero => rwa [seq_zero hi] at h2
    | succ k =>
      rw [seq_succ hi] at h2
      simp only [Bool.and_eq_true] at h2
      exact h2.1
  · have h2 := h1 (k + 1) hk
    rw [seq_succ hk] at h2
    simp only [Bool.and_eq_true] at h2
    simpa [dnOrd] using h2.2
theorem rise_all {l : List Dn} (h : ∀ k, (hk : k + 1 < l.length) → l[k].at_ < l[k + 1].at_) : ∀ (i k : Nat) (hi : i < l.length) (hk : k < l.length), i < k → l[i].at_ < l[k].at_ := by
  intro i k hi hk hlt
  obtain ⟨d, rfl⟩ : ∃ d, k = i + 1 + d := ⟨k - (i + 1), by omega⟩
  induction d with
  | zero => exact h i hk
  | succ d ih =>
    have h1 := ih (by omega) (by omega)
    have h2 := h (i + 1 + d) hk
    exact Int.lt_trans h1 h2
theorem rises_of {l : List Dn} (h : donesOK l = true) : risesOK l = true := by
  obtain ⟨h1, h2⟩ := dones_each h
  have h3 : l.length ≤ 30 := by
    unfold donesOK at h
    simp only [Bool.and_eq_true, decide_eq_true_eq] at h
    exact h.2
  unfold risesOK
  simp only [Bool.and_eq_true, decide_eq_true_eq]
  refine ⟨steps_all.2 fun i hi => ?_, by omega⟩
  have fine : ∀ d ∈ l, doneOK d = true := by
    intro d hd
    have := h1 d hd
    unfold dnFine at this
    simp only [Bool.and_eq_true] at this
    exact this.1
  cases i with
  | zero => rw [seq_zero hi]; exact fine _ (List.getElem_mem hi)
  | succ k =>
    rw [seq_succ hi]
    simp only [Bool.and_eq_true]
    exact ⟨fine _ (List.getElem_mem hi), by simpa [dnOrd] using h2 k hi⟩
/-- There is an order, and it keeps all that are bound to one. -/
theorem ser_there {l : List Dn} (h : donesOK l = true) (hp : l.Pairwise toldB) : ∃ w, serOf l = some w ∧ w.Perm (List.range l.length) ∧ ∀ (a b : Nat) (ha : a < w.length) (hb : b < w.length), boundP l w[a] w[b] → a < b := by
  obtain ⟨h1, h2⟩ := dones_each h
  have h3 : ∀ d ∈ l, (d.inn && d.out) = false ∧ d.snap < d.at_ := by
    intro d hd
    have := h1 d hd
    unfold dnFine doneOK timesOK at this
    simp only [Bool.and_eq_true, Bool.not_eq_true', decide_eq_true_eq] at this
    exact ⟨this.2, this.1.2.1.1.1.1.2⟩
  obtain ⟨w, hw, hq, hr⟩ := serGo_ok (aheadAt l) l.length (List.range l.length) (by simp) List.nodup_range (fun S hS hne => free_exists l h3 (rise_all h2) hp S (fun x hx => by simpa using hS x hx) hne)
  refine ⟨w, hw, hq, fun a b ha hb hbd => ?_⟩
  rcases Nat.lt_trichotomy a b with hlt | heq | hgt
  · exact hlt
  · subst heq
    exact absurd rfl hbd.2.2.1
  · have := List.pairwise_iff_getElem.1 hr b a hb ha hgt
    rw [hbd.2.2.2] at this
    simp at this
theorem upD.done {a b : Dn} (h : upD a b) : doneOK b = doneOK a := by
  unfold doneOK timesOK
  rw [h.snap, h.at_, h.reads, h.changes]
theorem certOut_len (l : List Dn) (d : Dn) : (certOut l d).1.length ≤ l.length + 1 ∧ (∀ b : Int, (∀ x ∈ l, x.at_ ≤ b) → d.at_ ≤ b → ∀ x ∈ (certOut l d).1, x.at_ ≤ b) := by
  unfold certOut
  split
  · exact ⟨by simp, fun b h _ => h⟩
  · cases hc : certL (noMark d) l with
    | none => exact ⟨by simp, fun b h _ => h⟩
    | some x =>
      dsimp only
      split
      · exact ⟨by simp, fun b h _ => h⟩
      · split
        · exact ⟨by simp, fun b h _ => h⟩
        · obtain ⟨h1, h2, _, h4⟩ := certL_ok l _ x.1 x.2 hc
          refine ⟨by simp [h4], fun b hb hd y hy => ?_⟩
          rcases List.mem_append.1 hy with hy | hy
          · obtain ⟨_, z, hz, hu⟩ := h2 y hy
            rw [hu.at_]; exact hb z hz
          · simp at hy
            subst hy
            rw [h1.at_]; exact hd
theorem cert_code (l : List Dn) (d : Dn) (hn : l.length < 30) : ((certOut l d).2 = 0 ∧ ∃ x l', certOut l d = (l' ++ [x], 0) ∧ x.at_ = d.at_ ∧ l'.length = l.length) ∨ (((certOut l d).2 = 15 ∨ (certOut l d).2 = 16) ∧ (certOut l d).1 = l) := by
  unfold certOut
  split
  · exact .inr ⟨.inl rfl, rfl⟩
  · cases hc : certL (noMark d) l with
    | none => exact .inr ⟨.inr rfl, rfl⟩
    | some x =>
      dsimp only
      split
      · exact .inr ⟨.inr rfl, rfl⟩
      · rw [if_neg (by omega)]
        obtain ⟨k1, _, _, k4⟩ := certL_ok l _ x.1 x.2 hc
        exact .inl ⟨rfl, x.1, x.2, rfl, k1.at_, k4⟩
end Go.Md
/- Certifying: spec's. -/
set_option linter.unusedSimpArgs false
set_option linter.unusedVariables false
namespace Go.Md
open Go.Ev Go.Proofs Go.Pu
set_option maxRecDepth 100000
set_option maxHeartbeats 4000000
theorem sameL_eq (a b : List Chg) : sameL a b = sameP a b := rfl
/-- What the frame knows of the one to be certified. -/
abbrev dnB3 (d : Dn) (i o : Bool) : Ob := .box 26 [.t (.int .i64 d.snap), .t (.int .i64 d.at_), .t (.list (d.reads.map rdT)), .t (.list (d.changes.map chgT)), .t (.bool i), .t (.bool o)]
theorem cert_same (l : List Dn) (d : Dn) (hl : l.length ≤ 100) (hs : ∀ x ∈ l, x.Sm) (hd : d.Sm) (v0 : SV) (r : Nat) (z : Bool) (hz : z = sameAny d l) : ∀ s o q, (s 0 = v0 ∧ s 3 = .ptr 0 0 ∧ s 6 = .row r ∧ s 7 = .t (.int .i64 0) ∧ o 0 = dnB3 d d.inn d.out ∧ o r = .row 26 (l.map dnT) true ∧ r < q ∧ r ≠ 0 ∧ 0 < q) →
    ∃ e s' o' q', run E (.code (.loop (loopAt Tryz.f61 0)) ⟨s, o, q, 104⟩) = some (.st e ⟨s', o', q', 104⟩) ∧ (e = (if z then .ret else .exit 0) ∧ s' 0 = v0 ∧ s' 3 = .ptr 0 0 ∧ s' 6 = .row r ∧ o' = o ∧ q' = q ∧ (z = true → s' 4 = v0 ∧ s' 5 = .t (.int .i64 15))) := by
  intro s o q hI
  have d5 := d61_5
  simp [regionOf, findR, pick, Tryz.f61] at d5
  have dd := fun st => run_region_draw E st 5 _ d5
  clear d5
  refine loop_for (c := loopAt Tryz.f61 0) (N := 104)
    (fun i s o' q' => s 0 = v0 ∧ s 3 = .ptr 0 0 ∧ s 6 = .row r ∧ s 7 = .t (.int .i64 i) ∧ o' = o ∧ q' = q ∧ z = (l.drop i).any (fun x => decide (d.snap < x.at_) && sameL x.changes d.changes))
    (fun e s' o' q' => e = (if z then .ret else .exit 0) ∧ s' 0 = v0 ∧ s' 3 = .ptr 0 0 ∧ s' 6 = .row r ∧ o' = o ∧ q' = q ∧ (z = true → s' 4 = v0 ∧ s' 5 = .t (.int .i64 15))) l.length ?_ ?_
    l.length 0 s o q (by omega) ⟨hI.1, hI.2.1, hI.2.2.1, hI.2.2.2.1, rfl, rfl, by simpa [sameAny] using hz⟩
  · obtain ⟨_, _, _, _, o0, oR, p1, p2, p3⟩ := hI
    rintro i s' o' q' hi ⟨h0, h3, h6, h7, ho, hq, hp⟩
    have hi' : (i : Int) < (l.length : Int) := by omega
    have hw := wrap_succ (n := i) (by omega)
    have hxi : l[i]? = some l[i] := List.getElem?_eq_getElem hi
    have hsx := hs _ (List.getElem_mem hi)
    have hsm := specSame l[i].changes d.changes hsx.changes.1 hd.changes.1
    rw [← sameL_eq] at hsm
    rw [List.drop_eq_getElem_cons hi, List.any_cons] at hp
    by_cases ht : d.snap < l[i].at_
    · have ht' : (decide (d.snap < l[i].at_)) = true := decide_eq_true ht
      rw [ht', Bool.true_and] at hp
      generalize sameL l[i].changes d.changes = y at *
      cases y with
      | true =>
        simp only [Bool.true_or] at hp
        simp [loopAt, loopsOf, Tryz.f61, dd, h0, h3, h6, h7, ho, hq, o0, oR, hi, hi', hxi, hw, hsm, ht, hp]
      | false =>
        simp only [Bool.false_or] at hp
        simp [loopAt, loopsOf, Tryz.f61, dd, h0, h3, h6, h7, ho, hq, o0, oR, hi, hi', hxi, hw, hsm, ht, -List.any_eq_true, -List.any_eq_false]
        exact hp
    · have ht' : (decide (d.snap < l[i].at_)) = false := decide_eq_false ht
      rw [ht', Bool.false_and, Bool.false_or] at hp
      simp [loopAt, loopsOf, Tryz.f61, dd, h0, h3, h6, h7, ho, hq, o0, oR, hi, hi', hxi, hw, ht, -List.any_eq_true, -List.any_eq_false]
      exact hp
  · obtain ⟨_, _, _, _, o0, oR, p1, p2, p3⟩ := hI
    rintro s' o' q' ⟨h0, h3, h6, h7, ho, hq, hp⟩
    simp at hp
    simp [loopAt, loopsOf, Tryz.f61, h0, h3, h6, h7, ho, hq, o0, oR, hp]
theorem cert_marks (l : List Dn) (d : Dn) (hl : l.length ≤ 100) (hs : ∀ x ∈ l, dnFit x) (hd : dnFit d) (v0 : SV) (r : Nat) (F : Option (Dn × List Dn)) (hF : F = certL d l) : ∀ s o q, (s 0 = v0 ∧ s 3 = .ptr 0 0 ∧ s 6 = .row r ∧ s 8 = .t (.int .i64 0) ∧ o 0 = dnB3 d d.inn d.out ∧ o r = .row 26 (l.map dnT) true ∧ r < q ∧ r ≠ 0 ∧ 0 < q) →
    ∃ e s' o' q', run E (.code (.loop (loopAt Tryz.f61 1)) ⟨s, o, q, 104⟩) = some (.st e ⟨s', o', q', 104⟩) ∧ ((F = none → e = .ret ∧ s' 4 = v0 ∧ s' 5 = .t (.int .i64 16)) ∧ (∀ D P, F = some (D, P) → e = .exit 2 ∧ s' 0 = v0 ∧ s' 3 = .ptr 0 0 ∧ s' 6 = .row r ∧ o' 0 = dnB3 D D.inn D.out ∧ o' r = .row 26 (P.map dnT) true ∧ q' = q ∧ (∀ i, i ≠ 0 → i ≠ r → o' i = o i))) := by
  intro s o q hI
  have d13 := d61_13
  simp [regionOf, findR, pick, Tryz.f61] at d13
  have dd1 := fun st => run_region_draw E st 13 _ d13
  clear d13
  have d14 := d61_14
  simp [regionOf, findR, pick, Tryz.f61] at d14
  have dd2 := fun st => run_region_draw E st 14 _ d14
  clear d14
  have d17 := d61_17
  simp [regionOf, findR, pick, Tryz.f61] at d17
  have dd3 := fun st => run_region_draw E st 17 _ d17
  clear d17
  obtain ⟨h0, h3, h6, h8, o0, oR, p1, p2, p3⟩ := hI
  refine loop_for (c := loopAt Tryz.f61 1) (N := 104)
    (fun i s o' q' => ∃ (D : Dn) (P : List Dn), s 0 = v0 ∧ s 3 = .ptr 0 0 ∧ s 6 = .row r ∧ s 8 = .t (.int .i64 i) ∧ o' 0 = dnB3 D D.inn D.out ∧ o' r = .row 26 ((P ++ l.drop i).map dnT) true ∧ q' = q ∧ (∀ i, i ≠ 0 → i ≠ r → o' i = o i) ∧ P.length = i ∧ dnFit D ∧ F = (certL D (l.drop i)).map (fun x => (x.1, P ++ x.2)))
    (fun e s' o' q' => (F = none → e = .ret ∧ s' 4 = v0 ∧ s' 5 = .t (.int .i64 16)) ∧ (∀ D P, F = some (D, P) → e = .exit 2 ∧ s' 0 = v0 ∧ s' 3 = .ptr 0 0 ∧ s' 6 = .row r ∧ o' 0 = dnB3 D D.inn D.out ∧ o' r = .row 26 (P.map dnT) true ∧ q' = q ∧ (∀ i, i ≠ 0 → i ≠ r → o' i = o i))) l.length ?_ ?_
    l.length 0 s o q (by omega) ⟨d, [], h0, h3, h6, h8, o0, oR, rfl, fun _ _ _ => rfl, rfl, hd, by rw [hF, List.drop_zero]; cases certL d l <;> rfl⟩
  · rintro i s' o' q' hi ⟨D, P, h0, h3, h6, h8, o0, oR, hq, hO, hP, hD, hf⟩
    subst hP
    have hi' : (P.length : Int) < (l.length : Int) := by omega
    have hw := wrap_succ (n := P.length) (by omega)
    have hxi : l[P.length]? = some l[P.length] := List.getElem?_eq_getElem hi
    have hux := hs _ (List.getElem_mem hi)
    rw [List.drop_eq_getElem_cons hi] at oR hf
    generalize hU : l[P.length] = U at *
    have hc1 := specHitsIn D.reads U.changes hD.sm.reads.1 hux.sm.changes.1 hD.rd hux.ch
    have hc2 := specHitsIn U.reads D.changes hux.sm.reads.1 hD.sm.changes.1 hux.rd hD.ch
    rw [certL] at hf
    have hlen : (P ++ U :: List.drop (P.length + 1) l).length = l.length := by simp; omega
    have hget : (List.map dnT (P ++ U :: List.drop (P.length + 1) l))[P.length]? = some (dnT U) := by simp
    have hset : ∀ t : T, (List.map dnT (P ++ U :: List.drop (P.length + 1) l)).set P.length t = List.map dnT P ++ t :: List.map dnT (List.drop (P.length + 1) l) := fun t => by
      rw [List.map_append, List.map_cons]
      have : P.length = (List.map dnT P).length := by simp
      rw [this, List.set_append_right _ _ (Nat.le_refl _)]
      simp
    have hnz : r ≠ 0 := p2
    have hnz' : 0 ≠ r := fun e => p2 e.symm
    have hlt : (P.length : Int) < (P.length : Int) + (((l.length - (P.length + 1) : Nat) : Int) + 1) := by omega
    have hlt2 : P.length < P.length + (l.length - (P.length + 1) + 1) := by omega
    by_cases ht : U.at_ ≤ D.snap
    · rw [if_pos ht] at hf
      simp [loopAt, loopsOf, Tryz.f61, dd1, dd2, dd3, h0, h3, h6, h8, o0, oR, hq, hlen, hget, hset, hi', hw, hnz, hnz', p1, p2, p3, hlt, hlt2, ht]
      refine ⟨D, ⟨rfl, rfl, rfl, rfl, rfl, rfl⟩, P ++ [U], by simp, hO, by simp, hD, ?_⟩
      rw [hf]
      cases certL D (List.drop (P.length + 1) l) <;> simp
    · rw [if_neg ht] at hf
      have hDf : ∀ x y : Bool, dnFit ⟨D.snap, D.at_, D.reads, D.changes, x, y⟩ := fun x y => ⟨⟨hD.sm.reads, hD.sm.changes⟩, hD.rd, hD.ch⟩
      unfold certU certD at hf
      generalize hitsP D.reads U.changes = y1 at *
      generalize hitsP U.reads D.changes = y2 at *
      obtain ⟨us, ua, ur, uc, ui, uo⟩ := U
      simp only at ht hc1 hc2 hf
      cases y1 with
      | false =>
        cases y2 with
        | false =>
          cases ui with
          | false =>
            cases uo with
            | false =>
              simp only [Bool.or_true, Bool.or_false, Bool.true_or, Bool.and_true, Bool.and_false, Bool.true_and, Bool.false_and, Bool.false_eq_true, if_false] at hf
              simp [loopAt, loopsOf, Tryz.f61, dd1, dd2, dd3, h0, h3, h6, h8, o0, oR, hq, hlen, hget, hset, hi', hw, hnz, hnz', p1, p2, p3, hlt, hlt2, ht, hc1, hc2]
              refine ⟨⟨D.snap, D.at_, D.reads, D.changes, D.inn, D.out⟩, ⟨rfl, rfl, rfl, rfl, rfl, rfl⟩, P ++ [⟨us, ua, ur, uc, false, false⟩], by simp, ?_, by simp, hDf _ _, ?_⟩
              · intro i h1 h2
                first | exact hO i h1 h2 | (simp [h1, h2]; exact hO i h1 h2) | simp [h1, h2, hO i h1 h2]
              · rw [hf]
                cases certL _ (List.drop (P.length + 1) l) <;> simp
            | true =>
              simp only [Bool.or_true, Bool.or_false, Bool.true_or, Bool.and_true, Bool.and_false, Bool.true_and, Bool.false_and, Bool.false_eq_true, if_false] at hf
              simp [loopAt, loopsOf, Tryz.f61, dd1, dd2, dd3, h0, h3, h6, h8, o0, oR, hq, hlen, hget, hset, hi', hw, hnz, hnz', p1, p2, p3, hlt, hlt2, ht, hc1, hc2]
              refine ⟨⟨D.snap, D.at_, D.reads, D.changes, D.inn, D.out⟩, ⟨rfl, rfl, rfl, rfl, rfl, rfl⟩, P ++ [⟨us, ua, ur, uc, false, true⟩], by simp, ?_, by simp, hDf _ _, ?_⟩
              · intro i h1 h2
                first | exact hO i h1 h2 | (simp [h1, h2]; exact hO i h1 h2) | simp [h1, h2, hO i h1 h2]
              · rw [hf]
                cases certL _ (List.drop (P.length + 1) l) <;> simp
          | true =>
            cases uo with
            | false =>
              simp only [Bool.or_true, Bool.or_false, Bool.true_or, Bool.and_true, Bool.and_false, Bool.true_and, Bool.false_and, Bool.false_eq_true, if_false] at hf
              simp [loopAt, loopsOf, Tryz.f61, dd1, dd2, dd3, h0, h3, h6, h8, o0, oR, hq, hlen, hget, hset, hi', hw, hnz, hnz', p1, p2, p3, hlt, hlt2, ht, hc1, hc2]
              refine ⟨⟨D.snap, D.at_, D.reads, D.changes, D.inn, D.out⟩, ⟨rfl, rfl, rfl, rfl, rfl, rfl⟩, P ++ [⟨us, ua, ur, uc, true, false⟩], by simp, ?_, by simp, hDf _ _, ?_⟩
              · intro i h1 h2
                first | exact hO i h1 h2 | (simp [h1, h2]; exact hO i h1 h2) | simp [h1, h2, hO i h1 h2]
              · rw [hf]
                cases certL _ (List.drop (P.length + 1) l) <;> simp
            | true =>
              simp at hf
              simp [loopAt, loopsOf, Tryz.f61, dd1, dd2, dd3, h0, h3, h6, h8, o0, oR, hq, hlen, hget, hset, hi', hw, hnz, hnz', p1, p2, p3, hlt, hlt2, ht, hc1, hc2, hf]
        | true =>
          cases ui with
          | false =>
            cases uo with
            | false =>
              simp only [Bool.or_true, Bool.or_false, Bool.true_or, Bool.and_true, Bool.and_false, Bool.true_and, Bool.false_and, Bool.false_eq_true, if_false] at hf
              simp [loopAt, loopsOf, Tryz.f61, dd1, dd2, dd3, h0, h3, h6, h8, o0, oR, hq, hlen, hget, hset, hi', hw, hnz, hnz', p1, p2, p3, hlt, hlt2, ht, hc1, hc2]
              refine ⟨⟨D.snap, D.at_, D.reads, D.changes, true, D.out⟩, ⟨rfl, rfl, rfl, rfl, rfl, rfl⟩, P ++ [⟨us, ua, ur, uc, false, true⟩], by simp, ?_, by simp, hDf _ _, ?_⟩
              · intro i h1 h2
                first | exact hO i h1 h2 | (simp [h1, h2]; exact hO i h1 h2) | simp [h1, h2, hO i h1 h2]
              · rw [hf]
                cases certL _ (List.drop (P.length + 1) l) <;> simp
            | true =>
              simp only [Bool.or_true, Bool.or_false, Bool.true_or, Bool.and_true, Bool.and_false, Bool.true_and, Bool.false_and, Bool.false_eq_true, if_false] at hf
              simp [loopAt, loopsOf, Tryz.f61, dd1, dd2, dd3, h0, h3, h6, h8, o0, oR, hq, hlen, hget, hset, hi', hw, hnz, hnz', p1, p2, p3, hlt, hlt2, ht, hc1, hc2]
              refine ⟨⟨D.snap, D.at_, D.reads, D.changes, true, D.out⟩, ⟨rfl, rfl, rfl, rfl, rfl, rfl⟩, P ++ [⟨us, ua, ur, uc, false, true⟩], by simp, ?_, by simp, hDf _ _, ?_⟩
              · intro i h1 h2
                first | exact hO i h1 h2 | (simp [h1, h2]; exact hO i h1 h2) | simp [h1, h2, hO i h1 h2]
              · rw [hf]
                cases certL _ (List.drop (P.length + 1) l) <;> simp
          | true =>
            cases uo with
            | false =>
              simp at hf
              simp [loopAt, loopsOf, Tryz.f61, dd1, dd2, dd3, h0, h3, h6, h8, o0, oR, hq, hlen, hget, hset, hi', hw, hnz, hnz', p1, p2, p3, hlt, hlt2, ht, hc1, hc2, hf]
            | true =>
              simp at hf
              simp [loopAt, loopsOf, Tryz.f61, dd1, dd2, dd3, h0, h3, h6, h8, o0, oR, hq, hlen, hget, hset, hi', hw, hnz, hnz', p1, p2, p3, hlt, hlt2, ht, hc1, hc2, hf]
      | true =>
        cases y2 with
        | false =>
          cases ui with
          | false =>
            cases uo with
            | false =>
              simp only [Bool.or_true, Bool.or_false, Bool.true_or, Bool.and_true, Bool.and_false, Bool.true_and, Bool.false_and, Bool.false_eq_true, if_false] at hf
              simp [loopAt, loopsOf, Tryz.f61, dd1, dd2, dd3, h0, h3, h6, h8, o0, oR, hq, hlen, hget, hset, hi', hw, hnz, hnz', p1, p2, p3, hlt, hlt2, ht, hc1, hc2]
              refine ⟨⟨D.snap, D.at_, D.reads, D.changes, D.inn, true⟩, ⟨rfl, rfl, rfl, rfl, rfl, rfl⟩, P ++ [⟨us, ua, ur, uc, true, false⟩], by simp, ?_, by simp, hDf _ _, ?_⟩
              · intro i h1 h2
                first | exact hO i h1 h2 | (simp [h1, h2]; exact hO i h1 h2) | simp [h1, h2, hO i h1 h2]
              · rw [hf]
                cases certL _ (List.drop (P.length + 1) l) <;> simp
            | true =>
              simp at hf
              simp [loopAt, loopsOf, Tryz.f61, dd1, dd2, dd3, h0, h3, h6, h8, o0, oR, hq, hlen, hget, hset, hi', hw, hnz, hnz', p1, p2, p3, hlt, hlt2, ht, hc1, hc2, hf]
          | true =>
            cases uo with
            | false =>
              simp only [Bool.or_true, Bool.or_false, Bool.true_or, Bool.and_true, Bool.and_false, Bool.true_and, Bool.false_and, Bool.false_eq_true, if_false] at hf
              simp [loopAt, loopsOf, Tryz.f61, dd1, dd2, dd3, h0, h3, h6, h8, o0, oR, hq, hlen, hget, hset, hi', hw, hnz, hnz', p1, p2, p3, hlt, hlt2, ht, hc1, hc2]
              refine ⟨⟨D.snap, D.at_, D.reads, D.changes, D.inn, true⟩, ⟨rfl, rfl, rfl, rfl, rfl, rfl⟩, P ++ [⟨us, ua, ur, uc, true, false⟩], by simp, ?_, by simp, hDf _ _, ?_⟩
              · intro i h1 h2
                first | exact hO i h1 h2 | (simp [h1, h2]; exact hO i h1 h2) | simp [h1, h2, hO i h1 h2]
              · rw [hf]
                cases certL _ (List.drop (P.length + 1) l) <;> simp
            | true =>
              simp at hf
              simp [loopAt, loopsOf, Tryz.f61, dd1, dd2, dd3, h0, h3, h6, h8, o0, oR, hq, hlen, hget, hset, hi', hw, hnz, hnz', p1, p2, p3, hlt, hlt2, ht, hc1, hc2, hf]
        | true =>
          cases ui with
          | false =>
            cases uo with
            | false =>
              simp at hf
              simp [loopAt, loopsOf, Tryz.f61, dd1, dd2, dd3, h0, h3, h6, h8, o0, oR, hq, hlen, hget, hset, hi', hw, hnz, hnz', p1, p2, p3, hlt, hlt2, ht, hc1, hc2, hf]
            | true =>
              simp at hf
              simp [loopAt, loopsOf, Tryz.f61, dd1, dd2, dd3, h0, h3, h6, h8, o0, oR, hq, hlen, hget, hset, hi', hw, hnz, hnz', p1, p2, p3, hlt, hlt2, ht, hc1, hc2, hf]
          | true =>
            cases uo with
            | false =>
              simp at hf
              simp [loopAt, loopsOf, Tryz.f61, dd1, dd2, dd3, h0, h3, h6, h8, o0, oR, hq, hlen, hget, hset, hi', hw, hnz, hnz', p1, p2, p3, hlt, hlt2, ht, hc1, hc2, hf]
            | true =>
              simp at hf
              simp [loopAt, loopsOf, Tryz.f61, dd1, dd2, dd3, h0, h3, h6, h8, o0, oR, hq, hlen, hget, hset, hi', hw, hnz, hnz', p1, p2, p3, hlt, hlt2, ht, hc1, hc2, hf]
  · rintro s' o' q' ⟨D, P, h0, h3, h6, h8, o0, oR, hq, hO, hP, hD, hf⟩
    rw [List.drop_of_length_le (Nat.le_refl _), certL] at hf
    simp at hf
    rw [List.drop_of_length_le (Nat.le_refl _), List.append_nil] at oR
    subst hf
    simp [loopAt, loopsOf, Tryz.f61, h0, h3, h6, h8, oR, hP]
    exact ⟨o0, hq, hO⟩
def certX (l : List Dn) (d : Dn) : X := if (certOut l d).2 = 0 then .row 26 ((certOut l d).1.map dnT) else .t (.list (l.map dnT))
theorem noMark_fit {d : Dn} (h : dnFit d) : dnFit (noMark d) := ⟨⟨h.sm.reads, h.sm.changes⟩, h.rd, h.ch⟩
theorem specCert (l : List Dn) (d : Dn) (hl : l.length ≤ 100) (hs : ∀ x ∈ l, dnFit x) (hd : dnFit d) : run E (.call 61 [.t (.list (l.map dnT)), .t (dnT d)]) = some (.res [certX l d, xI (certOut l d).2] []) := by
  rw [run_call E 61 _ rfl Tryz.func61 rfl rfl rfl (by simp)]
  obtain ⟨z, hz⟩ : ∃ z, z = sameAny d l := ⟨_, rfl⟩
  obtain ⟨F, hF⟩ : ∃ F, F = certL (noMark d) l := ⟨_, rfl⟩
  obtain ⟨X1, A1, B1, C1, hx1⟩ := sk (cert_same l d hl (fun x hx => (hs x hx).sm) hd.sm (.t (.list (l.map dnT))) 2 z hz)
  obtain ⟨X2, A2, B2, C2, hx2⟩ := sk (cert_marks l (noMark d) hl hs (noMark_fit hd) (.t (.list (l.map dnT))) 2 F hF)
  simp only [loopAt, loopsOf, Tryz.f61] at hx1 hx2
  unfold certX certOut
  rw [← hz, ← hF]
  have hcat : l.length ≤ 140737488355328 := by omega
  have hcat2 : l.length * 72 ≤ 140737488355328 := by omega
  have hPl : ∀ D P, F = some (D, P) → P.length = l.length := fun D P h => (certL_ok l (noMark d) D P (by rw [← hF, h])).2.2.2
  clear hz hF
  cases z with
  | true =>
    simp at hx1
    simp [hx1, hcat, hcat2]
  | false =>
    cases F with
    | none =>
      simp [noMark] at hx1 hx2
      simp [hx1, hx2, hcat, hcat2]
    | some x =>
      obtain ⟨⟨ds, da, dr, dc, di, do'⟩, P⟩ := x
      have hx2' := fun s o q h => And.intro (hx2 s o q h).1 ((hx2 s o q h).2.2 _ P rfl)
      have hP := hPl _ P rfl
      have hcat3 : P.length + 1 ≤ 140737488355328 := by omega
      have hcat4 : (P.length + 1) * 72 ≤ 140737488355328 := by omega
      simp [noMark] at hx1 hx2'
      by_cases h30 : l.length = 30
      · have h30' : (P.length : Int) = 30 := by omega
        cases di <;> cases do' <;> simp [hx1, hx2', hcat, hcat2, h30, h30', hcat3, hcat4]
      · have h30' : ¬ (P.length : Int) = 30 := by omega
        cases di <;> cases do' <;> simp [hx1, hx2', hcat, hcat2, h30, h30', hcat3, hcat4]
end Go.Md
/- Certifying: copies with memory of their own; what is drawn is certified one by one. -/
set_option linter.unusedSimpArgs false
set_option linter.unusedVariables false
namespace Go.Md
open Go.Ev Go.Proofs Go.Pu
set_option maxRecDepth 100000
set_option maxHeartbeats 4000000
theorem take_snoc {α β : Type} (f : α → β) (l : List α) (k : Nat) (hk : k < l.length) : List.take k (l.map f) ++ [f l[k]] = List.take (k + 1) (l.map f) := by
  rw [List.take_add_one, List.getElem?_map, List.getElem?_eq_getElem hk]
  rfl
/-- Sizes that a copy needs. -/
def RdL (r : Rd) : Prop := r.filter.length < 4294967296 ∧ ∀ c ∈ r.filter, c.length < 4294967296
theorem ownReads_in (rs : List Rd) (hl : rs.length < 4294967296) (i : Nat) (hi : i < rs.length) (hr : RdL rs[i]) (r3 : Nat) (A : List T) : ∀ s o q, (s 0 = .t (.list (rs.map rdT)) ∧ s 3 = .row r3 ∧ s 4 = .t (.int .i64 i) ∧ (∃ r0, s 5 = .row r0 ∧ o r0 = .row 151 [] true ∧ r0 ≠ r3 ∧ r0 < q) ∧ s 6 = .t (.int .i64 0) ∧ o r3 = .row 36 A true ∧ r3 < q) →
    ∃ e s' o' q', run E (.code (.loop (loopAt Tryz.f122 1)) ⟨s, o, q, 54⟩) = some (.st e ⟨s', o', q', 54⟩) ∧ ∃ r : Nat, (e = .exit 2 ∧ s' 0 = .t (.list (rs.map rdT)) ∧ s' 3 = .row r3 ∧ s' 4 = .t (.int .i64 i) ∧ s' 5 = .row r ∧ o' r = .row 151 (rs[i].filter.map clsT) true ∧ o' r3 = .row 36 A true ∧ r ≠ r3 ∧ r3 ≠ r ∧ r < q' ∧ r3 < q' ∧ r3 ≠ q' ∧ r ≠ q' ∧ r3 ≠ q' + 1 ∧ q' ≠ r3 ∧ q' ≠ r) := by
  intro s o q hI
  have hxi : rs[i]? = some rs[i] := List.getElem?_eq_getElem hi
  have hi' : (i : Int) < (rs.length : Int) := by omega
  refine loop_for (c := loopAt Tryz.f122 1) (N := 54)
    (fun k s o q => ∃ r : Nat, s 0 = .t (.list (rs.map rdT)) ∧ s 3 = .row r3 ∧ s 4 = .t (.int .i64 i) ∧ s 5 = .row r ∧ s 6 = .t (.int .i64 k) ∧ o r = .row 151 ((rs[i].filter.take k).map clsT) true ∧ o r3 = .row 36 A true ∧ r ≠ r3 ∧ r < q ∧ r3 < q)
    (fun e s' o' q' => ∃ r : Nat, (e = .exit 2 ∧ s' 0 = .t (.list (rs.map rdT)) ∧ s' 3 = .row r3 ∧ s' 4 = .t (.int .i64 i) ∧ s' 5 = .row r ∧ o' r = .row 151 (rs[i].filter.map clsT) true ∧ o' r3 = .row 36 A true ∧ r ≠ r3 ∧ r3 ≠ r ∧ r < q' ∧ r3 < q' ∧ r3 ≠ q' ∧ r ≠ q' ∧ r3 ≠ q' + 1 ∧ q' ≠ r3 ∧ q' ≠ r)) rs[i].filter.length ?_ ?_
    rs[i].filter.length 0 s o q (by omega) (by
      obtain ⟨h0, h3, h4, ⟨r0, h5, o5, p1, p2⟩, h6, o3, p3⟩ := hI
      exact ⟨r0, h0, h3, h4, h5, h6, by simpa using o5, o3, p1, p2, p3⟩)
  · rintro k s o q hk ⟨r, h0, h3, h4, h5, h6, o5, o3, p1, p2, p3⟩
    have hk' : (k : Int) < (rs[i].filter.length : Int) := by omega
    have hrl := hr.1
    have hw := wrap_succ (n := k) (by omega)
    have hxk : rs[i].filter[k]? = some rs[i].filter[k] := List.getElem?_eq_getElem hk
    have hcl := hr.2 _ (List.getElem_mem hk)
    have htk : List.take (k + 1) rs[i].filter = List.take k rs[i].filter ++ [rs[i].filter[k]] := by rw [List.take_add_one, hxk]; rfl
    have hc1 : rs[i].filter[k].length ≤ 140737488355328 := by omega
    have hc2 : rs[i].filter[k].length * 56 ≤ 140737488355328 := by omega
    have hm : min k rs[i].filter.length = k := Nat.min_eq_left (by omega)
    have hc3 : k + 1 ≤ 140737488355328 := by omega
    have hc4 : (k + 1) * 24 ≤ 140737488355328 := by omega
    obtain ⟨a1, a2, a3, a4, a5, a6, a7, a8, a9, b1, b2⟩ : r ≠ q ∧ q ≠ r ∧ r3 ≠ q ∧ q ≠ r3 ∧ r ≠ q + 1 ∧ r3 ≠ q + 1 ∧ r3 ≠ q + 1 + 1 ∧ r3 ≠ r ∧ r ≠ q + 1 + 1 ∧ r3 ≠ q + 1 + 1 + 1 ∧ q + 1 ≠ r := by
      clear hc1 hc2 hc3 hc4 hw hcl hrl
      (repeat' apply And.intro) <;> omega
    simp [loopAt, loopsOf, Tryz.f122, h0, h3, h4, h5, h6, o5, o3, hi, hi', hxi, hk, hk', hxk, hw, hc1, hc2, hc3, hc4, hm, a1, a2, a3, a4, a5, a6, a7, a8, a9, b1, b2, p1]
    exact ⟨take_snoc clsT rs[i].filter k hk, by omega, by omega⟩
  · rintro s o q ⟨r, h0, h3, h4, h5, h6, o5, o3, p1, p2, p3⟩
    rw [List.take_of_length_le (Nat.le_refl _)] at o5
    have e1 : r3 ≠ r := fun h => p1 h.symm
    simp [loopAt, loopsOf, Tryz.f122, h0, h3, h4, h5, h6, o5, o3, hi, hi', hxi]
    (repeat' apply And.intro) <;> omega
theorem ownReads_out (rs : List Rd) (hl : rs.length < 4294967296) (hr : ∀ r ∈ rs, RdL r) : ∀ s o q, (s 0 = .t (.list (rs.map rdT)) ∧ s 3 = .row 0 ∧ s 4 = .t (.int .i64 0) ∧ o 0 = .row 36 [] true ∧ 0 < q) →
    ∃ e s' o' q', run E (.code (.loop (loopAt Tryz.f122 0)) ⟨s, o, q, 54⟩) = some (.st e ⟨s', o', q', 54⟩) ∧ ∃ r : Nat, (e = .exit 0 ∧ s' 3 = .row r ∧ o' r = .row 36 (rs.map rdT) true) := by
  intro s o q hI
  refine loop_for (c := loopAt Tryz.f122 0) (N := 54)
    (fun i s o q => ∃ r : Nat, s 0 = .t (.list (rs.map rdT)) ∧ s 3 = .row r ∧ s 4 = .t (.int .i64 i) ∧ o r = .row 36 ((rs.take i).map rdT) true ∧ r < q)
    (fun e s' o' q' => ∃ r : Nat, (e = .exit 0 ∧ s' 3 = .row r ∧ o' r = .row 36 (rs.map rdT) true)) rs.length ?_ ?_
    rs.length 0 s o q (by omega) ⟨0, hI.1, hI.2.1, hI.2.2.1, by simpa using hI.2.2.2.1, hI.2.2.2.2⟩
  · rintro i s o q hi ⟨r, h0, h3, h4, o3, p1⟩
    have hi' : (i : Int) < (rs.length : Int) := by omega
    have hw := wrap_succ (n := i) (by omega)
    have hxi : rs[i]? = some rs[i] := List.getElem?_eq_getElem hi
    have hti : List.take (i + 1) rs = List.take i rs ++ [rs[i]] := by rw [List.take_add_one, hxi]; rfl
    have hm : min i rs.length = i := Nat.min_eq_left (by omega)
    have hc3 : i + 1 ≤ 140737488355328 := by omega
    have hc4 : (i + 1) * 40 ≤ 140737488355328 := by omega
    obtain ⟨X, S, O, Q, M, hx⟩ := sk1 (ownReads_in rs hl i hi (hr _ (List.getElem_mem hi)) r ((rs.take i).map rdT))
    simp only [loopAt, loopsOf, Tryz.f122] at hx
    simp at hx
    obtain ⟨a1, a2, a3, a4, a5, a6⟩ : r ≠ q ∧ q ≠ r ∧ r ≠ q + 1 ∧ r < q + 1 ∧ q < q + 1 ∧ r < q + 1 + 1 := by
      clear hc3 hc4 hw
      (repeat' apply And.intro) <;> omega
    simp [loopAt, loopsOf, Tryz.f122, h0, h3, h4, o3, hi, hi', hxi, hw, hc3, hc4, hm, hx, a1, a2, a3, a4, a5, a6]
    exact take_snoc rdT rs i hi
  · rintro s o q ⟨r, h0, h3, h4, o3, p1⟩
    rw [List.take_of_length_le (Nat.le_refl _)] at o3
    simp [loopAt, loopsOf, Tryz.f122, h0, h3, h4, o3]
theorem ownReads (rs : List Rd) (hl : rs.length < 4294967296) (hr : ∀ r ∈ rs, RdL r) : run E (.call 122 [.t (.list (rs.map rdT))]) = some (.res [.row 36 (rs.map rdT)] []) := by
  rw [run_call E 122 _ rfl Tryz.func122 rfl rfl rfl (by simp)]
  obtain ⟨X, S, O, Q, M, hx⟩ := sk1 (ownReads_out rs hl hr)
  simp only [loopAt, loopsOf, Tryz.f122] at hx
  simp at hx
  simp [hx]
/-- Sizes that a copy of one needs. -/
def DnL (d : Dn) : Prop := d.reads.length < 4294967296 ∧ (∀ r ∈ d.reads, RdL r) ∧ d.changes.length < 4294967296
theorem own_loop (l : List Dn) (hl : l.length < 4294967296) (hd : ∀ d ∈ l, DnL d) : ∀ s o q, (s 0 = .t (.list (l.map dnT)) ∧ s 3 = .row 0 ∧ s 4 = .t (.int .i64 0) ∧ o 0 = .row 26 [] true ∧ 0 < q) →
    ∃ e s' o' q', run E (.code (.loop (loopAt Tryz.f62 0)) ⟨s, o, q, 31⟩) = some (.st e ⟨s', o', q', 31⟩) ∧ ∃ r : Nat, (e = .exit 0 ∧ s' 3 = .row r ∧ o' r = .row 26 (l.map dnT) true) := by
  intro s o q hI
  refine loop_for (c := loopAt Tryz.f62 0) (N := 31)
    (fun i s o q => ∃ r : Nat, s 0 = .t (.list (l.map dnT)) ∧ s 3 = .row r ∧ s 4 = .t (.int .i64 i) ∧ o r = .row 26 ((l.take i).map dnT) true ∧ r < q)
    (fun e s' o' q' => ∃ r : Nat, (e = .exit 0 ∧ s' 3 = .row r ∧ o' r = .row 26 (l.map dnT) true)) l.length ?_ ?_
    l.length 0 s o q (by omega) ⟨0, hI.1, hI.2.1, hI.2.2.1, by simpa using hI.2.2.2.1, hI.2.2.2.2⟩
  · rintro i s o q hi ⟨r, h0, h3, h4, o3, p1⟩
    have hi' : (i : Int) < (l.length : Int) := by omega
    have hw := wrap_succ (n := i) (by omega)
    have hxi : l[i]? = some l[i] := List.getElem?_eq_getElem hi
    have hm : min i l.length = i := Nat.min_eq_left (by omega)
    have hdi := hd _ (List.getElem_mem hi)
    have hR := ownReads l[i].reads hdi.1 hdi.2.1
    have hcl := hdi.2.2
    have hc1 : l[i].changes.length ≤ 140737488355328 := by omega
    have hc2 : l[i].changes.length * 104 ≤ 140737488355328 := by omega
    have hc3 : i + 1 ≤ 140737488355328 := by omega
    have hc4 : (i + 1) * 72 ≤ 140737488355328 := by omega
    obtain ⟨a1, a2, a3, a4, a5, a6, a7, a8⟩ : r ≠ q ∧ q ≠ r ∧ r ≠ q + 1 ∧ r ≠ q + 1 + 1 ∧ r ≠ q + 1 + 1 + 1 ∧ r ≠ q + 1 + 1 + 1 + 1 ∧ q + 1 ≠ r ∧ q + 1 + 1 ≠ r := by
      clear hc1 hc2 hc3 hc4 hw hcl hdi
      (repeat' apply And.intro) <;> omega
    obtain ⟨f1, f2, f3, f4, f5, f6, f7, f8, f9, g1, g2, g3, g4⟩ : (q ≠ q + 1) ∧ (q ≠ q + 1 + 1) ∧ (q ≠ q + 1 + 1 + 1) ∧ (q ≠ q + 1 + 1 + 1 + 1) ∧ (q + 1 ≠ q + 1 + 1) ∧ (q + 1 ≠ q + 1 + 1 + 1) ∧ (q + 1 ≠ q + 1 + 1 + 1 + 1) ∧ (q + 1 + 1 ≠ q + 1 + 1 + 1) ∧ (q + 1 + 1 ≠ q + 1 + 1 + 1 + 1) ∧ (q + 1 + 1 + 1 ≠ q + 1 + 1 + 1 + 1) ∧ (q + 1 ≠ q) ∧ (q + 1 + 1 ≠ q) ∧ (q + 1 + 1 + 1 ≠ q) := by
      clear hc1 hc2 hc3 hc4 hw hcl hdi a1 a2 a3 a4 a5 a6 a7 a8
      (repeat' apply And.intro) <;> omega
    try simp at hR
    simp [loopAt, loopsOf, Tryz.f62, h0, h3, h4, o3, hi, hi', hxi, hw, hc1, hc2, hc3, hc4, hm, hR, a1, a2, a3, a4, a5, a6, a7, a8, f1, f2, f3, f4, f5, f6, f7, f8, f9, g1, g2, g3, g4]
    exact take_snoc dnT l i hi
  · rintro s o q ⟨r, h0, h3, h4, o3, p1⟩
    rw [List.take_of_length_le (Nat.le_refl _)] at o3
    simp [loopAt, loopsOf, Tryz.f62, h0, h3, h4, o3]
theorem ownDones (l : List Dn) (hl : l.length < 4294967296) (hd : ∀ d ∈ l, DnL d) : run E (.call 62 [.t (.list (l.map dnT))]) = some (.res [.row 26 (l.map dnT)] []) := by
  rw [run_call E 62 _ rfl Tryz.func62 rfl rfl rfl (by simp)]
  obtain ⟨X, S, O, Q, M, hx⟩ := sk1 (own_loop l hl hd)
  simp only [loopAt, loopsOf, Tryz.f62] at hx
  simp at hx
  simp [hx]
theorem fit_L {d : Dn} (h : dnFit d) : DnL d :=
  ⟨h.sm.reads.1, fun r hr => ⟨(h.sm.reads.2 r hr).filter.1, fun c hc => ((h.sm.reads.2 r hr).filter.2 c hc).1⟩, h.sm.changes.1⟩
/-- What is known of what was drawn so far. -/
structure Drawn (b : Int) (n : Nat) (L : List Dn) : Prop where
  fit : ∀ x ∈ L, dnFit x
  len : L.length ≤ n
  told : L.Pairwise toldB
  at_ : ∀ x ∈ L, x.at_ ≤ b
theorem cert_fit {L : List Dn} {d : Dn} (h : ∀ x ∈ L, dnFit x) (hd : dnFit d) : ∀ x ∈ (certOut L d).1, dnFit x := by
  unfold certOut
  split
  · exact h
  · cases hc : certL (noMark d) L with
    | none => exact h
    | some y =>
      dsimp only
      split
      · exact h
      · split
        · exact h
        · obtain ⟨h1, h2, _, _⟩ := certL_ok L _ y.1 y.2 hc
          intro x hx
          have up : ∀ {a b : Dn}, upD a b → dnFit a → dnFit b := fun {a b} u f => by
            obtain ⟨s1, s2, s3, s4, _, _⟩ := u
            refine ⟨⟨by rw [s3]; exact f.sm.reads, by rw [s4]; exact f.sm.changes⟩, by rw [s3]; exact f.rd, by rw [s4]; exact f.ch⟩
          rcases List.mem_append.1 hx with hx | hx
          · obtain ⟨_, z, hz, u⟩ := h2 x hx
            exact up u (h z hz)
          · simp at hx
            subst hx
            exact up h1 (noMark_fit hd)
theorem Drawn.next {b b' : Int} {n n' : Nat} {L : List Dn} {d : Dn} (h : Drawn b n L) (hd : dnFit d) (hat : d.at_ ≤ b') (hb : b ≤ b') (hn : n + 1 ≤ n') : Drawn b' n' (certOut L d).1 := by
  obtain ⟨h1, h2⟩ := certOut_len L d
  exact ⟨cert_fit h.fit hd, by have := h.len; omega, certOut_told L d h.told, h2 b' (fun x hx => by have := h.at_ x hx; omega) hat⟩
theorem Drawn.up {b b' : Int} {n n' : Nat} {L : List Dn} (h : Drawn b n L) (hb : b ≤ b') (hn : n ≤ n') : Drawn b' n' L :=
  ⟨h.fit, by have := h.len; omega, h.told, fun x hx => by have := h.at_ x hx; omega⟩
/-- The list that stands in a slot. -/
def Vis (v : SV) (o : Nat → Ob) (q : Nat) (L : List Dn) : Prop := v = .t (.list (L.map dnT)) ∨ ∃ r, v = .row r ∧ o r = .row 26 (L.map dnT) true ∧ r ≠ 0 ∧ r < q
theorem dones_loop (n0 : Nat) (hn0 : n0 ≤ 7) (src : Src) (m : Nat) (hm : m + 100000 < 1000000000) (hs : src.Ok m) : ∀ s o q, (s 0 = .ptr 0 0 ∧ s 3 = .row 1 ∧ s 4 = .t (.int .i64 n0) ∧ o 0 = srcB src ∧ o 1 = .row 26 [] true ∧ 1 < q) →
    ∃ e s' o' q', run E (.code (.loop (loopAt Tryz.f50 0)) ⟨s, o, q, 24⟩) = some (.st e ⟨s', o', q', 24⟩) ∧ ∃ a : Src × List Dn, ((e = .exit 0 ∧ s' 0 = .ptr 0 0 ∧ Vis (s' 3) o' q' a.2 ∧ o' 0 = srcB a.1 ∧ 1 < q') ∧ Drawn 8 7 a.2) := by
  intro s o q hI
  refine loop_wf (c := loopAt Tryz.f50 0) (N := 24)
    (fun k s o q => ∃ (sr : Src) (L : List Dn), s 0 = .ptr 0 0 ∧ Vis (s 3) o q L ∧ s 4 = .t (.int .i64 k) ∧ o 0 = srcB sr ∧ 1 < q ∧ k ≤ 7 ∧ Drawn (8 - (k : Int)) (7 - k) L ∧ sr.Ok (m + (7 - k) * 11000))
    (fun e s' o' q' => ∃ a : Src × List Dn, ((e = .exit 0 ∧ s' 0 = .ptr 0 0 ∧ Vis (s' 3) o' q' a.2 ∧ o' 0 = srcB a.1 ∧ 1 < q') ∧ Drawn 8 7 a.2)) ?_
    n0 s o q (by
      obtain ⟨h0, h3, h4, o0, o1, p1⟩ := hI
      exact ⟨src, [], h0, .inr ⟨1, h3, by simpa using o1, by omega, p1⟩, h4, o0, p1, hn0, ⟨by simp, by simp, by simp, by simp⟩, hs.up (Nat.le_add_right _ _)⟩)
  rintro k s o q ⟨sr, L, h0, hv, h4, o0, p1, hk, hD, hok⟩
  cases k with
  | zero =>
    simp at h4
    simp [loopAt, loopsOf, Tryz.f50, h4]
    exact ⟨sr, L, ⟨h0, hv, o0, p1⟩, hD.up (by simp) (by omega)⟩
  | succ k =>
    obtain ⟨d, s', hx, hxo, hat, hso⟩ := drawDone sr (m + (7 - (k + 1)) * 11000) (by omega) hok (9 - (k + 1)) (by omega) (by omega)
    have hso' : s'.Ok (m + (7 - k) * 11000) := hso.up (by omega)
    have hpos : (0 : Int) < (k : Int) + 1 := by omega
    have hw2 := wrap_nat (n := k) (by omega)
    have hsub : IntKind.i64.wrap (9 - ((k : Int) + 1)) = ((9 - (k + 1) : Nat) : Int) := by rw [wrap_of (by omega) (by omega)]; omega
    have hnx : Drawn (8 - (k : Int)) (7 - k) (certOut L d).1 := hD.next hxo (by rw [hat]; omega) (by omega) (by omega)
    have hcert := specCert L d (by have := hD.len; omega) hD.fit hxo
    have hcode := cert_code L d (by have := hD.len; omega)
    generalize hN : (9 - (k + 1) : Nat) = N at *
    obtain ⟨e1, e2, e3, e4, e5, e6, e7, e8⟩ : 0 ≠ q ∧ q ≠ 0 ∧ 0 ≠ q + 1 ∧ 0 ≠ q + 1 + 1 ∧ q ≠ q + 1 ∧ q + 1 ≠ q ∧ q ≠ q + 1 + 1 ∧ q + 1 ≠ q + 1 + 1 := by
      clear hsub hw2
      (repeat' apply And.intro) <;> omega
    by_cases hc : (certOut L d).2 = 0
    · rw [certX, if_pos hc, hc] at hcert
      rcases hv with hv | ⟨r, hv, hr, r0, rq⟩
      · simp at h4 hx hcert
        simp [loopAt, loopsOf, Tryz.f50, h0, h4, hv, o0, hpos, hw2, hsub, hx, hcert, e1, e2, e3, e4, e5, e6, e7, e8]
        exact ⟨k, by omega, s', (certOut L d).1, .inr ⟨q + 1 + 1, rfl, by simp [upd], by omega, by omega⟩, rfl, ⟨rfl, rfl, rfl⟩, by omega, hnx, hso'⟩
      · have g1 : r ≠ q := by omega
        have g2 : r ≠ q + 1 := by omega
        have g3 : 0 ≠ r := fun h => r0 h.symm
        have g4 : r ≠ q + 1 + 1 := by omega
        have g5 : q ≠ r := by omega
        have g6 : q + 1 ≠ r := by omega
        simp at h4 hx hcert
        simp [loopAt, loopsOf, Tryz.f50, h0, h4, hv, hr, r0, o0, hpos, hw2, hsub, hx, hcert, e1, e2, e3, e4, e5, e6, e7, e8, g1, g2, g3, g4, g5, g6]
        exact ⟨k, by omega, s', (certOut L d).1, .inr ⟨q + 1 + 1, rfl, by simp [upd], by omega, by omega⟩, rfl, ⟨rfl, rfl, rfl⟩, by omega, hnx, hso'⟩
    · have hL : (certOut L d).1 = L := by
        rcases hcode with ⟨h, _⟩ | ⟨_, h⟩
        · exact absurd h hc
        · exact h
      rw [hL] at hnx
      rw [certX, if_neg hc] at hcert
      generalize (certOut L d).2 = code at *
      rcases hv with hv | ⟨r, hv, hr, r0, rq⟩
      · simp at h4 hx hcert
        simp [loopAt, loopsOf, Tryz.f50, h0, h4, hv, o0, hpos, hw2, hsub, hx, hcert, e1, e2, e3, e4, e5, e6, e7, e8]
        exact ⟨k, by omega, s', L, .inl rfl, rfl, ⟨rfl, rfl, rfl⟩, by omega, hnx, hso'⟩
      · have g1 : r ≠ q := by omega
        have g2 : r ≠ q + 1 := by omega
        have g3 : 0 ≠ r := fun h => r0 h.symm
        have g4 : r ≠ q + 1 + 1 := by omega
        have g5 : q ≠ r := by omega
        have g6 : q + 1 ≠ r := by omega
        simp at h4 hx hcert
        simp [loopAt, loopsOf, Tryz.f50, h0, h4, hv, hr, r0, o0, hpos, hw2, hsub, hx, hcert, e1, e2, e3, e4, e5, e6, e7, e8, g1, g2, g3, g4, g5, g6]
        exact ⟨k, by omega, s', L, .inl rfl, rfl, ⟨rfl, rfl, rfl⟩, by omega, hnx, hso'⟩
end Go.Md
/- FnOrders: the drawn list. -/
set_option linter.unusedSimpArgs false
set_option linter.unusedVariables false
namespace Go.Md
open Go.Ev Go.Proofs Go.Pu
set_option maxRecDepth 100000
set_option maxHeartbeats 4000000
theorem drawDones (s : Src) (m : Nat) (hm : m + 200000 < 1000000000) (h : s.Ok m) : ∃ (L : List Dn) (s' : Src), run E (.call 50 [srcX s]) = some (.res [.row 26 (L.map dnT)] [some (srcX s')]) ∧ Drawn 8 7 L := by
  obtain ⟨n0, s1, a1, b1, c1⟩ := srcNext s m (by omega) h 7 (by omega) (by omega)
  have hw : IntKind.i64.wrap (1 + (n0 : Int)) = ((n0 + 1 : Nat) : Int) := by rw [wrap_of (by omega) (by omega)]; omega
  have key := dones_loop (n0 + 1) (by omega) s1 (m + 1) (by omega) c1
  obtain ⟨Y, hY⟩ : ∃ Y, run E (.call 50 [srcX s]) = Y := ⟨_, rfl⟩
  rw [hY]
  rw [run_call E 50 _ rfl Tryz.func50 rfl rfl rfl (by simp)] at hY
  simp at a1
  simp [a1, hw] at hY
  obtain ⟨e, s', o', q', hr, ⟨s2, L⟩, ⟨he, h0, hv, o0, hq1⟩, hD⟩ := key
    (upd (upd (upd (upd (upd (upd (upd (fun i => [SV.ptr 0 0][i]?.getD SV.undef) 2 SV.nil) 5 (SV.row 1)) 3 (SV.row 1)) 6 (SV.ptr 0 0)) 7 (SV.t (T.int IntKind.i64 (n0 : Int)))) 8 (SV.t (T.int IntKind.i64 ((n0 : Int) + 1)))) 4 (SV.t (T.int IntKind.i64 ((n0 : Int) + 1))))
    (upd (upd (upd (upd (fun x => Ob.dead) 0 (srcB s)) 1 (Ob.row 26 [] true)) 0 Ob.dead) 0 (srcB s1)) 2
    (by simp)
  simp only [loopAt, loopsOf, Tryz.f50] at hr
  subst he
  replace hD : Drawn 8 7 L := hD
  replace hv : Vis (s' 3) o' q' L := hv
  replace o0 : o' 0 = srcB s2 := o0
  have hO := ownDones L (by have := hD.len; omega) (fun d hd => fit_L (hD.fit d hd))
  simp at hr
  rw [hr] at hY
  have g2 : 0 ≠ q' := by omega
  have g5 : q' ≠ 0 := by omega
  rcases hv with hv | ⟨r, hv, hr', r0, rq⟩
  · simp [hv, h0, o0, hO, g2, g5] at hY
    subst hY
    exact ⟨L, s2, rfl, hD⟩
  · have g1 : 0 ≠ r := fun h => r0 h.symm
    have g3 : r ≠ q' := by omega
    have g4 : q' ≠ r := by omega
    simp [hv, hr', r0, h0, o0, hO, g1, g2, g3, g4, g5] at hY
    subst hY
    exact ⟨L, s2, rfl, hD⟩
theorem donesOf (bs : Bytes) (h : bs.length ≤ 1048576) : ∃ L : List Dn, run E (.call 14 [.t (.list (bs.map byteT))]) = some (.res [.row 26 (L.map dnT)] []) ∧ Drawn 8 7 L := by
  obtain ⟨s, a1, a2⟩ := l00Source bs h
  obtain ⟨L, s', h3, h4⟩ := drawDones s 0 (by omega) a2
  refine ⟨L, ?_, h4⟩
  rw [run_call E 14 _ rfl Tryz.func14 rfl rfl rfl (by simp)]
  simp [a1, h3]
end Go.Md
/- EdgesOf: both sides. -/
set_option linter.unusedSimpArgs false
set_option linter.unusedVariables false
namespace Go.Md
open Go.Ev Go.Proofs Go.Pu
set_option maxRecDepth 100000
set_option maxHeartbeats 16000000
theorem specEdges_in (l : List Dn) (hn : l.length ≤ 30) (hf : ∀ d ∈ l, dnFit d) (i : Nat) (hi : i < l.length) (pre : List Nat) (hp : pre.length ≤ 2000) (r0 : Nat) : ∀ s o q, (s 0 = .t (.list (l.map dnT)) ∧ s 4 = .row r0 ∧ s 5 = .t (.int .i64 i) ∧ s 6 = .t (.int .i64 0) ∧ o r0 = .row 3 (pre.map intT) true ∧ r0 < q) →
    ∃ e s' o' q', run E (.code (.loop (loopAt Tryz.f15 1)) ⟨s, o, q, 48⟩) = some (.st e ⟨s', o', q', 48⟩) ∧ ∃ r : Nat, (e = .exit 2 ∧ s' 0 = .t (.list (l.map dnT)) ∧ s' 4 = .row r ∧ s' 5 = .t (.int .i64 i) ∧ o' r = .row 3 ((pre ++ edgesI l i l.length).map intT) true ∧ r < q') := by
  intro s o q hI
  have d12 := d15_12
  simp [regionOf, findR, pick, Tryz.f15] at d12
  have dd := fun st => run_region_draw E st 12 _ d12
  clear d12
  refine loop_for (c := loopAt Tryz.f15 1) (N := 48)
    (fun k s o q => ∃ r : Nat, s 0 = .t (.list (l.map dnT)) ∧ s 4 = .row r ∧ s 5 = .t (.int .i64 i) ∧ s 6 = .t (.int .i64 k) ∧ o r = .row 3 ((pre ++ edgesI l i k).map intT) true ∧ r < q)
    (fun e s' o' q' => ∃ r : Nat, (e = .exit 2 ∧ s' 0 = .t (.list (l.map dnT)) ∧ s' 4 = .row r ∧ s' 5 = .t (.int .i64 i) ∧ o' r = .row 3 ((pre ++ edgesI l i l.length).map intT) true ∧ r < q')) l.length ?_ ?_
    l.length 0 s o q (by omega) (by
      obtain ⟨h0, h4, h5, h6, ho, hq⟩ := hI
      exact ⟨r0, h0, h4, h5, h6, by simpa [edgesI] using ho, hq⟩)
  · rintro k s o q hk ⟨r, h0, h4, h5, h6, ho, hq⟩
    have hk' : (k : Int) < (l.length : Int) := by omega
    have hi' : (i : Int) < (l.length : Int) := by omega
    have hwk := wrap_succ (n := k) (by omega)
    have hxi : l[i]? = some l[i] := List.getElem?_eq_getElem hi
    have hxk : l[k]? = some l[k] := List.getElem?_eq_getElem hk
    have hc := specAhead l[i] l[k] (hf _ (List.getElem_mem hi)) (hf _ (List.getElem_mem hk))
    have hes := edgesI_succ l i k
    have hel := edgesI_len l i k
    rw [aheadAt_eq hi hk] at hes
    generalize aheadP l[i] l[k] = z at *
    generalize edgesI l i k = es at *
    have hr2 : ([0, 1] : List Nat) = List.range 2 := rfl
    have hq1 : r ≠ q := by omega
    have hq2 : q ≠ r := by omega
    have hcat : pre.length + es.length + 2 ≤ 140737488355328 := by omega
    have hcat2 : (pre.length + es.length + 2) * 8 ≤ 140737488355328 := by omega
    by_cases hik : i = k
    · subst hik
      simp at hes
      simp [loopAt, loopsOf, Tryz.f15, dd, h0, h4, h5, h6, ho, hi, hi', hwk, hes, hq]
    · have hik' : ¬ ((i : Int) = (k : Int)) := by omega
      have hbn : ((i : Int) != (k : Int)) = true := by simp; omega
      cases z with
      | false =>
        simp at hes
        simp [loopAt, loopsOf, Tryz.f15, dd, h0, h4, h5, h6, ho, hk', hi', hxi, hxk, hwk, hc, hik', hbn, hes, hq]
      | true =>
        simp [hik] at hes
        simp [loopAt, loopsOf, Tryz.f15, dd, h0, h4, h5, h6, ho, hk', hi', hxi, hxk, hwk, hc, hik', hbn, hes, hq, hr2, hq1, hq2, hcat, hcat2]
  · rintro s o q ⟨r, h0, h4, h5, h6, ho, hq⟩
    simp at ho
    simp [loopAt, loopsOf, Tryz.f15, h0, h4, h5, h6, ho, hq]
theorem specEdges_loop (l : List Dn) (hn : l.length ≤ 30) (hf : ∀ d ∈ l, dnFit d) (r0 : Nat) : ∀ s o q, (s 0 = .t (.list (l.map dnT)) ∧ s 4 = .row r0 ∧ s 5 = .t (.int .i64 0) ∧ o r0 = .row 3 [] true ∧ r0 < q) →
    ∃ e s' o' q', run E (.code (.loop (loopAt Tryz.f15 0)) ⟨s, o, q, 48⟩) = some (.st e ⟨s', o', q', 48⟩) ∧ ∃ r : Nat, (e = .exit 0 ∧ s' 4 = .row r ∧ o' r = .row 3 ((edgesP l l.length).map intT) true ∧ r < q') := by
  intro s o q hI
  refine loop_for (c := loopAt Tryz.f15 0) (N := 48)
    (fun i s o q => ∃ r : Nat, s 0 = .t (.list (l.map dnT)) ∧ s 4 = .row r ∧ s 5 = .t (.int .i64 i) ∧ o r = .row 3 ((edgesP l i).map intT) true ∧ r < q)
    (fun e s' o' q' => ∃ r : Nat, (e = .exit 0 ∧ s' 4 = .row r ∧ o' r = .row 3 ((edgesP l l.length).map intT) true ∧ r < q')) l.length ?_ ?_
    l.length 0 s o q (by omega) (by
      obtain ⟨h0, h4, h5, ho, hq⟩ := hI
      exact ⟨r0, h0, h4, h5, by simpa [edgesP] using ho, hq⟩)
  · rintro i s o q hi ⟨r, h0, h4, h5, ho, hq⟩
    have hi' : (i : Int) < (l.length : Int) := by omega
    have hwi := wrap_succ (n := i) (by omega)
    have hlen := edgesP_len l i
    have hlen2 : i * (2 * l.length) ≤ 2000 := by
      have := Nat.mul_le_mul (show i ≤ 30 by omega) (show 2 * l.length ≤ 60 by omega)
      omega
    obtain ⟨X, A, B, C, M, hx⟩ := sk1 (specEdges_in l hn hf i hi (edgesP l i) (by omega) r)
    simp only [loopAt, loopsOf, Tryz.f15] at hx
    rw [← edgesP_succ] at hx
    simp at hx
    simp [loopAt, loopsOf, Tryz.f15, h0, h4, h5, ho, hi', hwi, hq, hx]
  · rintro s o q ⟨r, h0, h4, h5, ho, hq⟩
    simp [loopAt, loopsOf, Tryz.f15, h0, h4, h5, ho, hq]
def edgesOut (l : List Dn) : List Nat × Int := if 4096 < l.length then ([], 2) else if donesOK l then (edgesP l l.length, 0) else ([], 1)
theorem dones_fit {l : List Dn} (h : donesOK l = true) (hs : ∀ d ∈ l, d.Sm) : l.length ≤ 30 ∧ ∀ d ∈ l, dnFit d := by
  unfold donesOK at h
  simp only [Bool.and_eq_true, decide_eq_true_eq] at h
  refine ⟨h.2, fun d hd => done_fit ?_ (hs d hd)⟩
  have h1 := steps_all.1 h.1
  obtain ⟨i, hi, rfl⟩ := List.getElem_of_mem hd
  have h2 := h1 i hi
  cases i with
  | zero =>
    rw [seq_zero hi] at h2
    unfold dnFine at h2
    simp only [Bool.and_eq_true] at h2
    exact h2.1
  | succ k =>
    rw [seq_succ hi] at h2
    unfold dnFine at h2
    simp only [Bool.and_eq_true] at h2
    exact h2.1.1
theorem specEdges (l : List Dn) (hl : l.length < 4294967296) (h : ∀ d ∈ l, d.Sm) : run E (.call 15 [.t (.list (l.map dnT))]) = some (.res [.row 3 ((edgesOut l).1.map intT), xI (edgesOut l).2] []) := by
  rw [run_call E 15 _ rfl Tryz.func15 rfl rfl rfl (by simp)]
  unfold edgesOut
  have h1 := specDones l hl h
  by_cases hlen : 4096 < l.length
  · have hlen' : (4096 : Int) < (l.length : Int) := by omega
    simp [hlen, hlen']
  · have hlen' : ¬ (4096 : Int) < (l.length : Int) := by omega
    cases hd : donesOK l with
    | false =>
      rw [hd] at h1
      simp [hlen, hlen', h1]
    | true =>
      rw [hd] at h1
      obtain ⟨hn, hf⟩ := dones_fit hd h
      obtain ⟨X, A, B, C, M, hx⟩ := sk1 (specEdges_loop l hn hf 0)
      simp only [loopAt, loopsOf, Tryz.f15] at hx
      simp at hx
      simp [hlen, hlen', h1, hx]
abbrev dnB (d : Dn) : Ob := .box 26 [.t (.int .i64 d.snap), .t (.int .i64 d.at_), .t (.list (d.reads.map rdT)), .t (.list (d.changes.map chgT)), .t (.bool d.inn), .t (.bool d.out)]
def edgesX (l : List Dn) : X := if 4096 < l.length then .nil else if donesOK l then .row 3 ((edgesP l l.length).map intT) else .nil
end Go.Md
/- FnOrders: the places of an order; the pairs that are bound to one. -/
set_option linter.unusedSimpArgs false
set_option linter.unusedVariables false
namespace Go.Md
open Go.Ev Go.Proofs Go.Pu
set_option maxRecDepth 100000
set_option maxHeartbeats 4000000
theorem sameInts_self (xs : List Nat) (hl : xs.length < 4294967296) : run E (.call 18 [.t (.list (xs.map intT)), .t (.list (xs.map intT))]) = some (.res [xB true] []) := by
  rw [run_call E 18 _ rfl Tryz.func18 rfl rfl rfl (by simp)]
  have d6 := d18_6
  simp [regionOf, findR, pick, Tryz.f18] at d6
  have dd := fun st => run_region_draw E st 6 _ d6
  clear d6
  have lp := sk (fun s o q hI => loop_for (c := loopAt Tryz.f18 0) (N := 26)
    (fun i s o q => s 0 = .t (.list (xs.map intT)) ∧ s 1 = .t (.list (xs.map intT)) ∧ s 5 = .t (.int .i64 i))
    (fun e s' o' q' => e = .exit 0) xs.length
    (by
      rintro i s o q hi ⟨h0, h1, h5⟩
      have hi' : (i : Int) < (xs.length : Int) := by omega
      have hw := wrap_succ (n := i) (by omega)
      have hxi : xs[i]? = some xs[i] := List.getElem?_eq_getElem hi
      simp [loopAt, loopsOf, Tryz.f18, dd, h0, h1, h5, hi, hi', hxi, hw])
    (by
      rintro s o q ⟨h0, h1, h5⟩
      simp [loopAt, loopsOf, Tryz.f18, h0, h1, h5])
    xs.length 0 s o q (by omega) hI)
  obtain ⟨X, A, B, C, hx⟩ := lp
  simp only [loopAt, loopsOf, Tryz.f18] at hx
  simp at hx
  simp [hx]
theorem nodup_inj {w : List Nat} (h : w.Nodup) {a b : Nat} (ha : a < w.length) (hb : b < w.length) (e : w[a] = w[b]) : a = b := by
  rcases Nat.lt_trichotomy a b with h1 | h1 | h1
  · exact absurd e (List.pairwise_iff_getElem.1 h a b ha hb h1)
  · exact h1
  · exact absurd e.symm (List.pairwise_iff_getElem.1 h b a hb ha h1)
theorem contains_snoc (l : List Nat) (x j : Nat) : (l ++ [x]).contains j = (l.contains j || j == x) := by
  rw [Bool.eq_iff_iff]
  simp only [List.contains_iff_mem, List.mem_append, List.mem_singleton, Bool.or_eq_true, beq_iff_eq]
/-- What the first loop has laid down. -/
structure Placed (w : List Nat) (n i : Nat) (P : List Nat) (S : List Bool) : Prop where
  pl : P.length = n
  sl : S.length = n
  seen : ∀ j, j < n → S[j]? = some ((w.take i).contains j)
  at_ : ∀ a (ha : a < w.length), a < i → P[w[a]]? = some a
theorem Placed.next {w : List Nat} {n i : Nat} {P : List Nat} {S : List Bool} (h : Placed w n i P S) (hp : w.Perm (List.range n)) (hi : i < w.length) : Placed w n (i + 1) (P.set w[i] i) (S.set w[i] true) ∧ S[w[i]]? = some false ∧ w[i] < n := by
  have hn : w.Nodup := hp.nodup_iff.2 List.nodup_range
  have hlt : w[i] < n := by simpa using hp.mem_iff.1 (List.getElem_mem hi)
  have hns : (w.take i).contains w[i] = false := by
    rw [Bool.eq_false_iff]
    intro hc
    have hm : w[i] ∈ w.take i := by simpa using hc
    obtain ⟨a, ha, hE⟩ := List.getElem_of_mem hm
    rw [List.getElem_take] at hE
    rw [List.length_take] at ha
    have := nodup_inj hn _ _ hE
    omega
  refine ⟨⟨by simp [h.pl], by simp [h.sl], fun j hj => ?_, fun a ha hai => ?_⟩, by rw [h.seen _ hlt, hns], hlt⟩
  · have ht : w.take (i + 1) = w.take i ++ [w[i]] := by rw [List.take_add_one, List.getElem?_eq_getElem hi]; rfl
    rw [List.getElem?_set, ht, contains_snoc]
    by_cases hw : w[i] = j
    · subst hw
      rw [if_pos rfl, if_pos (by rw [h.sl]; exact hlt), beq_self_eq_true, Bool.or_true]
    · rw [if_neg hw, h.seen j hj]
      have : (j == w[i]) = false := by rw [beq_eq_false_iff_ne]; exact fun e => hw e.symm
      rw [this, Bool.or_false]
  · rw [List.getElem?_set]
    by_cases hw : w[i] = w[a]
    · have := nodup_inj hn hi ha hw
      subst this
      rw [if_pos rfl, if_pos (by rw [h.pl]; exact hlt)]
    · rw [if_neg hw]
      exact h.at_ a ha (by
        rcases Nat.lt_or_ge a i with h1 | h1
        · exact h1
        · have : a = i := by omega
          subst this
          exact absurd rfl hw)
theorem orders_place (L : List Dn) (w ed : List Nat) (hp : w.Perm (List.range L.length)) (hl : L.length ≤ 100) : ∀ s o q, (s 3 = .row 0 ∧ s 4 = .row 1 ∧ s 6 = .row 2 ∧ s 10 = .row 4 ∧ s 11 = .row 5 ∧ s 12 = .t (.int .i64 0) ∧ o 0 = .row 26 (L.map dnT) true ∧ o 1 = .row 3 (ed.map intT) true ∧ o 2 = .row 3 (w.map intT) true ∧ o 4 = .row 3 ((List.replicate L.length 0).map intT) true ∧ o 5 = .row 4 ((List.replicate L.length false).map boT) true) →
    ∃ e s' o' q', run E (.code (.loop (loopAt Tryz.f4 0)) ⟨s, o, q, 127⟩) = some (.st e ⟨s', o', q', 127⟩) ∧ ∃ a : List Nat × List Bool, Placed w L.length w.length a.1 a.2 ∧ (e = .exit 0 ∧ s' 4 = .row 1 ∧ s' 10 = .row 4 ∧ o' 1 = .row 3 (ed.map intT) true ∧ o' 4 = .row 3 (a.1.map intT) true ∧ q' = q) := by
  intro s o q hI
  have hwl : w.length = L.length := by simpa using hp.length_eq
  refine loop_for (c := loopAt Tryz.f4 0) (N := 127)
    (fun i s o q' => ∃ (P : List Nat) (S : List Bool), s 3 = .row 0 ∧ s 4 = .row 1 ∧ s 6 = .row 2 ∧ s 10 = .row 4 ∧ s 11 = .row 5 ∧ s 12 = .t (.int .i64 i) ∧ o 0 = .row 26 (L.map dnT) true ∧ o 1 = .row 3 (ed.map intT) true ∧ o 2 = .row 3 (w.map intT) true ∧ o 4 = .row 3 (P.map intT) true ∧ o 5 = .row 4 (S.map boT) true ∧ q' = q ∧ Placed w L.length i P S)
    (fun e s' o' q' => ∃ a : List Nat × List Bool, Placed w L.length w.length a.1 a.2 ∧ (e = .exit 0 ∧ s' 4 = .row 1 ∧ s' 10 = .row 4 ∧ o' 1 = .row 3 (ed.map intT) true ∧ o' 4 = .row 3 (a.1.map intT) true ∧ q' = q)) w.length ?_ ?_
    w.length 0 s o q (by omega) (by
      obtain ⟨h3, h4, h6, h10, h11, h12, o0, o1, o2, o4, o5⟩ := hI
      exact ⟨_, _, h3, h4, h6, h10, h11, h12, o0, o1, o2, o4, o5, rfl, ⟨by simp, by simp, fun j hj => by simp [hj], fun a _ h => by omega⟩⟩)
  · rintro i s o q' hi ⟨P, S, h3, h4, h6, h10, h11, h12, o0, o1, o2, o4, o5, hq, hP⟩
    have hi' : (i : Int) < (w.length : Int) := by omega
    have hw := wrap_succ (n := i) (by omega)
    have hxi : w[i]? = some w[i] := List.getElem?_eq_getElem hi
    obtain ⟨hN, hS, hlt⟩ := hP.next hp hi
    have hPl := hP.pl
    have hSl := hP.sl
    have hlt' : (w[i] : Int) < (L.length : Int) := by omega
    have hge : ¬ (L.length : Int) ≤ (w[i] : Int) := by omega
    have hpos : ¬ ((w[i] : Int) < 0) := by omega
    have hPx : P[w[i]]? = some (P[w[i]]'(by omega)) := List.getElem?_eq_getElem (by omega)
    have hwp : w[i] < P.length := by omega
    have hws : w[i] < S.length := by omega
    have hSv : S[w[i]] = false := by
      rw [List.getElem?_eq_getElem hws] at hS
      simpa using hS
    simp [loopAt, loopsOf, Tryz.f4, h3, h4, h6, h10, h11, h12, o0, o1, o2, o4, o5, hi, hi', hxi, hw, hS, hSv, hlt', hge, hpos, hwp, hws]
    exact ⟨P.set w[i] i, by rw [List.map_set], S.set w[i] true, by rw [List.map_set], hq, hN⟩
  · rintro s o q' ⟨P, S, h3, h4, h6, h10, h11, h12, o0, o1, o2, o4, o5, hq, hP⟩
    simp [loopAt, loopsOf, Tryz.f4, h3, h4, h6, h10, h11, h12, o0, o1, o2, o4, o5]
    exact ⟨P, ⟨S, hP⟩, rfl, hq⟩
theorem orders_pairs (n c : Nat) (ed P : List Nat) (he : ed.length = 2 * c) (hc : c ≤ 1000000) (hg : ∀ j (h1 : 2 * j < ed.length) (h2 : 2 * j + 1 < ed.length), ∃ a b : Nat, a < b ∧ P[ed[2 * j]]? = some a ∧ P[ed[2 * j + 1]]? = some b) : ∀ s o q, (s 4 = .row 1 ∧ s 10 = .row 4 ∧ s 13 = .t (.int .i64 0) ∧ o 1 = .row 3 (ed.map intT) true ∧ o 4 = .row 3 (P.map intT) true) →
    ∃ e s' o' q', run E (.code (.loop (loopAt Tryz.f4 1)) ⟨s, o, q, 127⟩) = some (.st e ⟨s', o', q', 127⟩) ∧ (e = .exit 2) := by
  intro s o q hI
  have d23 := d4_23
  simp [regionOf, findR, pick, Tryz.f4] at d23
  have dd := fun st => run_region_draw E st 23 _ d23
  clear d23
  refine loop_for (c := loopAt Tryz.f4 1) (N := 127)
    (fun i s o q => s 4 = .row 1 ∧ s 10 = .row 4 ∧ s 13 = .t (.int .i64 (2 * i : Nat)) ∧ o 1 = .row 3 (ed.map intT) true ∧ o 4 = .row 3 (P.map intT) true)
    (fun e s' o' q' => e = .exit 2) c ?_ ?_
    c 0 s o q (by omega) hI
  · rintro i s o q hi ⟨h4, h10, h13, o1, o4⟩
    have h1 : 2 * i < ed.length := by omega
    have h2 : 2 * i + 1 < ed.length := by omega
    obtain ⟨a, b, hab, ha, hb⟩ := hg i h1 h2
    have hlt : (((2 * i : Nat) : Int) + 1) < (ed.length : Int) := by omega
    have hw1 := wrap_succ (n := 2 * i) (by omega)
    have hw2 : IntKind.i64.wrap (((2 * i : Nat) : Int) + 2) = ((2 * (i + 1) : Nat) : Int) := by rw [wrap_of (by omega) (by omega)]; omega
    have hx1 : ed[2 * i]? = some ed[2 * i] := List.getElem?_eq_getElem h1
    have hx2 : ed[2 * i + 1]? = some ed[2 * i + 1] := List.getElem?_eq_getElem h2
    have hlt2 : ((2 * i + 1 : Nat) : Int) < (ed.length : Int) := by omega
    have hab' : ¬ (b : Int) ≤ (a : Int) := by omega
    have hab2 : ¬ b ≤ a := by omega
    generalize hM : 2 * i = M at *
    generalize hM2 : 2 * (i + 1) = M2 at *
    have hnn : (0 : Int) ≤ (M : Int) + 1 := by omega
    simp at hw1 hw2 hlt hlt2
    simp [loopAt, loopsOf, Tryz.f4, dd, h4, h10, h13, o1, o4, h1, h2, hx1, hx2, hlt, hlt2, hw1, hw2, ha, hb, hab', hab2, hnn]
  · rintro s o q ⟨h4, h10, h13, o1, o4⟩
    have hge : ¬ (((2 * c : Nat) : Int) + 1) < (ed.length : Int) := by omega
    have hw1 := wrap_succ (n := 2 * c) (by omega)
    have hge2 : ¬ (2 * c + 1 < ed.length) := by omega
    have hge3 : ¬ (((2 * c + 1 : Nat) : Int) < (ed.length : Int)) := by omega
    generalize hM : 2 * c = M at *
    have hge4 : ((M : Int) + 1 < (ed.length : Int)) = False := eq_false hge
    clear hge hge3
    simp at hw1
    simp [loopAt, loopsOf, Tryz.f4, h4, h10, h13, o1, o4, hw1, hge4, hge2]
end Go.Md
/- The law FnOrders over plain data. -/
set_option linter.unusedSimpArgs false
set_option linter.unusedVariables false
namespace Go.Md
open Go.Ev Go.Proofs Go.Pu
set_option maxRecDepth 100000
set_option maxHeartbeats 8000000
theorem flats_nat : ∀ l : List Nat, T.flats (l.map intT) = true
  | [] => rfl
  | a :: r => by
    have := flats_nat r
    simp [T.flats, T.flat, this]
/-- The places that were laid down put each pair in its order. -/
def PairsAt (ed : List Nat) (ob : Ob) : Prop := ∃ P : List Nat, ob = .row 3 (P.map intT) true ∧ ∀ j (h1 : 2 * j < ed.length) (h2 : 2 * j + 1 < ed.length), ∃ a b : Nat, a < b ∧ P[ed[2 * j]]? = some a ∧ P[ed[2 * j + 1]]? = some b
theorem orders_pairs2 (c : Nat) (ed : List Nat) (he : ed.length = 2 * c) (hc : c ≤ 1000000) : ∀ s o q, (s 4 = .row 1 ∧ s 10 = .row 4 ∧ s 13 = .t (.int .i64 0) ∧ o 1 = .row 3 (ed.map intT) true ∧ PairsAt ed (o 4)) →
    ∃ e s' o' q', run E (.code (.loop (loopAt Tryz.f4 1)) ⟨s, o, q, 127⟩) = some (.st e ⟨s', o', q', 127⟩) ∧ (e = .exit 2) := by
  intro s o q ⟨h4, h10, h13, o1, P, hP, hg⟩
  exact orders_pairs c c ed P he hc hg s o q ⟨h4, h10, h13, o1, hP⟩
theorem lawOrders (c0 : Bytes) : run E (.call 4 [.t (.list (c0.map byteT))]) = some (.res [xB true] []) := by
  rw [run_call E 4 _ rfl Tryz.func4 rfl rfl rfl (by simp)]
  by_cases n0 : (1048576 : Int) < (c0.length : Int)
  · simp [n0]
  · obtain ⟨L, hL, hD⟩ := donesOf c0 (by omega)
    have hsm : ∀ d ∈ L, d.Sm := fun d hd => (hD.fit d hd).sm
    have hlen := hD.len
    have e1 := specEdges L (by omega) hsm
    have hb : ¬ 4096 < L.length := by omega
    rw [show edgesOut L = (if donesOK L then (edgesP L L.length, 0) else ([], 1)) from by unfold edgesOut; rw [if_neg hb]] at e1
    cases hk : donesOK L with
    | false =>
      rw [hk] at e1
      have f0 : T.flats [] = true := rfl
      simp at e1
      simp [n0, hL, e1, f0]
    | true =>
      rw [hk] at e1
      obtain ⟨w, hw, hp, hord⟩ := ser_there hk hD.told
      have hr := rises_of hk
      have hso : serOut L = (w, 0) := by unfold serOut; rw [if_neg hb, hr, hw]; rfl
      have hsx : serXs L = .row 3 (w.map intT) := by unfold serXs; rw [if_neg hb, hr, hw]; rfl
      have s1 := implSerial L (by omega) hsm
      have s2 := specSerial L (by omega) hsm
      rw [hsx, hso] at s1
      rw [hso] at s2
      have hwl : w.length = L.length := by simpa using hp.length_eq
      have hsi := sameInts_self w (by omega)
      obtain ⟨hev, hpr⟩ := edges_pairs L
      have hel := edgesP_len L L.length
      obtain ⟨ed, hed⟩ : ∃ ed, ed = edgesP L L.length := ⟨_, rfl⟩
      rw [← hed] at hev hpr hel e1
      obtain ⟨c, hc⟩ : ∃ c, ed.length = 2 * c := ⟨ed.length / 2, by omega⟩
      have hcb : c ≤ 1000000 := by
        have : L.length * (2 * L.length) ≤ 7 * (2 * 7) := Nat.mul_le_mul hlen (Nat.mul_le_mul (Nat.le_refl _) hlen)
        omega
      obtain ⟨m0, hm0⟩ : ∃ m0 : List Nat × List Bool, Placed w L.length w.length m0.1 m0.2 := by
        obtain ⟨e, s', o', q', _, m, hm, _⟩ := orders_place L w ed hp (by omega) (fun i => if i = 3 then .row 0 else if i = 4 then .row 1 else if i = 6 then .row 2 else if i = 10 then .row 4 else if i = 11 then .row 5 else .t (.int .i64 0)) (fun i => if i = 0 then .row 26 (L.map dnT) true else if i = 1 then .row 3 (ed.map intT) true else if i = 2 then .row 3 (w.map intT) true else if i = 4 then .row 3 ((List.replicate L.length 0).map intT) true else .row 4 ((List.replicate L.length false).map boT) true) 6 (by simp)
        exact ⟨m, hm⟩
      obtain ⟨X1, A1, B1, C1, M1, hg1, hx1⟩ := skG (fun a : List Nat × List Bool => Placed w L.length w.length a.1 a.2) m0 hm0 (orders_place L w ed hp (by omega))
      have hg : ∀ P : List Nat × List Bool, Placed w L.length w.length P.1 P.2 → ∀ j (h1 : 2 * j < ed.length) (h2 : 2 * j + 1 < ed.length), ∃ a b : Nat, a < b ∧ P.1[ed[2 * j]]? = some a ∧ P.1[ed[2 * j + 1]]? = some b := by
        intro P hP j h1 h2
        have hbd := hpr j _ _ (List.getElem?_eq_getElem h1) (List.getElem?_eq_getElem h2)
        have ha : ed[2 * j] ∈ w := hp.mem_iff.2 (by simpa using hbd.1)
        have hb : ed[2 * j + 1] ∈ w := hp.mem_iff.2 (by simpa using hbd.2.1)
        obtain ⟨a, hal, hae⟩ := List.getElem_of_mem ha
        obtain ⟨b, hbl, hbe⟩ := List.getElem_of_mem hb
        refine ⟨a, b, hord a b hal hbl (by rw [hae, hbe]; exact hbd), ?_, ?_⟩
        · rw [← hae]; exact hP.at_ a hal hal
        · rw [← hbe]; exact hP.at_ b hbl hbl
      have hPA : ∀ s o q, PairsAt ed (.row 3 ((M1 s o q).1.map intT) true) := fun s o q => ⟨_, rfl, hg _ (hg1 s o q)⟩
      obtain ⟨X2, A2, B2, C2, hx2⟩ := sk (orders_pairs2 c ed hc hcb)
      clear hg hg1 hpr hord
      have fe := flats_nat ed
      have fw := flats_nat w
      have l1 : L.length ≤ 140737488355328 := by omega
      have l2 : L.length * 8 ≤ 140737488355328 := by omega
      simp only [loopAt, loopsOf, Tryz.f4] at hx1 hx2
      simp at hx1 hx2 e1 s1 s2 hsi hPA
      simp [n0, hL, e1, s1, s2, hsi, fe, fw, hwl, hx1, hPA, hx2, l1, l2]
end Go.Md
