/- spec's CollOK. -/
import Derived.Test.YtjbnpbcihofmgaaGreatDoorWalkF
import Derived.Test.YtjbnpbcihofmgaaGreatDoorLawQueryOK
set_option linter.unusedSimpArgs false
set_option linter.unusedVariables false
namespace Go.Zd
open Go.Ev Go.Proofs Go.Pu
set_option maxRecDepth 100000
set_option maxHeartbeats 16000000
theorem l01In1 (a b c : Int) : run E (.call 71 [xI a, xI b, xI c]) = some (.res [xB (in1 b c a)] []) := l01In a b c
theorem specColl_inner (c : Col) (h : c.Sm) (i : Nat) (hi : i < c.defs.length) (z : Bool) (hz : z = (c.defs.take i).any (fun d => d.name == c.defs[i].name)) : ∀ s o q, (s 1 = .ptr 0 0 ∧ s 3 = .t (.int .i64 i) ∧ s 4 = .t (.int .i64 0) ∧ o 0 = colBox c ∧ 0 < q) →
    ∃ e s' o' q', run E (.code (.loop (loopAt Tryz.f28 1)) ⟨s, o, q, 138⟩) = some (.st e ⟨s', o', q', 138⟩) ∧ e = (if z then .ret else .exit 2) ∧ s' 1 = .ptr 0 0 ∧ s' 3 = .t (.int .i64 i) ∧ o' 0 = colBox c ∧ 0 < q' ∧ (z = true → s' 2 = .t (.bool false)) := by
  intro s o q hI
  have d11 := d28_11
  simp [regionOf, findR, pick, Tryz.f28] at d11
  have dd := fun st => run_region_draw E st 11 _ d11
  clear d11
  refine loop_for (c := loopAt Tryz.f28 1) (N := 138)
    (fun j s o q => s 1 = .ptr 0 0 ∧ s 3 = .t (.int .i64 i) ∧ s 4 = .t (.int .i64 j) ∧ o 0 = colBox c ∧ 0 < q ∧ z = ((c.defs.take i).drop j).any (fun d => d.name == c.defs[i].name))
    (fun e s' o' q' => e = (if z then .ret else .exit 2) ∧ s' 1 = .ptr 0 0 ∧ s' 3 = .t (.int .i64 i) ∧ o' 0 = colBox c ∧ 0 < q' ∧ (z = true → s' 2 = .t (.bool false))) i ?_ ?_
    i 0 s o q (by omega) ⟨hI.1, hI.2.1, hI.2.2.1, hI.2.2.2.1, hI.2.2.2.2, by simpa using hz⟩
  · rintro j s o q hj ⟨h1, h3, h4, ho, hq, hp⟩
    have hjd : j < c.defs.length := by omega
    have hxi : c.defs[i]? = some c.defs[i] := List.getElem?_eq_getElem hi
    have hxj : c.defs[j]? = some c.defs[j] := List.getElem?_eq_getElem hjd
    have hi' : (i : Int) < (c.defs.length : Int) := by omega
    have hj' : (j : Int) < (c.defs.length : Int) := by omega
    have hji : (j : Int) < (i : Int) := by omega
    have hw := wrap_succ (n := j) (by have := h.defs.1; omega)
    rw [List.drop_eq_getElem_cons (by simp; omega), List.any_cons, List.getElem_take] at hp
    by_cases he : c.defs[j].name = c.defs[i].name
    · simp [he] at hp
      simp [loopAt, loopsOf, Tryz.f28, dd, h1, h3, h4, ho, hxi, hxj, hi', hj', hji, hw, he, hp, hq, -List.any_eq_true, -List.any_eq_false]
    · rw [show (c.defs[j].name == c.defs[i].name) = false from by simp [he], Bool.false_or] at hp
      simp [loopAt, loopsOf, Tryz.f28, dd, h1, h3, h4, ho, hxi, hxj, hi', hj', hji, hw, he, hq, -List.any_eq_true, -List.any_eq_false]
      exact hp
  · rintro s o q ⟨h1, h3, h4, ho, hq, hp⟩
    simp at hp
    simp [loopAt, loopsOf, Tryz.f28, h1, h3, h4, ho, hp, hq]
theorem specColl_defs (c : Col) (h : c.Sm) (b : Bool) (hb : b = defsGo [] c.defs) : ∀ s o q, (s 1 = .ptr 0 0 ∧ s 3 = .t (.int .i64 0) ∧ o 0 = colBox c ∧ 0 < q) →
    ∃ e s' o' q', run E (.code (.loop (loopAt Tryz.f28 0)) ⟨s, o, q, 138⟩) = some (.st e ⟨s', o', q', 138⟩) ∧ e = (if b then .exit 0 else .ret) ∧ s' 1 = .ptr 0 0 ∧ o' 0 = colBox c ∧ 0 < q' ∧ (b = false → s' 2 = .t (.bool false)) := by
  intro s o q hI
  refine loop_for (c := loopAt Tryz.f28 0) (N := 138)
    (fun i s o q => s 1 = .ptr 0 0 ∧ s 3 = .t (.int .i64 i) ∧ o 0 = colBox c ∧ 0 < q ∧ b = defsGo (c.defs.take i) (c.defs.drop i))
    (fun e s' o' q' => e = (if b then .exit 0 else .ret) ∧ s' 1 = .ptr 0 0 ∧ o' 0 = colBox c ∧ 0 < q' ∧ (b = false → s' 2 = .t (.bool false))) c.defs.length ?_ ?_
    c.defs.length 0 s o q (by omega) ⟨hI.1, hI.2.1, hI.2.2.1, hI.2.2.2, by simpa using hb⟩
  · rintro i s o q hi ⟨h1, h3, ho, hq, hp⟩
    have hxi : c.defs[i]? = some c.defs[i] := List.getElem?_eq_getElem hi
    have hi' : (i : Int) < (c.defs.length : Int) := by omega
    have hw := wrap_succ (n := i) (by have := h.defs.1; omega)
    have hd := specDefOK c.defs[i] (h.defs.2 _ (List.getElem_mem hi))
    have htk : c.defs.take (i + 1) = c.defs.take i ++ [c.defs[i]] := by rw [List.take_add_one, hxi]; rfl
    obtain ⟨z, hz⟩ : ∃ z, z = (c.defs.take i).any (fun d => d.name == c.defs[i].name) := ⟨_, rfl⟩
    obtain ⟨X, A, B, C, hx⟩ := sk (specColl_inner c h i hi z hz)
    simp only [loopAt, loopsOf, Tryz.f28] at hx
    rw [List.drop_eq_getElem_cons hi, defsGo, ← htk, ← hz] at hp
    clear hz
    cases hO : defOK c.defs[i] with
    | false =>
      simp [hO] at hp hd
      simp [loopAt, loopsOf, Tryz.f28, h1, h3, ho, hq, hi', hxi, hw, hd, hp]
    | true =>
      cases z with
      | true =>
        simp [hO] at hp hd hx
        simp [loopAt, loopsOf, Tryz.f28, h1, h3, ho, hq, hi', hxi, hw, hd, hp, hx]
      | false =>
        simp [hO] at hp hd hx
        simp [loopAt, loopsOf, Tryz.f28, h1, h3, ho, hq, hi', hxi, hw, hd, hx]
        exact hp
  · rintro s o q ⟨h1, h3, ho, hq, hp⟩
    simp [defsGo] at hp
    simp [loopAt, loopsOf, Tryz.f28, h1, h3, ho, hp, hq]
theorem specColl_vers (c : Col) (h : c.Sm) (m r : Nat) (x : Chn) (hx : x.Sm) (b : Bool) (hb : b = versGo (fun g v => verDoc x.id g v) none x.vs) : ∀ s o q, (s 1 = .ptr 0 0 ∧ s 5 = .t (.int .i64 m) ∧ s 6 = .ptr r 0 ∧ s 7 = .t (.int .i64 0) ∧ o 0 = colBox c ∧ o r = .box 136 [.t (.int .i64 x.id), .t (.list (x.vs.map verT))] ∧ 0 < r ∧ r < q) →
    ∃ e s' o' q', run E (.code (.loop (loopAt Tryz.f28 3)) ⟨s, o, q, 138⟩) = some (.st e ⟨s', o', q', 138⟩) ∧ e = (if b then .exit 6 else .ret) ∧ s' 1 = .ptr 0 0 ∧ s' 5 = .t (.int .i64 m) ∧ o' 0 = colBox c ∧ 0 < q' ∧ (b = false → s' 2 = .t (.bool false)) := by
  intro s o q hI
  have d23 := d28_23
  simp [regionOf, findR, pick, Tryz.f28] at d23
  have dd := fun st => run_region_draw E st 23 _ d23
  clear d23
  refine loop_for (c := loopAt Tryz.f28 3) (N := 138)
    (fun i s o q => s 1 = .ptr 0 0 ∧ s 5 = .t (.int .i64 m) ∧ s 6 = .ptr r 0 ∧ s 7 = .t (.int .i64 i) ∧ o 0 = colBox c ∧ o r = .box 136 [.t (.int .i64 x.id), .t (.list (x.vs.map verT))] ∧ 0 < r ∧ r < q ∧ b = versGo (fun g v => verDoc x.id g v) (match i with | 0 => none | j + 1 => (x.vs[j]?).map (·.at_)) (x.vs.drop i))
    (fun e s' o' q' => e = (if b then .exit 6 else .ret) ∧ s' 1 = .ptr 0 0 ∧ s' 5 = .t (.int .i64 m) ∧ o' 0 = colBox c ∧ 0 < q' ∧ (b = false → s' 2 = .t (.bool false))) x.vs.length ?_ ?_
    x.vs.length 0 s o q (by omega) ⟨hI.1, hI.2.1, hI.2.2.1, hI.2.2.2.1, hI.2.2.2.2.1, hI.2.2.2.2.2.1, hI.2.2.2.2.2.2.1, hI.2.2.2.2.2.2.2, by simpa using hb⟩
  · rintro i s o q hi ⟨h1, h5, h6, h7, ho, hr, hr0, hrq, hp⟩
    have hq0 : q ≠ 0 := by omega
    have h0q : 0 ≠ q := by omega
    have hqr : q ≠ r := by omega
    have hrq' : r ≠ q := by omega
    have hrq1 : r < q + 1 := by omega
    have hxi : x.vs[i]? = some x.vs[i] := List.getElem?_eq_getElem hi
    have hi' : (i : Int) < (x.vs.length : Int) := by omega
    have hw := wrap_succ (n := i) (by have := hx.1; omega)
    have ht := l01In1 x.vs[i].at_ 1 10000
    have hdoc := specDocOK x.id x.vs[i].gone x.vs[i].v (hx.2 _ (List.getElem_mem hi))
    rw [List.drop_eq_getElem_cons hi] at hp
    cases i with
    | zero =>
      simp only [versGo] at hp
      cases hT : in1 1 10000 x.vs[0].at_ <;> cases hD : verDoc x.id x.vs[0].gone x.vs[0].v <;> simp [hT, hD] at hp ht hdoc <;> simp [loopAt, loopsOf, Tryz.f28, dd, h1, h5, h6, h7, ho, hr, hq0, h0q, hqr, hrq', hrq1, hr0, hi, hi', hw, ht, hdoc, hp, hxi]
    | succ j =>
      have hj : j < x.vs.length := by omega
      have hxj : x.vs[j]? = some x.vs[j] := List.getElem?_eq_getElem hj
      have hpos : (0 : Int) < (j : Int) + 1 := by omega
      have hnn : (0 : Int) ≤ (j : Int) + 1 := by omega
      have hwj2 := wrap_nat (n := j) (by have := hx.1; omega)
      simp only [hxj, Option.map_some, versGo] at hp
      simp at h7 hi' hw
      by_cases hge : x.vs[j + 1].at_ ≤ x.vs[j].at_ <;> cases hT : in1 1 10000 x.vs[j + 1].at_ <;> cases hD : verDoc x.id x.vs[j + 1].gone x.vs[j + 1].v <;> simp [hT, hD, hge] at hp ht hdoc <;> simp [loopAt, loopsOf, Tryz.f28, dd, h1, h5, h6, h7, ho, hr, hq0, h0q, hqr, hrq', hrq1, hr0, hi, hi', hw, ht, hdoc, hp, hxi, hxj, hj, hpos, hnn, hwj2, hge]
  · rintro s o q ⟨h1, h5, h6, h7, ho, hr, hr0, hrq, hp⟩
    have hq : 0 < q := by omega
    simp [versGo] at hp
    simp [loopAt, loopsOf, Tryz.f28, h1, h5, h6, h7, ho, hr, hp, hq]
end Go.Zd
/- The laws' own functions over lists of versions, chains and definitions. -/
set_option linter.unusedSimpArgs false
set_option linter.unusedVariables false
namespace Go.Zd
open Go.Ev Go.Proofs Go.Pu
set_option maxRecDepth 100000
set_option maxHeartbeats 16000000
theorem sz_208 (xs : List Ver) (f : Ver → Int → Int) (hl : xs.length < 9223372036854775807) (hf : ∀ x ∈ xs, ∀ l, 0 ≤ l → l ≤ 1048576 → run E (.call 250 [.t (verT x), xI l]) = some (.res [xI (f x l)] [])) (hle : ∀ x ∈ xs, ∀ k, 0 ≤ k → f x k ≤ k) (l : Int) (h0 : 0 ≤ l) (hm : l ≤ 1048576) :
    run E (.call 208 [.t (.list (xs.map verT)), xI l]) = some (.res [xI (lstSz f xs l)] []) := by
  rw [run_call E 208 _ rfl Tryz.func208 rfl rfl rfl (by simp)]
  have hw : IntKind.i64.wrap (l - (xs.length : Int)) = l - xs.length := wrap_of (by omega) (by omega)
  unfold lstSz szB
  by_cases hb : l - (xs.length : Int) < 0
  · simp [hw, hb]
  · have hb0 : ¬ l < (xs.length : Int) := by omega
    have lp := fun (r : Int) (hr : r = goSz f xs (l - xs.length)) => sk (fun s o q hI => loop_for (c := loopAt Tryz.f208 0) (N := 27)
      (fun i s o q => ∃ k : Int, s 0 = .t (.list (xs.map verT)) ∧ s 1 = .t (.int .i64 k) ∧ s 5 = .t (.int .i64 i) ∧ 0 ≤ k ∧ k ≤ 1048576 ∧ r = goSz f (xs.drop i) k)
      (fun e s' o' q' => e = (if r < 0 then .ret else .exit 0) ∧ (r < 0 → s' 4 = .t (.int .i64 r)) ∧ (0 ≤ r → s' 1 = .t (.int .i64 r))) xs.length
      (by
        rintro i s o q hi ⟨k, g0, g1, g5, hk0, hkm, hp⟩
        have hi' : (i : Int) < (xs.length : Int) := by omega
        have hwi := wrap_succ (n := i) (by omega)
        have hxi : xs[i]? = some xs[i] := List.getElem?_eq_getElem hi
        have hx := hf _ (List.getElem_mem hi) k hk0 hkm
        have hxl := hle _ (List.getElem_mem hi) k hk0
        rw [List.drop_eq_getElem_cons hi, goSz] at hp
        by_cases hn : f xs[i] k < 0
        · simp [hn] at hp
          simp [loopAt, loopsOf, Tryz.f208, g0, g1, g5, hi', hxi, hwi, hx, hn, hp]
        · simp [hn] at hp
          simp [loopAt, loopsOf, Tryz.f208, g0, g1, g5, hi', hxi, hwi, hx, hn]
          exact ⟨by omega, by omega, hp⟩)
      (by
        rintro s o q ⟨k, g0, g1, g5, hk0, hkm, hp⟩
        simp [goSz] at hp
        have hn : ¬ r < 0 := by omega
        have hn' : 0 ≤ r := by omega
        have hk1 : ¬ k < 0 := by omega
        simp [loopAt, loopsOf, Tryz.f208, g0, g1, g5, hp, hk1]
        try omega)
      xs.length 0 s o q (by omega) hI)
    simp only [loopAt, loopsOf, Tryz.f208] at lp
    obtain ⟨r, hr⟩ : ∃ r, r = goSz f xs (l - xs.length) := ⟨_, rfl⟩
    obtain ⟨X, A, B, C, hx⟩ := lp r hr
    have hx' := fun s o q a0 a1 a5 => hx s o q ⟨l - xs.length, a0, a1, a5, by omega, by omega, by simpa using hr⟩
    clear hx
    by_cases hn : r < 0
    · have hn' : ¬ 0 ≤ r := by omega
      simp [hn, hn'] at hx'
      simp [hw, hb, hb0, hx', hn, ← hr]
    · have hn' : 0 ≤ r := by omega
      simp [hn, hn'] at hx'
      simp [hw, hb, hb0, hx', hn, ← hr]
theorem sz_87 (xs : List Chn) (f : Chn → Int → Int) (hl : xs.length < 9223372036854775807) (hf : ∀ x ∈ xs, ∀ l, 0 ≤ l → l ≤ 1048576 → run E (.call 145 [.t (chnT x), xI l]) = some (.res [xI (f x l)] [])) (hle : ∀ x ∈ xs, ∀ k, 0 ≤ k → f x k ≤ k) (l : Int) (h0 : 0 ≤ l) (hm : l ≤ 1048576) :
    run E (.call 87 [.t (.list (xs.map chnT)), xI l]) = some (.res [xI (lstSz f xs l)] []) := by
  rw [run_call E 87 _ rfl Tryz.func87 rfl rfl rfl (by simp)]
  have hw : IntKind.i64.wrap (l - (xs.length : Int)) = l - xs.length := wrap_of (by omega) (by omega)
  unfold lstSz szB
  by_cases hb : l - (xs.length : Int) < 0
  · simp [hw, hb]
  · have hb0 : ¬ l < (xs.length : Int) := by omega
    have lp := fun (r : Int) (hr : r = goSz f xs (l - xs.length)) => sk (fun s o q hI => loop_for (c := loopAt Tryz.f87 0) (N := 27)
      (fun i s o q => ∃ k : Int, s 0 = .t (.list (xs.map chnT)) ∧ s 1 = .t (.int .i64 k) ∧ s 5 = .t (.int .i64 i) ∧ 0 ≤ k ∧ k ≤ 1048576 ∧ r = goSz f (xs.drop i) k)
      (fun e s' o' q' => e = (if r < 0 then .ret else .exit 0) ∧ (r < 0 → s' 4 = .t (.int .i64 r)) ∧ (0 ≤ r → s' 1 = .t (.int .i64 r))) xs.length
      (by
        rintro i s o q hi ⟨k, g0, g1, g5, hk0, hkm, hp⟩
        have hi' : (i : Int) < (xs.length : Int) := by omega
        have hwi := wrap_succ (n := i) (by omega)
        have hxi : xs[i]? = some xs[i] := List.getElem?_eq_getElem hi
        have hx := hf _ (List.getElem_mem hi) k hk0 hkm
        have hxl := hle _ (List.getElem_mem hi) k hk0
        rw [List.drop_eq_getElem_cons hi, goSz] at hp
        by_cases hn : f xs[i] k < 0
        · simp [hn] at hp
          simp [loopAt, loopsOf, Tryz.f87, g0, g1, g5, hi', hxi, hwi, hx, hn, hp]
        · simp [hn] at hp
          simp [loopAt, loopsOf, Tryz.f87, g0, g1, g5, hi', hxi, hwi, hx, hn]
          exact ⟨by omega, by omega, hp⟩)
      (by
        rintro s o q ⟨k, g0, g1, g5, hk0, hkm, hp⟩
        simp [goSz] at hp
        have hn : ¬ r < 0 := by omega
        have hn' : 0 ≤ r := by omega
        have hk1 : ¬ k < 0 := by omega
        simp [loopAt, loopsOf, Tryz.f87, g0, g1, g5, hp, hk1]
        try omega)
      xs.length 0 s o q (by omega) hI)
    simp only [loopAt, loopsOf, Tryz.f87] at lp
    obtain ⟨r, hr⟩ : ∃ r, r = goSz f xs (l - xs.length) := ⟨_, rfl⟩
    obtain ⟨X, A, B, C, hx⟩ := lp r hr
    have hx' := fun s o q a0 a1 a5 => hx s o q ⟨l - xs.length, a0, a1, a5, by omega, by omega, by simpa using hr⟩
    clear hx
    by_cases hn : r < 0
    · have hn' : ¬ 0 ≤ r := by omega
      simp [hn, hn'] at hx'
      simp [hw, hb, hb0, hx', hn, ← hr]
    · have hn' : 0 ≤ r := by omega
      simp [hn, hn'] at hx'
      simp [hw, hb, hb0, hx', hn, ← hr]
theorem sz_88 (xs : List Dfn) (f : Dfn → Int → Int) (hl : xs.length < 9223372036854775807) (hf : ∀ x ∈ xs, ∀ l, 0 ≤ l → l ≤ 1048576 → run E (.call 34 [.t (dfnT x), xI l]) = some (.res [xI (f x l)] [])) (hle : ∀ x ∈ xs, ∀ k, 0 ≤ k → f x k ≤ k) (l : Int) (h0 : 0 ≤ l) (hm : l ≤ 1048576) :
    run E (.call 88 [.t (.list (xs.map dfnT)), xI l]) = some (.res [xI (lstSz f xs l)] []) := by
  rw [run_call E 88 _ rfl Tryz.func88 rfl rfl rfl (by simp)]
  have hw : IntKind.i64.wrap (l - (xs.length : Int)) = l - xs.length := wrap_of (by omega) (by omega)
  unfold lstSz szB
  by_cases hb : l - (xs.length : Int) < 0
  · simp [hw, hb]
  · have hb0 : ¬ l < (xs.length : Int) := by omega
    have lp := fun (r : Int) (hr : r = goSz f xs (l - xs.length)) => sk (fun s o q hI => loop_for (c := loopAt Tryz.f88 0) (N := 27)
      (fun i s o q => ∃ k : Int, s 0 = .t (.list (xs.map dfnT)) ∧ s 1 = .t (.int .i64 k) ∧ s 5 = .t (.int .i64 i) ∧ 0 ≤ k ∧ k ≤ 1048576 ∧ r = goSz f (xs.drop i) k)
      (fun e s' o' q' => e = (if r < 0 then .ret else .exit 0) ∧ (r < 0 → s' 4 = .t (.int .i64 r)) ∧ (0 ≤ r → s' 1 = .t (.int .i64 r))) xs.length
      (by
        rintro i s o q hi ⟨k, g0, g1, g5, hk0, hkm, hp⟩
        have hi' : (i : Int) < (xs.length : Int) := by omega
        have hwi := wrap_succ (n := i) (by omega)
        have hxi : xs[i]? = some xs[i] := List.getElem?_eq_getElem hi
        have hx := hf _ (List.getElem_mem hi) k hk0 hkm
        have hxl := hle _ (List.getElem_mem hi) k hk0
        rw [List.drop_eq_getElem_cons hi, goSz] at hp
        by_cases hn : f xs[i] k < 0
        · simp [hn] at hp
          simp [loopAt, loopsOf, Tryz.f88, g0, g1, g5, hi', hxi, hwi, hx, hn, hp]
        · simp [hn] at hp
          simp [loopAt, loopsOf, Tryz.f88, g0, g1, g5, hi', hxi, hwi, hx, hn]
          exact ⟨by omega, by omega, hp⟩)
      (by
        rintro s o q ⟨k, g0, g1, g5, hk0, hkm, hp⟩
        simp [goSz] at hp
        have hn : ¬ r < 0 := by omega
        have hn' : 0 ≤ r := by omega
        have hk1 : ¬ k < 0 := by omega
        simp [loopAt, loopsOf, Tryz.f88, g0, g1, g5, hp, hk1]
        try omega)
      xs.length 0 s o q (by omega) hI)
    simp only [loopAt, loopsOf, Tryz.f88] at lp
    obtain ⟨r, hr⟩ : ∃ r, r = goSz f xs (l - xs.length) := ⟨_, rfl⟩
    obtain ⟨X, A, B, C, hx⟩ := lp r hr
    have hx' := fun s o q a0 a1 a5 => hx s o q ⟨l - xs.length, a0, a1, a5, by omega, by omega, by simpa using hr⟩
    clear hx
    by_cases hn : r < 0
    · have hn' : ¬ 0 ≤ r := by omega
      simp [hn, hn'] at hx'
      simp [hw, hb, hb0, hx', hn, ← hr]
    · have hn' : 0 ≤ r := by omega
      simp [hn, hn'] at hx'
      simp [hw, hb, hb0, hx', hn, ← hr]
theorem to_210 (xs : List Ver) (hl : xs.length < 4294967296) (hf : ∀ x ∈ xs, run E (.call 251 [.t (verT x)]) = some (.res [verX x] [])) :
    run E (.call 210 [.t (.list (xs.map verT))]) = some (.res [.row 94 (xs.map verT)] []) := by
  rw [run_call E 210 _ rfl Tryz.func210 rfl rfl rfl (by simp)]
  have lp := sk (fun s o q hI => loop_for (c := loopAt Tryz.f210 0) (N := 23)
    (fun i s o q => s 0 = .t (.list (xs.map verT)) ∧ s 3 = .row 0 ∧ s 4 = .t (.int .i64 i) ∧ 0 < q ∧ o 0 = .row 94 ((xs.map verT).take i ++ List.replicate (xs.length - i) (.agg [.int .i64 0, .bool false, .int .i64 0, .int .i64 0, .str []])) true)
    (fun e s' o' q' => e = .exit 0 ∧ s' 3 = .row 0 ∧ o' 0 = .row 94 (xs.map verT) true) xs.length
    (by
      rintro i s o q hi ⟨g0, g3, g4, hq, ho⟩
      have hi' : (i : Int) < (xs.length : Int) := by omega
      have hwi := wrap_succ (n := i) (by omega)
      have hxi : xs[i]? = some xs[i] := List.getElem?_eq_getElem hi
      have hx := hf _ (List.getElem_mem hi)
      have hq0 : q ≠ 0 := by omega
      have h0q : 0 ≠ q := by omega
      have hget := mid_get (xs.map verT) (.agg [.int .i64 0, .bool false, .int .i64 0, .int .i64 0, .str []]) i xs.length hi (by simp; omega)
      have hset := mid_set (xs.map verT) (.agg [.int .i64 0, .bool false, .int .i64 0, .int .i64 0, .str []]) (verT xs[i]) i xs.length hi (by simp [hxi])
      simp [loopAt, loopsOf, Tryz.f210, g0, g3, g4, hi', hxi, hwi, hx, ho, hget, hset, hq0, h0q]
      try omega)
    (by
      rintro s o q ⟨g0, g3, g4, hq, ho⟩
      have hfull : (xs.map verT).take xs.length = xs.map verT := List.take_of_length_le (by simp)
      simp [hfull] at ho
      simp [loopAt, loopsOf, Tryz.f210, g0, g3, g4, ho])
    xs.length 0 s o q (by omega) hI)
  simp only [loopAt, loopsOf, Tryz.f210] at lp
  obtain ⟨X, A, B, C, hx⟩ := lp
  simp at hx
  have h1 : xs.length ≤ 140737488355328 := by omega
  have h2 : xs.length * 48 ≤ 140737488355328 := by omega
  simp [h1, h2, hx]
theorem to_91 (xs : List Chn) (hl : xs.length < 4294967296) (hf : ∀ x ∈ xs, run E (.call 147 [.t (chnT x)]) = some (.res [.agg [.t (.int .i64 x.id), .row 94 (x.vs.map verT)]] [])) :
    run E (.call 91 [.t (.list (xs.map chnT))]) = some (.res [.row 136 (xs.map chnT)] []) := by
  rw [run_call E 91 _ rfl Tryz.func91 rfl rfl rfl (by simp)]
  have lp := sk (fun s o q hI => loop_for (c := loopAt Tryz.f91 0) (N := 23)
    (fun i s o q => s 0 = .t (.list (xs.map chnT)) ∧ s 3 = .row 0 ∧ s 4 = .t (.int .i64 i) ∧ 0 < q ∧ o 0 = .row 136 ((xs.map chnT).take i ++ List.replicate (xs.length - i) (.agg [.int .i64 0, .list []])) true)
    (fun e s' o' q' => e = .exit 0 ∧ s' 3 = .row 0 ∧ o' 0 = .row 136 (xs.map chnT) true) xs.length
    (by
      rintro i s o q hi ⟨g0, g3, g4, hq, ho⟩
      have hi' : (i : Int) < (xs.length : Int) := by omega
      have hwi := wrap_succ (n := i) (by omega)
      have hxi : xs[i]? = some xs[i] := List.getElem?_eq_getElem hi
      have hx := hf _ (List.getElem_mem hi)
      have hq0 : q ≠ 0 := by omega
      have h0q : 0 ≠ q := by omega
      have hget := mid_get (xs.map chnT) (.agg [.int .i64 0, .list []]) i xs.length hi (by simp; omega)
      have hset := mid_set (xs.map chnT) (.agg [.int .i64 0, .list []]) (chnT xs[i]) i xs.length hi (by simp [hxi])
      simp [loopAt, loopsOf, Tryz.f91, g0, g3, g4, hi', hxi, hwi, hx, ho, hget, hset, hq0, h0q]
      try omega)
    (by
      rintro s o q ⟨g0, g3, g4, hq, ho⟩
      have hfull : (xs.map chnT).take xs.length = xs.map chnT := List.take_of_length_le (by simp)
      simp [hfull] at ho
      simp [loopAt, loopsOf, Tryz.f91, g0, g3, g4, ho])
    xs.length 0 s o q (by omega) hI)
  simp only [loopAt, loopsOf, Tryz.f91] at lp
  obtain ⟨X, A, B, C, hx⟩ := lp
  simp at hx
  have h1 : xs.length ≤ 140737488355328 := by omega
  have h2 : xs.length * 32 ≤ 140737488355328 := by omega
  simp [h1, h2, hx]
theorem to_92 (xs : List Dfn) (hl : xs.length < 4294967296) (hf : ∀ x ∈ xs, run E (.call 36 [.t (dfnT x)]) = some (.res [.agg [.t (.str x.name), .row 108 (x.parts.map prtT)]] [])) :
    run E (.call 92 [.t (.list (xs.map dfnT))]) = some (.res [.row 79 (xs.map dfnT)] []) := by
  rw [run_call E 92 _ rfl Tryz.func92 rfl rfl rfl (by simp)]
  have lp := sk (fun s o q hI => loop_for (c := loopAt Tryz.f92 0) (N := 23)
    (fun i s o q => s 0 = .t (.list (xs.map dfnT)) ∧ s 3 = .row 0 ∧ s 4 = .t (.int .i64 i) ∧ 0 < q ∧ o 0 = .row 79 ((xs.map dfnT).take i ++ List.replicate (xs.length - i) (.agg [.str [], .list []])) true)
    (fun e s' o' q' => e = .exit 0 ∧ s' 3 = .row 0 ∧ o' 0 = .row 79 (xs.map dfnT) true) xs.length
    (by
      rintro i s o q hi ⟨g0, g3, g4, hq, ho⟩
      have hi' : (i : Int) < (xs.length : Int) := by omega
      have hwi := wrap_succ (n := i) (by omega)
      have hxi : xs[i]? = some xs[i] := List.getElem?_eq_getElem hi
      have hx := hf _ (List.getElem_mem hi)
      have hq0 : q ≠ 0 := by omega
      have h0q : 0 ≠ q := by omega
      have hget := mid_get (xs.map dfnT) (.agg [.str [], .list []]) i xs.length hi (by simp; omega)
      have hset := mid_set (xs.map dfnT) (.agg [.str [], .list []]) (dfnT xs[i]) i xs.length hi (by simp [hxi])
      simp [loopAt, loopsOf, Tryz.f92, g0, g3, g4, hi', hxi, hwi, hx, ho, hget, hset, hq0, h0q]
      try omega)
    (by
      rintro s o q ⟨g0, g3, g4, hq, ho⟩
      have hfull : (xs.map dfnT).take xs.length = xs.map dfnT := List.take_of_length_le (by simp)
      simp [hfull] at ho
      simp [loopAt, loopsOf, Tryz.f92, g0, g3, g4, ho])
    xs.length 0 s o q (by omega) hI)
  simp only [loopAt, loopsOf, Tryz.f92] at lp
  obtain ⟨X, A, B, C, hx⟩ := lp
  simp at hx
  have h1 : xs.length ≤ 140737488355328 := by omega
  have h2 : xs.length * 40 ≤ 140737488355328 := by omega
  simp [h1, h2, hx]
theorem eq_212 (xs : List Ver) (hl : xs.length < 9223372036854775807) (hf : ∀ x ∈ xs, run E (.call 51 [.t (verT x), .t (verT x)]) = some (.res [xB true] [])) :
    run E (.call 212 [.t (.list (xs.map verT)), .t (.list (xs.map verT))]) = some (.res [xB true] []) := by
  rw [run_call E 212 _ rfl Tryz.func212 rfl rfl rfl (by simp)]
  have d6 := d212_6
  simp [regionOf, findR, pick, Tryz.f212] at d6
  have dd := fun st => run_region_draw E st 6 _ d6
  clear d6
  have lp := sk (fun s o q hI => loop_for (c := loopAt Tryz.f212 0) (N := 27)
    (fun i s o q => s 0 = .t (.list (xs.map verT)) ∧ s 1 = .t (.list (xs.map verT)) ∧ s 5 = .t (.int .i64 i))
    (fun e s' o' q' => e = .exit 0) xs.length
    (by
      rintro i s o q hi ⟨g0, g1, g5⟩
      have hi' : (i : Int) < (xs.length : Int) := by omega
      have hwi := wrap_succ (n := i) (by omega)
      have hxi : xs[i]? = some xs[i] := List.getElem?_eq_getElem hi
      have hx := hf _ (List.getElem_mem hi)
      simp [loopAt, loopsOf, Tryz.f212, dd, g0, g1, g5, hi', hxi, hwi, hx])
    (by
      rintro s o q ⟨g0, g1, g5⟩
      simp [loopAt, loopsOf, Tryz.f212, g0, g1, g5])
    xs.length 0 s o q (by omega) hI)
  simp only [loopAt, loopsOf, Tryz.f212] at lp
  obtain ⟨X, A, B, C, hx⟩ := lp
  simp at hx
  simp [hx]
theorem eq_96 (xs : List Chn) (hl : xs.length < 9223372036854775807) (hf : ∀ x ∈ xs, run E (.call 153 [.t (chnT x), .t (chnT x)]) = some (.res [xB true] [])) :
    run E (.call 96 [.t (.list (xs.map chnT)), .t (.list (xs.map chnT))]) = some (.res [xB true] []) := by
  rw [run_call E 96 _ rfl Tryz.func96 rfl rfl rfl (by simp)]
  have d6 := d96_6
  simp [regionOf, findR, pick, Tryz.f96] at d6
  have dd := fun st => run_region_draw E st 6 _ d6
  clear d6
  have lp := sk (fun s o q hI => loop_for (c := loopAt Tryz.f96 0) (N := 27)
    (fun i s o q => s 0 = .t (.list (xs.map chnT)) ∧ s 1 = .t (.list (xs.map chnT)) ∧ s 5 = .t (.int .i64 i))
    (fun e s' o' q' => e = .exit 0) xs.length
    (by
      rintro i s o q hi ⟨g0, g1, g5⟩
      have hi' : (i : Int) < (xs.length : Int) := by omega
      have hwi := wrap_succ (n := i) (by omega)
      have hxi : xs[i]? = some xs[i] := List.getElem?_eq_getElem hi
      have hx := hf _ (List.getElem_mem hi)
      simp [loopAt, loopsOf, Tryz.f96, dd, g0, g1, g5, hi', hxi, hwi, hx])
    (by
      rintro s o q ⟨g0, g1, g5⟩
      simp [loopAt, loopsOf, Tryz.f96, g0, g1, g5])
    xs.length 0 s o q (by omega) hI)
  simp only [loopAt, loopsOf, Tryz.f96] at lp
  obtain ⟨X, A, B, C, hx⟩ := lp
  simp at hx
  simp [hx]
theorem eq_97 (xs : List Dfn) (hl : xs.length < 9223372036854775807) (hf : ∀ x ∈ xs, run E (.call 39 [.t (dfnT x), .t (dfnT x)]) = some (.res [xB true] [])) :
    run E (.call 97 [.t (.list (xs.map dfnT)), .t (.list (xs.map dfnT))]) = some (.res [xB true] []) := by
  rw [run_call E 97 _ rfl Tryz.func97 rfl rfl rfl (by simp)]
  have d6 := d97_6
  simp [regionOf, findR, pick, Tryz.f97] at d6
  have dd := fun st => run_region_draw E st 6 _ d6
  clear d6
  have lp := sk (fun s o q hI => loop_for (c := loopAt Tryz.f97 0) (N := 27)
    (fun i s o q => s 0 = .t (.list (xs.map dfnT)) ∧ s 1 = .t (.list (xs.map dfnT)) ∧ s 5 = .t (.int .i64 i))
    (fun e s' o' q' => e = .exit 0) xs.length
    (by
      rintro i s o q hi ⟨g0, g1, g5⟩
      have hi' : (i : Int) < (xs.length : Int) := by omega
      have hwi := wrap_succ (n := i) (by omega)
      have hxi : xs[i]? = some xs[i] := List.getElem?_eq_getElem hi
      have hx := hf _ (List.getElem_mem hi)
      simp [loopAt, loopsOf, Tryz.f97, dd, g0, g1, g5, hi', hxi, hwi, hx])
    (by
      rintro s o q ⟨g0, g1, g5⟩
      simp [loopAt, loopsOf, Tryz.f97, g0, g1, g5])
    xs.length 0 s o q (by omega) hI)
  simp only [loopAt, loopsOf, Tryz.f97] at lp
  obtain ⟨X, A, B, C, hx⟩ := lp
  simp at hx
  simp [hx]
end Go.Zd
/- spec's CollOK: the chains, and the whole. -/
set_option linter.unusedSimpArgs false
set_option linter.unusedVariables false
namespace Go.Zd
open Go.Ev Go.Proofs Go.Pu
set_option maxRecDepth 100000
set_option maxHeartbeats 16000000
/-- spec's CollOK: the chains. -/
theorem specColl_chains (c : Col) (h : c.Sm) (b : Bool) (hb : b = chainsGo none c.chains) : ∀ s o q, (s 1 = .ptr 0 0 ∧ s 5 = .t (.int .i64 0) ∧ o 0 = colBox c ∧ 0 < q) →
    ∃ e s' o' q', run E (.code (.loop (loopAt Tryz.f28 2)) ⟨s, o, q, 138⟩) = some (.st e ⟨s', o', q', 138⟩) ∧ e = (if b then .exit 4 else .ret) ∧ s' 1 = .ptr 0 0 ∧ o' 0 = colBox c ∧ (b = false → s' 2 = .t (.bool false)) := by
  intro s o q hI
  have d17 := d28_17
  simp [regionOf, findR, pick, Tryz.f28] at d17
  have dd := fun st => run_region_draw E st 17 _ d17
  clear d17
  refine loop_for (c := loopAt Tryz.f28 2) (N := 138)
    (fun i s o q => s 1 = .ptr 0 0 ∧ s 5 = .t (.int .i64 i) ∧ o 0 = colBox c ∧ 0 < q ∧ b = chainsGo (match i with | 0 => none | j + 1 => (c.chains[j]?).map (·.id)) (c.chains.drop i))
    (fun e s' o' q' => e = (if b then .exit 4 else .ret) ∧ s' 1 = .ptr 0 0 ∧ o' 0 = colBox c ∧ (b = false → s' 2 = .t (.bool false))) c.chains.length ?_ ?_
    c.chains.length 0 s o q (by omega) ⟨hI.1, hI.2.1, hI.2.2.1, hI.2.2.2, by simpa using hb⟩
  · rintro i s o q hi ⟨h1, h5, ho, hq, hp⟩
    have hq0 : q ≠ 0 := by omega
    have h0q : 0 ≠ q := by omega
    have hxi : c.chains[i]? = some c.chains[i] := List.getElem?_eq_getElem hi
    have hi' : (i : Int) < (c.chains.length : Int) := by omega
    have hw := wrap_succ (n := i) (by have := h.chains.1; omega)
    have hid := l01In1 c.chains[i].id 0 19
    have hlen := l01In1 (c.chains[i].vs.length : Int) 1 12
    obtain ⟨z, hz⟩ : ∃ z, z = versGo (fun g v => verDoc c.chains[i].id g v) none c.chains[i].vs := ⟨_, rfl⟩
    obtain ⟨X, A, B, C, hx⟩ := sk (specColl_vers c h i q c.chains[i] (h.chains.2 _ (List.getElem_mem hi)) z hz)
    simp only [loopAt, loopsOf, Tryz.f28] at hx
    have hok : chainOK c.chains[i] = (in1 0 19 c.chains[i].id && in1 1 12 c.chains[i].vs.length && z) := by rw [hz]; rfl
    clear hz
    rw [List.drop_eq_getElem_cons hi] at hp
    cases i with
    | zero =>
      simp only [chainsGo, hok] at hp
      cases hT : in1 0 19 c.chains[0].id <;> cases hL : in1 1 12 (c.chains[0].vs.length : Int) <;> cases z <;> simp [hT, hL] at hp hid hlen hx <;> simp [loopAt, loopsOf, Tryz.f28, dd, h1, h5, ho, hq, hq0, h0q, hi, hi', hw, hid, hlen, hp, hxi, hx]
    | succ j =>
      have hj : j < c.chains.length := by omega
      have hxj : c.chains[j]? = some c.chains[j] := List.getElem?_eq_getElem hj
      have hpos : (0 : Int) < (j : Int) + 1 := by omega
      have hnn : (0 : Int) ≤ (j : Int) + 1 := by omega
      have hwj2 := wrap_nat (n := j) (by have := h.chains.1; omega)
      simp only [hxj, Option.map_some, chainsGo, hok] at hp
      simp at h5 hi' hw
      by_cases hge : c.chains[j + 1].id ≤ c.chains[j].id <;> cases hT : in1 0 19 c.chains[j + 1].id <;> cases hL : in1 1 12 (c.chains[j + 1].vs.length : Int) <;> cases z <;> simp [hT, hL, hge] at hp hid hlen hx <;> simp [loopAt, loopsOf, Tryz.f28, dd, h1, h5, ho, hq, hq0, h0q, hi, hi', hw, hid, hlen, hp, hxi, hxj, hj, hpos, hnn, hwj2, hge, hx]
  · rintro s o q ⟨h1, h5, ho, hq, hp⟩
    simp [chainsGo] at hp
    simp [loopAt, loopsOf, Tryz.f28, h1, h5, ho, hp]
theorem specCollOK (c : Col) (h : c.Sm) : run E (.call 28 [.t (colT c)]) = some (.res [xB (collOK c)] []) := by
  rw [run_call E 28 _ rfl Tryz.func28 rfl rfl rfl (by simp)]
  have h1 := l01Name c.name (by have := h.name; omega)
  have h3 : (3 < (c.defs.length : Int)) = ¬ (c.defs.length ≤ 3) := by simp; omega
  have h2 : (20 < (c.chains.length : Int)) = ¬ (c.chains.length ≤ 20) := by simp; omega
  unfold collOK
  cases hN : nameP c.name with
  | false => rw [hN] at h1; simp [h1]
  | true =>
    rw [hN] at h1
    by_cases n2 : c.chains.length ≤ 20
    · by_cases n3 : c.defs.length ≤ 3
      · cases hD : defsGo [] c.defs with
        | false =>
          obtain ⟨X, A, B, C, hx⟩ := sk (specColl_defs c h false hD.symm)
          simp [loopAt, loopsOf, Tryz.f28] at hx
          simp [h1, h2, h3, n2, n3, hx]
        | true =>
          obtain ⟨X, A, B, C, hx⟩ := sk (specColl_defs c h true hD.symm)
          simp [loopAt, loopsOf, Tryz.f28] at hx
          cases hC : chainsGo none c.chains with
          | false =>
            obtain ⟨X2, A2, B2, C2, hx2⟩ := sk (specColl_chains c h false hC.symm)
            simp [loopAt, loopsOf, Tryz.f28] at hx2
            simp [h1, h2, h3, n2, n3, hx, hx2]
          | true =>
            obtain ⟨X2, A2, B2, C2, hx2⟩ := sk (specColl_chains c h true hC.symm)
            simp [loopAt, loopsOf, Tryz.f28] at hx2
            simp [h1, h2, h3, n2, n3, hx, hx2]
      · simp [h1, h2, h3, n2, n3]
    · simp [h1, h2, h3, n2]
end Go.Zd
/- The law FnExactCollOK, run over plain data: it answers true. -/
set_option linter.unusedSimpArgs false
set_option linter.unusedVariables false
namespace Go.Zd
open Go.Ev Go.Proofs Go.Pu
set_option maxRecDepth 100000
set_option maxHeartbeats 16000000
def Dfn.Wd (d : Dfn) : Prop := W d.name.length ∧ prtsWd d.parts
def Ver.Wd (x : Ver) : Prop := W x.v.t.length
def Chn.Wd (c : Chn) : Prop := W c.vs.length ∧ ∀ x ∈ c.vs, x.Wd
structure Col.Wd (c : Col) : Prop where
  name : W c.name.length
  chains : W c.chains.length ∧ ∀ x ∈ c.chains, x.Wd
  defs : W c.defs.length ∧ ∀ x ∈ c.defs, x.Wd
def szDfn (d : Dfn) : Int → Int := thenSz (szB d.name.length) (thenSz (lstSz szPrt d.parts) (fun k => k))
def szVer (x : Ver) : Int → Int := thenSz (szVal x.v) (fun k => k)
def szChn (c : Chn) : Int → Int := thenSz (lstSz szVer c.vs) (fun k => k)
def szCol (c : Col) : Int → Int := thenSz (szB c.name.length) (thenSz (lstSz szChn c.chains) (thenSz (lstSz szDfn c.defs) (fun k => k)))
theorem szDfn_le (d : Dfn) (k : Int) (h : 0 ≤ k) : szDfn d k ≤ k := thenSz_le h (fun k hk => szB_le hk) (fun k hk => thenSz_le hk (fun k hk => lstPrt_le _ k hk) (fun k _ => Int.le_refl k))
theorem szVer_le (d : Ver) (k : Int) (h : 0 ≤ k) : szVer d k ≤ k := thenSz_le h (fun k hk => szVal_le _ k hk) (fun k _ => Int.le_refl k)
theorem szChn_le (d : Chn) (k : Int) (h : 0 ≤ k) : szChn d k ≤ k := thenSz_le h (fun k hk => lstSz_le hk (fun x _ k hk => szVer_le x k hk)) (fun k _ => Int.le_refl k)
theorem lstChn_le (l : List Chn) (k : Int) (h : 0 ≤ k) : lstSz szChn l k ≤ k := lstSz_le h (fun x _ k hk => szChn_le x k hk)
theorem lstDfn_le (l : List Dfn) (k : Int) (h : 0 ≤ k) : lstSz szDfn l k ≤ k := lstSz_le h (fun x _ k hk => szDfn_le x k hk)
theorem szDef (d : Dfn) (h : d.Wd) (l : Int) (h0 : 0 ≤ l) (hm : l ≤ 1048576) : run E (.call 34 [.t (dfnT d), xI l]) = some (.res [xI (szDfn d l)] []) := by
  rw [run_call E 34 _ rfl Tryz.func34 rfl rfl rfl (by simp)]
  have hw := wrap_sz h.1 h0 hm
  unfold szDfn thenSz
  by_cases hb : l - (d.name.length : Int) < 0
  · have e : szB d.name.length l = -1 := by simp [szB, hb]
    simp [hw, hb, e]
  · have e : szB d.name.length l = l - d.name.length := by simp [szB, hb]
    have hs := szPartS d.parts h.2 (l - d.name.length) (by omega) (by omega)
    by_cases hn : lstSz szPrt d.parts (l - d.name.length) < 0 <;> simp [hw, hb, e, hs, hn]
theorem szVersion (x : Ver) (h : x.Wd) (l : Int) (h0 : 0 ≤ l) (hm : l ≤ 1048576) : run E (.call 250 [.t (verT x), xI l]) = some (.res [xI (szVer x l)] []) := by
  rw [run_call E 250 _ rfl Tryz.func250 rfl rfl rfl (by simp)]
  have hs := szValue x.v h l h0 hm
  unfold szVer thenSz
  by_cases hn : szVal x.v l < 0 <;> simp [hs, hn]
theorem szChain (c : Chn) (h : c.Wd) (l : Int) (h0 : 0 ≤ l) (hm : l ≤ 1048576) : run E (.call 145 [.t (chnT c), xI l]) = some (.res [xI (szChn c l)] []) := by
  rw [run_call E 145 _ rfl Tryz.func145 rfl rfl rfl (by simp)]
  have hs := sz_208 c.vs szVer (by have := h.1; unfold W at this; omega) (fun x hx l h0 hm => szVersion x (h.2 x hx) l h0 hm) (fun x _ k hk => szVer_le x k hk) l h0 hm
  unfold szChn thenSz
  by_cases hn : lstSz szVer c.vs l < 0 <;> simp [hs, hn]
theorem szColl (c : Col) (h : c.Wd) (l : Int) (h0 : 0 ≤ l) (hm : l ≤ 1048576) : run E (.call 27 [.t (colT c), xI l]) = some (.res [xI (szCol c l)] []) := by
  rw [run_call E 27 _ rfl Tryz.func27 rfl rfl rfl (by simp)]
  have hw := wrap_sz h.name h0 hm
  unfold szCol thenSz
  by_cases hb : l - (c.name.length : Int) < 0
  · have e : szB c.name.length l = -1 := by simp [szB, hb]
    simp [hw, hb, e]
  · have e : szB c.name.length l = l - c.name.length := by simp [szB, hb]
    have hs := sz_87 c.chains szChn (by have := h.chains.1; unfold W at this; omega) (fun x hx l h0 hm => szChain x (h.chains.2 x hx) l h0 hm) (fun x _ k hk => szChn_le x k hk) (l - c.name.length) (by omega) (by omega)
    have l1 := lstChn_le c.chains (l - c.name.length) (by omega)
    by_cases hn : lstSz szChn c.chains (l - c.name.length) < 0
    · simp [hw, hb, e, hs, hn]
    · have ht := sz_88 c.defs szDfn (by have := h.defs.1; unfold W at this; omega) (fun x hx l h0 hm => szDef x (h.defs.2 x hx) l h0 hm) (fun x _ k hk => szDfn_le x k hk) (lstSz szChn c.chains (l - c.name.length)) (by omega) (by omega)
      by_cases hn2 : lstSz szDfn c.defs (lstSz szChn c.chains (l - c.name.length)) < 0 <;> simp [hw, hb, e, hs, hn, ht, hn2]
theorem szDfn_sm {d : Dfn} {k : Int} (h0 : 0 ≤ k) (hm : k ≤ 1048576) (h : ¬ szDfn d k < 0) : d.Sm := by
  obtain ⟨h1, h2⟩ := thenSz_neg h
  obtain ⟨h3, _⟩ := thenSz_neg h2
  have b1 := szB_bound h1
  have := szB_le (n := d.name.length) h0
  exact ⟨by omega, lstPrt_sm (by omega) (by omega) h3⟩
theorem szVer_sm {d : Ver} {k : Int} (h0 : 0 ≤ k) (hm : k ≤ 1048576) (h : ¬ szVer d k < 0) : d.Sm := by
  obtain ⟨h1, _⟩ := thenSz_neg h
  have b1 := szB_bound h1
  unfold Ver.Sm
  omega
theorem szChn_sm {c : Chn} {k : Int} (h0 : 0 ≤ k) (hm : k ≤ 1048576) (h : ¬ szChn c k < 0) : c.Sm := by
  obtain ⟨h1, h2⟩ := thenSz_neg h
  obtain ⟨b1, b2⟩ := lstSz_all (P := Ver.Sm) (m := 1048576) h0 hm (fun x _ k hk => szVer_le x k hk) (fun x _ k hk hm h => szVer_sm hk hm h) h1
  exact ⟨by omega, b2⟩
theorem szCol_sm {c : Col} {k : Int} (h0 : 0 ≤ k) (hm : k ≤ 1048576) (h : ¬ szCol c k < 0) : c.Sm := by
  obtain ⟨h1, h2⟩ := thenSz_neg h
  obtain ⟨h3, h4⟩ := thenSz_neg h2
  obtain ⟨h5, _⟩ := thenSz_neg h4
  have b1 := szB_bound h1
  have l1 := szB_le (n := c.name.length) h0
  have l2 := lstChn_le c.chains (szB c.name.length k) (by omega)
  obtain ⟨c1, c2⟩ := lstSz_all (P := Chn.Sm) (m := 1048576) (by omega) (by omega) (fun x _ k hk => szChn_le x k hk) (fun x _ k hk hm h => szChn_sm hk hm h) h3
  obtain ⟨e1, e2⟩ := lstSz_all (P := Dfn.Sm) (m := 1048576) (by omega) (by omega) (fun x _ k hk => szDfn_le x k hk) (fun x _ k hk hm h => szDfn_sm hk hm h) h5
  exact ⟨by omega, ⟨by omega, c2⟩, ⟨by omega, e2⟩⟩
/-! Copies. -/
theorem toVersion (x : Ver) : run E (.call 251 [.t (verT x)]) = some (.res [verX x] []) := by
  rw [run_call E 251 _ rfl Tryz.func251 rfl rfl rfl (by simp)]
  simp [toValue x.v]
theorem toDef (d : Dfn) (h : d.Sm) : run E (.call 36 [.t (dfnT d)]) = some (.res [.agg [.t (.str d.name), .row 108 (d.parts.map prtT)]] []) := by
  rw [run_call E 36 _ rfl Tryz.func36 rfl rfl rfl (by simp)]
  simp [toPartS d.parts h.2.1]
theorem toChain (c : Chn) (h : c.Sm) : run E (.call 147 [.t (chnT c)]) = some (.res [.agg [.t (.int .i64 c.id), .row 94 (c.vs.map verT)]] []) := by
  rw [run_call E 147 _ rfl Tryz.func147 rfl rfl rfl (by simp)]
  simp [to_210 c.vs h.1 (fun x _ => toVersion x)]
theorem toColl (c : Col) (h : c.Sm) : run E (.call 29 [.t (colT c)]) = some (.res [.agg [.t (.str c.name), .row 136 (c.chains.map chnT), .row 79 (c.defs.map dfnT)]] []) := by
  rw [run_call E 29 _ rfl Tryz.func29 rfl rfl rfl (by simp)]
  have h1 := to_91 c.chains h.chains.1 (fun x hx => toChain x (h.chains.2 x hx))
  have h2 := to_92 c.defs h.defs.1 (fun x hx => toDef x (h.defs.2 x hx))
  simp [h1, h2]
/-! Equality. -/
theorem eqVersion (x : Ver) : run E (.call 51 [.t (verT x), .t (verT x)]) = some (.res [xB true] []) := by
  rw [run_call E 51 _ rfl Tryz.func51 rfl rfl rfl (by simp)]
  simp [eqValue x.v]
theorem eqDef (d : Dfn) (h : d.Sm) : run E (.call 39 [.t (dfnT d), .t (dfnT d)]) = some (.res [xB true] []) := by
  rw [run_call E 39 _ rfl Tryz.func39 rfl rfl rfl (by simp)]
  simp [eqPartS d.parts h.2.1]
theorem eqChain (c : Chn) (h : c.Sm) : run E (.call 153 [.t (chnT c), .t (chnT c)]) = some (.res [xB true] []) := by
  rw [run_call E 153 _ rfl Tryz.func153 rfl rfl rfl (by simp)]
  have h1 := eq_212 c.vs (by have := h.1; omega) (fun x _ => eqVersion x)
  simp [h1]
theorem eqColl (c : Col) (h : c.Sm) : run E (.call 31 [.t (colT c), .t (colT c)]) = some (.res [xB true] []) := by
  rw [run_call E 31 _ rfl Tryz.func31 rfl rfl rfl (by simp)]
  have h1 := eq_96 c.chains (by have := h.chains.1; omega) (fun x hx => eqChain x (h.chains.2 x hx))
  have h2 := eq_97 c.defs (by have := h.defs.1; omega) (fun x hx => eqDef x (h.defs.2 x hx))
  simp [h1, h2]
theorem lawCollOK (c : Col) (h : c.Wd) : run E (.call 6 [.t (colT c)]) = some (.res [xB true] []) := by
  rw [run_call E 6 _ rfl Tryz.func6 rfl rfl rfl (by simp)]
  have h1 := szColl c h 1048576 (by omega) (by omega)
  by_cases hn : szCol c 1048576 < 0
  · simp [h1, hn]
  · have hs := szCol_sm (by omega) (by omega) hn
    have h2 := toColl c hs
    have h3 := specCollOK c hs
    have h4 := implCollOK c hs
    have h5 := eqColl c hs
    have d10 := d6_10
    simp [regionOf, findR, pick, Tryz.f6] at d10
    have dd := fun st => run_region_draw E st 10 _ d10
    clear d10
    simp [h1, hn, h2, h3, h4, h5, dd]
end Go.Zd
/- What comes in, as plain data: collections. -/
set_option linter.unusedSimpArgs false
set_option linter.unusedVariables false
namespace Go.Zd
open Go.Ev Go.Proofs Go.Pu
set_option maxRecDepth 100000
set_option maxHeartbeats 4000000
theorem dec278 {n : Nat} {ts : List T} (h : typed E (n + 3) 278 ts) : ∃ t : Ver, T.agg ts = verT t ∧ t.Wd := by
  obtain ⟨h1, h2⟩ := typed_struct (by simp) h
  simp at h1 h2
  obtain ⟨g1, g2, g3⟩ := h2
  match ts, h1 with
  | [a, b, c, d, e], _ =>
    obtain ⟨x, hx⟩ := typed_int g1
    obtain ⟨y, hy⟩ := typed_bool g2
    obtain ⟨v, hv, hv2⟩ := dec23 g3
    simp at hx hy hv
    exact ⟨⟨x, y, v⟩, by simp [hx, hy, hv], hv2⟩
theorem dec183 {n : Nat} {ts : List T} (h : typed E (n + 4) 183 ts) : ∃ c : List Ver, ts = [.list (c.map verT)] ∧ W c.length ∧ ∀ x ∈ c, x.Wd := by
  obtain ⟨xs, rfl, h1, h2⟩ := typed_slice (by simp) (by simp) h
  obtain ⟨l, rfl, h4⟩ := list_choose (enc := verT) (P := Ver.Wd) (fun x hx => by
    obtain ⟨cs, e, _, h⟩ := h2 x hx
    simp at e h
    obtain ⟨t, h3, h4⟩ := dec278 h
    exact ⟨t, e.trans h3, h4⟩)
  exact ⟨l, rfl, by simpa using h1, h4⟩
theorem dec185 {n : Nat} {ts : List T} (h : typed E (n + 5) 185 ts) : ∃ c : Chn, T.agg ts = chnT c ∧ c.Wd := by
  obtain ⟨h1, h2⟩ := typed_struct (by simp) h
  simp at h1 h2
  obtain ⟨g1, g2⟩ := h2
  match ts, h1 with
  | [a, b], _ =>
    obtain ⟨x, hx⟩ := typed_int g1
    obtain ⟨c, hc, hw⟩ := dec183 g2
    simp at hx hc
    exact ⟨⟨x, c⟩, by simp [hx, hc], hw⟩
theorem dec58 {n : Nat} {ts : List T} (h : typed E (n + 6) 58 ts) : ∃ c : List Chn, ts = [.list (c.map chnT)] ∧ W c.length ∧ ∀ x ∈ c, x.Wd := by
  obtain ⟨xs, rfl, h1, h2⟩ := typed_slice (by simp) (by simp) h
  obtain ⟨l, rfl, h4⟩ := list_choose (enc := chnT) (P := Chn.Wd) (fun x hx => by
    obtain ⟨cs, e, _, h⟩ := h2 x hx
    simp at e h
    obtain ⟨t, h3, h4⟩ := dec185 h
    exact ⟨t, e.trans h3, h4⟩)
  exact ⟨l, rfl, by simpa using h1, h4⟩
theorem dec74 {n : Nat} {ts : List T} (h : typed E (n + 4) 74 ts) : ∃ d : Dfn, T.agg ts = dfnT d ∧ d.Wd := by
  obtain ⟨h1, h2⟩ := typed_struct (by simp) h
  simp at h1 h2
  obtain ⟨g1, g2⟩ := h2
  match ts, h1 with
  | [a, b], _ =>
    obtain ⟨x, hx, hx2⟩ := typed_str g1
    obtain ⟨c, hc, hw⟩ := dec34 g2
    simp at hx hc
    exact ⟨⟨x, c⟩, by simp [hx, hc], hx2, hw⟩
theorem dec59 {n : Nat} {ts : List T} (h : typed E (n + 5) 59 ts) : ∃ c : List Dfn, ts = [.list (c.map dfnT)] ∧ W c.length ∧ ∀ x ∈ c, x.Wd := by
  obtain ⟨xs, rfl, h1, h2⟩ := typed_slice (by simp) (by simp) h
  obtain ⟨l, rfl, h4⟩ := list_choose (enc := dfnT) (P := Dfn.Wd) (fun x hx => by
    obtain ⟨cs, e, _, h⟩ := h2 x hx
    simp at e h
    obtain ⟨t, h3, h4⟩ := dec74 h
    exact ⟨t, e.trans h3, h4⟩)
  exact ⟨l, rfl, by simpa using h1, h4⟩
theorem dec61 {n : Nat} {ts : List T} (h : typed E (n + 7) 61 ts) : ∃ c : Col, T.agg ts = colT c ∧ c.Wd := by
  obtain ⟨h1, h2⟩ := typed_struct (by simp) h
  simp at h1 h2
  obtain ⟨g1, g2, g3⟩ := h2
  match ts, h1 with
  | [a, b, c], _ =>
    obtain ⟨x, hx, hx2⟩ := typed_str g1
    obtain ⟨y, hy, hy2⟩ := dec58 g2
    obtain ⟨z, hz, hz2⟩ := dec59 g3
    simp at hx hy hz
    exact ⟨⟨x, y, z⟩, by simp [hx, hy, hz], hx2, hy2, hz2⟩
end Go.Zd
