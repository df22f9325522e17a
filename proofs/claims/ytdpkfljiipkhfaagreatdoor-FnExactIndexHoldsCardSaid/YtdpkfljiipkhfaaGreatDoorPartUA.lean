/- More of it. -/
import Derived.Test.YtdpkfljiipkhfaaGreatDoorPartRF
import Derived.Test.YtdpkfljiipkhfaaGreatDoorPartRG
import Derived.Test.YtdpkfljiipkhfaaGreatDoorPartTB
import Derived.Test.YtdpkfljiipkhfaaGreatDoorPartTA
namespace Go.Rd
open Go.Ev Go.Proofs
set_option linter.unusedSimpArgs false
set_option linter.unusedVariables false
set_option maxRecDepth 100000
theorem d4_14 : E.draw (regionOf Tryz.f4 14) = some (pick (regionOf Tryz.f4 14) [0, 1, 2, 3, 4]) := by kernel_rfl
theorem d22_9 : E.draw (regionOf Tryz.f22 9) = some (pick (regionOf Tryz.f22 9) [0, 1, 2, 3, 4, 5, 6, 7]) := by kernel_rfl
theorem d22_14 : E.draw (regionOf Tryz.f22 14) = some (pick (regionOf Tryz.f22 14) [0, 1, 2, 3, 4, 5, 6, 7, 8, 9, 10, 11]) := by kernel_rfl
theorem d22_15 : E.draw (regionOf Tryz.f22 15) = some (pick (regionOf Tryz.f22 15) [0, 1, 2, 3, 4, 5, 6, 7, 8, 9, 10]) := by kernel_rfl
theorem d22_20 : E.draw (regionOf Tryz.f22 20) = some (pick (regionOf Tryz.f22 20) [0, 1, 2, 3, 4, 5, 6, 7, 8, 9]) := by kernel_rfl
theorem d69_5 : E.draw (regionOf Tryz.f69 5) = some (pick (regionOf Tryz.f69 5) [0, 1, 2, 3, 4, 5, 6, 7, 8]) := by kernel_rfl
theorem d69_13 : E.draw (regionOf Tryz.f69 13) = some (pick (regionOf Tryz.f69 13) [0, 1, 2, 3, 4, 5, 6, 7, 8, 9, 10, 11, 12, 13, 14, 15, 16, 17, 18, 19]) := by kernel_rfl
theorem d71_5 : E.draw (regionOf Tryz.f71 5) = some (pick (regionOf Tryz.f71 5) [0, 1, 2, 3, 4, 5, 6, 7, 8, 9, 10, 11, 12, 13, 14, 15, 16, 17, 18, 19, 20]) := by kernel_rfl
theorem d77_1 : E.draw (regionOf Tryz.f77 1) = some (pick (regionOf Tryz.f77 1) [0, 1, 2, 3, 4, 5, 6]) := by kernel_rfl
theorem d79_1 : E.draw (regionOf Tryz.f79 1) = some (pick (regionOf Tryz.f79 1) [0, 1, 2, 3, 5, 6, 7, 8, 4, 9, 10, 11, 12]) := by kernel_rfl
theorem d80_6 : E.draw (regionOf Tryz.f80 6) = some (pick (regionOf Tryz.f80 6) [0, 1, 2, 3, 4, 5, 6, 7, 8]) := by kernel_rfl
theorem d137_8 : E.draw (regionOf Tryz.f137 8) = some (pick (regionOf Tryz.f137 8) [0, 1, 2, 3, 4, 5, 6, 7, 8, 9, 10, 11, 12, 13, 14, 15, 16, 17]) := by kernel_rfl
theorem d138_13 : E.draw (regionOf Tryz.f138 13) = some (pick (regionOf Tryz.f138 13) [0, 1, 2, 3, 4, 5, 6, 7, 8]) := by kernel_rfl
theorem d138_18 : E.draw (regionOf Tryz.f138 18) = some (pick (regionOf Tryz.f138 18) [0, 1, 2, 3, 4, 5, 6, 7, 8, 9, 10, 11, 12, 13, 14, 15, 16]) := by kernel_rfl
theorem d139_12 : E.draw (regionOf Tryz.f139 12) = some (pick (regionOf Tryz.f139 12) [0, 1, 2, 3, 4, 5, 6, 7, 8, 9, 10, 11, 12]) := by kernel_rfl
theorem d145_3 : E.draw (regionOf Tryz.f145 3) = some (pick (regionOf Tryz.f145 3) [0, 1, 2, 3, 4, 5, 6, 7, 8, 9, 10, 11, 12, 13, 14, 15, 16, 17]) := by kernel_rfl
theorem d146_15 : E.draw (regionOf Tryz.f146 15) = some (pick (regionOf Tryz.f146 15) [0, 1, 2, 3, 4, 5, 6, 7, 8, 9, 10, 11, 12, 13, 14, 15, 16]) := by kernel_rfl
theorem d154_6 : E.draw (regionOf Tryz.f154 6) = some (pick (regionOf Tryz.f154 6) [0, 1, 2, 3, 4, 5, 6, 7, 8, 9]) := by kernel_rfl
theorem d181_5 : E.draw (regionOf Tryz.f181 5) = some (pick (regionOf Tryz.f181 5) [0, 1, 2, 3, 4, 5, 6, 8, 9, 10, 11, 12, 14, 15, 16, 17, 18, 7, 13, 19, 20, 21, 22]) := by kernel_rfl
theorem d268_9 : E.draw (regionOf Tryz.f268 9) = some (pick (regionOf Tryz.f268 9) [0, 1, 2, 3, 6, 7, 4, 5, 8, 9]) := by kernel_rfl
theorem n304_22 : E.draw (regionOf Tryz.f304 22) = none := by kernel_rfl
theorem s304_22 : E.drawS (regionOf Tryz.f304 22) = some ([(2, 5), (2, 6), (4, 5), (4, 6), (4, 7)], pick (regionOf Tryz.f304 22) [0, 3, 4, 6, 7, 1, 2, 5, 8, 9]) := by kernel_rfl
theorem d311_6 : E.draw (regionOf Tryz.f311 6) = some (pick (regionOf Tryz.f311 6) [0, 1, 2, 3, 4, 5, 6, 7, 8, 9]) := by kernel_rfl
end Go.Rd
namespace Go.Pu
open Go.Ev
set_option linter.unusedSimpArgs false
set_option linter.unusedVariables false
theorem sgnT_zero {a b : Bytes} (h : sgnT a b = 0) : a = b := by
  unfold sgnT at h
  split at h
  · omega
  · split at h
    · omega
    · rename_i h1 h2
      rw [bytesLess_iff] at h1 h2
      exact List.le_antisymm (by simpa using h2) (by simpa using h1)
theorem bytesLess_asymm {a b : Bytes} (h : Op.bytesLess a b = true) : Op.bytesLess b a = false := by
  cases h2 : Op.bytesLess b a with
  | false => rfl
  | true =>
    have := bytesLess_trans h h2
    rw [bytesLess_irrefl] at this; cases this
theorem bytesLess_tri {a b : Bytes} (h : Op.bytesLess a b = false) (h2 : Op.bytesLess b a = false) : a = b := by
  refine sgnT_zero ?_
  simp [sgnT, h, h2]
end Go.Pu
namespace Go.Rd
open Go.Ev Go.Proofs Go.Pu
set_option linter.unusedSimpArgs false
set_option linter.unusedVariables false
set_option maxRecDepth 100000
set_option maxHeartbeats 16000000
theorem thenSz_le {f g : Int → Int} {l : Int} (h0 : 0 ≤ l) (hf : ∀ k, 0 ≤ k → f k ≤ k) (hg : ∀ k, 0 ≤ k → g k ≤ k) : thenSz f g l ≤ l := by
  unfold thenSz
  have := hf l h0
  split
  · omega
  · have := hg (f l) (by omega); omega
theorem lstPrt_le (l : List Prt) (k : Int) (h : 0 ≤ k) : lstSz szPrt l k ≤ k := lstSz_le h (fun x _ k hk => szPrt_le x k hk)
theorem thenSz_neg {f g : Int → Int} {l : Int} (h : ¬ thenSz f g l < 0) : ¬ f l < 0 ∧ ¬ g (f l) < 0 := by
  unfold thenSz at h
  split at h
  · omega
  · rename_i hf; exact ⟨hf, h⟩
theorem in12_cast (n : Nat) : (decide ((1 : Int) ≤ (n : Int)) && decide ((n : Int) ≤ 2)) = in12 n := by
  unfold in12
  congr 1 <;> (congr 1; simp; omega)
theorem in12_cases {α : Type} {l : List α} (h : in12 l.length = true) : (∃ p, l = [p]) ∨ ∃ p q, l = [p, q] := by
  simp [in12] at h
  match l, h with
  | [p], _ => exact .inl ⟨p, rfl⟩
  | [p, q], _ => exact .inr ⟨p, q, rfl⟩
  | [], h => simp at h
  | _ :: _ :: _ :: _, h => simp at h
theorem defClosure (p : Prt) (h : p.path.length < 4294967296) : run E (.call 218 [.t (prtT p)]) = some (.res [xB (!pathOK p.path)] []) := by
  rw [run_call E 218 _ rfl Tryz.func218 rfl rfl rfl (by simp)]
  simp [partOK p h]
theorem implDefOK (d : Dfn) (h : d.Sm) : run E (.call 145 [.t (dfnT d)]) = some (.res [xB (defOK d)] []) := by
  rw [run_call E 145 _ rfl Tryz.func145 rfl rfl rfl (by simp)]
  have h1 := isShort d.name (by have := h.1; omega)
  have h2 := inRange (d.parts.length : Int) 1 2
  rw [in12_cast] at h2
  have hc := containsFunc_136_0 d.parts 218 (fun p => !pathOK p.path) (by have := h.2.1; omega) rfl (by simp) (fun p hp => defClosure p (h.2.2 p hp))
  rw [any_not_all] at hc
  have d3 := d145_3
  simp [regionOf, findR, pick, Tryz.f145] at d3
  have dd := fun st => run_region_draw E st 3 _ d3
  clear d3
  unfold defOK
  cases hn : nameP d.name with
  | false => rw [hn] at h1; simp [h1]
  | true =>
    rw [hn] at h1
    cases hi : in12 d.parts.length with
    | false => rw [hi] at h2; simp [h1, h2]
    | true =>
      rw [hi] at h2
      cases ha : d.parts.all (fun p => pathOK p.path) with
      | false => rw [ha] at hc; simp [h1, h2, hc]
      | true =>
        rw [ha] at hc
        obtain ⟨nm, ps⟩ := d
        simp only at *
        rcases in12_cases hi with ⟨p, rfl⟩ | ⟨p, q, rfl⟩
        · simp at h2 hc
          simp [h1, h2, hc, dd, twoOK]
        · simp at h2 hc
          simp [h1, h2, hc, dd, twoOK]
theorem specDef_loop (d : Dfn) (h : d.Sm) (b : Bool) (hb : b = d.parts.all (fun p => pathOK p.path)) : ∀ s o n, (s 1 = .ptr 0 0 ∧ s 3 = .t (.int .i64 0) ∧ o 0 = .box 48 [.t (.str d.name), .t (.list (d.parts.map prtT))]) →
    ∃ e s' o' n', run E (.code (.loop (loopAt Tryz.f137 0)) ⟨s, o, n, 47⟩) = some (.st e ⟨s', o', n', 47⟩) ∧ e = (if b then .exit 0 else .ret) ∧ s' 1 = .ptr 0 0 ∧ o' 0 = .box 48 [.t (.str d.name), .t (.list (d.parts.map prtT))] ∧ (b = false → s' 2 = .t (.bool false)) := by
  intro s o n hI
  refine loop_for (c := loopAt Tryz.f137 0) (N := 47)
    (fun i s o n => s 1 = .ptr 0 0 ∧ s 3 = .t (.int .i64 i) ∧ o 0 = .box 48 [.t (.str d.name), .t (.list (d.parts.map prtT))] ∧ b = (d.parts.drop i).all (fun p => pathOK p.path))
    (fun e s' o' n' => e = (if b then .exit 0 else .ret) ∧ s' 1 = .ptr 0 0 ∧ o' 0 = .box 48 [.t (.str d.name), .t (.list (d.parts.map prtT))] ∧ (b = false → s' 2 = .t (.bool false))) d.parts.length ?_ ?_
    d.parts.length 0 s o n (by omega) ⟨hI.1, hI.2.1, hI.2.2, by simpa using hb⟩
  · rintro i s o n hi ⟨h1, h3, ho, hp⟩
    have hfi : d.parts[i]? = some d.parts[i] := List.getElem?_eq_getElem hi
    have hi' : (i : Int) < (d.parts.length : Int) := by omega
    have hw := wrap_succ (n := i) (by have := h.2.1; omega)
    have ht := specPathOK d.parts[i].path (h.2.2 _ (List.getElem_mem hi))
    rw [List.drop_eq_getElem_cons hi, List.all_cons] at hp
    cases hok : pathOK d.parts[i].path <;> simp [hok] at hp ht <;> simp [loopAt, loopsOf, Tryz.f137, h1, h3, ho, hi', hfi, hw, ht, hp]
  · rintro s o n ⟨h1, h3, ho, hp⟩
    simp at hp
    simp [loopAt, loopsOf, Tryz.f137, h1, h3, ho, hp]
theorem specDefOK (d : Dfn) (h : d.Sm) : run E (.call 137 [.t (dfnT d)]) = some (.res [xB (defOK d)] []) := by
  rw [run_call E 137 _ rfl Tryz.func137 rfl rfl rfl (by simp)]
  have h1 := l01Name d.name (by have := h.1; omega)
  have h2 := l01In (d.parts.length : Int) 1 2
  rw [in12_cast] at h2
  have d8 := d137_8
  simp [regionOf, findR, pick, Tryz.f137] at d8
  have dd := fun st => run_region_draw E st 8 _ d8
  clear d8
  have lp := specDef_loop d h
  unfold defOK
  cases hn : nameP d.name with
  | false => rw [hn] at h1; simp [h1]
  | true =>
    rw [hn] at h1
    cases hi : in12 d.parts.length with
    | false => rw [hi] at h2; simp [h1, h2]
    | true =>
      rw [hi] at h2
      cases ha : d.parts.all (fun p => pathOK p.path) with
      | false =>
        obtain ⟨X, A, B, C, hx⟩ := sk (lp false ha.symm)
        simp [loopAt, loopsOf, Tryz.f137] at hx
        simp [h1, h2, hx]
      | true =>
        obtain ⟨X, A, B, C, hx⟩ := sk (lp true ha.symm)
        simp [loopAt, loopsOf, Tryz.f137] at hx
        obtain ⟨nm, ps⟩ := d
        simp only at *
        rcases in12_cases hi with ⟨p, rfl⟩ | ⟨p, q, rfl⟩
        · simp at h2 hx
          simp [h1, h2, hx, dd, twoOK]
        · simp at h2 hx
          simp [h1, h2, hx, dd, twoOK]
theorem l01In1 (a b c : Int) : run E (.call 142 [xI a, xI b, xI c]) = some (.res [xB (in1 b c a)] []) := l01In a b c
theorem numP_1 (n : Int) : numP n 1 = [byteAt n 0] := rfl
theorem putKey_small_row (d : Nat) (v : Val) (acc : Bytes) (h : okP d v = true) (ha : acc.length + 4096 ≤ 70368744177664) (hv : v.t.length < 1048576) (hk : v.k = 0 ∨ v.k = 1 ∨ v.k = 2 ∨ v.k = 3) : run E (.call 304 [.row 5 (acc.map byteT), xV v]) = some (.res [.row 5 ((acc ++ keyD d v).map byteT)] [none]) := by
  rw [run_call E 304 _ rfl Tryz.func304 rfl rfl rfl (by simp)]
  have hsz := okP_range h
  unfold keyD headK
  have hw : IntKind.i64.wrap (v.k + 1) = v.k + 1 := wrap_of (by omega) (by omega)
  have hu := u8_wrap (v.k + 1)
  have hu2 := u8_wrap v.n
  have hr1 : List.range 1 = [0] := rfl
  have hl1 : acc.length + 1 ≤ 140737488355328 := by omega
  have hl2 : acc.length + 1 + 1 ≤ 140737488355328 := by omega
  have hl8 : acc.length + 1 + 8 ≤ 140737488355328 := by omega
  rcases hk with hk | hk | hk | hk
  · have e0 : (v.k = 0) = True := by rw [hk]; simp
    have e1 : (v.k = 1) = False := by rw [hk]; simp
    have e2 : (v.k = 2) = False := by rw [hk]; simp
    have e3 : (v.k = 3) = False := by rw [hk]; simp
    have e4 : (v.k = 4) = False := by rw [hk]; simp
    have e5 : (v.k = 5) = False := by rw [hk]; simp
    clear hk
    simp [e0, e1, e2, e3, e4, e5, hw, hu, hr1, hl1, numP_1]
  · have e0 : (v.k = 0) = False := by rw [hk]; simp
    have e1 : (v.k = 1) = True := by rw [hk]; simp
    have e2 : (v.k = 2) = False := by rw [hk]; simp
    have e3 : (v.k = 3) = False := by rw [hk]; simp
    have e4 : (v.k = 4) = False := by rw [hk]; simp
    have e5 : (v.k = 5) = False := by rw [hk]; simp
    clear hk
    simp [e0, e1, e2, e3, e4, e5, hw, hu, hu2, hr1, hl1, hl2, numP_1]
  · have hw2 : IntKind.i64.wrap (v.n + 4611686018427387904) = v.n + 4611686018427387904 := wrap_of (by omega) (by omega)
    have he := eight (v.n + 4611686018427387904)
    have hlen := numP_len (v.n + 4611686018427387904) 8
    have e0 : (v.k = 0) = False := by rw [hk]; simp
    have e1 : (v.k = 1) = False := by rw [hk]; simp
    have e2 : (v.k = 2) = True := by rw [hk]; simp
    have e3 : (v.k = 3) = False := by rw [hk]; simp
    have e4 : (v.k = 4) = False := by rw [hk]; simp
    have e5 : (v.k = 5) = False := by rw [hk]; simp
    clear hk
    generalize numP (v.n + 4611686018427387904) 8 = w at *
    simp [e0, e1, e2, e3, e4, e5, hw, hw2, hu, he, hlen, hr1, hl1, hl8, numP_1]
  · have he := putText (acc ++ [byteAt (v.k + 1) 0]) v.t (by omega) (by simp <;> omega)
    simp at he
    have e0 : (v.k = 0) = False := by rw [hk]; simp
    have e1 : (v.k = 1) = False := by rw [hk]; simp
    have e2 : (v.k = 2) = False := by rw [hk]; simp
    have e3 : (v.k = 3) = True := by rw [hk]; simp
    have e4 : (v.k = 4) = False := by rw [hk]; simp
    have e5 : (v.k = 5) = False := by rw [hk]; simp
    clear hk
    simp [e0, e1, e2, e3, e4, e5, hw, hu, he, hr1, hl1, numP_1]
theorem putKey_small_nil (d : Nat) (v : Val)  (h : okP d v = true) (ha : ([] : Bytes).length + 4096 ≤ 70368744177664) (hv : v.t.length < 1048576) (hk : v.k = 0 ∨ v.k = 1 ∨ v.k = 2 ∨ v.k = 3) : run E (.call 304 [.nil, xV v]) = some (.res [.row 5 ((([] : Bytes) ++ keyD d v).map byteT)] [some .nil]) := by
  rw [run_call E 304 _ rfl Tryz.func304 rfl rfl rfl (by simp)]
  have hsz := okP_range h
  unfold keyD headK
  have hw : IntKind.i64.wrap (v.k + 1) = v.k + 1 := wrap_of (by omega) (by omega)
  have hu := u8_wrap (v.k + 1)
  have hu2 := u8_wrap v.n
  have hr1 : List.range 1 = [0] := rfl
  have hl1 : ([] : Bytes).length + 1 ≤ 140737488355328 := by omega
  have hl2 : ([] : Bytes).length + 1 + 1 ≤ 140737488355328 := by omega
  have hl8 : ([] : Bytes).length + 1 + 8 ≤ 140737488355328 := by omega
  rcases hk with hk | hk | hk | hk
  · have e0 : (v.k = 0) = True := by rw [hk]; simp
    have e1 : (v.k = 1) = False := by rw [hk]; simp
    have e2 : (v.k = 2) = False := by rw [hk]; simp
    have e3 : (v.k = 3) = False := by rw [hk]; simp
    have e4 : (v.k = 4) = False := by rw [hk]; simp
    have e5 : (v.k = 5) = False := by rw [hk]; simp
    clear hk
    simp [e0, e1, e2, e3, e4, e5, hw, hu, hr1, hl1, numP_1]
  · have e0 : (v.k = 0) = False := by rw [hk]; simp
    have e1 : (v.k = 1) = True := by rw [hk]; simp
    have e2 : (v.k = 2) = False := by rw [hk]; simp
    have e3 : (v.k = 3) = False := by rw [hk]; simp
    have e4 : (v.k = 4) = False := by rw [hk]; simp
    have e5 : (v.k = 5) = False := by rw [hk]; simp
    clear hk
    simp [e0, e1, e2, e3, e4, e5, hw, hu, hu2, hr1, hl1, hl2, numP_1]
  · have hw2 : IntKind.i64.wrap (v.n + 4611686018427387904) = v.n + 4611686018427387904 := wrap_of (by omega) (by omega)
    have he := eight (v.n + 4611686018427387904)
    have hlen := numP_len (v.n + 4611686018427387904) 8
    have e0 : (v.k = 0) = False := by rw [hk]; simp
    have e1 : (v.k = 1) = False := by rw [hk]; simp
    have e2 : (v.k = 2) = True := by rw [hk]; simp
    have e3 : (v.k = 3) = False := by rw [hk]; simp
    have e4 : (v.k = 4) = False := by rw [hk]; simp
    have e5 : (v.k = 5) = False := by rw [hk]; simp
    clear hk
    generalize numP (v.n + 4611686018427387904) 8 = w at *
    simp [e0, e1, e2, e3, e4, e5, hw, hw2, hu, he, hlen, hr1, hl1, hl8, numP_1]
  · have he := putText (([] : Bytes) ++ [byteAt (v.k + 1) 0]) v.t (by omega) (by simp <;> omega)
    simp at he
    have e0 : (v.k = 0) = False := by rw [hk]; simp
    have e1 : (v.k = 1) = False := by rw [hk]; simp
    have e2 : (v.k = 2) = False := by rw [hk]; simp
    have e3 : (v.k = 3) = True := by rw [hk]; simp
    have e4 : (v.k = 4) = False := by rw [hk]; simp
    have e5 : (v.k = 5) = False := by rw [hk]; simp
    clear hk
    simp [e0, e1, e2, e3, e4, e5, hw, hu, he, hr1, hl1, numP_1]
def Dfn.Wd (d : Dfn) : Prop := W d.name.length ∧ prtsWd d.parts
def Ver.Wd (x : Ver) : Prop := W x.v.t.length
def Chn.Wd (c : Chn) : Prop := W c.vs.length ∧ ∀ x ∈ c.vs, x.Wd
structure Col.Wd (c : Col) : Prop where
  name : W c.name.length
  chains : W c.chains.length ∧ ∀ x ∈ c.chains, x.Wd
  defs : W c.defs.length ∧ ∀ x ∈ c.defs, x.Wd
def szDfn (d : Dfn) : Int → Int := thenSz (szB d.name.length) (thenSz (lstSz szPrt d.parts) (fun k => k))
def szVer (x : Ver) : Int → Int := thenSz (szVal x.v) (fun k => k)
def szChn (c : Chn) : Int → Int := thenSz (lstSz szVer c.vs) (fun k => k)
def szCol (c : Col) : Int → Int := thenSz (szB c.name.length) (thenSz (lstSz szChn c.chains) (thenSz (lstSz szDfn c.defs) (fun k => k)))
theorem szDfn_le (d : Dfn) (k : Int) (h : 0 ≤ k) : szDfn d k ≤ k := thenSz_le h (fun k hk => szB_le hk) (fun k hk => thenSz_le hk (fun k hk => lstPrt_le _ k hk) (fun k _ => Int.le_refl k))
theorem szDef (d : Dfn) (h : d.Wd) (l : Int) (h0 : 0 ≤ l) (hm : l ≤ 1048576) : run E (.call 66 [.t (dfnT d), xI l]) = some (.res [xI (szDfn d l)] []) := by
  rw [run_call E 66 _ rfl Tryz.func66 rfl rfl rfl (by simp)]
  have hw := wrap_sz h.1 h0 hm
  unfold szDfn thenSz
  by_cases hb : l - (d.name.length : Int) < 0
  · have e : szB d.name.length l = -1 := by simp [szB, hb]
    simp [hw, hb, e]
  · have e : szB d.name.length l = l - d.name.length := by simp [szB, hb]
    have hs := szPartS d.parts h.2 (l - d.name.length) (by omega) (by omega)
    by_cases hn : lstSz szPrt d.parts (l - d.name.length) < 0 <;> simp [hw, hb, e, hs, hn]
theorem szDfn_sm {d : Dfn} {k : Int} (h0 : 0 ≤ k) (hm : k ≤ 1048576) (h : ¬ szDfn d k < 0) : d.Sm := by
  obtain ⟨h1, h2⟩ := thenSz_neg h
  obtain ⟨h3, _⟩ := thenSz_neg h2
  have b1 := szB_bound h1
  have := szB_le (n := d.name.length) h0
  exact ⟨by omega, lstPrt_sm (by omega) (by omega) h3⟩
theorem toDef (d : Dfn) (h : d.Sm) : run E (.call 73 [.t (dfnT d)]) = some (.res [.agg [.t (.str d.name), .row 62 (d.parts.map prtT)]] []) := by
  rw [run_call E 73 _ rfl Tryz.func73 rfl rfl rfl (by simp)]
  simp [toPartS d.parts h.2.1]
theorem eqDef (d : Dfn) (h : d.Sm) : run E (.call 82 [.t (dfnT d), .t (dfnT d)]) = some (.res [xB true] []) := by
  rw [run_call E 82 _ rfl Tryz.func82 rfl rfl rfl (by simp)]
  simp [eqPartS d.parts h.2.1]
theorem putKey_items_row (d : Nat) (ih : ∀ (v : Val) (acc : Bytes), okP d v = true → acc.length + (keyD d v).length + 4096 ≤ 70368744177664 → v.t.length < 1048576 → run E (.call 304 [.row 5 (acc.map byteT), xV v]) = some (.res [.row 5 ((acc ++ keyD d v).map byteT)] [none]))
    (v : Val) (acc : Bytes) (h : okP (d + 1) v = true) (ha : acc.length + (keyD (d + 1) v).length + 4096 ≤ 70368744177664) (hv : v.t.length < 1048576) (hk : v.k = 4) : run E (.call 304 [.row 5 (acc.map byteT), xV v]) = some (.res [.row 5 ((acc ++ keyD (d + 1) v).map byteT)] [none]) := by
  rw [run_call E 304 _ rfl Tryz.func304 rfl rfl rfl (by simp)]
  obtain ⟨e, xs, hd, _, hit, hx⟩ := okP_list h hk
  obtain rfl : d = e := by omega
  have hi := implItems v (by omega)
  rw [itemsI_some hit] at hi
  simp at hi
  obtain ⟨hs1, hs2⟩ := items_small hit
  have hw : IntKind.i64.wrap (v.k + 1) = v.k + 1 := wrap_of (by omega) (by omega)
  have hu := u8_wrap (v.k + 1)
  have hr1 : List.range 1 = [0] := rfl
  have e0 : (v.k = 0) = False := by rw [hk]; simp
  have e1 : (v.k = 1) = False := by rw [hk]; simp
  have e2 : (v.k = 2) = False := by rw [hk]; simp
  have e3 : (v.k = 3) = False := by rw [hk]; simp
  have e4 : (v.k = 4) = True := by rw [hk]; simp
  have eL : itemsL v.t = xs := by simp [itemsL, hit]
  have ekey : keyD (d + 1) v = byteAt (v.k + 1) 0 :: (xs.flatMap (keyD d) ++ [0]) := by simp [keyD, e0, e1, e2, e3, e4, eL, headK, numP_1]
  rw [ekey] at ha ⊢
  clear hk
  have lp := fun (ri : Nat) (hri0 : 0 < ri) (R : Bytes) (hR : R = acc ++ [byteAt (v.k + 1) 0] ++ xs.flatMap (keyD d)) => sk1 (fun s o q hI => loop_for (c := loopAt Tryz.f304 0) (N := 91)
    (fun i s o q => ∃ r acc', s 0 = .row r ∧ o r = .row 5 (acc'.map byteT) true ∧ r < q ∧ s 51 = .row ri ∧ o ri = .row 74 (xs.map valT) true ∧ ri < q ∧ ri ≠ r ∧ 0 < r ∧ s 52 = .t (.int .i64 xs.length) ∧ s 53 = .t (.int .i64 i) ∧ o 0 = .dead ∧ R = acc' ++ (xs.drop i).flatMap (keyD d))
    (fun e s' o' q' => ∃ r, e = .exit 1 ∧ s' 0 = .row r ∧ o' r = .row 5 (R.map byteT) true ∧ ¬ r = q' ∧ ¬ q' = r ∧ ¬ r = q' + 1 ∧ ¬ q' = 0 ∧ ¬ 0 = q' ∧ ¬ r = 0 ∧ ¬ 0 = r ∧ o' 0 = .dead) xs.length
    (by
      rintro i s o q hi ⟨r, acc', h0, hor, hrq, h51, hori, hriq, hne, hr0, h52, h53, hdd, hp⟩
      have hi' : (i : Int) < (xs.length : Int) := by omega
      have hwi := wrap_succ (n := i) (by omega)
      have hxi : xs[i]? = some xs[i] := List.getElem?_eq_getElem hi
      rw [flat_drop _ _ _ hi, ← List.append_assoc] at hp
      have hlen : acc'.length + (keyD d xs[i]).length + 4096 ≤ 70368744177664 := by
        have h1 := congrArg List.length hp
        have h2 := congrArg List.length hR
        simp at h1 h2 ha
        omega
      have hr := ih xs[i] acc' (hx _ (List.getElem_mem hi)) hlen (by have := hs2 _ (List.getElem_mem hi); omega)
      have g1 : ¬ r = q := by omega
      have g2 : ¬ q = r := by omega
      have g3 : ¬ ri = q := by omega
      have g4 : ¬ q = ri := by omega
      have g5 : ¬ r = q + 1 := by omega
      have g6 : ¬ ri = q + 1 := by omega
      have g7 : ¬ q = 0 := by omega
      have g8 : ¬ 0 = q := by omega
      have g9 : ¬ r = ri := fun h => hne h.symm
      have g10 : ¬ 0 = r := by omega
      have g11 : ¬ r = 0 := by omega
      have g12 : ¬ ri = 0 := by omega
      have g13 : ¬ q + 1 = ri := by omega
      simp [loopAt, loopsOf, Tryz.f304, h0, hor, h51, hori, h52, h53, hi, hi', hwi, hxi, hr, g1, g2, g3, g4, g5, g6, g7, g8, g9, g10, g11, g12, g13, hne, hdd]
      exact ⟨acc' ++ keyD d xs[i], by simp, by omega, hp⟩)
    (by
      rintro s o q ⟨r, acc', h0, hor, hrq, h51, hori, hriq, hne, hr0, h52, h53, hdd, hp⟩
      simp at hp
      subst hp
      have g1 : ¬ r = q := by omega
      have g2 : ¬ q = r := by omega
      have g5 : ¬ r = q + 1 := by omega
      have g7 : ¬ q = 0 := by omega
      have g8 : ¬ 0 = q := by omega
      have g10 : ¬ 0 = r := by omega
      have g11 : ¬ r = 0 := by omega
      simp [loopAt, loopsOf, Tryz.f304, h0, hor, h51, hori, h52, h53, g1, g2, g5, g7, g8, g10, g11, hdd])
    xs.length 0 s o q (by omega) hI)
  simp only [loopAt, loopsOf, Tryz.f304] at lp
  obtain ⟨R, hR⟩ : ∃ R, R = acc ++ [byteAt (v.k + 1) 0] ++ xs.flatMap (keyD d) := ⟨_, rfl⟩
  obtain ⟨X, A, B, C, M, hl⟩ := lp 4 (by omega) R hR
  have hl' := fun s o q r a0 a1 a2 a3 a4 a5 a6 a7 a8 a9 a10 => hl s o q ⟨r, acc ++ [byteAt (v.k + 1) 0], a0, a1, a2, a3, a4, a5, a6, a7, a8, a9, a10, by simpa using hR⟩
  clear hl lp
  have hlR : R.length + 1 ≤ 140737488355328 := by
    have h2 := congrArg List.length hR
    simp at h2 ha
    omega
  have hl1 : acc.length + 1 ≤ 140737488355328 := by simp at ha ⊢ <;> omega
  have hfin : acc ++ byteAt (v.k + 1) 0 :: (xs.flatMap (keyD d) ++ [0]) = R ++ [0] := by rw [hR]; simp
  rw [hfin]
  clear hfin hR ekey
  simp at hl'
  simp [e0, e1, e2, e3, e4, hw, hu, hi, hl', hlR, hr1, hl1]
theorem putKey_items_nil (d : Nat) (ih : ∀ (v : Val) (acc : Bytes), okP d v = true → acc.length + (keyD d v).length + 4096 ≤ 70368744177664 → v.t.length < 1048576 → run E (.call 304 [.row 5 (acc.map byteT), xV v]) = some (.res [.row 5 ((acc ++ keyD d v).map byteT)] [none]))
    (v : Val)  (h : okP (d + 1) v = true) (ha : ([] : Bytes).length + (keyD (d + 1) v).length + 4096 ≤ 70368744177664) (hv : v.t.length < 1048576) (hk : v.k = 4) : run E (.call 304 [.nil, xV v]) = some (.res [.row 5 ((([] : Bytes) ++ keyD (d + 1) v).map byteT)] [some .nil]) := by
  rw [run_call E 304 _ rfl Tryz.func304 rfl rfl rfl (by simp)]
  obtain ⟨e, xs, hd, _, hit, hx⟩ := okP_list h hk
  obtain rfl : d = e := by omega
  have hi := implItems v (by omega)
  rw [itemsI_some hit] at hi
  simp at hi
  obtain ⟨hs1, hs2⟩ := items_small hit
  have hw : IntKind.i64.wrap (v.k + 1) = v.k + 1 := wrap_of (by omega) (by omega)
  have hu := u8_wrap (v.k + 1)
  have hr1 : List.range 1 = [0] := rfl
  have e0 : (v.k = 0) = False := by rw [hk]; simp
  have e1 : (v.k = 1) = False := by rw [hk]; simp
  have e2 : (v.k = 2) = False := by rw [hk]; simp
  have e3 : (v.k = 3) = False := by rw [hk]; simp
  have e4 : (v.k = 4) = True := by rw [hk]; simp
  have eL : itemsL v.t = xs := by simp [itemsL, hit]
  have ekey : keyD (d + 1) v = byteAt (v.k + 1) 0 :: (xs.flatMap (keyD d) ++ [0]) := by simp [keyD, e0, e1, e2, e3, e4, eL, headK, numP_1]
  rw [ekey] at ha ⊢
  clear hk
  have lp := fun (ri : Nat) (hri0 : 0 < ri) (R : Bytes) (hR : R = ([] : Bytes) ++ [byteAt (v.k + 1) 0] ++ xs.flatMap (keyD d)) => sk1 (fun s o q hI => loop_for (c := loopAt Tryz.f304 0) (N := 91)
    (fun i s o q => ∃ r acc', s 0 = .row r ∧ o r = .row 5 (acc'.map byteT) true ∧ r < q ∧ s 51 = .row ri ∧ o ri = .row 74 (xs.map valT) true ∧ ri < q ∧ ri ≠ r ∧ 0 < r ∧ s 52 = .t (.int .i64 xs.length) ∧ s 53 = .t (.int .i64 i) ∧ True ∧ R = acc' ++ (xs.drop i).flatMap (keyD d))
    (fun e s' o' q' => ∃ r, e = .exit 1 ∧ s' 0 = .row r ∧ o' r = .row 5 (R.map byteT) true ∧ ¬ r = q' ∧ ¬ q' = r ∧ ¬ r = q' + 1 ∧ ¬ q' = 0 ∧ ¬ 0 = q' ∧ ¬ r = 0 ∧ ¬ 0 = r ∧ True) xs.length
    (by
      rintro i s o q hi ⟨r, acc', h0, hor, hrq, h51, hori, hriq, hne, hr0, h52, h53, hdd, hp⟩
      have hi' : (i : Int) < (xs.length : Int) := by omega
      have hwi := wrap_succ (n := i) (by omega)
      have hxi : xs[i]? = some xs[i] := List.getElem?_eq_getElem hi
      rw [flat_drop _ _ _ hi, ← List.append_assoc] at hp
      have hlen : acc'.length + (keyD d xs[i]).length + 4096 ≤ 70368744177664 := by
        have h1 := congrArg List.length hp
        have h2 := congrArg List.length hR
        simp at h1 h2 ha
        omega
      have hr := ih xs[i] acc' (hx _ (List.getElem_mem hi)) hlen (by have := hs2 _ (List.getElem_mem hi); omega)
      have g1 : ¬ r = q := by omega
      have g2 : ¬ q = r := by omega
      have g3 : ¬ ri = q := by omega
      have g4 : ¬ q = ri := by omega
      have g5 : ¬ r = q + 1 := by omega
      have g6 : ¬ ri = q + 1 := by omega
      have g7 : ¬ q = 0 := by omega
      have g8 : ¬ 0 = q := by omega
      have g9 : ¬ r = ri := fun h => hne h.symm
      have g10 : ¬ 0 = r := by omega
      have g11 : ¬ r = 0 := by omega
      have g12 : ¬ ri = 0 := by omega
      have g13 : ¬ q + 1 = ri := by omega
      simp [loopAt, loopsOf, Tryz.f304, h0, hor, h51, hori, h52, h53, hi, hi', hwi, hxi, hr, g1, g2, g3, g4, g5, g6, g7, g8, g9, g10, g11, g12, g13, hne, hdd]
      exact ⟨acc' ++ keyD d xs[i], by simp, by omega, hp⟩)
    (by
      rintro s o q ⟨r, acc', h0, hor, hrq, h51, hori, hriq, hne, hr0, h52, h53, hdd, hp⟩
      simp at hp
      subst hp
      have g1 : ¬ r = q := by omega
      have g2 : ¬ q = r := by omega
      have g5 : ¬ r = q + 1 := by omega
      have g7 : ¬ q = 0 := by omega
      have g8 : ¬ 0 = q := by omega
      have g10 : ¬ 0 = r := by omega
      have g11 : ¬ r = 0 := by omega
      simp [loopAt, loopsOf, Tryz.f304, h0, hor, h51, hori, h52, h53, g1, g2, g5, g7, g8, g10, g11, hdd])
    xs.length 0 s o q (by omega) hI)
  simp only [loopAt, loopsOf, Tryz.f304] at lp
  obtain ⟨R, hR⟩ : ∃ R, R = ([] : Bytes) ++ [byteAt (v.k + 1) 0] ++ xs.flatMap (keyD d) := ⟨_, rfl⟩
  obtain ⟨X, A, B, C, M, hl⟩ := lp 3 (by omega) R hR
  have hl' := fun s o q r a0 a1 a2 a3 a4 a5 a6 a7 a8 a9 a10 => hl s o q ⟨r, ([] : Bytes) ++ [byteAt (v.k + 1) 0], a0, a1, a2, a3, a4, a5, a6, a7, a8, a9, a10, by simpa using hR⟩
  clear hl lp
  have hlR : R.length + 1 ≤ 140737488355328 := by
    have h2 := congrArg List.length hR
    simp at h2 ha
    omega
  have hl1 : ([] : Bytes).length + 1 ≤ 140737488355328 := by simp at ha ⊢ <;> omega
  have hfin : ([] : Bytes) ++ byteAt (v.k + 1) 0 :: (xs.flatMap (keyD d) ++ [0]) = R ++ [0] := by rw [hR]; simp
  rw [hfin]
  clear hfin hR ekey
  simp at hl'
  simp [e0, e1, e2, e3, e4, hw, hu, hi, hl', hlR, hr1, hl1]
theorem putKey_fields_row (d : Nat) (ih : ∀ (v : Val) (acc : Bytes), okP d v = true → acc.length + (keyD d v).length + 4096 ≤ 70368744177664 → v.t.length < 1048576 → run E (.call 304 [.row 5 (acc.map byteT), xV v]) = some (.res [.row 5 ((acc ++ keyD d v).map byteT)] [none]))
    (v : Val) (acc : Bytes) (h : okP (d + 1) v = true) (ha : acc.length + (keyD (d + 1) v).length + 4096 ≤ 70368744177664) (hv : v.t.length < 1048576) (hk : v.k = 5) : run E (.call 304 [.row 5 (acc.map byteT), xV v]) = some (.res [.row 5 ((acc ++ keyD (d + 1) v).map byteT)] [none]) := by
  rw [run_call E 304 _ rfl Tryz.func304 rfl rfl rfl (by simp)]
  obtain ⟨e, xs, hd, _, hit, _, hx⟩ := okP_doc h hk
  obtain rfl : d = e := by omega
  have hi := implFields v (by omega)
  rw [fieldsI_some hit] at hi
  simp at hi
  obtain ⟨hs1, hs2⟩ := fields_small hit
  have hw : IntKind.i64.wrap (v.k + 1) = v.k + 1 := wrap_of (by omega) (by omega)
  have hu := u8_wrap (v.k + 1)
  have hr1 : List.range 1 = [0] := rfl
  have e0 : (v.k = 0) = False := by rw [hk]; simp
  have e1 : (v.k = 1) = False := by rw [hk]; simp
  have e2 : (v.k = 2) = False := by rw [hk]; simp
  have e3 : (v.k = 3) = False := by rw [hk]; simp
  have e4 : (v.k = 4) = False := by rw [hk]; simp
  have e5 : (v.k = 5) = True := by rw [hk]; simp
  have eL : fieldsL v.t = xs := by simp [fieldsL, hit]
  obtain ⟨F, hF⟩ : ∃ F : Fld → Bytes, F = (fun f => [1] ++ escP f.name ++ keyD d f.v) := ⟨_, rfl⟩
  have hFx : ∀ f, F f = 1 :: (escP f.name ++ keyD d f.v) := by intro f; rw [hF]; simp
  have hFl : ∀ f, (F f).length = 1 + (escP f.name).length + (keyD d f.v).length := by intro f; rw [hF]; simp; omega
  have ekey : keyD (d + 1) v = byteAt (v.k + 1) 0 :: (xs.flatMap F ++ [0]) := by rw [hF]; simp [keyD, e0, e1, e2, e3, e4, eL, headK, numP_1]
  clear hF
  have n22 := n304_22
  have s22 := s304_22
  simp [regionOf, findR, pick, Tryz.f304] at n22 s22
  have dd := fun st => run_region_drawS E st 22 _ n22 s22
  clear n22 s22
  rw [ekey] at ha ⊢
  clear hk
  have lp := fun (ri : Nat) (hri0 : 0 < ri) (R : Bytes) (hR : R = acc ++ [byteAt (v.k + 1) 0] ++ xs.flatMap F) => sk1 (fun s o q hI => loop_for (c := loopAt Tryz.f304 1) (N := 91)
    (fun i s o q => ∃ r acc', s 0 = .row r ∧ o r = .row 5 (acc'.map byteT) true ∧ r < q ∧ s 71 = .row ri ∧ o ri = .row 211 (xs.map fldT) true ∧ ri < q ∧ ri ≠ r ∧ 0 < r ∧ s 72 = .t (.int .i64 xs.length) ∧ s 73 = .t (.int .i64 i) ∧ o 0 = .dead ∧ R = acc' ++ (xs.drop i).flatMap F)
    (fun e s' o' q' => ∃ r, e = .exit 3 ∧ s' 0 = .row r ∧ o' r = .row 5 (R.map byteT) true ∧ ¬ r = q' ∧ ¬ q' = r ∧ ¬ r = q' + 1 ∧ ¬ q' = 0 ∧ ¬ 0 = q' ∧ ¬ r = 0 ∧ ¬ 0 = r ∧ o' 0 = .dead) xs.length
    (by
      rintro i s o q hi ⟨r, acc', h0, hor, hrq, h51, hori, hriq, hne, hr0, h52, h53, hdd, hp⟩
      have hi' : (i : Int) < (xs.length : Int) := by omega
      have hwi := wrap_succ (n := i) (by omega)
      have hxi : xs[i]? = some xs[i] := List.getElem?_eq_getElem hi
      rw [flat_drop _ _ _ hi, ← List.append_assoc] at hp
      have hlen : acc'.length + (F xs[i]).length + 4096 ≤ 70368744177664 := by
        have h1 := congrArg List.length hp
        have h2 := congrArg List.length hR
        simp at h1 h2 ha
        omega
      have hsm := hs2 _ (List.getElem_mem hi)
      have hFi := hFx xs[i]
      have hFk := hFl xs[i]
      have hpt := putText (acc' ++ [1]) xs[i].name (by omega) (by simp; omega)
      have hr := ih xs[i].v (acc' ++ [1] ++ escP xs[i].name) (hx _ (List.getElem_mem hi)).2 (by simp; omega) (by omega)
      have hb1 : acc'.length + 1 ≤ 140737488355328 := by omega
      have hb1' : byteT 1 = T.int IntKind.u8 1 := rfl
      simp [hb1'] at hpt hr
      rw [hFi] at hp
      have g1 : ¬ r = q := by omega
      have g2 : ¬ q = r := by omega
      have g3 : ¬ ri = q := by omega
      have g4 : ¬ q = ri := by omega
      have g5 : ¬ r = q + 1 := by omega
      have g6 : ¬ ri = q + 1 := by omega
      have g7 : ¬ q = 0 := by omega
      have g8 : ¬ 0 = q := by omega
      have g9 : ¬ r = ri := fun h => hne h.symm
      have g10 : ¬ 0 = r := by omega
      have g11 : ¬ r = 0 := by omega
      have g12 : ¬ ri = 0 := by omega
      have g13 : ¬ q + 1 = ri := by omega
      have g14 : ¬ q + 1 + 1 = ri := by omega
      have g15 : ¬ q + 1 + 1 + 1 = ri := by omega
      have g16 : ¬ ri = q + 1 + 1 := by omega
      have g17 : ¬ ri = q + 1 + 1 + 1 := by omega
      have g18 : ¬ q = q + 1 + 1 := by omega
      simp [loopAt, loopsOf, Tryz.f304, h0, hor, h51, hori, h52, h53, hi, hi', hwi, hxi, hr, hpt, hb1, hr1, dd, g1, g2, g3, g4, g5, g6, g7, g8, g9, g10, g11, g12, g13, g14, g15, g16, g17, g18, hne, hdd]
      exact ⟨acc' ++ 1 :: (escP xs[i].name ++ keyD d xs[i].v), by simp [hb1'], by omega, hp⟩)
    (by
      rintro s o q ⟨r, acc', h0, hor, hrq, h51, hori, hriq, hne, hr0, h52, h53, hdd, hp⟩
      simp at hp
      subst hp
      have g1 : ¬ r = q := by omega
      have g2 : ¬ q = r := by omega
      have g5 : ¬ r = q + 1 := by omega
      have g7 : ¬ q = 0 := by omega
      have g8 : ¬ 0 = q := by omega
      have g10 : ¬ 0 = r := by omega
      have g11 : ¬ r = 0 := by omega
      simp [loopAt, loopsOf, Tryz.f304, h0, hor, h51, hori, h52, h53, g1, g2, g5, g7, g8, g10, g11, hdd])
    xs.length 0 s o q (by omega) hI)
  simp only [loopAt, loopsOf, Tryz.f304] at lp
  obtain ⟨R, hR⟩ : ∃ R, R = acc ++ [byteAt (v.k + 1) 0] ++ xs.flatMap F := ⟨_, rfl⟩
  obtain ⟨X, A, B, C, M, hl⟩ := lp 4 (by omega) R hR
  have hl' := fun s o q r a0 a1 a2 a3 a4 a5 a6 a7 a8 a9 a10 => hl s o q ⟨r, acc ++ [byteAt (v.k + 1) 0], a0, a1, a2, a3, a4, a5, a6, a7, a8, a9, a10, by simpa using hR⟩
  clear hl lp
  have hlR : R.length + 1 ≤ 140737488355328 := by
    have h2 := congrArg List.length hR
    simp at h2 ha
    omega
  have hl1 : acc.length + 1 ≤ 140737488355328 := by simp at ha ⊢ <;> omega
  have hfin : acc ++ byteAt (v.k + 1) 0 :: (xs.flatMap F ++ [0]) = R ++ [0] := by rw [hR]; simp
  rw [hfin]
  clear hfin hR ekey
  simp at hl'
  simp [e0, e1, e2, e3, e4, e5, hw, hu, hi, hl', hlR, hr1, hl1]
theorem putKey_fields_nil (d : Nat) (ih : ∀ (v : Val) (acc : Bytes), okP d v = true → acc.length + (keyD d v).length + 4096 ≤ 70368744177664 → v.t.length < 1048576 → run E (.call 304 [.row 5 (acc.map byteT), xV v]) = some (.res [.row 5 ((acc ++ keyD d v).map byteT)] [none]))
    (v : Val)  (h : okP (d + 1) v = true) (ha : ([] : Bytes).length + (keyD (d + 1) v).length + 4096 ≤ 70368744177664) (hv : v.t.length < 1048576) (hk : v.k = 5) : run E (.call 304 [.nil, xV v]) = some (.res [.row 5 ((([] : Bytes) ++ keyD (d + 1) v).map byteT)] [some .nil]) := by
  rw [run_call E 304 _ rfl Tryz.func304 rfl rfl rfl (by simp)]
  obtain ⟨e, xs, hd, _, hit, _, hx⟩ := okP_doc h hk
  obtain rfl : d = e := by omega
  have hi := implFields v (by omega)
  rw [fieldsI_some hit] at hi
  simp at hi
  obtain ⟨hs1, hs2⟩ := fields_small hit
  have hw : IntKind.i64.wrap (v.k + 1) = v.k + 1 := wrap_of (by omega) (by omega)
  have hu := u8_wrap (v.k + 1)
  have hr1 : List.range 1 = [0] := rfl
  have e0 : (v.k = 0) = False := by rw [hk]; simp
  have e1 : (v.k = 1) = False := by rw [hk]; simp
  have e2 : (v.k = 2) = False := by rw [hk]; simp
  have e3 : (v.k = 3) = False := by rw [hk]; simp
  have e4 : (v.k = 4) = False := by rw [hk]; simp
  have e5 : (v.k = 5) = True := by rw [hk]; simp
  have eL : fieldsL v.t = xs := by simp [fieldsL, hit]
  obtain ⟨F, hF⟩ : ∃ F : Fld → Bytes, F = (fun f => [1] ++ escP f.name ++ keyD d f.v) := ⟨_, rfl⟩
  have hFx : ∀ f, F f = 1 :: (escP f.name ++ keyD d f.v) := by intro f; rw [hF]; simp
  have hFl : ∀ f, (F f).length = 1 + (escP f.name).length + (keyD d f.v).length := by intro f; rw [hF]; simp; omega
  have ekey : keyD (d + 1) v = byteAt (v.k + 1) 0 :: (xs.flatMap F ++ [0]) := by rw [hF]; simp [keyD, e0, e1, e2, e3, e4, eL, headK, numP_1]
  clear hF
  have n22 := n304_22
  have s22 := s304_22
  simp [regionOf, findR, pick, Tryz.f304] at n22 s22
  have dd := fun st => run_region_drawS E st 22 _ n22 s22
  clear n22 s22
  rw [ekey] at ha ⊢
  clear hk
  have lp := fun (ri : Nat) (hri0 : 0 < ri) (R : Bytes) (hR : R = ([] : Bytes) ++ [byteAt (v.k + 1) 0] ++ xs.flatMap F) => sk1 (fun s o q hI => loop_for (c := loopAt Tryz.f304 1) (N := 91)
    (fun i s o q => ∃ r acc', s 0 = .row r ∧ o r = .row 5 (acc'.map byteT) true ∧ r < q ∧ s 71 = .row ri ∧ o ri = .row 211 (xs.map fldT) true ∧ ri < q ∧ ri ≠ r ∧ 0 < r ∧ s 72 = .t (.int .i64 xs.length) ∧ s 73 = .t (.int .i64 i) ∧ True ∧ R = acc' ++ (xs.drop i).flatMap F)
    (fun e s' o' q' => ∃ r, e = .exit 3 ∧ s' 0 = .row r ∧ o' r = .row 5 (R.map byteT) true ∧ ¬ r = q' ∧ ¬ q' = r ∧ ¬ r = q' + 1 ∧ ¬ q' = 0 ∧ ¬ 0 = q' ∧ ¬ r = 0 ∧ ¬ 0 = r ∧ True) xs.length
    (by
      rintro i s o q hi ⟨r, acc', h0, hor, hrq, h51, hori, hriq, hne, hr0, h52, h53, hdd, hp⟩
      have hi' : (i : Int) < (xs.length : Int) := by omega
      have hwi := wrap_succ (n := i) (by omega)
      have hxi : xs[i]? = some xs[i] := List.getElem?_eq_getElem hi
      rw [flat_drop _ _ _ hi, ← List.append_assoc] at hp
      have hlen : acc'.length + (F xs[i]).length + 4096 ≤ 70368744177664 := by
        have h1 := congrArg List.length hp
        have h2 := congrArg List.length hR
        simp at h1 h2 ha
        omega
      have hsm := hs2 _ (List.getElem_mem hi)
      have hFi := hFx xs[i]
      have hFk := hFl xs[i]
      have hpt := putText (acc' ++ [1]) xs[i].name (by omega) (by simp; omega)
      have hr := ih xs[i].v (acc' ++ [1] ++ escP xs[i].name) (hx _ (List.getElem_mem hi)).2 (by simp; omega) (by omega)
      have hb1 : acc'.length + 1 ≤ 140737488355328 := by omega
      have hb1' : byteT 1 = T.int IntKind.u8 1 := rfl
      simp [hb1'] at hpt hr
      rw [hFi] at hp
      have g1 : ¬ r = q := by omega
      have g2 : ¬ q = r := by omega
      have g3 : ¬ ri = q := by omega
      have g4 : ¬ q = ri := by omega
      have g5 : ¬ r = q + 1 := by omega
      have g6 : ¬ ri = q + 1 := by omega
      have g7 : ¬ q = 0 := by omega
      have g8 : ¬ 0 = q := by omega
      have g9 : ¬ r = ri := fun h => hne h.symm
      have g10 : ¬ 0 = r := by omega
      have g11 : ¬ r = 0 := by omega
      have g12 : ¬ ri = 0 := by omega
      have g13 : ¬ q + 1 = ri := by omega
      have g14 : ¬ q + 1 + 1 = ri := by omega
      have g15 : ¬ q + 1 + 1 + 1 = ri := by omega
      have g16 : ¬ ri = q + 1 + 1 := by omega
      have g17 : ¬ ri = q + 1 + 1 + 1 := by omega
      have g18 : ¬ q = q + 1 + 1 := by omega
      simp [loopAt, loopsOf, Tryz.f304, h0, hor, h51, hori, h52, h53, hi, hi', hwi, hxi, hr, hpt, hb1, hr1, dd, g1, g2, g3, g4, g5, g6, g7, g8, g9, g10, g11, g12, g13, g14, g15, g16, g17, g18, hne, hdd]
      exact ⟨acc' ++ 1 :: (escP xs[i].name ++ keyD d xs[i].v), by simp [hb1'], by omega, hp⟩)
    (by
      rintro s o q ⟨r, acc', h0, hor, hrq, h51, hori, hriq, hne, hr0, h52, h53, hdd, hp⟩
      simp at hp
      subst hp
      have g1 : ¬ r = q := by omega
      have g2 : ¬ q = r := by omega
      have g5 : ¬ r = q + 1 := by omega
      have g7 : ¬ q = 0 := by omega
      have g8 : ¬ 0 = q := by omega
      have g10 : ¬ 0 = r := by omega
      have g11 : ¬ r = 0 := by omega
      simp [loopAt, loopsOf, Tryz.f304, h0, hor, h51, hori, h52, h53, g1, g2, g5, g7, g8, g10, g11, hdd])
    xs.length 0 s o q (by omega) hI)
  simp only [loopAt, loopsOf, Tryz.f304] at lp
  obtain ⟨R, hR⟩ : ∃ R, R = ([] : Bytes) ++ [byteAt (v.k + 1) 0] ++ xs.flatMap F := ⟨_, rfl⟩
  obtain ⟨X, A, B, C, M, hl⟩ := lp 3 (by omega) R hR
  have hl' := fun s o q r a0 a1 a2 a3 a4 a5 a6 a7 a8 a9 a10 => hl s o q ⟨r, ([] : Bytes) ++ [byteAt (v.k + 1) 0], a0, a1, a2, a3, a4, a5, a6, a7, a8, a9, a10, by simpa using hR⟩
  clear hl lp
  have hlR : R.length + 1 ≤ 140737488355328 := by
    have h2 := congrArg List.length hR
    simp at h2 ha
    omega
  have hl1 : ([] : Bytes).length + 1 ≤ 140737488355328 := by simp at ha ⊢ <;> omega
  have hfin : ([] : Bytes) ++ byteAt (v.k + 1) 0 :: (xs.flatMap F ++ [0]) = R ++ [0] := by rw [hR]; simp
  rw [hfin]
  clear hfin hR ekey
  simp at hl'
  simp [e0, e1, e2, e3, e4, e5, hw, hu, hi, hl', hlR, hr1, hl1]
theorem putKey : ∀ (d : Nat) (v : Val) (acc : Bytes), okP d v = true → acc.length + (keyD d v).length + 4096 ≤ 70368744177664 → v.t.length < 1048576 → run E (.call 304 [.row 5 (acc.map byteT), xV v]) = some (.res [.row 5 ((acc ++ keyD d v).map byteT)] [none]) := by
  intro d
  induction d with
  | zero =>
    intro v acc h ha hv
    refine putKey_small_row 0 v acc h (by omega) hv ?_
    unfold okP at h
    by_cases h0 : v.k = 0; · omega
    by_cases h1 : v.k = 1; · omega
    by_cases h2 : v.k = 2; · omega
    by_cases h3 : v.k = 3; · omega
    simp [h0, h1, h2, h3] at h
  | succ d ih =>
    intro v acc h ha hv
    have hr := okP_range h
    by_cases h4 : v.k = 4
    · exact putKey_items_row d (fun v acc h1 h2 h3 => ih v acc h1 h2 h3) v acc h ha hv h4
    · by_cases h5 : v.k = 5
      · exact putKey_fields_row d (fun v acc h1 h2 h3 => ih v acc h1 h2 h3) v acc h ha hv h5
      · exact putKey_small_row (d + 1) v acc h (by omega) hv (by omega)
theorem putKeyNil (d : Nat) (v : Val) (h : okP d v = true) (hv : v.t.length < 1048576) : run E (.call 304 [.nil, xV v]) = some (.res [.row 5 ((keyD d v).map byteT)] [some .nil]) := by
  have hr := okP_range h
  have hl := keyD_len d v h
  cases d with
  | zero =>
    refine putKey_small_nil 0 v h (by simp) hv ?_
    unfold okP at h
    by_cases h0 : v.k = 0; · omega
    by_cases h1 : v.k = 1; · omega
    by_cases h2 : v.k = 2; · omega
    by_cases h3 : v.k = 3; · omega
    simp [h0, h1, h2, h3] at h
  | succ d =>
    by_cases h4 : v.k = 4
    · exact putKey_items_nil d (fun v acc h1 h2 h3 => putKey d v acc h1 h2 h3) v h (by simp; omega) hv h4
    · by_cases h5 : v.k = 5
      · exact putKey_fields_nil d (fun v acc h1 h2 h3 => putKey d v acc h1 h2 h3) v h (by simp; omega) hv h5
      · exact putKey_small_nil (d + 1) v h (by simp) hv (by omega)
theorem keyOf (d : Nat) (v : Val) (f : Bool) (h : okP d v = true) (hv : v.t.length < 1048576) : run E (.call 222 [xV v, xB f]) = some (.res [xS (if f then turnP (keyD d v) else keyD d v)] []) := by
  rw [run_call E 222 _ rfl Tryz.func222 rfl rfl rfl (by simp)]
  have h1 := putKeyNil d v h hv
  have hl := keyD_len d v h
  have h2 := fallen (keyD d v) f (by omega)
  cases f <;> simp at h2 <;> simp [h1, h2]
set_option maxHeartbeats 4000000
theorem byteAt_nat (n : Int) (j : Nat) (h0 : 0 ≤ n) : ((byteAt n j).toNat : Int) = n / 2 ^ (8 * j) % 256 := by
  rw [← byteAt_wrap]
  rw [Int.fdiv_eq_ediv_of_nonneg _ (Int.pow_nonneg (by omega))]
  simp [IntKind.wrap, IntKind.bits, IntKind.signed]
theorem byteAt_small {a b : Int} (ha : 0 ≤ a ∧ a < 256) (hb : 0 ≤ b ∧ b < 256) (h : byteAt a 0 = byteAt b 0) : a = b := by
  have h1 := byteAt_nat a 0 ha.1
  have h2 := byteAt_nat b 0 hb.1
  rw [h] at h1
  simp at h1 h2
  omega
theorem numP8_inj {a b : Int} (ha : 0 ≤ a ∧ a < 9223372036854775808) (hb : 0 ≤ b ∧ b < 9223372036854775808) (h : numP a 8 = numP b 8) : a = b := by
  simp only [numP, List.cons.injEq] at h
  obtain ⟨h7, h6, h5, h4, h3, h2, h1, h0, _⟩ := h
  have e : ∀ j, byteAt a j = byteAt b j → a / 2 ^ (8 * j) % 256 = b / 2 ^ (8 * j) % 256 := fun j h => by
    rw [← byteAt_nat a j ha.1, ← byteAt_nat b j hb.1, h]
  have q0 := e 0 h0
  have q1 := e 1 h1
  have q2 := e 2 h2
  have q3 := e 3 h3
  have q4 := e 4 h4
  have q5 := e 5 h5
  have q6 := e 6 h6
  have q7 := e 7 h7
  simp at q0 q1 q2 q3 q4 q5 q6 q7
  omega
theorem esc_inj : ∀ (t t' r r' : Bytes), escP t ++ r = escP t' ++ r' → t = t' ∧ r = r'
  | [], [], r, r', h => by simp [escP, escGo] at h; exact ⟨rfl, h⟩
  | [], b :: t', r, r', h => by
    exfalso
    unfold escP escGo at h
    by_cases hb : b = 0
    · simp [hb] at h
    · rw [if_neg hb] at h
      simp at h
      exact hb h.1.symm
  | b :: t, [], r, r', h => by
    exfalso
    unfold escP escGo at h
    by_cases hb : b = 0
    · simp [hb] at h
    · rw [if_neg hb] at h
      simp at h
      exact hb h.1
  | b :: t, b' :: t', r, r', h => by
    have step : ∀ (x : UInt8) (q : Bytes), escP (x :: q) = (if x = 0 then [x, 255] else [x]) ++ escP q := fun x q => by simp only [escP, escGo, List.append_assoc]
    rw [step, step] at h
    by_cases hb : b = 0
    · by_cases hb' : b' = 0
      · subst hb; subst hb'
        simp at h
        have := esc_inj t t' r r' h
        simp [this]
      · rw [if_pos hb, if_neg hb'] at h
        simp at h
        exact absurd (h.1.symm.trans hb) hb'
    · by_cases hb' : b' = 0
      · rw [if_neg hb, if_pos hb'] at h
        simp at h
        exact absurd (h.1.trans hb') hb
      · rw [if_neg hb, if_neg hb'] at h
        simp at h
        obtain ⟨rfl, h⟩ := h
        have := esc_inj t t' r r' h
        simp [this]
theorem key_cons {d : Nat} {v : Val} (h : okP d v = true) : ∃ r, keyD d v = byteAt (v.k + 1) 0 :: r := by
  have hr := okP_range h
  unfold keyD headK
  rw [numP_1]
  split
  · exact ⟨_, rfl⟩
  · split
    · exact ⟨_, rfl⟩
    · split
      · exact ⟨_, rfl⟩
      · split
        · exact ⟨_, rfl⟩
        · cases d with
          | zero =>
            exfalso
            unfold okP at h
            simp_all
          | succ d =>
            simp only
            split
            · exact ⟨_, by simp only [List.cons_append]; rfl⟩
            · exact ⟨_, by simp only [List.cons_append]; rfl⟩
theorem head_byte {d : Nat} {v : Val} (h : okP d v = true) : (byteAt (v.k + 1) 0).toNat = (v.k + 1).toNat := by
  have hr := okP_range h
  have := byteAt_nat (v.k + 1) 0 (by omega)
  simp at this
  omega
theorem flat_inj {α : Type} {f : α → Bytes} : ∀ {xs ys : List α} {r r' : Bytes}, (∀ x ∈ xs, ∀ y ∈ ys, ∀ r r', f x ++ r = f y ++ r' → x = y ∧ r = r') → (∀ x ∈ xs, ∃ b q, f x = b :: q ∧ b ≠ 0) → (∀ x ∈ ys, ∃ b q, f x = b :: q ∧ b ≠ 0) → xs.flatMap f ++ 0 :: r = ys.flatMap f ++ 0 :: r' → xs = ys ∧ r = r'
  | [], [], r, r', hi, hx, hy, h => by simp at h; exact ⟨rfl, h⟩
  | [], y :: ys, r, r', hi, hx, hy, h => by
    exfalso
    obtain ⟨b, q, e, hb⟩ := hy y (by simp)
    simp [e] at h
    exact hb h.1.symm
  | x :: xs, [], r, r', hi, hx, hy, h => by
    exfalso
    obtain ⟨b, q, e, hb⟩ := hx x (by simp)
    simp [e] at h
    exact hb h.1
  | x :: xs, y :: ys, r, r', hi, hx, hy, h => by
    simp only [List.flatMap_cons, List.append_assoc] at h
    obtain ⟨e1, h2⟩ := hi x (by simp) y (by simp) _ _ h
    obtain ⟨e3, h4⟩ := flat_inj (xs := xs) (ys := ys) (fun x hx y hy => hi x (by simp [hx]) y (by simp [hy])) (fun x h => hx x (by simp [h])) (fun x h => hy x (by simp [h])) h2
    exact ⟨by rw [e1, e3], h4⟩
theorem key_inj_step (d : Nat) (ih : ∀ e, d = e + 1 → ∀ (a b : Val) (r r' : Bytes), okP e a = true → okP e b = true → keyD e a ++ r = keyD e b ++ r' → a = b ∧ r = r') (a b : Val) (r r' : Bytes) (ha : okP d a = true) (hb : okP d b = true) (h : keyD d a ++ r = keyD d b ++ r') : a = b ∧ r = r' := by
  have ra := okP_range ha
  have rb := okP_range hb
  have hk : a.k = b.k := by
    obtain ⟨q, hq⟩ := key_cons ha
    obtain ⟨q', hq'⟩ := key_cons hb
    rw [hq, hq'] at h
    simp only [List.cons_append, List.cons.injEq] at h
    have := byteAt_small (a := a.k + 1) (b := b.k + 1) (by omega) (by omega) h.1
    omega
  have cases6 : a.k = 0 ∨ a.k = 1 ∨ a.k = 2 ∨ a.k = 3 ∨ a.k = 4 ∨ a.k = 5 := by omega
  unfold keyD headK at h
  rw [← hk] at h
  simp only [numP_1] at h
  rcases cases6 with k | k | k | k | k | k
  · rw [if_pos k, if_pos k] at h
    simp at h
    have na : a.n = 0 ∧ a.t = [] := by unfold okP at ha; simpa [k] using ha
    have nb : b.n = 0 ∧ b.t = [] := by unfold okP at hb; simpa [← hk, k] using hb
    exact ⟨Val.eq hk (by omega) (by rw [na.2, nb.2]), h⟩
  · have k0 : ¬ a.k = 0 := by omega
    rw [if_neg k0, if_pos k, if_neg k0, if_pos k] at h
    simp at h
    have na : (0 ≤ a.n ∧ a.n ≤ 1) ∧ a.t = [] := by unfold okP at ha; simpa [k] using ha
    have nb : (0 ≤ b.n ∧ b.n ≤ 1) ∧ b.t = [] := by unfold okP at hb; simpa [← hk, k] using hb
    have := byteAt_small (a := a.n) (b := b.n) (by omega) (by omega) h.1
    exact ⟨Val.eq hk this (by rw [na.2, nb.2]), h.2⟩
  · have k0 : ¬ a.k = 0 := by omega
    have k1 : ¬ a.k = 1 := by omega
    rw [if_neg k0, if_neg k1, if_pos k, if_neg k0, if_neg k1, if_pos k] at h
    simp only [List.cons_append, List.cons.injEq, true_and, List.nil_append] at h
    have l1 := numP_len (a.n + 4611686018427387904) 8
    have l2 := numP_len (b.n + 4611686018427387904) 8
    obtain ⟨h1, h2⟩ := List.append_inj h (by omega)
    have na : a.t = [] := okP_small ha (by omega) (by omega) (by omega)
    have nb : b.t = [] := okP_small hb (by omega) (by omega) (by omega)
    have := numP8_inj (by omega) (by omega) h1
    exact ⟨Val.eq hk (by omega) (by rw [na, nb]), h2⟩
  · have k0 : ¬ a.k = 0 := by omega
    have k1 : ¬ a.k = 1 := by omega
    have k2 : ¬ a.k = 2 := by omega
    rw [if_neg k0, if_neg k1, if_neg k2, if_pos k, if_neg k0, if_neg k1, if_neg k2, if_pos k] at h
    simp only [List.cons_append, List.cons.injEq, true_and, List.nil_append] at h
    obtain ⟨h1, h2⟩ := esc_inj _ _ _ _ h
    have na : a.n = 0 := by unfold okP at ha; simp [k] at ha; exact ha.1
    have nb : b.n = 0 := by unfold okP at hb; simp [← hk, k] at hb; exact hb.1
    exact ⟨Val.eq hk (by omega) h1, h2⟩
  · have k0 : ¬ a.k = 0 := by omega
    have k1 : ¬ a.k = 1 := by omega
    have k2 : ¬ a.k = 2 := by omega
    have k3 : ¬ a.k = 3 := by omega
    obtain ⟨e, xs, hd, na, hia, hxs⟩ := okP_list ha k
    obtain ⟨e', ys, hd', nb, hib, hys⟩ := okP_list hb (hk ▸ k)
    subst hd
    obtain rfl : e = e' := by omega
    rw [if_neg k0, if_neg k1, if_neg k2, if_neg k3, if_neg k0, if_neg k1, if_neg k2, if_neg k3] at h
    simp only [if_pos k, itemsL, hia, hib, Option.getD_some] at h
    simp only [List.cons_append, List.cons.injEq, true_and, List.nil_append, List.append_assoc] at h
    have hz : ∀ (zs : List Val), (∀ x ∈ zs, okP e x = true) → ∀ x ∈ zs, ∃ b q, keyD e x = b :: q ∧ b ≠ 0 := by
      intro zs hz x hx
      obtain ⟨q, hq⟩ := key_cons (hz x hx)
      refine ⟨_, q, hq, fun hb => ?_⟩
      have := head_byte (hz x hx)
      have := okP_range (hz x hx)
      rw [hb] at *
      simp at *
      omega
    obtain ⟨h1, h2⟩ := flat_inj (fun x hx y hy r r' hr => ih e rfl x y r r' (hxs x hx) (hys y hy) hr) (hz xs hxs) (hz ys hys) h
    subst h1
    exact ⟨Val.eq hk (by omega) (items_inj hia hib), h2⟩
  · have k0 : ¬ a.k = 0 := by omega
    have k1 : ¬ a.k = 1 := by omega
    have k2 : ¬ a.k = 2 := by omega
    have k3 : ¬ a.k = 3 := by omega
    have k4 : ¬ a.k = 4 := by omega
    obtain ⟨e, xs, hd, na, hia, _, hxs⟩ := okP_doc ha k
    obtain ⟨e', ys, hd', nb, hib, _, hys⟩ := okP_doc hb (hk ▸ k)
    subst hd
    obtain rfl : e = e' := by omega
    rw [if_neg k0, if_neg k1, if_neg k2, if_neg k3, if_neg k0, if_neg k1, if_neg k2, if_neg k3] at h
    simp only [if_neg k4, fieldsL, hia, hib, Option.getD_some] at h
    simp only [List.cons_append, List.cons.injEq, true_and, List.nil_append, List.append_assoc] at h
    have hz : ∀ (zs : List Fld), ∀ x ∈ zs, ∃ b q, (1 :: (escP x.name ++ keyD e x.v)) = b :: q ∧ b ≠ (0 : UInt8) := by
      intro zs x hx
      exact ⟨_, _, rfl, by decide⟩
    obtain ⟨h1, h2⟩ := flat_inj (f := fun f : Fld => 1 :: (escP f.name ++ keyD e f.v)) (fun x hx y hy r r' hr => by
      simp only [List.cons_append, List.cons.injEq, true_and, List.append_assoc] at hr
      obtain ⟨n1, hr⟩ := esc_inj _ _ _ _ hr
      obtain ⟨v1, hr⟩ := ih e rfl x.v y.v r r' (hxs x hx).2 (hys y hy).2 hr
      refine ⟨?_, hr⟩
      cases x; cases y
      simp at n1 v1
      rw [n1, v1]) (hz xs) (hz ys) h
    subst h1
    exact ⟨Val.eq hk (by omega) (fields_inj hia hib), h2⟩
/-- A key tells its value, whatever stands behind it. -/
theorem key_inj : ∀ (d : Nat) (a b : Val) (r r' : Bytes), okP d a = true → okP d b = true → keyD d a ++ r = keyD d b ++ r' → a = b ∧ r = r' := by
  intro d
  induction d with
  | zero =>
    intro a b r r' ha hb h
    exact key_inj_step 0 (fun e he => by omega) a b r r' ha hb h
  | succ d ih =>
    intro a b r r' ha hb h
    exact key_inj_step (d + 1) (fun e he => by
      have : e = d := by omega
      subst this
      exact ih) a b r r' ha hb h
set_option maxHeartbeats 16000000
structure Ivl where
  low : Bytes
  high : Bytes
  opn : Bool
  deriving DecidableEq, Inhabited
abbrev ivlT (i : Ivl) : T := .agg [.str i.low, .str i.high, .bool i.opn]
abbrev ivlX (i : Ivl) : X := .agg [.t (.str i.low), .t (.str i.high), .t (.bool i.opn)]
/-- The least text behind all that begin with t, seen from its first n bytes. -/
def behindN (t : Bytes) : Nat → Option Bytes
  | 0 => none
  | n + 1 => match t[n]? with
    | some b => if b < 255 then some (t.take n ++ [b + 1]) else behindN t n
    | none => none
def behindP (t : Bytes) : Option Bytes := behindN t t.length
def beginP (t : Bytes) : Ivl := match behindP t with
  | some h => ⟨t, h, false⟩
  | none => ⟨t, [], true⟩
def minS (x y : Bytes) : Bytes := if (Op.bytesLess x y || x == y) = true then x else y
def maxS (x y : Bytes) : Bytes := if (!Op.bytesLess x y) = true then x else y
def meetP (a b : Ivl) : Ivl :=
  ⟨maxS a.low b.low, if a.opn && b.opn then [] else if a.opn then b.high else if b.opn then a.high else minS a.high b.high, a.opn && b.opn⟩
end Go.Rd
namespace Go.Rd
open Go.Ev Go.Proofs Go.Pu
set_option linter.unusedSimpArgs false
set_option linter.unusedVariables false
set_option maxRecDepth 100000
/-- A key lies in an interval. -/
def hasI (i : Ivl) (k : Bytes) : Bool := !Op.bytesLess k i.low && (i.opn || Op.bytesLess k i.high)
structure Ent where
  key : Bytes
  id : Int
  deriving DecidableEq, Inhabited
structure Pg where
  num : Int
  ents : List Ent
  deriving DecidableEq, Inhabited
structure Tr where
  pages : List Pg
  next : Int
  deriving DecidableEq, Inhabited
def entLt (a b : Ent) : Bool := Op.bytesLess a.key b.key || (a.key == b.key && decide (a.id < b.id))
def entOK (e : Ent) : Bool := decide (e.key.length ≤ 2000) && in1 0 9999 e.id
theorem entLt_trans {a b c : Ent} (h : entLt a b = true) (k : entLt b c = true) : entLt a c = true := by
  unfold entLt at *
  simp only [Bool.or_eq_true, Bool.and_eq_true, beq_iff_eq, decide_eq_true_eq] at *
  rcases h with h | h <;> rcases k with k | k
  · exact .inl (bytesLess_trans h k)
  · rw [← k.1]; exact .inl h
  · rw [h.1]; exact .inl k
  · exact .inr ⟨h.1.trans k.1, by omega⟩
def aheadO : Option Ent → Ent → Bool
  | none, _ => true
  | some x, e => entLt x e
/-- Entries are right, and rise. -/
def entsGo : Option Ent → List Ent → Bool
  | _, [] => true
  | l, e :: r => entOK e && aheadO l e && entsGo (some e) r
def lastOf : Option Ent → List Ent → Option Ent
  | l, [] => l
  | _, e :: r => lastOf (some e) r
theorem entsGo_append : ∀ (l : Option Ent) (a b : List Ent), entsGo l (a ++ b) = (entsGo l a && entsGo (lastOf l a) b)
  | l, [], b => by simp [entsGo, lastOf]
  | l, e :: r, b => by
    rw [List.cons_append, entsGo, entsGo, lastOf, entsGo_append (some e) r b]
    simp only [Bool.and_assoc]
def pageFine (many : Nat) (next : Int) (seen : List Int) (p : Pg) : Bool := in1 1 (next - 1) p.num && decide (p.ents.length ≤ 4) && !(p.ents.isEmpty && decide (1 < many)) && !seen.contains p.num
def numsGo (many : Nat) (next : Int) : List Int → List Pg → Bool
  | _, [] => true
  | seen, p :: r => pageFine many next seen p && numsGo many next (seen ++ [p.num]) r
def pagesGo (many : Nat) (next : Int) : List Int → Option Ent → List Pg → Bool
  | _, _, [] => true
  | seen, l, p :: r => pageFine many next seen p && entsGo l p.ents && pagesGo many next (seen ++ [p.num]) (lastOf l p.ents) r
def allE (t : Tr) : List Ent := t.pages.flatMap Pg.ents
theorem pagesGo_eq (many : Nat) (next : Int) : ∀ (seen : List Int) (l : Option Ent) (ps : List Pg), pagesGo many next seen l ps = (numsGo many next seen ps && entsGo l (ps.flatMap Pg.ents))
  | _, _, [] => by simp [pagesGo, numsGo, entsGo]
  | seen, l, p :: r => by
    rw [pagesGo, numsGo, List.flatMap_cons, entsGo_append, pagesGo_eq many next _ _ r]
    generalize pageFine many next seen p = a
    generalize entsGo l p.ents = b
    generalize numsGo many next (seen ++ [p.num]) r = c
    cases a <;> cases b <;> cases c <;> rfl
def treeOK (t : Tr) : Bool := in1 1 60 t.pages.length && in1 2 100000 t.next && (numsGo t.pages.length t.next [] t.pages && entsGo none (allE t))
theorem treeOK_pages (t : Tr) : treeOK t = (in1 1 60 t.pages.length && in1 2 100000 t.next && pagesGo t.pages.length t.next [] none t.pages) := by
  rw [pagesGo_eq]; rfl
theorem ents_behind : ∀ {x : Ent} {a : List Ent}, entsGo (some x) a = true → ∀ e ∈ a, entLt x e = true
  | _, [], _ => by simp
  | x, y :: r, h => by
    rw [entsGo] at h
    simp only [Bool.and_eq_true] at h
    intro e he
    rcases List.mem_cons.1 he with rfl | he
    · exact h.1.2
    · exact entLt_trans h.1.2 (ents_behind h.2 e he)
theorem ents_rise : ∀ {l : Option Ent} {a : List Ent}, entsGo l a = true → a.Pairwise (fun x y => entLt x y = true)
  | _, [], _ => by simp
  | l, x :: r, h => by
    rw [entsGo] at h
    simp only [Bool.and_eq_true] at h
    rw [List.pairwise_cons]
    exact ⟨ents_behind h.2, ents_rise h.2⟩
/-- Does a page begin with an entry or ahead of it? -/
def begins (e : Ent) (p : Pg) : Bool := match p.ents with
  | [] => false
  | f :: _ => !entLt e f
def placeGo (e : Ent) : Nat → Nat → List Pg → Nat
  | _, k, [] => k
  | i, k, p :: r => placeGo e (i + 1) (if begins e p then i else k) r
def placeP (e : Ent) (ps : List Pg) : Nat := placeGo e 0 0 ps
theorem place_one (e : Ent) (p : Pg) (r : List Pg) : placeP e (p :: r) = placeGo e 1 0 r := by
  simp [placeP, placeGo]
/-- Where it is: at the start, or at a page that begins with it or ahead of it. -/
theorem place_at (e : Ent) : ∀ (r pre : List Pg) (k : Nat), (k = 0 ∨ ∃ p, (pre ++ r)[k]? = some p ∧ begins e p = true) → k ≤ pre.length →
    (placeGo e pre.length k r = 0 ∨ ∃ p, (pre ++ r)[placeGo e pre.length k r]? = some p ∧ begins e p = true) ∧ (placeGo e pre.length k r < pre.length + r.length ∨ placeGo e pre.length k r = k)
  | [], pre, k, h, hk => by simp [placeGo]; simpa using h
  | p :: r, pre, k, h, hk => by
    have ih := place_at e r (pre ++ [p]) (if begins e p then pre.length else k) (by
      by_cases hb : begins e p = true
      · rw [if_pos hb]
        exact .inr ⟨p, by simp, hb⟩
      · rw [if_neg hb]
        simpa using h) (by split <;> simp <;> omega)
    simp only [List.length_append, List.length_singleton, List.append_assoc, List.singleton_append] at ih
    rw [placeGo]
    refine ⟨ih.1, ?_⟩
    rcases ih.2 with h2 | h2
    · left; simp; omega
    · by_cases hb : begins e p = true
      · rw [if_pos hb] at h2 ⊢
        left; rw [h2]; simp
      · rw [if_neg hb] at h2 ⊢
        right; exact h2
/-- Does a page begin behind an interval? -/
def farP (i : Ivl) (p : Pg) : Bool := match p.ents with
  | [] => false
  | f :: _ => !Op.bytesLess f.key i.high
/-- The entries of an interval, page by page; no further than the page that begins behind it. -/
def rangeGo (i : Ivl) (k0 : Nat) : Nat → List Pg → List Ent
  | _, [] => []
  | k, p :: r => if k0 < k ∧ i.opn = false ∧ farP i p = true then [] else p.ents.filter (fun e => hasI i e.key) ++ rangeGo i k0 (k + 1) r
def rangeP (i : Ivl) (ps : List Pg) : List Ent := rangeGo i (placeP ⟨i.low, -1⟩ ps) (placeP ⟨i.low, -1⟩ ps) (ps.drop (placeP ⟨i.low, -1⟩ ps))
end Go.Rd
namespace Go.Rd
open Go.Ev Go.Proofs Go.Pu
set_option linter.unusedSimpArgs false
set_option linter.unusedVariables false
set_option maxRecDepth 100000
set_option maxHeartbeats 16000000
structure Ix where
  dfn : Dfn
  tree : Tr
abbrev entT (e : Ent) : T := .agg [.str e.key, .int .i64 e.id]
abbrev entX (e : Ent) : X := .agg [.t (.str e.key), .t (.int .i64 e.id)]
abbrev pgT (p : Pg) : T := .agg [.int .i64 p.num, .list (p.ents.map entT)]
abbrev treeT (t : Tr) : T := .agg [.list (t.pages.map pgT), .int .i64 t.next]
abbrev ixT (x : Ix) : T := .agg [.str x.dfn.name, .list (x.dfn.parts.map prtT), .list (x.tree.pages.map pgT), .int .i64 x.tree.next]
def Pg.Wd (p : Pg) : Prop := W p.ents.length ∧ ∀ e ∈ p.ents, W e.key.length
def Tr.Wd (t : Tr) : Prop := W t.pages.length ∧ ∀ p ∈ t.pages, p.Wd
structure Ix.Wd (x : Ix) : Prop where
  dfn : x.dfn.Wd
  tree : x.tree.Wd
def Pg.Sm (p : Pg) : Prop := p.ents.length < 4294967296 ∧ ∀ e ∈ p.ents, e.key.length < 4294967296
def Tr.Sm (t : Tr) : Prop := t.pages.length < 4294967296 ∧ ∀ p ∈ t.pages, p.Sm
structure Ix.Sm (x : Ix) : Prop where
  dfn : x.dfn.Sm
  tree : x.tree.Sm
def szEnt (e : Ent) : Int → Int := thenSz (szB e.key.length) (fun k => k)
def szPg (p : Pg) : Int → Int := thenSz (lstSz szEnt p.ents) (fun k => k)
def szTr (t : Tr) : Int → Int := thenSz (lstSz szPg t.pages) (fun k => k)
def szIx (x : Ix) : Int → Int := thenSz (szDfn x.dfn) (thenSz (szTr x.tree) (fun k => k))
theorem szEnt_le (d : Ent) (k : Int) (h : 0 ≤ k) : szEnt d k ≤ k := thenSz_le h (fun k hk => szB_le hk) (fun k _ => Int.le_refl k)
theorem szPg_le (d : Pg) (k : Int) (h : 0 ≤ k) : szPg d k ≤ k := thenSz_le h (fun k hk => lstSz_le hk (fun x _ k hk => szEnt_le x k hk)) (fun k _ => Int.le_refl k)
theorem szTr_le (d : Tr) (k : Int) (h : 0 ≤ k) : szTr d k ≤ k := thenSz_le h (fun k hk => lstSz_le hk (fun x _ k hk => szPg_le x k hk)) (fun k _ => Int.le_refl k)
theorem szIx_le (d : Ix) (k : Int) (h : 0 ≤ k) : szIx d k ≤ k := thenSz_le h (fun k hk => szDfn_le _ k hk) (fun k hk => thenSz_le hk (fun k hk => szTr_le _ k hk) (fun k _ => Int.le_refl k))
theorem szEntry (x : Ent) (h : W x.key.length) (l : Int) (h0 : 0 ≤ l) (hm : l ≤ 1048576) : run E (.call 337 [.t (entT x), xI l]) = some (.res [xI (szEnt x l)] []) := by
  rw [run_call E 337 _ rfl Tryz.func337 rfl rfl rfl (by simp)]
  have hw := wrap_sz h h0 hm
  unfold szEnt thenSz
  by_cases hb : l - (x.key.length : Int) < 0
  · have e : szB x.key.length l = -1 := by simp [szB, hb]
    simp [hw, hb, e]
  · have e : szB x.key.length l = l - x.key.length := by simp [szB, hb]
    simp [hw, hb, e]
theorem sz_265 (xs : List Ent) (f : Ent → Int → Int) (hl : xs.length < 9223372036854775807) (hf : ∀ x ∈ xs, ∀ l, 0 ≤ l → l ≤ 1048576 → run E (.call 337 [.t (entT x), xI l]) = some (.res [xI (f x l)] [])) (hle : ∀ x ∈ xs, ∀ k, 0 ≤ k → f x k ≤ k) (l : Int) (h0 : 0 ≤ l) (hm : l ≤ 1048576) :
    run E (.call 296 [.t (.list (xs.map entT)), xI l]) = some (.res [xI (lstSz f xs l)] []) := by
  rw [run_call E 296 _ rfl Tryz.func296 rfl rfl rfl (by simp)]
  have hw : IntKind.i64.wrap (l - (xs.length : Int)) = l - xs.length := wrap_of (by omega) (by omega)
  unfold lstSz szB
  by_cases hb : l - (xs.length : Int) < 0
  · simp [hw, hb]
  · have hb0 : ¬ l < (xs.length : Int) := by omega
    have lp := fun (r : Int) (hr : r = goSz f xs (l - xs.length)) => sk (fun s o q hI => loop_for (c := loopAt Tryz.f296 0) (N := 27)
      (fun i s o q => ∃ k : Int, s 0 = .t (.list (xs.map entT)) ∧ s 1 = .t (.int .i64 k) ∧ s 5 = .t (.int .i64 i) ∧ 0 ≤ k ∧ k ≤ 1048576 ∧ r = goSz f (xs.drop i) k)
      (fun e s' o' q' => e = (if r < 0 then .ret else .exit 0) ∧ (r < 0 → s' 4 = .t (.int .i64 r)) ∧ (0 ≤ r → s' 1 = .t (.int .i64 r))) xs.length
      (by
        rintro i s o q hi ⟨k, g0, g1, g5, hk0, hkm, hp⟩
        have hi' : (i : Int) < (xs.length : Int) := by omega
        have hwi := wrap_succ (n := i) (by omega)
        have hxi : xs[i]? = some xs[i] := List.getElem?_eq_getElem hi
        have hx := hf _ (List.getElem_mem hi) k hk0 hkm
        have hxl := hle _ (List.getElem_mem hi) k hk0
        rw [List.drop_eq_getElem_cons hi, goSz] at hp
        by_cases hn : f xs[i] k < 0
        · simp [hn] at hp
          simp [loopAt, loopsOf, Tryz.f296, g0, g1, g5, hi', hxi, hwi, hx, hn, hp]
        · simp [hn] at hp
          simp [loopAt, loopsOf, Tryz.f296, g0, g1, g5, hi', hxi, hwi, hx, hn]
          exact ⟨by omega, by omega, hp⟩)
      (by
        rintro s o q ⟨k, g0, g1, g5, hk0, hkm, hp⟩
        simp [goSz] at hp
        have hn : ¬ r < 0 := by omega
        have hn' : 0 ≤ r := by omega
        have hk1 : ¬ k < 0 := by omega
        simp [loopAt, loopsOf, Tryz.f296, g0, g1, g5, hp, hk1]
        try omega)
      xs.length 0 s o q (by omega) hI)
    simp only [loopAt, loopsOf, Tryz.f296] at lp
    obtain ⟨r, hr⟩ : ∃ r, r = goSz f xs (l - xs.length) := ⟨_, rfl⟩
    obtain ⟨X, A, B, C, hx⟩ := lp r hr
    have hx' := fun s o q a0 a1 a5 => hx s o q ⟨l - xs.length, a0, a1, a5, by omega, by omega, by simpa using hr⟩
    clear hx
    by_cases hn : r < 0
    · have hn' : ¬ 0 ≤ r := by omega
      simp [hn, hn'] at hx'
      simp [hw, hb, hb0, hx', hn, ← hr]
    · have hn' : 0 ≤ r := by omega
      simp [hn, hn'] at hx'
      simp [hw, hb, hb0, hx', hn, ← hr]
theorem szPage (p : Pg) (h : p.Wd) (l : Int) (h0 : 0 ≤ l) (hm : l ≤ 1048576) : run E (.call 212 [.t (pgT p), xI l]) = some (.res [xI (szPg p l)] []) := by
  rw [run_call E 212 _ rfl Tryz.func212 rfl rfl rfl (by simp)]
  have hs := sz_265 p.ents szEnt (by have := h.1; unfold W at this; omega) (fun x hx l h0 hm => szEntry x (h.2 x hx) l h0 hm) (fun x _ k hk => szEnt_le x k hk) l h0 hm
  unfold szPg thenSz
  by_cases hn : lstSz szEnt p.ents l < 0 <;> simp [hs, hn]
theorem sz_178 (xs : List Pg) (f : Pg → Int → Int) (hl : xs.length < 9223372036854775807) (hf : ∀ x ∈ xs, ∀ l, 0 ≤ l → l ≤ 1048576 → run E (.call 212 [.t (pgT x), xI l]) = some (.res [xI (f x l)] [])) (hle : ∀ x ∈ xs, ∀ k, 0 ≤ k → f x k ≤ k) (l : Int) (h0 : 0 ≤ l) (hm : l ≤ 1048576) :
    run E (.call 136 [.t (.list (xs.map pgT)), xI l]) = some (.res [xI (lstSz f xs l)] []) := by
  rw [run_call E 136 _ rfl Tryz.func136 rfl rfl rfl (by simp)]
  have hw : IntKind.i64.wrap (l - (xs.length : Int)) = l - xs.length := wrap_of (by omega) (by omega)
  unfold lstSz szB
  by_cases hb : l - (xs.length : Int) < 0
  · simp [hw, hb]
  · have hb0 : ¬ l < (xs.length : Int) := by omega
    have lp := fun (r : Int) (hr : r = goSz f xs (l - xs.length)) => sk (fun s o q hI => loop_for (c := loopAt Tryz.f136 0) (N := 27)
      (fun i s o q => ∃ k : Int, s 0 = .t (.list (xs.map pgT)) ∧ s 1 = .t (.int .i64 k) ∧ s 5 = .t (.int .i64 i) ∧ 0 ≤ k ∧ k ≤ 1048576 ∧ r = goSz f (xs.drop i) k)
      (fun e s' o' q' => e = (if r < 0 then .ret else .exit 0) ∧ (r < 0 → s' 4 = .t (.int .i64 r)) ∧ (0 ≤ r → s' 1 = .t (.int .i64 r))) xs.length
      (by
        rintro i s o q hi ⟨k, g0, g1, g5, hk0, hkm, hp⟩
        have hi' : (i : Int) < (xs.length : Int) := by omega
        have hwi := wrap_succ (n := i) (by omega)
        have hxi : xs[i]? = some xs[i] := List.getElem?_eq_getElem hi
        have hx := hf _ (List.getElem_mem hi) k hk0 hkm
        have hxl := hle _ (List.getElem_mem hi) k hk0
        rw [List.drop_eq_getElem_cons hi, goSz] at hp
        by_cases hn : f xs[i] k < 0
        · simp [hn] at hp
          simp [loopAt, loopsOf, Tryz.f136, g0, g1, g5, hi', hxi, hwi, hx, hn, hp]
        · simp [hn] at hp
          simp [loopAt, loopsOf, Tryz.f136, g0, g1, g5, hi', hxi, hwi, hx, hn]
          exact ⟨by omega, by omega, hp⟩)
      (by
        rintro s o q ⟨k, g0, g1, g5, hk0, hkm, hp⟩
        simp [goSz] at hp
        have hn : ¬ r < 0 := by omega
        have hn' : 0 ≤ r := by omega
        have hk1 : ¬ k < 0 := by omega
        simp [loopAt, loopsOf, Tryz.f136, g0, g1, g5, hp, hk1]
        try omega)
      xs.length 0 s o q (by omega) hI)
    simp only [loopAt, loopsOf, Tryz.f136] at lp
    obtain ⟨r, hr⟩ : ∃ r, r = goSz f xs (l - xs.length) := ⟨_, rfl⟩
    obtain ⟨X, A, B, C, hx⟩ := lp r hr
    have hx' := fun s o q a0 a1 a5 => hx s o q ⟨l - xs.length, a0, a1, a5, by omega, by omega, by simpa using hr⟩
    clear hx
    by_cases hn : r < 0
    · have hn' : ¬ 0 ≤ r := by omega
      simp [hn, hn'] at hx'
      simp [hw, hb, hb0, hx', hn, ← hr]
    · have hn' : 0 ≤ r := by omega
      simp [hn, hn'] at hx'
      simp [hw, hb, hb0, hx', hn, ← hr]
theorem szTree (t : Tr) (h : t.Wd) (l : Int) (h0 : 0 ≤ l) (hm : l ≤ 1048576) : run E (.call 67 [.t (treeT t), xI l]) = some (.res [xI (szTr t l)] []) := by
  rw [run_call E 67 _ rfl Tryz.func67 rfl rfl rfl (by simp)]
  have hs := sz_178 t.pages szPg (by have := h.1; unfold W at this; omega) (fun x hx l h0 hm => szPage x (h.2 x hx) l h0 hm) (fun x _ k hk => szPg_le x k hk) l h0 hm
  unfold szTr thenSz
  by_cases hn : lstSz szPg t.pages l < 0 <;> simp [hs, hn]
theorem szIndex (x : Ix) (h : x.Wd) (l : Int) (h0 : 0 ≤ l) (hm : l ≤ 1048576) : run E (.call 21 [.t (ixT x), xI l]) = some (.res [xI (szIx x l)] []) := by
  rw [run_call E 21 _ rfl Tryz.func21 rfl rfl rfl (by simp)]
  have h1 := szDef x.dfn h.dfn l h0 hm
  have l1 := szDfn_le x.dfn l h0
  unfold szIx thenSz
  by_cases n1 : szDfn x.dfn l < 0
  · simp [h1, n1]
  · have h2 := szTree x.tree h.tree (szDfn x.dfn l) (by omega) (by omega)
    by_cases n2 : szTr x.tree (szDfn x.dfn l) < 0 <;> simp [h1, n1, h2, n2]
theorem szPg_sm {p : Pg} {k : Int} (h0 : 0 ≤ k) (hm : k ≤ 1048576) (h : ¬ szPg p k < 0) : p.Sm := by
  obtain ⟨h1, h2⟩ := thenSz_neg h
  obtain ⟨b1, b2⟩ := lstSz_all (P := fun e : Ent => e.key.length < 4294967296) (m := 1048576) h0 hm (fun x _ k hk => szEnt_le x k hk) (fun x _ k hk hm h => by have := szB_bound (thenSz_neg h).1; omega) h1
  exact ⟨by omega, b2⟩
theorem szTr_sm {p : Tr} {k : Int} (h0 : 0 ≤ k) (hm : k ≤ 1048576) (h : ¬ szTr p k < 0) : p.Sm := by
  obtain ⟨h1, h2⟩ := thenSz_neg h
  obtain ⟨b1, b2⟩ := lstSz_all (P := Pg.Sm) (m := 1048576) h0 hm (fun x _ k hk => szPg_le x k hk) (fun x _ k hk hm h => szPg_sm hk hm h) h1
  exact ⟨by omega, b2⟩
theorem szIx_sm {x : Ix} {k : Int} (h0 : 0 ≤ k) (hm : k ≤ 1048576) (h : ¬ szIx x k < 0) : x.Sm := by
  obtain ⟨h1, h2⟩ := thenSz_neg h
  have l1 := szDfn_le x.dfn k h0
  exact ⟨szDfn_sm h0 hm h1, szTr_sm (by omega) (by omega) (thenSz_neg h2).1⟩
/-! Copies. -/
theorem toEntry (e : Ent) : run E (.call 338 [.t (entT e)]) = some (.res [entX e] []) := by
  rw [run_call E 338 _ rfl Tryz.func338 rfl rfl rfl (by simp)]
  simp
theorem to_270 (xs : List Ent) (hl : xs.length < 4294967296) (hf : ∀ x ∈ xs, run E (.call 338 [.t (entT x)]) = some (.res [entX x] [])) :
    run E (.call 299 [.t (.list (xs.map entT))]) = some (.res [.row 132 (xs.map entT)] []) := by
  rw [run_call E 299 _ rfl Tryz.func299 rfl rfl rfl (by simp)]
  have lp := sk (fun s o q hI => loop_for (c := loopAt Tryz.f299 0) (N := 23)
    (fun i s o q => s 0 = .t (.list (xs.map entT)) ∧ s 3 = .row 0 ∧ s 4 = .t (.int .i64 i) ∧ 0 < q ∧ o 0 = .row 132 ((xs.map entT).take i ++ List.replicate (xs.length - i) (.agg [.str [], .int .i64 0])) true)
    (fun e s' o' q' => e = .exit 0 ∧ s' 3 = .row 0 ∧ o' 0 = .row 132 (xs.map entT) true) xs.length
    (by
      rintro i s o q hi ⟨g0, g3, g4, hq, ho⟩
      have hi' : (i : Int) < (xs.length : Int) := by omega
      have hwi := wrap_succ (n := i) (by omega)
      have hxi : xs[i]? = some xs[i] := List.getElem?_eq_getElem hi
      have hx := hf _ (List.getElem_mem hi)
      have hq0 : q ≠ 0 := by omega
      have h0q : 0 ≠ q := by omega
      have hget := mid_get (xs.map entT) (.agg [.str [], .int .i64 0]) i xs.length hi (by simp; omega)
      have hset := mid_set (xs.map entT) (.agg [.str [], .int .i64 0]) (entT xs[i]) i xs.length hi (by simp [hxi])
      simp [loopAt, loopsOf, Tryz.f299, g0, g3, g4, hi', hxi, hwi, hx, ho, hget, hset, hq0, h0q]
      try omega)
    (by
      rintro s o q ⟨g0, g3, g4, hq, ho⟩
      have hfull : (xs.map entT).take xs.length = xs.map entT := List.take_of_length_le (by simp)
      simp [hfull] at ho
      simp [loopAt, loopsOf, Tryz.f299, g0, g3, g4, ho])
    xs.length 0 s o q (by omega) hI)
  simp only [loopAt, loopsOf, Tryz.f299] at lp
  obtain ⟨X, A, B, C, hx⟩ := lp
  simp at hx
  have h1 : xs.length ≤ 140737488355328 := by omega
  have h2 : xs.length * 24 ≤ 140737488355328 := by omega
  simp [h1, h2, hx]
theorem toPage (p : Pg) (h : p.Sm) : run E (.call 217 [.t (pgT p)]) = some (.res [.agg [xI p.num, .row 132 (p.ents.map entT)]] []) := by
  rw [run_call E 217 _ rfl Tryz.func217 rfl rfl rfl (by simp)]
  simp [to_270 p.ents h.1 (fun x _ => toEntry x)]
theorem to_187 (xs : List Pg) (hl : xs.length < 4294967296) (hf : ∀ x ∈ xs, run E (.call 217 [.t (pgT x)]) = some (.res [.agg [xI x.num, .row 132 (x.ents.map entT)]] [])) :
    run E (.call 144 [.t (.list (xs.map pgT))]) = some (.res [.row 135 (xs.map pgT)] []) := by
  rw [run_call E 144 _ rfl Tryz.func144 rfl rfl rfl (by simp)]
  have lp := sk (fun s o q hI => loop_for (c := loopAt Tryz.f144 0) (N := 23)
    (fun i s o q => s 0 = .t (.list (xs.map pgT)) ∧ s 3 = .row 0 ∧ s 4 = .t (.int .i64 i) ∧ 0 < q ∧ o 0 = .row 135 ((xs.map pgT).take i ++ List.replicate (xs.length - i) (.agg [.int .i64 0, .list []])) true)
    (fun e s' o' q' => e = .exit 0 ∧ s' 3 = .row 0 ∧ o' 0 = .row 135 (xs.map pgT) true) xs.length
    (by
      rintro i s o q hi ⟨g0, g3, g4, hq, ho⟩
      have hi' : (i : Int) < (xs.length : Int) := by omega
      have hwi := wrap_succ (n := i) (by omega)
      have hxi : xs[i]? = some xs[i] := List.getElem?_eq_getElem hi
      have hx := hf _ (List.getElem_mem hi)
      have hq0 : q ≠ 0 := by omega
      have h0q : 0 ≠ q := by omega
      have hget := mid_get (xs.map pgT) (.agg [.int .i64 0, .list []]) i xs.length hi (by simp; omega)
      have hset := mid_set (xs.map pgT) (.agg [.int .i64 0, .list []]) (pgT xs[i]) i xs.length hi (by simp [hxi])
      simp [loopAt, loopsOf, Tryz.f144, g0, g3, g4, hi', hxi, hwi, hx, ho, hget, hset, hq0, h0q]
      try omega)
    (by
      rintro s o q ⟨g0, g3, g4, hq, ho⟩
      have hfull : (xs.map pgT).take xs.length = xs.map pgT := List.take_of_length_le (by simp)
      simp [hfull] at ho
      simp [loopAt, loopsOf, Tryz.f144, g0, g3, g4, ho])
    xs.length 0 s o q (by omega) hI)
  simp only [loopAt, loopsOf, Tryz.f144] at lp
  obtain ⟨X, A, B, C, hx⟩ := lp
  simp at hx
  have h1 : xs.length ≤ 140737488355328 := by omega
  have h2 : xs.length * 32 ≤ 140737488355328 := by omega
  simp [h1, h2, hx]
theorem toTree (t : Tr) (h : t.Sm) : run E (.call 74 [.t (treeT t)]) = some (.res [.agg [.row 135 (t.pages.map pgT), xI t.next]] []) := by
  rw [run_call E 74 _ rfl Tryz.func74 rfl rfl rfl (by simp)]
  simp [to_187 t.pages h.1 (fun x hx => toPage x (h.2 x hx))]
theorem toIndex (x : Ix) (h : x.Sm) : run E (.call 23 [.t (ixT x)]) = some (.res [.agg [xS x.dfn.name, .row 62 (x.dfn.parts.map prtT), .row 135 (x.tree.pages.map pgT), xI x.tree.next]] []) := by
  rw [run_call E 23 _ rfl Tryz.func23 rfl rfl rfl (by simp)]
  have h1 := toDef x.dfn h.dfn
  have h2 := toTree x.tree h.tree
  simp [h1, h2]
theorem eqEntry (e : Ent) : run E (.call 341 [.t (entT e), .t (entT e)]) = some (.res [xB true] []) := by
  rw [run_call E 341 _ rfl Tryz.func341 rfl rfl rfl (by simp)]
  simp
theorem eq_276 (xs : List Ent) (hl : xs.length < 9223372036854775807) (hf : ∀ x ∈ xs, run E (.call 341 [.t (entT x), .t (entT x)]) = some (.res [xB true] [])) :
    run E (.call 311 [.t (.list (xs.map entT)), .t (.list (xs.map entT))]) = some (.res [xB true] []) := by
  rw [run_call E 311 _ rfl Tryz.func311 rfl rfl rfl (by simp)]
  have d6 := d311_6
  simp [regionOf, findR, pick, Tryz.f311] at d6
  have dd := fun st => run_region_draw E st 6 _ d6
  clear d6
  have lp := sk (fun s o q hI => loop_for (c := loopAt Tryz.f311 0) (N := 27)
    (fun i s o q => s 0 = .t (.list (xs.map entT)) ∧ s 1 = .t (.list (xs.map entT)) ∧ s 5 = .t (.int .i64 i))
    (fun e s' o' q' => e = .exit 0) xs.length
    (by
      rintro i s o q hi ⟨g0, g1, g5⟩
      have hi' : (i : Int) < (xs.length : Int) := by omega
      have hwi := wrap_succ (n := i) (by omega)
      have hxi : xs[i]? = some xs[i] := List.getElem?_eq_getElem hi
      have hx := hf _ (List.getElem_mem hi)
      simp [loopAt, loopsOf, Tryz.f311, dd, g0, g1, g5, hi', hxi, hwi, hx])
    (by
      rintro s o q ⟨g0, g1, g5⟩
      simp [loopAt, loopsOf, Tryz.f311, g0, g1, g5])
    xs.length 0 s o q (by omega) hI)
  simp only [loopAt, loopsOf, Tryz.f311] at lp
  obtain ⟨X, A, B, C, hx⟩ := lp
  simp at hx
  simp [hx]
theorem eqPage (p : Pg) (h : p.Sm) : run E (.call 235 [.t (pgT p), .t (pgT p)]) = some (.res [xB true] []) := by
  rw [run_call E 235 _ rfl Tryz.func235 rfl rfl rfl (by simp)]
  have h1 := eq_276 p.ents (by have := h.1; omega) (fun x _ => eqEntry x)
  simp [h1]
theorem eq_201 (xs : List Pg) (hl : xs.length < 9223372036854775807) (hf : ∀ x ∈ xs, run E (.call 235 [.t (pgT x), .t (pgT x)]) = some (.res [xB true] [])) :
    run E (.call 154 [.t (.list (xs.map pgT)), .t (.list (xs.map pgT))]) = some (.res [xB true] []) := by
  rw [run_call E 154 _ rfl Tryz.func154 rfl rfl rfl (by simp)]
  have d6 := d154_6
  simp [regionOf, findR, pick, Tryz.f154] at d6
  have dd := fun st => run_region_draw E st 6 _ d6
  clear d6
  have lp := sk (fun s o q hI => loop_for (c := loopAt Tryz.f154 0) (N := 27)
    (fun i s o q => s 0 = .t (.list (xs.map pgT)) ∧ s 1 = .t (.list (xs.map pgT)) ∧ s 5 = .t (.int .i64 i))
    (fun e s' o' q' => e = .exit 0) xs.length
    (by
      rintro i s o q hi ⟨g0, g1, g5⟩
      have hi' : (i : Int) < (xs.length : Int) := by omega
      have hwi := wrap_succ (n := i) (by omega)
      have hxi : xs[i]? = some xs[i] := List.getElem?_eq_getElem hi
      have hx := hf _ (List.getElem_mem hi)
      simp [loopAt, loopsOf, Tryz.f154, dd, g0, g1, g5, hi', hxi, hwi, hx])
    (by
      rintro s o q ⟨g0, g1, g5⟩
      simp [loopAt, loopsOf, Tryz.f154, g0, g1, g5])
    xs.length 0 s o q (by omega) hI)
  simp only [loopAt, loopsOf, Tryz.f154] at lp
  obtain ⟨X, A, B, C, hx⟩ := lp
  simp at hx
  simp [hx]
theorem eqTree (t : Tr) (h : t.Sm) : run E (.call 83 [.t (treeT t), .t (treeT t)]) = some (.res [xB true] []) := by
  rw [run_call E 83 _ rfl Tryz.func83 rfl rfl rfl (by simp)]
  have h1 := eq_201 t.pages (by have := h.1; omega) (fun x hx => eqPage x (h.2 x hx))
  simp [h1]
theorem eqIndex (x : Ix) (h : x.Sm) : run E (.call 25 [.t (ixT x), .t (ixT x)]) = some (.res [xB true] []) := by
  rw [run_call E 25 _ rfl Tryz.func25 rfl rfl rfl (by simp)]
  have h1 := eqDef x.dfn h.dfn
  have h2 := eqTree x.tree h.tree
  simp [h1, h2]
set_option maxHeartbeats 4000000
end Go.Rd
namespace Go.Rd
open Go.Ev Go.Proofs Go.Pu
set_option linter.unusedSimpArgs false
set_option linter.unusedVariables false
structure Rd where
  coll : Bytes
  filter : List (List Trm)
structure Wr where
  coll : Bytes
  id : Int
  gone : Bool
  v : Val
structure Chg where
  w : Wr
  before : Val
  was : Bool
structure Dn where
  snap : Int
  at_ : Int
  reads : List Rd
  changes : List Chg
  inn : Bool
  out : Bool
structure Txn where
  session : Int
  snap : Int
  reads : List Rd
  writes : List Wr
structure Cmd where
  kind : Int
  session : Int
  coll : Bytes
  doc : Val
  q : Qry
  ups : List Trm
  d : Dfn
structure Sto where
  colls : List Col
  txns : List Txn
  done : List Dn
  clock : Int
abbrev rdT (r : Rd) : T := .agg [.str r.coll, .list (r.filter.map clsT)]
abbrev wrT (w : Wr) : T := .agg [.str w.coll, .int .i64 w.id, .bool w.gone, .int .i64 w.v.k, .int .i64 w.v.n, .str w.v.t]
abbrev chgT (c : Chg) : T := .agg [.str c.w.coll, .int .i64 c.w.id, .bool c.w.gone, .int .i64 c.w.v.k, .int .i64 c.w.v.n, .str c.w.v.t, .int .i64 c.before.k, .int .i64 c.before.n, .str c.before.t, .bool c.was]
abbrev dnT (d : Dn) : T := .agg [.int .i64 d.snap, .int .i64 d.at_, .list (d.reads.map rdT), .list (d.changes.map chgT), .bool d.inn, .bool d.out]
abbrev txnT (t : Txn) : T := .agg [.int .i64 t.session, .int .i64 t.snap, .list (t.reads.map rdT), .list (t.writes.map wrT)]
abbrev cmdT (c : Cmd) : T := .agg [.int .i64 c.kind, .int .i64 c.session, .str c.coll, .int .i64 c.doc.k, .int .i64 c.doc.n, .str c.doc.t, .list (c.q.filter.map clsT), .list (c.q.sort.map prtT), .int .i64 c.q.skip, .int .i64 c.q.limit, .list (c.q.keep.map strT), .str c.q.hint, .list (c.ups.map trmT), .str c.d.name, .list (c.d.parts.map prtT)]
abbrev stoT (s : Sto) : T := .agg [.list (s.colls.map colT), .list (s.txns.map txnT), .list (s.done.map dnT), .int .i64 s.clock]
end Go.Rd
namespace Go.Rd
open Go.Ev Go.Proofs Go.Pu
set_option linter.unusedSimpArgs false
set_option linter.unusedVariables false
set_option maxRecDepth 100000
set_option maxHeartbeats 4000000
set_option maxHeartbeats 16000000
def matchC (c : List Trm) (doc : Val) : Bool := c.all (fun t => matchT t doc)
def matchF (f : List (List Trm)) (doc : Val) : Bool := f.any (fun c => matchC c doc)
abbrev valC (v : Val) : List T := [.int .i64 v.k, .int .i64 v.n, .str v.t]
/-- All terms are right. -/
def clsFit (c : List Trm) : Prop := c.length < 4294967295 ∧ ∀ t ∈ c, okP 5 t.v = true ∧ opOK t.op t.v = true ∧ t.path.length < 4294967295
def filFit (f : List (List Trm)) : Prop := f.length < 4294967295 ∧ ∀ c ∈ f, clsFit c
def matchesOut (f : List (List Trm)) (doc : Val) : Bool × Int := if filterOK f && isDocP doc then (matchF f doc, 0) else (false, 1)
structure Rd.Sm (r : Rd) : Prop where
  coll : r.coll.length < 4294967296
  filter : filterSm r.filter
structure Wr.Sm (w : Wr) : Prop where
  coll : w.coll.length < 4294967296
  v : w.v.t.length < 4294967296
structure Chg.Sm (c : Chg) : Prop where
  w : c.w.Sm
  before : c.before.t.length < 4294967296
structure Dn.Sm (d : Dn) : Prop where
  reads : d.reads.length < 4294967296 ∧ ∀ r ∈ d.reads, r.Sm
  changes : d.changes.length < 4294967296 ∧ ∀ c ∈ d.changes, c.Sm
def readOK (r : Rd) : Bool := nameP r.coll && filterOK r.filter
def writeOK (w : Wr) : Bool := nameP w.coll && in1 0 19 w.id && verDoc w.id w.gone w.v
def chgOK (c : Chg) : Bool := writeOK c.w && verDoc c.w.id (!c.was) c.before
theorem inR (a b c : Int) : run E (.call 109 [xI a, xI b, xI c]) = some (.res [xB (in1 b c a)] []) := inRange a b c
def sameC (a b : Chg) : Bool := (a.w.coll == b.w.coll) && (a.w.id == b.w.id)
abbrev chgC (c : Chg) : List T := [.str c.w.coll, .int .i64 c.w.id, .bool c.w.gone, .int .i64 c.w.v.k, .int .i64 c.w.v.n, .str c.w.v.t, .int .i64 c.before.k, .int .i64 c.before.n, .str c.before.t, .bool c.was]
/-- No two are of one document. -/
def distGo : List Chg → List Chg → Bool
  | _, [] => true
  | s, c :: r => !s.any (sameC c) && distGo (s ++ [c]) r
def timesOK (d : Dn) : Bool := decide (0 ≤ d.snap) && in1 1 10000 d.at_ && decide (d.snap < d.at_)
def doneOK (d : Dn) : Bool := distGo [] d.changes && (timesOK d && decide (d.reads.length ≤ 20) && decide (d.changes.length ≤ 60) && d.reads.all readOK && d.changes.all chgOK)
set_option maxHeartbeats 8000000
theorem specEntry (e : Ent) (h : e.key.length < 4294967296) : run E (.call 213 [.t (entT e)]) = some (.res [xB (entOK e)] []) := by
  rw [run_call E 213 _ rfl Tryz.func213 rfl rfl rfl (by simp)]
  unfold entOK
  have h1 := l01In1 e.id 0 9999
  try simp at h1
  by_cases hk : e.key.length ≤ 2000
  · have hk' : (e.key.length : Int) ≤ 2000 := by omega
    simp [hk, hk', h1]
  · have hk' : ¬ (e.key.length : Int) ≤ 2000 := by omega
    simp [hk, hk']
theorem implEntry (e : Ent) (h : e.key.length < 4294967296) : run E (.call 220 [.t (entT e)]) = some (.res [xB (entOK e)] []) := by
  rw [run_call E 220 _ rfl Tryz.func220 rfl rfl rfl (by simp)]
  unfold entOK
  have h1 := inR e.id 0 9999
  try simp at h1
  by_cases hk : e.key.length ≤ 2000
  · have hk' : (e.key.length : Int) ≤ 2000 := by omega
    simp [hk, hk', h1]
  · have hk' : ¬ (e.key.length : Int) ≤ 2000 := by omega
    simp [hk, hk']
theorem specLess (a b : Ent) : run E (.call 143 [.t (entT a), .t (entT b)]) = some (.res [xB (entLt a b)] []) := by
  rw [run_call E 143 _ rfl Tryz.func143 rfl rfl rfl (by simp)]
  unfold entLt
  cases h1 : Op.bytesLess a.key b.key with
  | true => simp [h1]
  | false =>
    cases h2 : (a.key == b.key) <;> simp [h1, h2]
def entCmp (a b : Ent) : Int := orI (Lib.compareBytes a.key b.key) (cmpI a.id b.id)
theorem compareEnt (a b : Ent) : run E (.call 79 [.t (entT a), .t (entT b)]) = some (.res [xI (entCmp a b)] []) := by
  rw [run_call E 79 _ rfl Tryz.func79 rfl rfl rfl (by simp)]
  have d1 := d79_1
  simp [regionOf, findR, pick, Tryz.f79] at d1
  have dd := fun st => run_region_draw E st 1 _ d1
  clear d1
  have hr2 : List.range 2 = [0, 1] := rfl
  unfold entCmp
  simp [dd, compare a.key b.key, compareInt a.id b.id, cmpOr, hr2]
theorem entCmp_le (a b : Ent) : (entCmp a b ≤ 0) = (entLt b a = false) := by
  unfold entCmp entLt orI
  have h1 := compareBytes_lt a.key b.key
  have h2 := compareBytes_eq a.key b.key
  have h3 := cmpI_lt a.id b.id
  have h4 := cmpI_eq a.id b.id
  have hk5 : ((a.key == b.key) = true) = (a.key = b.key) := by simp
  have hk6 : ((b.key == a.key) = true) = (b.key = a.key) := by simp
  by_cases hk : a.key = b.key
  · have hz : Lib.compareBytes a.key b.key = 0 := by rw [h2]; exact hk
    have hc : cmpI a.id b.id ≤ 0 ↔ ¬ b.id < a.id := by unfold cmpI; split <;> (try split) <;> omega
    have hb : Op.bytesLess b.key a.key = false := by rw [hk]; exact bytesLess_irrefl _
    have hq : (b.key == a.key) = true := by rw [hk6]; exact hk.symm
    rw [if_pos hz, hb, hq, eq_iff_iff, hc]
    simp
  · have hz : Lib.compareBytes a.key b.key ≠ 0 := by rw [Ne, h2]; exact hk
    have hq : (b.key == a.key) = false := by
      cases h : (b.key == a.key) with
      | false => rfl
      | true => rw [hk6] at h; exact absurd h.symm hk
    rw [if_neg hz, hq]
    have h5 : (Lib.compareBytes a.key b.key ≤ 0) ↔ (Lib.compareBytes a.key b.key < 0) := by omega
    rw [eq_iff_iff, h5, h1]
    cases hb : Op.bytesLess a.key b.key with
    | true => simp [bytesLess_asymm hb]
    | false =>
      have : Op.bytesLess b.key a.key = true := by
        cases hc : Op.bytesLess b.key a.key with
        | true => rfl
        | false => exact absurd (bytesLess_tri hb hc) hk
      simp [this]
theorem specPlace (t : Tr) (e : Ent) (hl : t.pages.length < 4294967296) : run E (.call 71 [.t (treeT t), .t (entT e)]) = some (.res [xI (placeP e t.pages : Nat)] []) := by
  rw [run_call E 71 _ rfl Tryz.func71 rfl rfl rfl (by simp)]
  have d5 := d71_5
  simp [regionOf, findR, pick, Tryz.f71] at d5
  have dd := fun st => run_region_draw E st 5 _ d5
  clear d5
  obtain ⟨X, A, B, C, hx⟩ := sk (fun s o q (hI : s 2 = .ptr 0 0 ∧ s 3 = .ptr 1 0 ∧ o 0 = .box 51 [.t (.list (t.pages.map pgT)), .t (.int .i64 t.next)] ∧ o 1 = .box 132 [.t (.str e.key), .t (.int .i64 e.id)] ∧ s 5 = .t (.int .i64 0) ∧ s 6 = .t (.int .i64 1)) => loop_for (c := loopAt Tryz.f71 0) (N := 37)
    (fun i s o q => ∃ k : Nat, s 2 = .ptr 0 0 ∧ s 3 = .ptr 1 0 ∧ o 0 = .box 51 [.t (.list (t.pages.map pgT)), .t (.int .i64 t.next)] ∧ o 1 = .box 132 [.t (.str e.key), .t (.int .i64 e.id)] ∧ s 5 = .t (.int .i64 k) ∧ s 6 = .t (.int .i64 ((1 + i : Nat) : Int)) ∧ placeP e t.pages = placeGo e (1 + i) k (t.pages.drop (1 + i)))
    (fun e' s' o' q' => e' = .exit 0 ∧ s' 5 = .t (.int .i64 (placeP e t.pages : Nat)))
    (t.pages.length - 1)
    (by
      rintro i s o q hi ⟨k, h2, h3, o0, o1, h5, h6, hp⟩
      obtain ⟨j, hj⟩ : ∃ j, j = 1 + i := ⟨_, rfl⟩
      rw [← hj] at h6 hp
      have hjl : j < t.pages.length := by omega
      have hj' : (j : Int) < (t.pages.length : Int) := by omega
      have hxj : t.pages[j]? = some t.pages[j] := List.getElem?_eq_getElem hjl
      have hw := wrap_succ (n := j) (by omega)
      have hs : 1 + (i + 1) = j + 1 := by omega
      rw [List.drop_eq_getElem_cons hjl, placeGo] at hp
      rw [hs]
      cases hpe : t.pages[j].ents with
      | nil =>
        have hb : begins e t.pages[j] = false := by simp [begins, hpe]
        rw [hb] at hp
        simp [loopAt, loopsOf, Tryz.f71, dd, h2, h3, o0, o1, h5, h6, hjl, hj', hxj, hw, hpe]
        exact ⟨k, rfl, hp⟩
      | cons f r =>
        have hsl := specLess e f
        have hpos : (0 : Int) < (r.length : Int) + 1 := by omega
        try simp at hsl
        cases hb : entLt e f with
        | true =>
          have hbe : begins e t.pages[j] = false := by simp [begins, hpe, hb]
          rw [hbe] at hp
          rw [hb] at hsl
          simp [loopAt, loopsOf, Tryz.f71, dd, h2, h3, o0, o1, h5, h6, hjl, hj', hxj, hw, hpe, hsl, hpos]
          exact ⟨k, rfl, hp⟩
        | false =>
          have hbe : begins e t.pages[j] = true := by simp [begins, hpe, hb]
          rw [hbe] at hp
          rw [hb] at hsl
          simp [loopAt, loopsOf, Tryz.f71, dd, h2, h3, o0, o1, h5, h6, hjl, hj', hxj, hw, hpe, hsl, hpos]
          exact ⟨j, rfl, hp⟩)
    (by
      rintro s o q ⟨k, h2, h3, o0, o1, h5, h6, hp⟩
      have hd : t.pages.drop (1 + (t.pages.length - 1)) = [] := List.drop_of_length_le (by omega)
      rw [hd, placeGo] at hp
      have hn : ¬ ((1 + (t.pages.length - 1) : Nat) : Int) < (t.pages.length : Int) := by omega
      rw [hp]
      generalize 1 + (t.pages.length - 1) = z at *
      simp [loopAt, loopsOf, Tryz.f71, dd, h2, h3, o0, o1, h5, h6, hn])
    (t.pages.length - 1) 0 s o q (by omega) ⟨0, hI.1, hI.2.1, hI.2.2.1, hI.2.2.2.1, hI.2.2.2.2.1, hI.2.2.2.2.2, by
      cases hp : t.pages with
      | nil => rfl
      | cons p r => exact place_one e p r⟩)
  simp only [loopAt, loopsOf, Tryz.f71] at hx
  simp at hx
  simp [hx]
def lastE : Option Ent → Ent
  | none => ⟨[], -1⟩
  | some e => e
abbrev boxE (l : Option Ent) : Ob := .box 132 [.t (.str (lastE l).key), .t (.int .i64 (lastE l).id)]
theorem ahead_last (l : Option Ent) (e : Ent) (h : entOK e = true) : aheadO l e = entLt (lastE l) e := by
  cases l with
  | some x => rfl
  | none =>
    unfold entOK in1 at h
    simp only [Bool.and_eq_true, decide_eq_true_eq] at h
    unfold aheadO lastE entLt
    symm
    simp only [Bool.or_eq_true, Bool.and_eq_true, beq_iff_eq, decide_eq_true_eq]
    cases hk : e.key with
    | nil => exact .inr ⟨rfl, by omega⟩
    | cons x r => exact .inl rfl
theorem streeNums0 (ps : List Pg) (hl : ps.length < 4294967296) (nxt n : Int) (es : List T) (i P : Nat) (hi : i < ps.length) (O : Os) (Q : Nat) (h0 : O 0 = .box 51 [.t (.list (ps.map pgT)), .t (.int .i64 nxt)]) (hP : O P = .box 135 [.t (.int .i64 n), .t (.list es)]) : ∀ s o q, (s 1 = .ptr 0 0 ∧ s 3 = .ptr 1 0 ∧ s 4 = .t (.int .i64 i) ∧ s 5 = .ptr P 0 ∧ s 6 = .t (.int .i64 0) ∧ o = O ∧ q = Q) →
    ∃ e s' o' q', run E (.code (.loop (loopAt Tryz.f138 1)) ⟨s, o, q, 100⟩) = some (.st e ⟨s', o', q', 100⟩) ∧ ((((ps.take i).map Pg.num).contains n = true → e = .ret ∧ s' 2 = .t (.bool false)) ∧ (((ps.take i).map Pg.num).contains n = false → e = .exit 2 ∧ s' 1 = .ptr 0 0 ∧ s' 3 = .ptr 1 0 ∧ s' 4 = .t (.int .i64 i) ∧ s' 5 = .ptr P 0 ∧ o' = O ∧ q' = Q)) := by
  intro s o q hI
  have d13 := d138_13
  simp [regionOf, findR, pick, Tryz.f138] at d13
  have dd := fun st => run_region_draw E st 13 _ d13
  clear d13
  refine loop_for (c := loopAt Tryz.f138 1) (N := 100)
    (fun k s o q => s 1 = .ptr 0 0 ∧ s 3 = .ptr 1 0 ∧ s 4 = .t (.int .i64 i) ∧ s 5 = .ptr P 0 ∧ s 6 = .t (.int .i64 k) ∧ o = O ∧ q = Q ∧ ((ps.take k).map Pg.num).contains n = false)
    (fun e s' o' q' => ((((ps.take i).map Pg.num).contains n = true → e = .ret ∧ s' 2 = .t (.bool false)) ∧ (((ps.take i).map Pg.num).contains n = false → e = .exit 2 ∧ s' 1 = .ptr 0 0 ∧ s' 3 = .ptr 1 0 ∧ s' 4 = .t (.int .i64 i) ∧ s' 5 = .ptr P 0 ∧ o' = O ∧ q' = Q))) i ?_ ?_
    i 0 s o q (by omega) ⟨hI.1, hI.2.1, hI.2.2.1, hI.2.2.2.1, hI.2.2.2.2.1, hI.2.2.2.2.2.1, hI.2.2.2.2.2.2, by simp⟩
  · rintro k s o q hk ⟨h1, h3, h4, h5, h6, rfl, rfl, hc⟩
    have hk' : (k : Int) < (i : Int) := by omega
    have hkl : k < ps.length := by omega
    have hxk : ps[k]? = some ps[k] := List.getElem?_eq_getElem hkl
    have hw := wrap_succ (n := k) (by omega)
    by_cases he : ps[k].num = n
    · have hT : ((ps.take i).map Pg.num).contains n = true := by
        rw [List.contains_iff_mem, List.mem_map]
        refine ⟨ps[k], ?_, he⟩
        exact List.mem_iff_getElem.2 ⟨k, by simp; omega, by simp⟩
      rw [hT]
      simp [loopAt, loopsOf, Tryz.f138, dd, h1, h3, h4, h5, h6, h0, hP, hk', hkl, hxk, he]
    · have hn : ((ps.take (k + 1)).map Pg.num).contains n = false := by
        rw [List.take_add_one, hxk, List.map_append, List.contains_append, hc]
        simp
        exact fun h => he h.symm
      have hn' : ∀ x ∈ ps.take (k + 1), ¬ x.num = n := by
        intro x hx e
        rw [Bool.eq_false_iff] at hn
        exact hn (by rw [List.contains_iff_mem, List.mem_map]; exact ⟨x, hx, e⟩)
      simp [-List.contains_eq_mem, -List.map_take, loopAt, loopsOf, Tryz.f138, dd, h1, h3, h4, h5, h6, h0, hP, hk', hkl, hxk, he, hw]
      exact fun x hx e => hn' x hx e.symm
  · rintro s o q ⟨h1, h3, h4, h5, h6, rfl, rfl, hc⟩
    rw [hc]
    simp [loopAt, loopsOf, Tryz.f138, dd, h1, h3, h4, h5, h6, h0, hP]
theorem streeNums (ps : List Pg) (hl : ps.length < 4294967296) (nxt n : Int) (es : List T) (i P : Nat) (hi : i < ps.length) : ∀ s o q, (s 1 = .ptr 0 0 ∧ s 3 = .ptr 1 0 ∧ s 4 = .t (.int .i64 i) ∧ s 5 = .ptr P 0 ∧ s 6 = .t (.int .i64 0) ∧ o 0 = .box 51 [.t (.list (ps.map pgT)), .t (.int .i64 nxt)] ∧ o P = .box 135 [.t (.int .i64 n), .t (.list es)]) →
    ∃ e s' o' q', run E (.code (.loop (loopAt Tryz.f138 1)) ⟨s, o, q, 100⟩) = some (.st e ⟨s', o', q', 100⟩) ∧ ((((ps.take i).map Pg.num).contains n = true → e = .ret ∧ s' 2 = .t (.bool false)) ∧ (((ps.take i).map Pg.num).contains n = false → e = .exit 2 ∧ s' 1 = .ptr 0 0 ∧ s' 3 = .ptr 1 0 ∧ s' 4 = .t (.int .i64 i) ∧ s' 5 = .ptr P 0 ∧ o' = o ∧ q' = q)) :=
  fun s o q h => streeNums0 ps hl nxt n es i P hi o q h.2.2.2.2.2.1 h.2.2.2.2.2.2 s o q ⟨h.1, h.2.1, h.2.2.1, h.2.2.2.1, h.2.2.2.2.1, rfl, rfl⟩
theorem streeEnts (ents : List Ent) (hl : ents.length < 4294967296) (hk : ∀ e ∈ ents, e.key.length < 4294967296) (B0 : Ob) (n : Int) (P i : Nat) (hP1 : P ≠ 1) (l : Option Ent) (Q : Nat) : ∀ s o q, (s 1 = .ptr 0 0 ∧ s 3 = .ptr 1 0 ∧ s 4 = .t (.int .i64 i) ∧ s 5 = .ptr P 0 ∧ s 7 = .t (.int .i64 0) ∧ o 0 = B0 ∧ o 1 = boxE l ∧ o P = .box 135 [.t (.int .i64 n), .t (.list (ents.map entT))] ∧ q = Q) →
    ∃ e s' o' q', run E (.code (.loop (loopAt Tryz.f138 2)) ⟨s, o, q, 100⟩) = some (.st e ⟨s', o', q', 100⟩) ∧ ((entsGo l ents = false → e = .ret ∧ s' 2 = .t (.bool false)) ∧ (entsGo l ents = true → e = .exit 4 ∧ s' 1 = .ptr 0 0 ∧ s' 3 = .ptr 1 0 ∧ s' 4 = .t (.int .i64 i) ∧ o' 0 = B0 ∧ o' 1 = boxE (lastOf l ents) ∧ q' = Q)) := by
  intro s o q hI
  have d18 := d138_18
  simp [regionOf, findR, pick, Tryz.f138] at d18
  have dd := fun st => run_region_draw E st 18 _ d18
  clear d18
  obtain ⟨b, hb⟩ : ∃ b, b = entsGo l ents := ⟨_, rfl⟩
  obtain ⟨L, hL⟩ : ∃ L, L = lastOf l ents := ⟨_, rfl⟩
  rw [← hb, ← hL]
  have h1P : 1 ≠ P := fun e => hP1 e.symm
  refine loop_for (c := loopAt Tryz.f138 2) (N := 100)
    (fun k s o q => ∃ l', s 1 = .ptr 0 0 ∧ s 3 = .ptr 1 0 ∧ s 4 = .t (.int .i64 i) ∧ s 5 = .ptr P 0 ∧ s 7 = .t (.int .i64 k) ∧ o 0 = B0 ∧ o 1 = boxE l' ∧ o P = .box 135 [.t (.int .i64 n), .t (.list (ents.map entT))] ∧ q = Q ∧ b = entsGo l' (ents.drop k) ∧ L = lastOf l' (ents.drop k))
    (fun e s' o' q' => (b = false → e = .ret ∧ s' 2 = .t (.bool false)) ∧ (b = true → e = .exit 4 ∧ s' 1 = .ptr 0 0 ∧ s' 3 = .ptr 1 0 ∧ s' 4 = .t (.int .i64 i) ∧ o' 0 = B0 ∧ o' 1 = boxE L ∧ q' = Q)) ents.length ?_ ?_
    ents.length 0 s o q (by omega) ⟨l, hI.1, hI.2.1, hI.2.2.1, hI.2.2.2.1, hI.2.2.2.2.1, hI.2.2.2.2.2.1, hI.2.2.2.2.2.2.1, hI.2.2.2.2.2.2.2.1, hI.2.2.2.2.2.2.2.2, hb, hL⟩
  · rintro k s o q hkl ⟨l', h1, h3, h4, h5, h7, o0, o1, oP, rfl, hb, hL⟩
    have hk' : (k : Int) < (ents.length : Int) := by omega
    have hxk : ents[k]? = some ents[k] := List.getElem?_eq_getElem hkl
    have hw := wrap_succ (n := k) (by omega)
    have he := specEntry ents[k] (hk _ (List.getElem_mem hkl))
    have hs := specLess (lastE l') ents[k]
    rw [List.drop_eq_getElem_cons hkl, entsGo] at hb
    rw [List.drop_eq_getElem_cons hkl, lastOf] at hL
    try simp at he hs
    cases hok : entOK ents[k] with
    | false =>
      rw [hok] at hb he
      simp at hb
      subst hb
      simp [loopAt, loopsOf, Tryz.f138, dd, h1, h3, h4, h5, h7, o0, o1, oP, hkl, hk', hxk, he]
    | true =>
      have ha := ahead_last l' ents[k] hok
      rw [hok, ha] at hb
      rw [hok] at he
      cases hlt : entLt (lastE l') ents[k] with
      | false =>
        rw [hlt] at hb hs
        simp at hb
        subst hb
        simp [loopAt, loopsOf, Tryz.f138, dd, h1, h3, h4, h5, h7, o0, o1, oP, hkl, hk', hxk, he, hs]
      | true =>
        rw [hlt] at hb hs
        simp at hb
        simp [loopAt, loopsOf, Tryz.f138, dd, h1, h3, h4, h5, h7, o0, o1, oP, hkl, hk', hxk, he, hs, hw, hP1, h1P]
        exact ⟨some ents[k], by simp [lastE], hb, hL⟩
  · rintro s o q ⟨l', h1, h3, h4, h5, h7, o0, o1, oP, rfl, hb, hL⟩
    rw [List.drop_of_length_le (Nat.le_refl _)] at hb hL
    rw [entsGo] at hb
    rw [lastOf] at hL
    subst hb
    subst hL
    simp [loopAt, loopsOf, Tryz.f138, dd, h1, h3, h4, h5, h7, o0, o1, oP]
theorem specTreeOK (t : Tr) (h : t.Sm) : run E (.call 138 [.t (treeT t)]) = some (.res [xB (treeOK t)] []) := by
  rw [run_call E 138 _ rfl Tryz.func138 rfl rfl rfl (by simp)]
  rw [treeOK_pages]
  have hl := h.1
  have hin1 := l01In1 (t.pages.length : Int) 1 60
  have hin2 := l01In1 t.next 2 100000
  cases hz1 : in1 1 60 (t.pages.length : Int) with
  | false =>
    rw [hz1] at hin1
    try simp at hin1
    simp [hin1]
  | true =>
    rw [hz1] at hin1
    cases hz2 : in1 2 100000 t.next with
    | false =>
      rw [hz2] at hin2
      try simp at hin1 hin2
      simp [hin1, hin2]
    | true =>
      rw [hz2] at hin2
      have hnx : 2 ≤ t.next ∧ t.next ≤ 100000 := by
        unfold in1 at hz2
        simpa using hz2
      have hwn : IntKind.i64.wrap (t.next - 1) = t.next - 1 := wrap_of (by omega) (by omega)
      obtain ⟨b, hb⟩ : ∃ b, b = pagesGo t.pages.length t.next [] none t.pages := ⟨_, rfl⟩
      rw [← hb]
      obtain ⟨X, A, B, C, hx⟩ := sk (fun s o q (hI : s 1 = .ptr 0 0 ∧ s 3 = .ptr 1 0 ∧ s 4 = .t (.int .i64 0) ∧ o 0 = .box 51 [.t (.list (t.pages.map pgT)), .t (.int .i64 t.next)] ∧ o 1 = boxE none ∧ 1 < q) => loop_for (c := loopAt Tryz.f138 0) (N := 100)
        (fun i s o q => ∃ l, s 1 = .ptr 0 0 ∧ s 3 = .ptr 1 0 ∧ s 4 = .t (.int .i64 i) ∧ o 0 = .box 51 [.t (.list (t.pages.map pgT)), .t (.int .i64 t.next)] ∧ o 1 = boxE l ∧ 1 < q ∧ b = pagesGo t.pages.length t.next ((t.pages.take i).map Pg.num) l (t.pages.drop i))
        (fun e s' o' q' => (b = false → e = .ret ∧ s' 2 = .t (.bool false)) ∧ (b = true → e = .exit 0))
        t.pages.length
        (by
          rintro i s o q hi ⟨l, h1, h3, h4, o0, o1, hq, hb⟩
          have hi' : (i : Int) < (t.pages.length : Int) := by omega
          have hxi : t.pages[i]? = some t.pages[i] := List.getElem?_eq_getElem hi
          have hw := wrap_succ (n := i) (by omega)
          obtain ⟨a1, a2, a3, a4, a5⟩ : 1 ≠ q ∧ q ≠ 1 ∧ 0 ≠ q ∧ q ≠ 0 ∧ 1 < q + 1 := ⟨by omega, by omega, by omega, by omega, by omega⟩
          have hp := h.2 _ (List.getElem_mem hi)
          have hin := l01In1 t.pages[i].num 1 (t.next - 1)
          rw [List.drop_eq_getElem_cons hi, pagesGo] at hb
          generalize hpg : t.pages[i] = p at *
          unfold pageFine at hb
          try simp at hin
          cases hz3 : in1 1 (t.next - 1) p.num with
          | false =>
            rw [hz3] at hb hin
            simp at hb
            subst hb
            simp [loopAt, loopsOf, Tryz.f138, h1, h3, h4, o0, o1, hi, hi', hxi, hpg, hwn, hin, a1, a2, a3, a4]
          | true =>
            rw [hz3] at hb hin
            by_cases hle : p.ents.length ≤ 4
            · have hle' : ¬ (4 : Int) < (p.ents.length : Int) := by omega
              by_cases hem : p.ents = [] ∧ 1 < t.pages.length
              · have hem2 : (1 : Int) < (t.pages.length : Int) := by omega
                have hbf : b = false := by rw [hb]; simp [hem.1, hem.2]
                subst hbf
                simp [loopAt, loopsOf, Tryz.f138, h1, h3, h4, o0, o1, hi, hi', hxi, hpg, hwn, hin, a1, a2, a3, a4, hem.1, hem.2, hem2]
              · have hfine : (!(p.ents.isEmpty && decide (1 < t.pages.length))) = true := by
                  simp only [Bool.not_eq_true', Bool.and_eq_false_iff, List.isEmpty_iff, decide_eq_false_iff_not]
                  cases hpe : p.ents with
                  | nil => right; intro hh; exact hem ⟨hpe, hh⟩
                  | cons x r => left; rfl
                have hc1 : ((p.ents.length : Int) = 0 ∧ (1 : Int) < (t.pages.length : Int)) = False := by
                  refine eq_false fun hh => hem ⟨List.length_eq_zero_iff.1 (by omega), by omega⟩
                have hc2 : (p.ents = [] ∧ (1 : Int) < (t.pages.length : Int)) = False := by
                  refine eq_false fun hh => hem ⟨hh.1, by omega⟩
                rw [hfine] at hb
                have hdl : decide (p.ents.length ≤ 4) = true := by simpa using hle
                rw [hdl] at hb
                obtain ⟨X1, A1, B1, C1, hx1⟩ := sk (streeNums t.pages (by omega) t.next p.num (p.ents.map entT) i q hi)
                obtain ⟨X2, A2, B2, C2, hx2⟩ := sk (streeEnts p.ents hp.1 hp.2 (.box 51 [.t (.list (t.pages.map pgT)), .t (.int .i64 t.next)]) p.num q i a2 l (q + 1))
                simp only [loopAt, loopsOf, Tryz.f138] at hx1 hx2
                cases hcn : ((t.pages.take i).map Pg.num).contains p.num with
                | true =>
                  rw [hcn] at hb hx1
                  simp at hb
                  subst hb
                  simp at hx1
                  by_cases hpe : p.ents = []
                  · have hmany : ¬ (1 : Int) < (t.pages.length : Int) := fun hh => hem ⟨hpe, by omega⟩
                    simp [loopAt, loopsOf, Tryz.f138, h1, h3, h4, o0, o1, hi, hi', hxi, hpg, hwn, hin, a1, a2, a3, a4, hpe, hmany, hx1]
                  · have hpl : ¬ p.ents.length = 0 := fun hh => hpe (List.length_eq_zero_iff.1 hh)
                    have hq0 : ((p.ents.length : Int) == 0) = false := by simp; omega
                    simp [loopAt, loopsOf, Tryz.f138, h1, h3, h4, o0, o1, hi, hi', hxi, hpg, hwn, hin, a1, a2, a3, a4, hpe, hpl, hq0, hle', hx1]
                | false =>
                  rw [hcn] at hb hx1
                  simp at hb
                  simp at hx1
                  cases heg : entsGo l p.ents with
                  | false =>
                    rw [heg] at hb hx2
                    simp at hb hx2
                    subst hb
                    by_cases hpe : p.ents = []
                    · rw [hpe] at heg; simp [entsGo] at heg
                    · have hpl : ¬ p.ents.length = 0 := fun hh => hpe (List.length_eq_zero_iff.1 hh)
                      have hq0 : ((p.ents.length : Int) == 0) = false := by simp; omega
                      simp [loopAt, loopsOf, Tryz.f138, h1, h3, h4, o0, o1, hi, hi', hxi, hpg, hwn, hin, a1, a2, a3, a4, hpe, hpl, hq0, hle', hx1, hx2]
                  | true =>
                    rw [heg] at hb hx2
                    simp at hb hx2
                    have htk : (t.pages.take (i + 1)).map Pg.num = (t.pages.take i).map Pg.num ++ [p.num] := by
                      rw [List.take_add_one, hxi]; simp
                    by_cases hpe : p.ents = []
                    · have hmany : ¬ (1 : Int) < (t.pages.length : Int) := fun hh => hem ⟨hpe, by omega⟩
                      simp [loopAt, loopsOf, Tryz.f138, h1, h3, h4, o0, o1, hi, hi', hxi, hpg, hwn, hin, a1, a2, a3, a4, a5, hpe, hmany, hx1, hx2, hw]
                      exact ⟨lastOf l p.ents, by rw [hpe]; exact ⟨rfl, rfl⟩, by rw [List.map_take] at htk; rw [htk]; simpa using hb⟩
                    · have hpl : ¬ p.ents.length = 0 := fun hh => hpe (List.length_eq_zero_iff.1 hh)
                      have hq0 : ((p.ents.length : Int) == 0) = false := by simp; omega
                      simp [loopAt, loopsOf, Tryz.f138, h1, h3, h4, o0, o1, hi, hi', hxi, hpg, hwn, hin, a1, a2, a3, a4, a5, hpe, hpl, hq0, hle', hx1, hx2, hw]
                      exact ⟨lastOf l p.ents, ⟨rfl, rfl⟩, by rw [List.map_take] at htk; rw [htk]; simpa using hb⟩
            · have hle' : (4 : Int) < (p.ents.length : Int) := by omega
              have hbf : b = false := by
                rw [hb]
                have : decide (p.ents.length ≤ 4) = false := by simpa using hle
                rw [this]; simp
              subst hbf
              simp [loopAt, loopsOf, Tryz.f138, h1, h3, h4, o0, o1, hi, hi', hxi, hpg, hwn, hin, hle', a1, a2, a3, a4])
        (by
          rintro s o q ⟨l, h1, h3, h4, o0, o1, hq, hb⟩
          rw [List.drop_of_length_le (Nat.le_refl _), pagesGo] at hb
          subst hb
          simp [loopAt, loopsOf, Tryz.f138, h1, h3, h4, o0, o1])
        t.pages.length 0 s o q (by omega) ⟨none, hI.1, hI.2.1, hI.2.2.1, hI.2.2.2.1, hI.2.2.2.2.1, hI.2.2.2.2.2, by simpa using hb⟩)
      simp only [loopAt, loopsOf, Tryz.f138] at hx
      simp [boxE, lastE] at hx
      try simp at hin1 hin2
      cases b with
      | true => simp at hx; simp [hin1, hin2, hx]
      | false => simp at hx; simp [hin1, hin2, hx]
abbrev numT (n : Int) : T := .int .i64 n
theorem index271 (xs : List Int) (n : Int) (hl : xs.length < 4294967296) : run E (.call 300 [.t (.list (xs.map numT)), xI n]) = some (.res [xI (idxP (fun x => x == n) xs)] []) := by
  rw [run_call E 300 _ rfl Tryz.func300 rfl rfl rfl (by simp)]
  have lp := fun (r : Int) (hr : r = idxP (fun x => x == n) xs) => sk (fun s o q hI => loop_for (c := loopAt Tryz.f300 0) (N := 19)
    (fun i s o q => s 0 = .t (.list (xs.map numT)) ∧ s 1 = .t (.int .i64 n) ∧ s 7 = .t (.int .i64 xs.length) ∧ s 8 = .t (.int .i64 i) ∧ r = if idxP (fun x => x == n) (xs.drop i) < 0 then -1 else idxP (fun x => x == n) (xs.drop i) + i)
    (fun e s' o' q' => e = (if r < 0 then .exit 0 else .ret) ∧ (0 ≤ r → s' 4 = .t (.int .i64 r))) xs.length
    (by
      rintro i s o q hi ⟨h0, h1, h7, h8, hr⟩
      have hd : xs.drop i = xs[i] :: xs.drop (i + 1) := by rw [List.drop_eq_getElem_cons hi]
      have hi' : (i : Int) < (xs.length : Int) := by omega
      have hw := wrap_succ (n := i) (by omega)
      have hxi : xs[i]? = some xs[i] := List.getElem?_eq_getElem hi
      rw [hd, idxP] at hr
      by_cases hpx : xs[i] = n
      · simp [hpx] at hr
        have hr' : ¬ r < 0 := by omega
        have hpx' : n = xs[i] := hpx.symm
        simp [loopAt, loopsOf, Tryz.f300, h0, h1, h7, h8, hi, hi', hxi, hpx, hw, hr', hr]
      · simp [hpx] at hr
        have hpx' : ¬ n = xs[i] := fun e => hpx e.symm
        have hr2 : r = if idxP (fun x => x == n) (xs.drop (i + 1)) < 0 then -1 else idxP (fun x => x == n) (xs.drop (i + 1)) + ((i : Int) + 1) := by
          rw [hr]
          by_cases hq : idxP (fun x => x == n) (xs.drop (i + 1)) < 0
          · simp [hq]
          · have : ¬ idxP (fun x => x == n) (xs.drop (i + 1)) + 1 < 0 := by omega
            simp [hq, this]; omega
        clear hr
        simp [loopAt, loopsOf, Tryz.f300, h0, h1, h7, h8, hi, hi', hxi, hpx, hpx', hw]
        exact hr2)
    (by
      rintro s o q ⟨h0, h1, h7, h8, hr⟩
      simp [idxP] at hr
      simp [loopAt, loopsOf, Tryz.f300, h0, h1, h7, h8, hr])
    xs.length 0 s o q (by omega) hI)
  simp only [loopAt, loopsOf, Tryz.f300] at lp
  obtain ⟨X, A, B, C, hx⟩ := lp _ rfl
  have hz : idxP (fun x => x == n) xs = if idxP (fun x => x == n) xs < 0 then -1 else idxP (fun x => x == n) xs := by
    cases xs with
    | nil => simp [idxP]
    | cons x r =>
      unfold idxP
      split
      · simp
      · split
        · simp
        · have : ¬ idxP (fun x => x == n) r + 1 < 0 := by omega
          simp [this]
  simp [← hz] at hx
  by_cases h : idxP (fun x => x == n) xs < 0
  · have h1 : idxP (fun x => x == n) xs = -1 := by rw [hz]; simp [h]
    simp [h] at hx
    simp [hx, h1]
  · have h2 : 0 ≤ idxP (fun x => x == n) xs := by omega
    simp [h, h2] at hx
    simp [hx]
theorem idx_contains (n : Int) : ∀ xs : List Int, (0 ≤ idxP (fun x => x == n) xs) ↔ xs.contains n = true
  | [] => by simp [idxP]
  | x :: r => by
    have ih := idx_contains n r
    rw [idxP]
    by_cases h : x = n
    · simp [h]
    · have h' : ¬ n = x := fun e => h e.symm
      rw [List.contains_cons]
      simp only [beq_iff_eq, h, if_false]
      have hb : (n == x) = false := by simpa using h'
      rw [hb, Bool.false_or, ← ih]
      split <;> omega
theorem contains236 (xs : List Int) (n : Int) (hl : xs.length < 4294967296) : run E (.call 219 [.t (.list (xs.map numT)), xI n]) = some (.res [xB (xs.contains n)] []) := by
  rw [run_call E 219 _ rfl Tryz.func219 rfl rfl rfl (by simp)]
  have h := index271 xs n hl
  have hc := idx_contains n xs
  try simp at h
  cases hb : xs.contains n with
  | true =>
    have h0 := hc.2 hb
    simp [h, h0]
  | false =>
    have h0 : ¬ 0 ≤ idxP (fun x => x == n) xs := fun hh => by rw [hc.1 hh] at hb; cases hb
    have h1 : idxP (fun x => x == n) xs < 0 := by omega
    simp [h, h1, h0]
theorem entriesOf (t : Tr) (hl : t.pages.length < 4294967296) (hs : (allE t).length ≤ 100000000) : run E (.call 81 [.t (treeT t)]) = some (.res [.row 132 ((allE t).map entT)] []) := by
  rw [run_call E 81 _ rfl Tryz.func81 rfl rfl rfl (by simp)]
  obtain ⟨X, A, B, C, M, hx⟩ := sk1 (fun s o q (hI : s 3 = .row 1 ∧ o 1 = .row 132 [] true ∧ s 8 = .t (.list (t.pages.map pgT)) ∧ s 9 = .t (.int .i64 t.pages.length) ∧ s 10 = .t (.int .i64 0) ∧ 1 < q) => loop_for (c := loopAt Tryz.f81 0) (N := 20)
    (fun i s o q => ∃ r : Nat, s 3 = .row r ∧ o r = .row 132 (((t.pages.take i).flatMap Pg.ents).map entT) true ∧ s 8 = .t (.list (t.pages.map pgT)) ∧ s 9 = .t (.int .i64 t.pages.length) ∧ s 10 = .t (.int .i64 i) ∧ r < q)
    (fun e s' o' q' => ∃ r : Nat, (e = .exit 0 ∧ s' 3 = .row r ∧ o' r = .row 132 ((allE t).map entT) true))
    t.pages.length
    (by
      rintro i s o q hi ⟨r, h3, oR, h8, h9, h10, hr⟩
      have hi' : (i : Int) < (t.pages.length : Int) := by omega
      have hxi : t.pages[i]? = some t.pages[i] := List.getElem?_eq_getElem hi
      have hw := wrap_succ (n := i) (by omega)
      have htk : (t.pages.take (i + 1)).flatMap Pg.ents = (t.pages.take i).flatMap Pg.ents ++ t.pages[i].ents := by
        rw [List.take_add_one, hxi, List.flatMap_append]; simp
      have hsum : ((t.pages.take i).flatMap Pg.ents).length + t.pages[i].ents.length ≤ (allE t).length := by
        have h1 : (allE t) = (t.pages.take (i + 1)).flatMap Pg.ents ++ (t.pages.drop (i + 1)).flatMap Pg.ents := by
          rw [allE, ← List.flatMap_append, List.take_append_drop]
        rw [h1, htk]; simp
      rw [htk]
      generalize (t.pages.take i).flatMap Pg.ents = Z at *
      have hc3 : Z.length + t.pages[i].ents.length ≤ 140737488355328 := by omega
      have hc4 : (Z.length + t.pages[i].ents.length) * 24 ≤ 140737488355328 := by omega
      obtain ⟨a1, a2, a3⟩ : r ≠ q ∧ q ≠ r ∧ r ≠ q + 1 := ⟨by omega, by omega, by omega⟩
      simp [loopAt, loopsOf, Tryz.f81, h3, oR, h8, h9, h10, hi, hi', hxi, hw, hc3, hc4, a1, a2, a3])
    (by
      rintro s o q ⟨r, h3, oR, h8, h9, h10, hr⟩
      rw [List.take_of_length_le (Nat.le_refl _)] at oR
      simp [loopAt, loopsOf, Tryz.f81, h3, oR, h8, h9, h10, allE])
    t.pages.length 0 s o q (by omega) ⟨1, hI.1, by simpa using hI.2.1, hI.2.2.1, hI.2.2.2.1, hI.2.2.2.2.1, hI.2.2.2.2.2⟩)
  simp only [loopAt, loopsOf, Tryz.f81] at hx
  simp at hx
  simp [hx]
/-- One ahead of a place. -/
def prevO (l : List Ent) : Nat → Option Ent
  | 0 => none
  | k + 1 => l[k]?
theorem entCmp_lt (a b : Ent) : (entCmp a b < 0) = (entLt a b = true) := by
  unfold entCmp entLt orI
  have h1 := compareBytes_lt a.key b.key
  have h2 := compareBytes_eq a.key b.key
  have h3 := cmpI_lt a.id b.id
  by_cases hk : a.key = b.key
  · have hz : Lib.compareBytes a.key b.key = 0 := by rw [h2]; exact hk
    have hb : Op.bytesLess a.key b.key = false := by rw [hk]; exact bytesLess_irrefl _
    have hq : (a.key == b.key) = true := by simpa using hk
    rw [if_pos hz, hb, hq, h3]
    simp
  · have hz : Lib.compareBytes a.key b.key ≠ 0 := by rw [Ne, h2]; exact hk
    have hq : (a.key == b.key) = false := by simpa using hk
    rw [if_neg hz, hq, h1]
    simp
def rwN : SV → Nat
  | .row r => r
  | _ => 0
@[simp] theorem rwN_row (r : Nat) : rwN (.row r) = r := rfl
theorem itree_ents (l : List Ent) (hl : l.length < 4294967296) (hk : ∀ e ∈ l, e.key.length < 4294967296) : ∀ s o q, (s 6 = .row (rwN (s 6)) ∧ s 67 = .row (rwN (s 6)) ∧ o (rwN (s 6)) = .row 132 (l.map entT) true ∧ s 68 = .t (.int .i64 l.length) ∧ s 69 = .t (.int .i64 0) ∧ rwN (s 6) < q) →
    ∃ e s' o' q', run E (.code (.loop (loopAt Tryz.f146 1)) ⟨s, o, q, 92⟩) = some (.st e ⟨s', o', q', 92⟩) ∧ ((entsGo none l = false → e = .ret ∧ s' 2 = .t (.bool false)) ∧ (entsGo none l = true → e = .exit 2)) := by
  intro s o q hI
  obtain ⟨R, hR⟩ : ∃ R, R = rwN (s 6) := ⟨_, rfl⟩
  rw [← hR] at hI
  clear hR
  have d15 := d146_15
  simp [regionOf, findR, pick, Tryz.f146] at d15
  have dd := fun st => run_region_draw E st 15 _ d15
  clear d15
  obtain ⟨b, hb⟩ : ∃ b, b = entsGo none l := ⟨_, rfl⟩
  rw [← hb]
  refine loop_for (c := loopAt Tryz.f146 1) (N := 92)
    (fun k s o q => s 6 = .row R ∧ s 67 = .row R ∧ o R = .row 132 (l.map entT) true ∧ s 68 = .t (.int .i64 l.length) ∧ s 69 = .t (.int .i64 k) ∧ R < q ∧ b = entsGo (prevO l k) (l.drop k))
    (fun e s' o' q' => (b = false → e = .ret ∧ s' 2 = .t (.bool false)) ∧ (b = true → e = .exit 2)) l.length ?_ ?_
    l.length 0 s o q (by omega) ⟨hI.1, hI.2.1, hI.2.2.1, hI.2.2.2.1, hI.2.2.2.2.1, hI.2.2.2.2.2, hb⟩
  · rintro k s o q hkl ⟨h6, h67, oR, h68, h69, hq, hb⟩
    obtain ⟨a1, a2, a3⟩ : R ≠ q ∧ q ≠ R ∧ R < q + 1 := ⟨by omega, by omega, by omega⟩
    have hk' : (k : Int) < (l.length : Int) := by omega
    have hxk : l[k]? = some l[k] := List.getElem?_eq_getElem hkl
    have hw := wrap_succ (n := k) (by omega)
    have he := implEntry l[k] (hk _ (List.getElem_mem hkl))
    have hpv : prevO l (k + 1) = some l[k] := hxk
    rw [List.drop_eq_getElem_cons hkl, entsGo] at hb
    try simp at he
    cases hok : entOK l[k] with
    | false =>
      rw [hok] at hb he
      simp at hb
      subst hb
      simp [loopAt, loopsOf, Tryz.f146, dd, h6, h67, oR, h68, h69, a1, a2, a3, hkl, hk', hxk, he]
    | true =>
      rw [hok] at hb he
      cases k with
      | zero =>
        simp [prevO, aheadO] at hb
        simp [loopAt, loopsOf, Tryz.f146, dd, h6, h67, oR, h68, h69, a1, a2, a3, hkl, hk', hxk, he, hpv]
        exact hb
      | succ m =>
        have hml : m < l.length := by omega
        have hxm : l[m]? = some l[m] := List.getElem?_eq_getElem hml
        have hc := compareEnt l[m] l[m + 1]
        have hle := entCmp_le l[m + 1] l[m]
        have hlt := entCmp_lt l[m] l[m + 1]
        have hw1 : IntKind.i64.wrap (((m + 1 : Nat) : Int) - 1) = (m : Int) := by rw [wrap_of (by omega) (by omega)]; omega
        have hpos : (0 : Int) < ((m + 1 : Nat) : Int) := by omega
        have hnn : (0 : Int) ≤ (m : Int) + 1 := by omega
        have hwm : IntKind.i64.wrap (m : Int) = (m : Int) := wrap_of (by omega) (by omega)
        have hpm : prevO l (m + 1) = some l[m] := hxm
        rw [hpm] at hb
        simp only [aheadO] at hb
        try simp at hc
        cases hlt2 : entLt l[m] l[m + 1] with
        | true =>
          rw [hlt2] at hb hlt
          simp at hb hlt
          have hn : ¬ 0 ≤ entCmp l[m] l[m + 1] := by omega
          simp only [Int.natCast_add, Int.cast_ofNat_Int] at hw1 hpos hw h69 hk'
          simp [loopAt, loopsOf, Tryz.f146, dd, h6, h67, oR, h68, h69, a1, a2, a3, hkl, hk', hxk, he, hpos, hnn, hwm, hw1, hml, hxm, hc, hn, hw, hpv]
          exact hb
        | false =>
          rw [hlt2] at hb hlt
          simp at hb hlt
          subst hb
          simp only [Int.natCast_add, Int.cast_ofNat_Int] at hw1 hpos hw h69 hk'
          simp [loopAt, loopsOf, Tryz.f146, dd, h6, h67, oR, h68, h69, a1, a2, a3, hkl, hk', hxk, he, hpos, hnn, hwm, hw1, hml, hxm, hc, hlt, hw]
  · rintro s o q ⟨h6, h67, oR, h68, h69, hq, hb⟩
    rw [List.drop_of_length_le (Nat.le_refl _), entsGo] at hb
    subst hb
    simp [loopAt, loopsOf, Tryz.f146, h6, h67, oR, h68, h69]
theorem nums_small (m : Nat) (nxt : Int) : ∀ (seen : List Int) (ps : List Pg), numsGo m nxt seen ps = true → ∀ p ∈ ps, p.ents.length ≤ 4
  | _, [], _ => by simp
  | seen, p :: r, h => by
    rw [numsGo] at h
    simp only [Bool.and_eq_true] at h
    intro x hx
    rcases List.mem_cons.1 hx with rfl | hx
    · unfold pageFine at h
      simp only [Bool.and_eq_true, decide_eq_true_eq] at h
      exact h.1.1.1.2
    · exact nums_small m nxt _ r h.2 x hx
theorem flat_small : ∀ (ps : List Pg), (∀ p ∈ ps, p.ents.length ≤ 4) → (ps.flatMap Pg.ents).length ≤ 4 * ps.length
  | [], _ => by simp
  | p :: r, h => by
    have h1 := h p (by simp)
    have h2 := flat_small r (fun x hx => h x (by simp [hx]))
    rw [List.flatMap_cons, List.length_append, List.length_cons]
    omega
theorem itree_pages (ps : List Pg) (hl : ps.length < 4294967296) (hs : ∀ p ∈ ps, p.ents.length < 4294967296) (nxt : Int) (hn : 2 ≤ nxt ∧ nxt ≤ 100000) : ∀ s o q, (s 1 = .ptr 0 0 ∧ o 0 = .box 51 [.t (.list (ps.map pgT)), .t (.int .i64 nxt)] ∧ s 3 = .row 1 ∧ o 1 = .row 3 [] true ∧ s 22 = .t (.list (ps.map pgT)) ∧ s 23 = .t (.int .i64 ps.length) ∧ s 24 = .t (.int .i64 0) ∧ 1 < q) →
    ∃ e s' o' q', run E (.code (.loop (loopAt Tryz.f146 0)) ⟨s, o, q, 92⟩) = some (.st e ⟨s', o', q', 92⟩) ∧ ((numsGo ps.length nxt [] ps = false → e = .ret ∧ s' 2 = .t (.bool false)) ∧ (numsGo ps.length nxt [] ps = true → e = .exit 0 ∧ s' 1 = .ptr 0 0 ∧ o' 0 = .box 51 [.t (.list (ps.map pgT)), .t (.int .i64 nxt)])) := by
  intro s o q hI
  obtain ⟨b, hb⟩ : ∃ b, b = numsGo ps.length nxt [] ps := ⟨_, rfl⟩
  rw [← hb]
  have hwn : IntKind.i64.wrap (nxt - 1) = nxt - 1 := wrap_of (by omega) (by omega)
  refine loop_for (c := loopAt Tryz.f146 0) (N := 92)
    (fun i s o q => ∃ r : Nat, s 1 = .ptr 0 0 ∧ o 0 = .box 51 [.t (.list (ps.map pgT)), .t (.int .i64 nxt)] ∧ s 3 = .row r ∧ o r = .row 3 (((ps.take i).map Pg.num).map numT) true ∧ s 22 = .t (.list (ps.map pgT)) ∧ s 23 = .t (.int .i64 ps.length) ∧ s 24 = .t (.int .i64 i) ∧ 0 < r ∧ r < q ∧ b = numsGo ps.length nxt ((ps.take i).map Pg.num) (ps.drop i))
    (fun e s' o' q' => (b = false → e = .ret ∧ s' 2 = .t (.bool false)) ∧ (b = true → e = .exit 0 ∧ s' 1 = .ptr 0 0 ∧ o' 0 = .box 51 [.t (.list (ps.map pgT)), .t (.int .i64 nxt)])) ps.length ?_ ?_
    ps.length 0 s o q (by omega) ⟨1, hI.1, hI.2.1, hI.2.2.1, by simpa using hI.2.2.2.1, hI.2.2.2.2.1, hI.2.2.2.2.2.1, hI.2.2.2.2.2.2.1, by omega, hI.2.2.2.2.2.2.2, by simpa using hb⟩
  · rintro i s o q hi ⟨r, h1, o0, h3, oR, h22, h23, h24, hr0, hr, hb⟩
    have hi' : (i : Int) < (ps.length : Int) := by omega
    have hxi : ps[i]? = some ps[i] := List.getElem?_eq_getElem hi
    have hw := wrap_succ (n := i) (by omega)
    have hpl := hs _ (List.getElem_mem hi)
    have htk : (ps.take (i + 1)).map Pg.num = (ps.take i).map Pg.num ++ [ps[i].num] := by
      rw [List.take_add_one, hxi, List.map_append]; rfl
    have hin := inR ps[i].num 1 (nxt - 1)
    have hct := contains236 ((ps.take i).map Pg.num) ps[i].num (by simp; omega)
    rw [htk]
    rw [List.drop_eq_getElem_cons hi, numsGo] at hb
    have hLn : ((ps.take i).map Pg.num).length ≤ i := by simp; omega
    generalize hpg : ps[i] = p at *
    generalize (ps.take i).map Pg.num = Z at *
    have hc3 : Z.length + 1 ≤ 140737488355328 := by omega
    have hc4 : (Z.length + 1) * 8 ≤ 140737488355328 := by omega
    obtain ⟨a1, a2, a3, a4, a5, a6, a7⟩ : r ≠ q ∧ q ≠ r ∧ r ≠ q + 1 ∧ 0 ≠ q ∧ 0 ≠ r ∧ r ≠ 0 ∧ 0 ≠ q + 1 := ⟨by omega, by omega, by omega, by omega, by omega, by omega, by omega⟩
    unfold pageFine at hb
    try simp [-List.contains_eq_mem] at hin hct
    cases hz3 : in1 1 (nxt - 1) p.num with
    | false =>
      rw [hz3] at hb hin
      simp at hb
      subst hb
      simp [-List.contains_eq_mem, loopAt, loopsOf, Tryz.f146, h1, o0, h3, oR, h22, h23, h24, hi, hi', hxi, hpg, hwn, hin, a1, a2, a3, a4, a5, a6, hr]
    | true =>
      rw [hz3] at hb hin
      cases hcn : Z.contains p.num with
      | true =>
        rw [hcn] at hb hct
        simp at hb
        subst hb
        simp [-List.contains_eq_mem, loopAt, loopsOf, Tryz.f146, h1, o0, h3, oR, h22, h23, h24, hi, hi', hxi, hpg, hwn, hin, hct, a1, a2, a3, a4, a5, a6, hr]
      | false =>
        rw [hcn] at hb hct
        by_cases hle : p.ents.length ≤ 4
        · have hle' : ¬ (4 : Int) < (p.ents.length : Int) := by omega
          have hdl : decide (p.ents.length ≤ 4) = true := by simpa using hle
          rw [hdl] at hb
          cases hpe : p.ents with
          | nil =>
            rw [hpe] at hb
            by_cases hmany : 1 < ps.length
            · have hmany' : (1 : Int) < (ps.length : Int) := by omega
              have hbf : b = false := by rw [hb]; simp [hmany]
              subst hbf
              simp [-List.contains_eq_mem, loopAt, loopsOf, Tryz.f146, h1, o0, h3, oR, h22, h23, h24, hi, hi', hxi, hpg, hwn, hin, hct, a1, a2, a3, a4, a5, a6, hr, hpe, hmany']
            · have hmany' : ¬ (1 : Int) < (ps.length : Int) := by omega
              have hbt : b = numsGo ps.length nxt (Z ++ [p.num]) (ps.drop (i + 1)) := by rw [hb]; simp [hmany]
              simp [-List.contains_eq_mem, loopAt, loopsOf, Tryz.f146, h1, o0, h3, oR, h22, h23, h24, hi, hi', hxi, hpg, hwn, hin, hct, a1, a2, a3, a4, a5, a6, a7, hr, hpe, hmany', hw, hc3, hc4]
              exact hbt
          | cons x y =>
            rw [hpe] at hb hle'
            have hnz : (((y.length : Int) + 1) == 0) = false := by simp; omega
            have hbt : b = numsGo ps.length nxt (Z ++ [p.num]) (ps.drop (i + 1)) := by rw [hb]; simp
            have hle2 : ¬ (4 : Int) < (y.length : Int) + 1 := by simp at hle'; omega
            simp [-List.contains_eq_mem, loopAt, loopsOf, Tryz.f146, h1, o0, h3, oR, h22, h23, h24, hi, hi', hxi, hpg, hwn, hin, hct, a1, a2, a3, a4, a5, a6, a7, hr, hpe, hle2, hnz, hw, hc3, hc4]
            exact hbt
        · have hle' : (4 : Int) < (p.ents.length : Int) := by omega
          have hbf : b = false := by
            rw [hb]
            have : decide (p.ents.length ≤ 4) = false := by simpa using hle
            rw [this]; simp
          subst hbf
          simp [-List.contains_eq_mem, loopAt, loopsOf, Tryz.f146, h1, o0, h3, oR, h22, h23, h24, hi, hi', hxi, hpg, hwn, hin, hct, hle', a1, a2, a3, a4, a5, a6, hr]
  · rintro s o q ⟨r, h1, o0, h3, oR, h22, h23, h24, hr0, hr, hb⟩
    rw [List.drop_of_length_le (Nat.le_refl _), numsGo] at hb
    subst hb
    simp [loopAt, loopsOf, Tryz.f146, h1, o0, h3, oR, h22, h23, h24]
theorem implTreeOK (t : Tr) (h : t.Sm) : run E (.call 146 [.t (treeT t)]) = some (.res [xB (treeOK t)] []) := by
  rw [run_call E 146 _ rfl Tryz.func146 rfl rfl rfl (by simp)]
  have hl := h.1
  have hin1 := inR (t.pages.length : Int) 1 60
  have hin2 := inR t.next 2 100000
  unfold treeOK
  cases hz1 : in1 1 60 (t.pages.length : Int) with
  | false =>
    rw [hz1] at hin1
    try simp at hin1
    simp [hin1]
  | true =>
    rw [hz1] at hin1
    cases hz2 : in1 2 100000 t.next with
    | false =>
      rw [hz2] at hin2
      try simp at hin1 hin2
      simp [hin1, hin2]
    | true =>
      rw [hz2] at hin2
      have hnx : 2 ≤ t.next ∧ t.next ≤ 100000 := by
        unfold in1 at hz2
        simpa using hz2
      have hp60 : t.pages.length ≤ 60 := by
        unfold in1 at hz1
        simp at hz1; omega
      obtain ⟨X, A, B, C, hx⟩ := sk (itree_pages t.pages (by omega) (fun p hp => (h.2 p hp).1) t.next hnx)
      simp only [loopAt, loopsOf, Tryz.f146] at hx
      cases hng : numsGo t.pages.length t.next [] t.pages with
      | false =>
        rw [hng] at hx
        try simp at hin1 hin2 hx
        simp [hin1, hin2, hx]
      | true =>
        rw [hng] at hx
        have hsm := flat_small t.pages (nums_small _ _ _ _ hng)
        have hen := entriesOf t (by omega) (by unfold allE; omega)
        obtain ⟨X2, A2, B2, C2, hx2⟩ := sk (itree_ents (allE t) (by unfold allE; omega) (by
          intro e he
          unfold allE at he
          rw [List.mem_flatMap] at he
          obtain ⟨p, hp, he⟩ := he
          exact (h.2 p hp).2 e he))
        simp only [loopAt, loopsOf, Tryz.f146] at hx2
        cases heg : entsGo none (allE t) with
        | false =>
          rw [heg] at hx2
          try simp at hin1 hin2 hx hen hx2
          simp [hin1, hin2, hx, hen, hx2]
        | true =>
          rw [heg] at hx2
          try simp at hin1 hin2 hx hen hx2
          simp [hin1, hin2, hx, hen, hx2]
set_option maxHeartbeats 16000000
def chgsGo : List Chg → List Chg → Bool
  | _, [] => true
  | s, c :: r => chgOK c && (!s.any (fun x => sameC x c) && chgsGo (s ++ [c]) r)
def listsOK (rs : List Rd) (cs : List Chg) : Bool := rs.all readOK && (chgsGo [] cs && (decide (rs.length ≤ 20) && decide (cs.length ≤ 60)))
set_option maxHeartbeats 8000000
structure Src where
  bs : Bytes
  p : Nat
  sd : Int
abbrev srcX (s : Src) : X := .ref 203 [.t (.list (s.bs.map byteT)), .t (.int .i64 s.p), .t (.int .i64 s.sd)]
structure Src.Ok (s : Src) (m : Nat) : Prop where
  len : s.bs.length < 4294967296
  pos : s.p ≤ m
  lo : 0 ≤ s.sd
  hi : s.sd < 2147483648
theorem Src.Ok.up {s : Src} {m k : Nat} (h : s.Ok m) (hk : m ≤ k) : s.Ok k := ⟨h.len, Nat.le_trans h.pos hk, h.lo, h.hi⟩
def encP (v : Val) : Bytes := if v.k = 0 then numP v.k 1 else if v.k = 1 then numP v.k 1 ++ numP v.n 1 else if v.k = 2 then numP v.k 1 ++ numP (v.n + 4611686018427387904) 8 else numP v.k 1 ++ numP (v.t.length : Nat) 2 ++ v.t
def encF (f : Fld) : Bytes := numP (f.name.length : Nat) 1 ++ f.name ++ encP f.v
def _root_.Go.Pu.Val.little (v : Val) : Prop := -1000000000000 ≤ v.n ∧ v.n ≤ 1000000000000 ∧ v.t.length ≤ 300
theorem encP_len {v : Val} (h : v.little) : (encP v).length ≤ 310 := by
  have := h.2.2
  unfold encP
  split
  · simp [numP_len]
  · split
    · simp [numP_len]
    · split
      · simp [numP_len]
      · simp [numP_len]; omega
theorem l01Encode (v : Val) (h : v.little) : run E (.call 268 [xV v]) = some (.res [xS (encP v)] []) := by
  rw [run_call E 268 _ rfl Tryz.func268 rfl rfl rfl (by simp)]
  have d9 := d268_9
  simp [regionOf, findR, pick, Tryz.f268] at d9
  have dd9 := fun st => run_region_draw E st 9 _ d9
  clear d9
  obtain ⟨h1, h2, h3⟩ := h
  have n1 := l01Number v.k 1 (by omega)
  have n2 := l01Number v.n 1 (by omega)
  have n3 := l01Number (v.n + 4611686018427387904) 8 (by omega)
  have n4 := l01Number (v.t.length : Nat) 2 (by omega)
  have hw : IntKind.i64.wrap (v.n + 4611686018427387904) = v.n + 4611686018427387904 := wrap_of (by omega) (by omega)
  have l1 := numP_len v.k 1
  have l2 := numP_len v.n 1
  have l3 := numP_len (v.n + 4611686018427387904) 8
  have l4 := numP_len (v.t.length : Nat) 2
  unfold encP
  generalize numP v.k 1 = a at *
  generalize numP v.n 1 = b at *
  generalize numP (v.n + 4611686018427387904) 8 = c at *
  generalize numP (v.t.length : Nat) 2 = e at *
  have c1 : a.length + b.length ≤ 140737488355328 := by omega
  have c2 : a.length + c.length ≤ 140737488355328 := by omega
  have c3 : a.length + e.length ≤ 140737488355328 := by omega
  have c4 : a.length + e.length + v.t.length ≤ 140737488355328 := by omega
  simp at n1 n2 n3 n4
  by_cases k0 : v.k = 0
  · have k0' : (v.k = 0) = True := eq_true k0
    clear k0
    simp [n1, k0', l1, l2, l3, l4, c1, c2, c3, c4]
  · by_cases k1 : v.k = 1
    · have k1' : (v.k = 1) = True := eq_true k1
      have k0' : (v.k = 0) = False := eq_false k0
      clear k0 k1
      simp [n1, n2, k0', k1', l1, l2, l3, l4, c1]
    · by_cases k2 : v.k = 2
      · have k2' : (v.k = 2) = True := eq_true k2
        have k1' : (v.k = 1) = False := eq_false k1
        have k0' : (v.k = 0) = False := eq_false k0
        clear k0 k1 k2
        simp [n1, n3, hw, k0', k1', k2', l1, l2, l3, l4, c1]
      · simp [dd9, n1, n4, k0, k1, k2, l1, l2, l3, l4, c3, c4]
        try omega
theorem l01Int (n : Int) : run E (.call 238 [xI n]) = some (.res [valX ⟨2, n, []⟩] []) := by
  rw [run_call E 238 _ rfl Tryz.func238 rfl rfl rfl (by simp)]
  simp
theorem l01Text (t : Bytes) : run E (.call 265 [xS t]) = some (.res [valX ⟨3, 0, t⟩] []) := by
  rw [run_call E 265 _ rfl Tryz.func265 rfl rfl rfl (by simp)]
  simp
theorem l01List (xs : List Val) (h : ∀ x ∈ xs, x.little) (hl : xs.length ≤ 1000) : run E (.call 266 [.t (.list (xs.map valT))]) = some (.res [valX ⟨4, 0, xs.flatMap encP⟩] []) := by
  rw [run_call E 266 _ rfl Tryz.func266 rfl rfl rfl (by simp)]
  have lp := fun (R : Bytes) (hR : R = xs.flatMap encP) => sk (fun s o q hI => loop_for (c := loopAt Tryz.f266 0) (N := 20)
    (fun i s o q => ∃ acc, s 0 = .t (.list (xs.map valT)) ∧ s 2 = .ptr 0 0 ∧ s 3 = .t (.str acc) ∧ s 4 = .t (.int .i64 i) ∧ o 0 = .box 74 [.t (.int .i64 0), .t (.int .i64 0), .t (.str [])] ∧ 0 < q ∧ acc.length ≤ i * 310 ∧ R = acc ++ (xs.drop i).flatMap encP)
    (fun e s' o' q' => e = .exit 0 ∧ s' 2 = .ptr 0 0 ∧ s' 3 = .t (.str R) ∧ o' 0 = .box 74 [.t (.int .i64 0), .t (.int .i64 0), .t (.str [])] ∧ 0 < q') xs.length
    (by
      rintro i s o q hi ⟨acc, h0, h2, h3, h4, ho, hq, hl2, hp⟩
      have hi' : (i : Int) < (xs.length : Int) := by omega
      have hwi := wrap_succ (n := i) (by omega)
      have hxi : xs[i]? = some xs[i] := List.getElem?_eq_getElem hi
      have hli := h _ (List.getElem_mem hi)
      have he := l01Encode xs[i] hli
      have hel := encP_len hli
      rw [List.drop_eq_getElem_cons hi, List.flatMap_cons, ← List.append_assoc] at hp
      generalize encP xs[i] = e at *
      have hcc : acc.length + e.length ≤ 140737488355328 := by omega
      simp [loopAt, loopsOf, Tryz.f266, h0, h2, h3, h4, ho, hi, hi', hwi, hxi, he, hcc, hq]
      exact ⟨by rw [Nat.add_mul]; omega, by rw [hp]; simp⟩)
    (by
      rintro s o q ⟨acc, h0, h2, h3, h4, ho, hq, hl2, hp⟩
      simp at hp
      simp [loopAt, loopsOf, Tryz.f266, h0, h2, h3, h4, ho, hp, hq])
    xs.length 0 s o q (by omega) hI)
  simp only [loopAt, loopsOf, Tryz.f266] at lp
  obtain ⟨X, A, B, C, hx⟩ := lp _ rfl
  have hx' := fun s o q a0 a2 a3 a4 ao aq => hx s o q ⟨[], a0, a2, a3, a4, ao, aq, by simp, by simp⟩
  clear hx lp
  simp at hx'
  simp [hx']
theorem l01Doc (xs : List Fld) (h : ∀ x ∈ xs, x.v.little ∧ x.name.length ≤ 100) (hl : xs.length ≤ 1000) : run E (.call 181 [.t (.list (xs.map fldT))]) = some (.res [valX ⟨5, 0, xs.flatMap encF⟩] []) := by
  rw [run_call E 181 _ rfl Tryz.func181 rfl rfl rfl (by simp)]
  have d5 := d181_5
  simp [regionOf, findR, pick, Tryz.f181] at d5
  have dd5 := fun st => run_region_draw E st 5 _ d5
  clear d5
  have lp := fun (R : Bytes) (hR : R = xs.flatMap encF) => sk (fun s o q hI => loop_for (c := loopAt Tryz.f181 0) (N := 35)
    (fun i s o q => ∃ acc, s 0 = .t (.list (xs.map fldT)) ∧ s 2 = .ptr 0 0 ∧ s 3 = .t (.str acc) ∧ s 4 = .t (.int .i64 i) ∧ o 0 = .box 74 [.t (.int .i64 0), .t (.int .i64 0), .t (.str [])] ∧ 0 < q ∧ acc.length ≤ i * 420 ∧ R = acc ++ (xs.drop i).flatMap encF)
    (fun e s' o' q' => e = .exit 0 ∧ s' 2 = .ptr 0 0 ∧ s' 3 = .t (.str R) ∧ o' 0 = .box 74 [.t (.int .i64 0), .t (.int .i64 0), .t (.str [])] ∧ 0 < q') xs.length
    (by
      rintro i s o q hi ⟨acc, h0, h2, h3, h4, ho, hq, hl2, hp⟩
      have hi' : (i : Int) < (xs.length : Int) := by omega
      have hwi := wrap_succ (n := i) (by omega)
      have hxi : xs[i]? = some xs[i] := List.getElem?_eq_getElem hi
      have hli := h _ (List.getElem_mem hi)
      have he := l01Encode xs[i].v hli.1
      have hel := encP_len hli.1
      have hnl := hli.2
      have hn := l01Number (xs[i].name.length : Nat) 1 (by omega)
      have hnl1 := numP_len (xs[i].name.length : Nat) 1
      have hee : encF xs[i] = numP (xs[i].name.length : Nat) 1 ++ xs[i].name ++ encP xs[i].v := rfl
      rw [List.drop_eq_getElem_cons hi, List.flatMap_cons, ← List.append_assoc] at hp
      rw [hee] at hp
      clear hee
      generalize encP xs[i].v = e at *
      generalize numP (xs[i].name.length : Nat) 1 = z at *
      have hc1 : z.length + (xs[i].name).length ≤ 140737488355328 := by omega
      have hc2 : z.length + (xs[i].name).length + e.length ≤ 140737488355328 := by omega
      have hc3 : acc.length + (z.length + (xs[i].name).length + e.length) ≤ 140737488355328 := by omega
      have hc4 : acc.length + (1 + ((xs[i].name).length + e.length)) ≤ 140737488355328 := by omega
      have hc5 : 1 + (xs[i].name).length ≤ 140737488355328 := by omega
      have hc6 : 1 + (xs[i].name).length + e.length ≤ 140737488355328 := by omega
      simp at hn
      simp [loopAt, loopsOf, Tryz.f181, h0, h2, h3, h4, ho, hi, hi', hwi, dd5, hxi, he, hn, hnl1, hc1, hc2, hc3, hc4, hc5, hc6, hq]
      exact ⟨by rw [Nat.add_mul]; omega, by rw [hp]; simp⟩)
    (by
      rintro s o q ⟨acc, h0, h2, h3, h4, ho, hq, hl2, hp⟩
      simp at hp
      simp [loopAt, loopsOf, Tryz.f181, h0, h2, h3, h4, ho, hp, hq])
    xs.length 0 s o q (by omega) hI)
  simp only [loopAt, loopsOf, Tryz.f181] at lp
  obtain ⟨X, A, B, C, hx⟩ := lp _ rfl
  have hx' := fun s o q a0 a2 a3 a4 ao aq => hx s o q ⟨[], a0, a2, a3, a4, ao, aq, by simp, by simp⟩
  clear hx lp
  simp at hx'
  simp [hx']
def scalar (v : Val) : Prop := okP 5 v = true ∧ 0 ≤ v.k ∧ v.k ≤ 3 ∧ v.t.length ≤ 100
def five : List Bytes := [[], [97], [97, 98], [98], [0]]
/-- Those that stay. -/
def stayP {α : Type} (p : α → Bool) (l : List α) : List α := l.filter fun x => !p x
/-- What the walk has left in the row. -/
def StayAt {α : Type} (p : α → Bool) (l : List α) (i j : Nat) (W : List α) : Prop := W.length = l.length ∧ W.take i = stayP p (l.take j) ∧ W.drop j = l.drop j ∧ i = (stayP p (l.take j)).length
theorem placeLt (e : Ent) (ps : List Pg) (h : ps ≠ []) : placeP e ps < ps.length := by
  have h1 := (place_at e ps [] 0 (.inl rfl) (by simp)).2
  have h2 : 0 < ps.length := List.length_pos_iff.2 h
  simp only [List.length_nil, Nat.zero_add] at h1
  unfold placeP
  omega
abbrev boxI (i : Ivl) : Ob := .box 404 [.t (.str i.low), .t (.str i.high), .t (.bool i.opn)]
theorem flats_ent : ∀ l : List Ent, T.flats (l.map entT) = true
  | [] => rfl
  | e :: r => by simp [T.flats, T.flat, flats_ent r]
abbrev boxIv (i : Ivl) : Ob := .box 404 [.t (.str i.low), .t (.str i.high), .t (.bool i.opn)]
def ixFine (x : Ix) : Bool := defOK x.dfn && treeOK x.tree
def ixsGo : List Ix → List Ix → Bool
  | _, [] => true
  | pre, x :: r => ixFine x && !(pre.any fun y => y.dfn.name == x.dfn.name) && ixsGo (pre ++ [x]) r
def ixsOK (l : List Ix) : Bool := ixsGo [] l && decide (l.length ≤ 3)
theorem specIndex (x : Ix) (h : x.Sm) : run E (.call 68 [.t (ixT x)]) = some (.res [xB (ixFine x)] []) := by
  rw [run_call E 68 _ rfl Tryz.func68 rfl rfl rfl (by simp)]
  have h1 := specDefOK x.dfn h.dfn
  have h2 := specTreeOK x.tree h.tree
  unfold ixFine
  cases hb : defOK x.dfn <;> rw [hb] at h1 <;> simp [h1, h2]
theorem implIndex (x : Ix) (h : x.Sm) : run E (.call 75 [.t (ixT x)]) = some (.res [xB (ixFine x)] []) := by
  rw [run_call E 75 _ rfl Tryz.func75 rfl rfl rfl (by simp)]
  have h1 := implDefOK x.dfn h.dfn
  have h2 := implTreeOK x.tree h.tree
  unfold ixFine
  cases hb : defOK x.dfn <;> rw [hb] at h1 <;> simp [h1, h2]
set_option maxHeartbeats 4000000
theorem dec38 {n : Nat} {ts : List T} (h : typed E (n + 4) 38 ts) : ∃ d : Dfn, T.agg ts = dfnT d ∧ d.Wd := by
  obtain ⟨h1, h2⟩ := typed_struct (by simp) h
  simp at h1 h2
  obtain ⟨g1, g2⟩ := h2
  match ts, h1 with
  | [a, b], _ =>
    obtain ⟨x, hx, hx2⟩ := typed_str g1
    obtain ⟨c, hc, hw⟩ := dec23 g2
    simp at hx hc
    exact ⟨⟨x, c⟩, by simp [hx, hc], hx2, hw⟩
theorem dec358 {n : Nat} {ts : List T} (h : typed E (n + 2) 358 ts) : ∃ e : Ent, T.agg ts = entT e ∧ W e.key.length := by
  obtain ⟨h1, h2⟩ := typed_struct (by simp) h
  simp at h1 h2
  obtain ⟨g1, g2⟩ := h2
  match ts, h1 with
  | [a, b], _ =>
    obtain ⟨x, hx, hx2⟩ := typed_str g1
    obtain ⟨c, hc⟩ := typed_int g2
    simp at hx hc
    exact ⟨⟨x, c⟩, by simp [hx, hc], hx2⟩
theorem dec261 {n : Nat} {ts : List T} (h : typed E (n + 3) 261 ts) : ∃ c : List Ent, ts = [.list (c.map entT)] ∧ W c.length ∧ ∀ x ∈ c, W x.key.length := by
  obtain ⟨xs, rfl, h1, h2⟩ := typed_slice (by simp) (by simp) h
  obtain ⟨l, rfl, h4⟩ := list_choose (enc := entT) (P := fun e : Ent => W e.key.length) (fun x hx => by
    obtain ⟨cs, e, _, h⟩ := h2 x hx
    simp at e h
    obtain ⟨t, h3, h4⟩ := dec358 h
    exact ⟨t, e.trans h3, h4⟩)
  exact ⟨l, rfl, by simpa using h1, h4⟩
theorem dec263 {n : Nat} {ts : List T} (h : typed E (n + 4) 263 ts) : ∃ p : Pg, T.agg ts = pgT p ∧ p.Wd := by
  obtain ⟨h1, h2⟩ := typed_struct (by simp) h
  simp at h1 h2
  obtain ⟨g1, g2⟩ := h2
  match ts, h1 with
  | [a, b], _ =>
    obtain ⟨x, hx⟩ := typed_int g1
    obtain ⟨c, hc, hw, hw2⟩ := dec261 g2
    simp at hx hc
    exact ⟨⟨x, c⟩, by simp [hx, hc], hw, hw2⟩
theorem dec39 {n : Nat} {ts : List T} (h : typed E (n + 5) 39 ts) : ∃ c : List Pg, ts = [.list (c.map pgT)] ∧ W c.length ∧ ∀ x ∈ c, x.Wd := by
  obtain ⟨xs, rfl, h1, h2⟩ := typed_slice (by simp) (by simp) h
  obtain ⟨l, rfl, h4⟩ := list_choose (enc := pgT) (P := Pg.Wd) (fun x hx => by
    obtain ⟨cs, e, _, h⟩ := h2 x hx
    simp at e h
    obtain ⟨t, h3, h4⟩ := dec263 h
    exact ⟨t, e.trans h3, h4⟩)
  exact ⟨l, rfl, by simpa using h1, h4⟩
theorem dec41 {n : Nat} {ts : List T} (h : typed E (n + 6) 41 ts) : ∃ t : Tr, ts = [.list (t.pages.map pgT), .int .i64 t.next] ∧ t.Wd := by
  obtain ⟨h1, h2⟩ := typed_struct (by simp) h
  simp at h1 h2
  obtain ⟨g1, g2⟩ := h2
  match ts, h1 with
  | [a, b], _ =>
    obtain ⟨x, hx, hw, hw2⟩ := dec39 g1
    obtain ⟨c, hc⟩ := typed_int g2
    simp at hx hc
    exact ⟨⟨x, c⟩, by simp [hx, hc], hw, hw2⟩
theorem dec43 {n : Nat} {ts : List T} (h : typed E (n + 7) 43 ts) : ∃ x : Ix, T.agg ts = ixT x ∧ x.Wd := by
  obtain ⟨h1, h2⟩ := typed_struct (by simp) h
  simp at h1 h2
  obtain ⟨g1, g2⟩ := h2
  match ts, h1 with
  | [a, b, c, d], _ =>
    obtain ⟨x, hx, hw⟩ := dec38 (n := n + 2) g1
    obtain ⟨t, ht, hw2⟩ := dec41 g2
    simp at hx ht
    exact ⟨⟨x, t⟩, by simp [hx, ht], hw, hw2⟩
theorem indexText (xs : List Bytes) (t : Bytes) (hl : xs.length < 9223372036854775807) :
    run E (.call 250 [.t (.list (xs.map strT)), xS t]) = some (.res [xI (idxP (fun x => t == x) xs)] []) := by
  rw [run_call E 250 _ rfl Tryz.func250 rfl rfl rfl (by simp)]
  have lp := fun (r : Int) (hr : r = idxP (fun x => t == x) xs) => sk (fun s o q hI => loop_for (c := loopAt Tryz.f250 0) (N := 19)
    (fun i s o q => s 0 = .t (.list (xs.map strT)) ∧ s 1 = .t (.str t) ∧ s 7 = .t (.int .i64 xs.length) ∧ s 8 = .t (.int .i64 i) ∧ r = if idxP (fun x => t == x) (xs.drop i) < 0 then -1 else idxP (fun x => t == x) (xs.drop i) + i)
    (fun e s' o' q' => e = (if r < 0 then .exit 0 else .ret) ∧ (0 ≤ r → s' 4 = .t (.int .i64 r))) xs.length
    (by
      rintro i s o q hi ⟨h0, h1, h7, h8, hr⟩
      have hd : xs.drop i = xs[i] :: xs.drop (i + 1) := by rw [List.drop_eq_getElem_cons hi]
      have hi' : (i : Int) < (xs.length : Int) := by omega
      have hw := wrap_succ (n := i) (by omega)
      have hxi : xs[i]? = some xs[i] := List.getElem?_eq_getElem hi
      rw [hd, idxP] at hr
      by_cases hpx : t = xs[i]
      · have hE : (t == xs[i]) = true := by simp [hpx]
        simp only [hE, if_true] at hr
        simp at hr
        have hr' : ¬ r < 0 := by omega
        have ee : (t = xs[i]) = True := eq_true hpx
        clear hpx
        simp [-mdOf, loopAt, loopsOf, Tryz.f250, h0, h1, h7, h8, hi, hi', hxi, ee, hw, hr', hr]
      · have hE : (t == xs[i]) = false := by simp [hpx]
        simp only [hE, Bool.false_eq_true, if_false] at hr
        have hr2 : r = if idxP (fun x => t == x) (xs.drop (i + 1)) < 0 then -1 else idxP (fun x => t == x) (xs.drop (i + 1)) + ((i : Int) + 1) := by
          rw [hr]
          by_cases hq : idxP (fun x => t == x) (xs.drop (i + 1)) < 0
          · simp [hq]
          · have : ¬ idxP (fun x => t == x) (xs.drop (i + 1)) + 1 < 0 := by omega
            simp [hq, this]; omega
        clear hr
        have ee : (t = xs[i]) = False := eq_false hpx
        clear hpx
        simp [-mdOf, loopAt, loopsOf, Tryz.f250, h0, h1, h7, h8, hi, hi', hxi, ee, hw]
        exact hr2)
    (by
      rintro s o q ⟨h0, h1, h7, h8, hr⟩
      simp [idxP] at hr
      simp [loopAt, loopsOf, Tryz.f250, h0, h1, h7, h8, hr])
    xs.length 0 s o q (by omega) hI)
  simp only [loopAt, loopsOf, Tryz.f250] at lp
  obtain ⟨X, A, B, C, hx⟩ := lp _ rfl
  have hz : idxP (fun x => t == x) xs = if idxP (fun x => t == x) xs < 0 then -1 else idxP (fun x => t == x) xs := by
    cases xs with
    | nil => simp [idxP]
    | cons x r =>
      unfold idxP
      split
      · simp
      · split
        · simp
        · have : ¬ idxP (fun x => t == x) r + 1 < 0 := by omega
          simp [this]
  generalize hk : idxP (fun x => t == x) xs = k at *
  simp [hk, ← hz] at hx
  by_cases h : k < 0
  · have h1 : k = -1 := by rw [hz]; simp [h]
    simp [h] at hx
    simp [hx, h1]
  · have h2 : 0 ≤ k := by omega
    simp [h, h2] at hx
    simp [hx]
theorem containsText (xs : List Bytes) (t : Bytes) (hl : xs.length < 9223372036854775807) :
    run E (.call 166 [.t (.list (xs.map strT)), xS t]) = some (.res [xB (xs.any (fun x => t == x))] []) := by
  rw [run_call E 166 _ rfl Tryz.func166 rfl rfl rfl (by simp)]
  have h := indexText xs t hl
  have h2 := idxP_ge (fun x => t == x) xs
  generalize idxP (fun x => t == x) xs = k at *
  simp [h]
  exact h2
/-- What of a list has no equal ahead of it. -/
def dedV : List Val → List Val → List Val
  | acc, [] => acc
  | acc, x :: r => dedV (if acc.any (fun y => sameV y x) then acc else acc ++ [x]) r
def nullV : Val := ⟨0, 0, []⟩
def dedN (xs : List Val) : List Val := if xs.length = 0 then [nullV] else dedV [] xs
def valsP (p : Bytes) (v : Val) : List Val := dedN (getP (cutP 46 p) v)
theorem dedV_len : ∀ (xs acc : List Val), (dedV acc xs).length ≤ acc.length + xs.length
  | [], acc => by simp [dedV]
  | x :: r, acc => by
    have h1 := dedV_len r acc
    have h2 := dedV_len r (acc ++ [x])
    unfold dedV
    split
    · simp; omega
    · simp at h2 ⊢; omega
/-- spec's values: is one there already? -/
theorem l06_has (xs acc : List Val) (i a r : Nat) (O : Os) (Q : Nat) (hi : i < xs.length) (hl : acc.length < 4294967296) (ha : O a = .row 74 (xs.map valT) true) (hr : O r = .row 74 (acc.map valT) true) : ∀ s o q, (s 5 = .row a ∧ s 6 = .row r ∧ s 7 = .t (.int .i64 i) ∧ s 8 = .t (.bool false) ∧ s 9 = .t (.int .i64 0) ∧ o = O ∧ q = Q) →
    ∃ e s' o' q', run E (.code (.loop (loopAt Tryz.f139 1)) ⟨s, o, q, 53⟩) = some (.st e ⟨s', o', q', 53⟩) ∧ e = .exit 2 ∧ s' 5 = .row a ∧ s' 6 = .row r ∧ s' 7 = .t (.int .i64 i) ∧ s' 8 = .t (.bool (acc.any (fun y => sameV y xs[i]))) ∧ o' = O ∧ q' = Q := by
  intro s o q hI
  have d12 := d139_12
  simp [regionOf, findR, pick, Tryz.f139] at d12
  have dd := fun st => run_region_draw E st 12 _ d12
  clear d12
  obtain ⟨F, hF⟩ : ∃ F : Nat → Bool, F = fun j => (acc.take j).any (fun y => sameV y xs[i]) := ⟨_, rfl⟩
  have hF0 : F 0 = false := by rw [hF]; simp
  have hFS : ∀ j (hj : j < acc.length), F (j + 1) = (F j || sameV acc[j] xs[i]) := by intro j hj; rw [hF]; simp only [List.take_succ_eq_append_getElem hj, List.any_append, List.any_cons, List.any_nil, Bool.or_false]
  have hFE : F acc.length = acc.any (fun y => sameV y xs[i]) := by rw [hF]; simp
  rw [← hFE]
  clear hF hFE
  refine loop_for (c := loopAt Tryz.f139 1) (N := 53)
    (fun j s o q => s 5 = .row a ∧ s 6 = .row r ∧ s 7 = .t (.int .i64 i) ∧ s 8 = .t (.bool (F j)) ∧ s 9 = .t (.int .i64 j) ∧ o = O ∧ q = Q)
    (fun e s' o' q' => e = .exit 2 ∧ s' 5 = .row a ∧ s' 6 = .row r ∧ s' 7 = .t (.int .i64 i) ∧ s' 8 = .t (.bool (F acc.length)) ∧ o' = O ∧ q' = Q) acc.length ?_ ?_
    acc.length 0 s o q (by omega) (by simpa [hF0] using hI)
  · rintro j s o q hj ⟨h5, h6, h7, h8, h9, rfl, rfl⟩
    have hj' : (j : Int) < (acc.length : Int) := by omega
    have hxi : xs[i]? = some xs[i] := List.getElem?_eq_getElem hi
    have hxj : acc[j]? = some acc[j] := List.getElem?_eq_getElem hj
    have hw := wrap_succ (n := j) (by omega)
    have hS := hFS j hj
    cases hb : F j <;> simp [hb] at h8 hS <;> simp [loopAt, loopsOf, Tryz.f139, dd, h5, h6, h7, h8, h9, ha, hr, hi, hj, hj', hxi, hxj, hw, hS, sameV]
  · rintro s o q ⟨h5, h6, h7, h8, h9, rfl, rfl⟩
    simp [loopAt, loopsOf, Tryz.f139, h5, h6, h7, h8, h9, ha, hr]
end Go.Rd
