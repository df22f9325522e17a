/- Keys of values: impl's putKey and keyOf. -/
import Derived.Test.YtgfdeomfociobaaGreatDoorPartH
import Derived.Test.YtgfdeomfociobaaGreatDoorPartF
import Derived.Test.YtgfdeomfociobaaGreatDoorPartG
set_option linter.unusedSimpArgs false
set_option linter.unusedVariables false
namespace Go.Yd
open Go.Ev Go.Proofs Go.Pu
set_option maxRecDepth 100000
set_option maxHeartbeats 16000000
theorem putKey_items_row (d : Nat) (ih : ∀ (v : Val) (acc : Bytes), okP d v = true → acc.length + (keyD d v).length + 4096 ≤ 70368744177664 → v.t.length < 1048576 → run E (.call 254 [.row 5 (acc.map byteT), xV v]) = some (.res [.row 5 ((acc ++ keyD d v).map byteT)] [none]))
    (v : Val) (acc : Bytes) (h : okP (d + 1) v = true) (ha : acc.length + (keyD (d + 1) v).length + 4096 ≤ 70368744177664) (hv : v.t.length < 1048576) (hk : v.k = 4) : run E (.call 254 [.row 5 (acc.map byteT), xV v]) = some (.res [.row 5 ((acc ++ keyD (d + 1) v).map byteT)] [none]) := by
  rw [run_call E 254 _ rfl Tryz.func254 rfl rfl rfl (by simp)]
  obtain ⟨e, xs, hd, _, hit, hx⟩ := okP_list h hk
  obtain rfl : d = e := by omega
  have hi := implItems v (by omega)
  rw [itemsI_some hit] at hi
  simp at hi
  obtain ⟨hs1, hs2⟩ := items_small hit
  have hw : IntKind.i64.wrap (v.k + 1) = v.k + 1 := wrap_of (by omega) (by omega)
  have hu := u8_wrap (v.k + 1)
  have hr1 : List.range 1 = [0] := rfl
  have e0 : (v.k = 0) = False := by rw [hk]; simp
  have e1 : (v.k = 1) = False := by rw [hk]; simp
  have e2 : (v.k = 2) = False := by rw [hk]; simp
  have e3 : (v.k = 3) = False := by rw [hk]; simp
  have e4 : (v.k = 4) = True := by rw [hk]; simp
  have eL : itemsL v.t = xs := by simp [itemsL, hit]
  have ekey : keyD (d + 1) v = byteAt (v.k + 1) 0 :: (xs.flatMap (keyD d) ++ [0]) := by simp [keyD, e0, e1, e2, e3, e4, eL, headK, numP_1]
  rw [ekey] at ha ⊢
  clear hk
  have lp := fun (ri : Nat) (hri0 : 0 < ri) (R : Bytes) (hR : R = acc ++ [byteAt (v.k + 1) 0] ++ xs.flatMap (keyD d)) => sk1 (fun s o q hI => loop_for (c := loopAt Tryz.f254 0) (N := 91)
    (fun i s o q => ∃ r acc', s 0 = .row r ∧ o r = .row 5 (acc'.map byteT) true ∧ r < q ∧ s 51 = .row ri ∧ o ri = .row 35 (xs.map valT) true ∧ ri < q ∧ ri ≠ r ∧ 0 < r ∧ s 52 = .t (.int .i64 xs.length) ∧ s 53 = .t (.int .i64 i) ∧ o 0 = .dead ∧ R = acc' ++ (xs.drop i).flatMap (keyD d))
    (fun e s' o' q' => ∃ r, e = .exit 1 ∧ s' 0 = .row r ∧ o' r = .row 5 (R.map byteT) true ∧ ¬ r = q' ∧ ¬ q' = r ∧ ¬ r = q' + 1 ∧ ¬ q' = 0 ∧ ¬ 0 = q' ∧ ¬ r = 0 ∧ ¬ 0 = r ∧ o' 0 = .dead) xs.length
    (by
      rintro i s o q hi ⟨r, acc', h0, hor, hrq, h51, hori, hriq, hne, hr0, h52, h53, hdd, hp⟩
      have hi' : (i : Int) < (xs.length : Int) := by omega
      have hwi := wrap_succ (n := i) (by omega)
      have hxi : xs[i]? = some xs[i] := List.getElem?_eq_getElem hi
      rw [flat_drop _ _ _ hi, ← List.append_assoc] at hp
      have hlen : acc'.length + (keyD d xs[i]).length + 4096 ≤ 70368744177664 := by
        have h1 := congrArg List.length hp
        have h2 := congrArg List.length hR
        simp at h1 h2 ha
        omega
      have hr := ih xs[i] acc' (hx _ (List.getElem_mem hi)) hlen (by have := hs2 _ (List.getElem_mem hi); omega)
      have g1 : ¬ r = q := by omega
      have g2 : ¬ q = r := by omega
      have g3 : ¬ ri = q := by omega
      have g4 : ¬ q = ri := by omega
      have g5 : ¬ r = q + 1 := by omega
      have g6 : ¬ ri = q + 1 := by omega
      have g7 : ¬ q = 0 := by omega
      have g8 : ¬ 0 = q := by omega
      have g9 : ¬ r = ri := fun h => hne h.symm
      have g10 : ¬ 0 = r := by omega
      have g11 : ¬ r = 0 := by omega
      have g12 : ¬ ri = 0 := by omega
      have g13 : ¬ q + 1 = ri := by omega
      simp [loopAt, loopsOf, Tryz.f254, h0, hor, h51, hori, h52, h53, hi, hi', hwi, hxi, hr, g1, g2, g3, g4, g5, g6, g7, g8, g9, g10, g11, g12, g13, hne, hdd]
      exact ⟨acc' ++ keyD d xs[i], by simp, by omega, hp⟩)
    (by
      rintro s o q ⟨r, acc', h0, hor, hrq, h51, hori, hriq, hne, hr0, h52, h53, hdd, hp⟩
      simp at hp
      subst hp
      have g1 : ¬ r = q := by omega
      have g2 : ¬ q = r := by omega
      have g5 : ¬ r = q + 1 := by omega
      have g7 : ¬ q = 0 := by omega
      have g8 : ¬ 0 = q := by omega
      have g10 : ¬ 0 = r := by omega
      have g11 : ¬ r = 0 := by omega
      simp [loopAt, loopsOf, Tryz.f254, h0, hor, h51, hori, h52, h53, g1, g2, g5, g7, g8, g10, g11, hdd])
    xs.length 0 s o q (by omega) hI)
  simp only [loopAt, loopsOf, Tryz.f254] at lp
  obtain ⟨R, hR⟩ : ∃ R, R = acc ++ [byteAt (v.k + 1) 0] ++ xs.flatMap (keyD d) := ⟨_, rfl⟩
  obtain ⟨X, A, B, C, M, hl⟩ := lp 4 (by omega) R hR
  have hl' := fun s o q r a0 a1 a2 a3 a4 a5 a6 a7 a8 a9 a10 => hl s o q ⟨r, acc ++ [byteAt (v.k + 1) 0], a0, a1, a2, a3, a4, a5, a6, a7, a8, a9, a10, by simpa using hR⟩
  clear hl lp
  have hlR : R.length + 1 ≤ 140737488355328 := by
    have h2 := congrArg List.length hR
    simp at h2 ha
    omega
  have hl1 : acc.length + 1 ≤ 140737488355328 := by simp at ha ⊢ <;> omega
  have hfin : acc ++ byteAt (v.k + 1) 0 :: (xs.flatMap (keyD d) ++ [0]) = R ++ [0] := by rw [hR]; simp
  rw [hfin]
  clear hfin hR ekey
  simp at hl'
  simp [e0, e1, e2, e3, e4, hw, hu, hi, hl', hlR, hr1, hl1]
theorem putKey_items_nil (d : Nat) (ih : ∀ (v : Val) (acc : Bytes), okP d v = true → acc.length + (keyD d v).length + 4096 ≤ 70368744177664 → v.t.length < 1048576 → run E (.call 254 [.row 5 (acc.map byteT), xV v]) = some (.res [.row 5 ((acc ++ keyD d v).map byteT)] [none]))
    (v : Val)  (h : okP (d + 1) v = true) (ha : ([] : Bytes).length + (keyD (d + 1) v).length + 4096 ≤ 70368744177664) (hv : v.t.length < 1048576) (hk : v.k = 4) : run E (.call 254 [.nil, xV v]) = some (.res [.row 5 ((([] : Bytes) ++ keyD (d + 1) v).map byteT)] [some .nil]) := by
  rw [run_call E 254 _ rfl Tryz.func254 rfl rfl rfl (by simp)]
  obtain ⟨e, xs, hd, _, hit, hx⟩ := okP_list h hk
  obtain rfl : d = e := by omega
  have hi := implItems v (by omega)
  rw [itemsI_some hit] at hi
  simp at hi
  obtain ⟨hs1, hs2⟩ := items_small hit
  have hw : IntKind.i64.wrap (v.k + 1) = v.k + 1 := wrap_of (by omega) (by omega)
  have hu := u8_wrap (v.k + 1)
  have hr1 : List.range 1 = [0] := rfl
  have e0 : (v.k = 0) = False := by rw [hk]; simp
  have e1 : (v.k = 1) = False := by rw [hk]; simp
  have e2 : (v.k = 2) = False := by rw [hk]; simp
  have e3 : (v.k = 3) = False := by rw [hk]; simp
  have e4 : (v.k = 4) = True := by rw [hk]; simp
  have eL : itemsL v.t = xs := by simp [itemsL, hit]
  have ekey : keyD (d + 1) v = byteAt (v.k + 1) 0 :: (xs.flatMap (keyD d) ++ [0]) := by simp [keyD, e0, e1, e2, e3, e4, eL, headK, numP_1]
  rw [ekey] at ha ⊢
  clear hk
  have lp := fun (ri : Nat) (hri0 : 0 < ri) (R : Bytes) (hR : R = ([] : Bytes) ++ [byteAt (v.k + 1) 0] ++ xs.flatMap (keyD d)) => sk1 (fun s o q hI => loop_for (c := loopAt Tryz.f254 0) (N := 91)
    (fun i s o q => ∃ r acc', s 0 = .row r ∧ o r = .row 5 (acc'.map byteT) true ∧ r < q ∧ s 51 = .row ri ∧ o ri = .row 35 (xs.map valT) true ∧ ri < q ∧ ri ≠ r ∧ 0 < r ∧ s 52 = .t (.int .i64 xs.length) ∧ s 53 = .t (.int .i64 i) ∧ True ∧ R = acc' ++ (xs.drop i).flatMap (keyD d))
    (fun e s' o' q' => ∃ r, e = .exit 1 ∧ s' 0 = .row r ∧ o' r = .row 5 (R.map byteT) true ∧ ¬ r = q' ∧ ¬ q' = r ∧ ¬ r = q' + 1 ∧ ¬ q' = 0 ∧ ¬ 0 = q' ∧ ¬ r = 0 ∧ ¬ 0 = r ∧ True) xs.length
    (by
      rintro i s o q hi ⟨r, acc', h0, hor, hrq, h51, hori, hriq, hne, hr0, h52, h53, hdd, hp⟩
      have hi' : (i : Int) < (xs.length : Int) := by omega
      have hwi := wrap_succ (n := i) (by omega)
      have hxi : xs[i]? = some xs[i] := List.getElem?_eq_getElem hi
      rw [flat_drop _ _ _ hi, ← List.append_assoc] at hp
      have hlen : acc'.length + (keyD d xs[i]).length + 4096 ≤ 70368744177664 := by
        have h1 := congrArg List.length hp
        have h2 := congrArg List.length hR
        simp at h1 h2 ha
        omega
      have hr := ih xs[i] acc' (hx _ (List.getElem_mem hi)) hlen (by have := hs2 _ (List.getElem_mem hi); omega)
      have g1 : ¬ r = q := by omega
      have g2 : ¬ q = r := by omega
      have g3 : ¬ ri = q := by omega
      have g4 : ¬ q = ri := by omega
      have g5 : ¬ r = q + 1 := by omega
      have g6 : ¬ ri = q + 1 := by omega
      have g7 : ¬ q = 0 := by omega
      have g8 : ¬ 0 = q := by omega
      have g9 : ¬ r = ri := fun h => hne h.symm
      have g10 : ¬ 0 = r := by omega
      have g11 : ¬ r = 0 := by omega
      have g12 : ¬ ri = 0 := by omega
      have g13 : ¬ q + 1 = ri := by omega
      simp [loopAt, loopsOf, Tryz.f254, h0, hor, h51, hori, h52, h53, hi, hi', hwi, hxi, hr, g1, g2, g3, g4, g5, g6, g7, g8, g9, g10, g11, g12, g13, hne, hdd]
      exact ⟨acc' ++ keyD d xs[i], by simp, by omega, hp⟩)
    (by
      rintro s o q ⟨r, acc', h0, hor, hrq, h51, hori, hriq, hne, hr0, h52, h53, hdd, hp⟩
      simp at hp
      subst hp
      have g1 : ¬ r = q := by omega
      have g2 : ¬ q = r := by omega
      have g5 : ¬ r = q + 1 := by omega
      have g7 : ¬ q = 0 := by omega
      have g8 : ¬ 0 = q := by omega
      have g10 : ¬ 0 = r := by omega
      have g11 : ¬ r = 0 := by omega
      simp [loopAt, loopsOf, Tryz.f254, h0, hor, h51, hori, h52, h53, g1, g2, g5, g7, g8, g10, g11, hdd])
    xs.length 0 s o q (by omega) hI)
  simp only [loopAt, loopsOf, Tryz.f254] at lp
  obtain ⟨R, hR⟩ : ∃ R, R = ([] : Bytes) ++ [byteAt (v.k + 1) 0] ++ xs.flatMap (keyD d) := ⟨_, rfl⟩
  obtain ⟨X, A, B, C, M, hl⟩ := lp 3 (by omega) R hR
  have hl' := fun s o q r a0 a1 a2 a3 a4 a5 a6 a7 a8 a9 a10 => hl s o q ⟨r, ([] : Bytes) ++ [byteAt (v.k + 1) 0], a0, a1, a2, a3, a4, a5, a6, a7, a8, a9, a10, by simpa using hR⟩
  clear hl lp
  have hlR : R.length + 1 ≤ 140737488355328 := by
    have h2 := congrArg List.length hR
    simp at h2 ha
    omega
  have hl1 : ([] : Bytes).length + 1 ≤ 140737488355328 := by simp at ha ⊢ <;> omega
  have hfin : ([] : Bytes) ++ byteAt (v.k + 1) 0 :: (xs.flatMap (keyD d) ++ [0]) = R ++ [0] := by rw [hR]; simp
  rw [hfin]
  clear hfin hR ekey
  simp at hl'
  simp [e0, e1, e2, e3, e4, hw, hu, hi, hl', hlR, hr1, hl1]
end Go.Yd
/- Keys of values: impl's putKey and keyOf. -/
set_option linter.unusedSimpArgs false
set_option linter.unusedVariables false
namespace Go.Yd
open Go.Ev Go.Proofs Go.Pu
set_option maxRecDepth 100000
set_option maxHeartbeats 16000000
theorem putKey_fields_row (d : Nat) (ih : ∀ (v : Val) (acc : Bytes), okP d v = true → acc.length + (keyD d v).length + 4096 ≤ 70368744177664 → v.t.length < 1048576 → run E (.call 254 [.row 5 (acc.map byteT), xV v]) = some (.res [.row 5 ((acc ++ keyD d v).map byteT)] [none]))
    (v : Val) (acc : Bytes) (h : okP (d + 1) v = true) (ha : acc.length + (keyD (d + 1) v).length + 4096 ≤ 70368744177664) (hv : v.t.length < 1048576) (hk : v.k = 5) : run E (.call 254 [.row 5 (acc.map byteT), xV v]) = some (.res [.row 5 ((acc ++ keyD (d + 1) v).map byteT)] [none]) := by
  rw [run_call E 254 _ rfl Tryz.func254 rfl rfl rfl (by simp)]
  obtain ⟨e, xs, hd, _, hit, _, hx⟩ := okP_doc h hk
  obtain rfl : d = e := by omega
  have hi := implFields v (by omega)
  rw [fieldsI_some hit] at hi
  simp at hi
  obtain ⟨hs1, hs2⟩ := fields_small hit
  have hw : IntKind.i64.wrap (v.k + 1) = v.k + 1 := wrap_of (by omega) (by omega)
  have hu := u8_wrap (v.k + 1)
  have hr1 : List.range 1 = [0] := rfl
  have e0 : (v.k = 0) = False := by rw [hk]; simp
  have e1 : (v.k = 1) = False := by rw [hk]; simp
  have e2 : (v.k = 2) = False := by rw [hk]; simp
  have e3 : (v.k = 3) = False := by rw [hk]; simp
  have e4 : (v.k = 4) = False := by rw [hk]; simp
  have e5 : (v.k = 5) = True := by rw [hk]; simp
  have eL : fieldsL v.t = xs := by simp [fieldsL, hit]
  obtain ⟨F, hF⟩ : ∃ F : Fld → Bytes, F = (fun f => [1] ++ escP f.name ++ keyD d f.v) := ⟨_, rfl⟩
  have hFx : ∀ f, F f = 1 :: (escP f.name ++ keyD d f.v) := by intro f; rw [hF]; simp
  have hFl : ∀ f, (F f).length = 1 + (escP f.name).length + (keyD d f.v).length := by intro f; rw [hF]; simp; omega
  have ekey : keyD (d + 1) v = byteAt (v.k + 1) 0 :: (xs.flatMap F ++ [0]) := by rw [hF]; simp [keyD, e0, e1, e2, e3, e4, eL, headK, numP_1]
  clear hF
  have n22 := n254_22
  have s22 := s254_22
  simp [regionOf, findR, pick, Tryz.f254] at n22 s22
  have dd := fun st => run_region_drawS E st 22 _ n22 s22
  clear n22 s22
  rw [ekey] at ha ⊢
  clear hk
  have lp := fun (ri : Nat) (hri0 : 0 < ri) (R : Bytes) (hR : R = acc ++ [byteAt (v.k + 1) 0] ++ xs.flatMap F) => sk1 (fun s o q hI => loop_for (c := loopAt Tryz.f254 1) (N := 91)
    (fun i s o q => ∃ r acc', s 0 = .row r ∧ o r = .row 5 (acc'.map byteT) true ∧ r < q ∧ s 71 = .row ri ∧ o ri = .row 125 (xs.map fldT) true ∧ ri < q ∧ ri ≠ r ∧ 0 < r ∧ s 72 = .t (.int .i64 xs.length) ∧ s 73 = .t (.int .i64 i) ∧ o 0 = .dead ∧ R = acc' ++ (xs.drop i).flatMap F)
    (fun e s' o' q' => ∃ r, e = .exit 3 ∧ s' 0 = .row r ∧ o' r = .row 5 (R.map byteT) true ∧ ¬ r = q' ∧ ¬ q' = r ∧ ¬ r = q' + 1 ∧ ¬ q' = 0 ∧ ¬ 0 = q' ∧ ¬ r = 0 ∧ ¬ 0 = r ∧ o' 0 = .dead) xs.length
    (by
      rintro i s o q hi ⟨r, acc', h0, hor, hrq, h51, hori, hriq, hne, hr0, h52, h53, hdd, hp⟩
      have hi' : (i : Int) < (xs.length : Int) := by omega
      have hwi := wrap_succ (n := i) (by omega)
      have hxi : xs[i]? = some xs[i] := List.getElem?_eq_getElem hi
      rw [flat_drop _ _ _ hi, ← List.append_assoc] at hp
      have hlen : acc'.length + (F xs[i]).length + 4096 ≤ 70368744177664 := by
        have h1 := congrArg List.length hp
        have h2 := congrArg List.length hR
        simp at h1 h2 ha
        omega
      have hsm := hs2 _ (List.getElem_mem hi)
      have hFi := hFx xs[i]
      have hFk := hFl xs[i]
      have hpt := putText (acc' ++ [1]) xs[i].name (by omega) (by simp; omega)
      have hr := ih xs[i].v (acc' ++ [1] ++ escP xs[i].name) (hx _ (List.getElem_mem hi)).2 (by simp; omega) (by omega)
      have hb1 : acc'.length + 1 ≤ 140737488355328 := by omega
      have hb1' : byteT 1 = T.int IntKind.u8 1 := rfl
      simp [hb1'] at hpt hr
      rw [hFi] at hp
      have g1 : ¬ r = q := by omega
      have g2 : ¬ q = r := by omega
      have g3 : ¬ ri = q := by omega
      have g4 : ¬ q = ri := by omega
      have g5 : ¬ r = q + 1 := by omega
      have g6 : ¬ ri = q + 1 := by omega
      have g7 : ¬ q = 0 := by omega
      have g8 : ¬ 0 = q := by omega
      have g9 : ¬ r = ri := fun h => hne h.symm
      have g10 : ¬ 0 = r := by omega
      have g11 : ¬ r = 0 := by omega
      have g12 : ¬ ri = 0 := by omega
      have g13 : ¬ q + 1 = ri := by omega
      have g14 : ¬ q + 1 + 1 = ri := by omega
      have g15 : ¬ q + 1 + 1 + 1 = ri := by omega
      have g16 : ¬ ri = q + 1 + 1 := by omega
      have g17 : ¬ ri = q + 1 + 1 + 1 := by omega
      have g18 : ¬ q = q + 1 + 1 := by omega
      simp [loopAt, loopsOf, Tryz.f254, h0, hor, h51, hori, h52, h53, hi, hi', hwi, hxi, hr, hpt, hb1, hr1, dd, g1, g2, g3, g4, g5, g6, g7, g8, g9, g10, g11, g12, g13, g14, g15, g16, g17, g18, hne, hdd]
      exact ⟨acc' ++ 1 :: (escP xs[i].name ++ keyD d xs[i].v), by simp [hb1'], by omega, hp⟩)
    (by
      rintro s o q ⟨r, acc', h0, hor, hrq, h51, hori, hriq, hne, hr0, h52, h53, hdd, hp⟩
      simp at hp
      subst hp
      have g1 : ¬ r = q := by omega
      have g2 : ¬ q = r := by omega
      have g5 : ¬ r = q + 1 := by omega
      have g7 : ¬ q = 0 := by omega
      have g8 : ¬ 0 = q := by omega
      have g10 : ¬ 0 = r := by omega
      have g11 : ¬ r = 0 := by omega
      simp [loopAt, loopsOf, Tryz.f254, h0, hor, h51, hori, h52, h53, g1, g2, g5, g7, g8, g10, g11, hdd])
    xs.length 0 s o q (by omega) hI)
  simp only [loopAt, loopsOf, Tryz.f254] at lp
  obtain ⟨R, hR⟩ : ∃ R, R = acc ++ [byteAt (v.k + 1) 0] ++ xs.flatMap F := ⟨_, rfl⟩
  obtain ⟨X, A, B, C, M, hl⟩ := lp 4 (by omega) R hR
  have hl' := fun s o q r a0 a1 a2 a3 a4 a5 a6 a7 a8 a9 a10 => hl s o q ⟨r, acc ++ [byteAt (v.k + 1) 0], a0, a1, a2, a3, a4, a5, a6, a7, a8, a9, a10, by simpa using hR⟩
  clear hl lp
  have hlR : R.length + 1 ≤ 140737488355328 := by
    have h2 := congrArg List.length hR
    simp at h2 ha
    omega
  have hl1 : acc.length + 1 ≤ 140737488355328 := by simp at ha ⊢ <;> omega
  have hfin : acc ++ byteAt (v.k + 1) 0 :: (xs.flatMap F ++ [0]) = R ++ [0] := by rw [hR]; simp
  rw [hfin]
  clear hfin hR ekey
  simp at hl'
  simp [e0, e1, e2, e3, e4, e5, hw, hu, hi, hl', hlR, hr1, hl1]
theorem putKey_fields_nil (d : Nat) (ih : ∀ (v : Val) (acc : Bytes), okP d v = true → acc.length + (keyD d v).length + 4096 ≤ 70368744177664 → v.t.length < 1048576 → run E (.call 254 [.row 5 (acc.map byteT), xV v]) = some (.res [.row 5 ((acc ++ keyD d v).map byteT)] [none]))
    (v : Val)  (h : okP (d + 1) v = true) (ha : ([] : Bytes).length + (keyD (d + 1) v).length + 4096 ≤ 70368744177664) (hv : v.t.length < 1048576) (hk : v.k = 5) : run E (.call 254 [.nil, xV v]) = some (.res [.row 5 ((([] : Bytes) ++ keyD (d + 1) v).map byteT)] [some .nil]) := by
  rw [run_call E 254 _ rfl Tryz.func254 rfl rfl rfl (by simp)]
  obtain ⟨e, xs, hd, _, hit, _, hx⟩ := okP_doc h hk
  obtain rfl : d = e := by omega
  have hi := implFields v (by omega)
  rw [fieldsI_some hit] at hi
  simp at hi
  obtain ⟨hs1, hs2⟩ := fields_small hit
  have hw : IntKind.i64.wrap (v.k + 1) = v.k + 1 := wrap_of (by omega) (by omega)
  have hu := u8_wrap (v.k + 1)
  have hr1 : List.range 1 = [0] := rfl
  have e0 : (v.k = 0) = False := by rw [hk]; simp
  have e1 : (v.k = 1) = False := by rw [hk]; simp
  have e2 : (v.k = 2) = False := by rw [hk]; simp
  have e3 : (v.k = 3) = False := by rw [hk]; simp
  have e4 : (v.k = 4) = False := by rw [hk]; simp
  have e5 : (v.k = 5) = True := by rw [hk]; simp
  have eL : fieldsL v.t = xs := by simp [fieldsL, hit]
  obtain ⟨F, hF⟩ : ∃ F : Fld → Bytes, F = (fun f => [1] ++ escP f.name ++ keyD d f.v) := ⟨_, rfl⟩
  have hFx : ∀ f, F f = 1 :: (escP f.name ++ keyD d f.v) := by intro f; rw [hF]; simp
  have hFl : ∀ f, (F f).length = 1 + (escP f.name).length + (keyD d f.v).length := by intro f; rw [hF]; simp; omega
  have ekey : keyD (d + 1) v = byteAt (v.k + 1) 0 :: (xs.flatMap F ++ [0]) := by rw [hF]; simp [keyD, e0, e1, e2, e3, e4, eL, headK, numP_1]
  clear hF
  have n22 := n254_22
  have s22 := s254_22
  simp [regionOf, findR, pick, Tryz.f254] at n22 s22
  have dd := fun st => run_region_drawS E st 22 _ n22 s22
  clear n22 s22
  rw [ekey] at ha ⊢
  clear hk
  have lp := fun (ri : Nat) (hri0 : 0 < ri) (R : Bytes) (hR : R = ([] : Bytes) ++ [byteAt (v.k + 1) 0] ++ xs.flatMap F) => sk1 (fun s o q hI => loop_for (c := loopAt Tryz.f254 1) (N := 91)
    (fun i s o q => ∃ r acc', s 0 = .row r ∧ o r = .row 5 (acc'.map byteT) true ∧ r < q ∧ s 71 = .row ri ∧ o ri = .row 125 (xs.map fldT) true ∧ ri < q ∧ ri ≠ r ∧ 0 < r ∧ s 72 = .t (.int .i64 xs.length) ∧ s 73 = .t (.int .i64 i) ∧ True ∧ R = acc' ++ (xs.drop i).flatMap F)
    (fun e s' o' q' => ∃ r, e = .exit 3 ∧ s' 0 = .row r ∧ o' r = .row 5 (R.map byteT) true ∧ ¬ r = q' ∧ ¬ q' = r ∧ ¬ r = q' + 1 ∧ ¬ q' = 0 ∧ ¬ 0 = q' ∧ ¬ r = 0 ∧ ¬ 0 = r ∧ True) xs.length
    (by
      rintro i s o q hi ⟨r, acc', h0, hor, hrq, h51, hori, hriq, hne, hr0, h52, h53, hdd, hp⟩
      have hi' : (i : Int) < (xs.length : Int) := by omega
      have hwi := wrap_succ (n := i) (by omega)
      have hxi : xs[i]? = some xs[i] := List.getElem?_eq_getElem hi
      rw [flat_drop _ _ _ hi, ← List.append_assoc] at hp
      have hlen : acc'.length + (F xs[i]).length + 4096 ≤ 70368744177664 := by
        have h1 := congrArg List.length hp
        have h2 := congrArg List.length hR
        simp at h1 h2 ha
        omega
      have hsm := hs2 _ (List.getElem_mem hi)
      have hFi := hFx xs[i]
      have hFk := hFl xs[i]
      have hpt := putText (acc' ++ [1]) xs[i].name (by omega) (by simp; omega)
      have hr := ih xs[i].v (acc' ++ [1] ++ escP xs[i].name) (hx _ (List.getElem_mem hi)).2 (by simp; omega) (by omega)
      have hb1 : acc'.length + 1 ≤ 140737488355328 := by omega
      have hb1' : byteT 1 = T.int IntKind.u8 1 := rfl
      simp [hb1'] at hpt hr
      rw [hFi] at hp
      have g1 : ¬ r = q := by omega
      have g2 : ¬ q = r := by omega
      have g3 : ¬ ri = q := by omega
      have g4 : ¬ q = ri := by omega
      have g5 : ¬ r = q + 1 := by omega
      have g6 : ¬ ri = q + 1 := by omega
      have g7 : ¬ q = 0 := by omega
      have g8 : ¬ 0 = q := by omega
      have g9 : ¬ r = ri := fun h => hne h.symm
      have g10 : ¬ 0 = r := by omega
      have g11 : ¬ r = 0 := by omega
      have g12 : ¬ ri = 0 := by omega
      have g13 : ¬ q + 1 = ri := by omega
      have g14 : ¬ q + 1 + 1 = ri := by omega
      have g15 : ¬ q + 1 + 1 + 1 = ri := by omega
      have g16 : ¬ ri = q + 1 + 1 := by omega
      have g17 : ¬ ri = q + 1 + 1 + 1 := by omega
      have g18 : ¬ q = q + 1 + 1 := by omega
      simp [loopAt, loopsOf, Tryz.f254, h0, hor, h51, hori, h52, h53, hi, hi', hwi, hxi, hr, hpt, hb1, hr1, dd, g1, g2, g3, g4, g5, g6, g7, g8, g9, g10, g11, g12, g13, g14, g15, g16, g17, g18, hne, hdd]
      exact ⟨acc' ++ 1 :: (escP xs[i].name ++ keyD d xs[i].v), by simp [hb1'], by omega, hp⟩)
    (by
      rintro s o q ⟨r, acc', h0, hor, hrq, h51, hori, hriq, hne, hr0, h52, h53, hdd, hp⟩
      simp at hp
      subst hp
      have g1 : ¬ r = q := by omega
      have g2 : ¬ q = r := by omega
      have g5 : ¬ r = q + 1 := by omega
      have g7 : ¬ q = 0 := by omega
      have g8 : ¬ 0 = q := by omega
      have g10 : ¬ 0 = r := by omega
      have g11 : ¬ r = 0 := by omega
      simp [loopAt, loopsOf, Tryz.f254, h0, hor, h51, hori, h52, h53, g1, g2, g5, g7, g8, g10, g11, hdd])
    xs.length 0 s o q (by omega) hI)
  simp only [loopAt, loopsOf, Tryz.f254] at lp
  obtain ⟨R, hR⟩ : ∃ R, R = ([] : Bytes) ++ [byteAt (v.k + 1) 0] ++ xs.flatMap F := ⟨_, rfl⟩
  obtain ⟨X, A, B, C, M, hl⟩ := lp 3 (by omega) R hR
  have hl' := fun s o q r a0 a1 a2 a3 a4 a5 a6 a7 a8 a9 a10 => hl s o q ⟨r, ([] : Bytes) ++ [byteAt (v.k + 1) 0], a0, a1, a2, a3, a4, a5, a6, a7, a8, a9, a10, by simpa using hR⟩
  clear hl lp
  have hlR : R.length + 1 ≤ 140737488355328 := by
    have h2 := congrArg List.length hR
    simp at h2 ha
    omega
  have hl1 : ([] : Bytes).length + 1 ≤ 140737488355328 := by simp at ha ⊢ <;> omega
  have hfin : ([] : Bytes) ++ byteAt (v.k + 1) 0 :: (xs.flatMap F ++ [0]) = R ++ [0] := by rw [hR]; simp
  rw [hfin]
  clear hfin hR ekey
  simp at hl'
  simp [e0, e1, e2, e3, e4, e5, hw, hu, hi, hl', hlR, hr1, hl1]
end Go.Yd
/- Keys of values: impl's putKey and keyOf. -/
set_option linter.unusedSimpArgs false
set_option linter.unusedVariables false
namespace Go.Yd
open Go.Ev Go.Proofs Go.Pu
set_option maxRecDepth 100000
set_option maxHeartbeats 16000000
theorem putKey : ∀ (d : Nat) (v : Val) (acc : Bytes), okP d v = true → acc.length + (keyD d v).length + 4096 ≤ 70368744177664 → v.t.length < 1048576 → run E (.call 254 [.row 5 (acc.map byteT), xV v]) = some (.res [.row 5 ((acc ++ keyD d v).map byteT)] [none]) := by
  intro d
  induction d with
  | zero =>
    intro v acc h ha hv
    refine putKey_small_row 0 v acc h (by omega) hv ?_
    unfold okP at h
    by_cases h0 : v.k = 0; · omega
    by_cases h1 : v.k = 1; · omega
    by_cases h2 : v.k = 2; · omega
    by_cases h3 : v.k = 3; · omega
    simp [h0, h1, h2, h3] at h
  | succ d ih =>
    intro v acc h ha hv
    have hr := okP_range h
    by_cases h4 : v.k = 4
    · exact putKey_items_row d (fun v acc h1 h2 h3 => ih v acc h1 h2 h3) v acc h ha hv h4
    · by_cases h5 : v.k = 5
      · exact putKey_fields_row d (fun v acc h1 h2 h3 => ih v acc h1 h2 h3) v acc h ha hv h5
      · exact putKey_small_row (d + 1) v acc h (by omega) hv (by omega)
theorem putKeyNil (d : Nat) (v : Val) (h : okP d v = true) (hv : v.t.length < 1048576) : run E (.call 254 [.nil, xV v]) = some (.res [.row 5 ((keyD d v).map byteT)] [some .nil]) := by
  have hr := okP_range h
  have hl := keyD_len d v h
  cases d with
  | zero =>
    refine putKey_small_nil 0 v h (by simp) hv ?_
    unfold okP at h
    by_cases h0 : v.k = 0; · omega
    by_cases h1 : v.k = 1; · omega
    by_cases h2 : v.k = 2; · omega
    by_cases h3 : v.k = 3; · omega
    simp [h0, h1, h2, h3] at h
  | succ d =>
    by_cases h4 : v.k = 4
    · exact putKey_items_nil d (fun v acc h1 h2 h3 => putKey d v acc h1 h2 h3) v h (by simp; omega) hv h4
    · by_cases h5 : v.k = 5
      · exact putKey_fields_nil d (fun v acc h1 h2 h3 => putKey d v acc h1 h2 h3) v h (by simp; omega) hv h5
      · exact putKey_small_nil (d + 1) v h (by simp) hv (by omega)
theorem keyOf (d : Nat) (v : Val) (f : Bool) (h : okP d v = true) (hv : v.t.length < 1048576) : run E (.call 150 [xV v, xB f]) = some (.res [xS (if f then turnP (keyD d v) else keyD d v)] []) := by
  rw [run_call E 150 _ rfl Tryz.func150 rfl rfl rfl (by simp)]
  have h1 := putKeyNil d v h hv
  have hl := keyD_len d v h
  have h2 := fallen (keyD d v) f (by omega)
  cases f <;> simp at h2 <;> simp [h1, h2]
end Go.Yd
/- Keys of values: no two values have one key; what a key begins with. -/
set_option linter.unusedSimpArgs false
set_option linter.unusedVariables false
namespace Go.Yd
open Go.Ev Go.Proofs Go.Pu
set_option maxRecDepth 100000
set_option maxHeartbeats 4000000
theorem byteAt_nat (n : Int) (j : Nat) (h0 : 0 ≤ n) : ((byteAt n j).toNat : Int) = n / 2 ^ (8 * j) % 256 := by
  rw [← byteAt_wrap]
  rw [Int.fdiv_eq_ediv_of_nonneg _ (Int.pow_nonneg (by omega))]
  simp [IntKind.wrap, IntKind.bits, IntKind.signed]
theorem byteAt_small {a b : Int} (ha : 0 ≤ a ∧ a < 256) (hb : 0 ≤ b ∧ b < 256) (h : byteAt a 0 = byteAt b 0) : a = b := by
  have h1 := byteAt_nat a 0 ha.1
  have h2 := byteAt_nat b 0 hb.1
  rw [h] at h1
  simp at h1 h2
  omega
theorem numP8_inj {a b : Int} (ha : 0 ≤ a ∧ a < 9223372036854775808) (hb : 0 ≤ b ∧ b < 9223372036854775808) (h : numP a 8 = numP b 8) : a = b := by
  simp only [numP, List.cons.injEq] at h
  obtain ⟨h7, h6, h5, h4, h3, h2, h1, h0, _⟩ := h
  have e : ∀ j, byteAt a j = byteAt b j → a / 2 ^ (8 * j) % 256 = b / 2 ^ (8 * j) % 256 := fun j h => by
    rw [← byteAt_nat a j ha.1, ← byteAt_nat b j hb.1, h]
  have q0 := e 0 h0
  have q1 := e 1 h1
  have q2 := e 2 h2
  have q3 := e 3 h3
  have q4 := e 4 h4
  have q5 := e 5 h5
  have q6 := e 6 h6
  have q7 := e 7 h7
  simp at q0 q1 q2 q3 q4 q5 q6 q7
  omega
theorem esc_inj : ∀ (t t' r r' : Bytes), escP t ++ r = escP t' ++ r' → t = t' ∧ r = r'
  | [], [], r, r', h => by simp [escP, escGo] at h; exact ⟨rfl, h⟩
  | [], b :: t', r, r', h => by
    exfalso
    unfold escP escGo at h
    by_cases hb : b = 0
    · simp [hb] at h
    · rw [if_neg hb] at h
      simp at h
      exact hb h.1.symm
  | b :: t, [], r, r', h => by
    exfalso
    unfold escP escGo at h
    by_cases hb : b = 0
    · simp [hb] at h
    · rw [if_neg hb] at h
      simp at h
      exact hb h.1
  | b :: t, b' :: t', r, r', h => by
    have step : ∀ (x : UInt8) (q : Bytes), escP (x :: q) = (if x = 0 then [x, 255] else [x]) ++ escP q := fun x q => by simp only [escP, escGo, List.append_assoc]
    rw [step, step] at h
    by_cases hb : b = 0
    · by_cases hb' : b' = 0
      · subst hb; subst hb'
        simp at h
        have := esc_inj t t' r r' h
        simp [this]
      · rw [if_pos hb, if_neg hb'] at h
        simp at h
        exact absurd (h.1.symm.trans hb) hb'
    · by_cases hb' : b' = 0
      · rw [if_neg hb, if_pos hb'] at h
        simp at h
        exact absurd (h.1.trans hb') hb
      · rw [if_neg hb, if_neg hb'] at h
        simp at h
        obtain ⟨rfl, h⟩ := h
        have := esc_inj t t' r r' h
        simp [this]
theorem key_cons {d : Nat} {v : Val} (h : okP d v = true) : ∃ r, keyD d v = byteAt (v.k + 1) 0 :: r := by
  have hr := okP_range h
  unfold keyD headK
  rw [numP_1]
  split
  · exact ⟨_, rfl⟩
  · split
    · exact ⟨_, rfl⟩
    · split
      · exact ⟨_, rfl⟩
      · split
        · exact ⟨_, rfl⟩
        · cases d with
          | zero =>
            exfalso
            unfold okP at h
            simp_all
          | succ d =>
            simp only
            split
            · exact ⟨_, by simp only [List.cons_append]; rfl⟩
            · exact ⟨_, by simp only [List.cons_append]; rfl⟩
theorem head_byte {d : Nat} {v : Val} (h : okP d v = true) : (byteAt (v.k + 1) 0).toNat = (v.k + 1).toNat := by
  have hr := okP_range h
  have := byteAt_nat (v.k + 1) 0 (by omega)
  simp at this
  omega
theorem flat_inj {α : Type} {f : α → Bytes} : ∀ {xs ys : List α} {r r' : Bytes}, (∀ x ∈ xs, ∀ y ∈ ys, ∀ r r', f x ++ r = f y ++ r' → x = y ∧ r = r') → (∀ x ∈ xs, ∃ b q, f x = b :: q ∧ b ≠ 0) → (∀ x ∈ ys, ∃ b q, f x = b :: q ∧ b ≠ 0) → xs.flatMap f ++ 0 :: r = ys.flatMap f ++ 0 :: r' → xs = ys ∧ r = r'
  | [], [], r, r', hi, hx, hy, h => by simp at h; exact ⟨rfl, h⟩
  | [], y :: ys, r, r', hi, hx, hy, h => by
    exfalso
    obtain ⟨b, q, e, hb⟩ := hy y (by simp)
    simp [e] at h
    exact hb h.1.symm
  | x :: xs, [], r, r', hi, hx, hy, h => by
    exfalso
    obtain ⟨b, q, e, hb⟩ := hx x (by simp)
    simp [e] at h
    exact hb h.1
  | x :: xs, y :: ys, r, r', hi, hx, hy, h => by
    simp only [List.flatMap_cons, List.append_assoc] at h
    obtain ⟨e1, h2⟩ := hi x (by simp) y (by simp) _ _ h
    obtain ⟨e3, h4⟩ := flat_inj (xs := xs) (ys := ys) (fun x hx y hy => hi x (by simp [hx]) y (by simp [hy])) (fun x h => hx x (by simp [h])) (fun x h => hy x (by simp [h])) h2
    exact ⟨by rw [e1, e3], h4⟩
theorem key_inj_step (d : Nat) (ih : ∀ e, d = e + 1 → ∀ (a b : Val) (r r' : Bytes), okP e a = true → okP e b = true → keyD e a ++ r = keyD e b ++ r' → a = b ∧ r = r') (a b : Val) (r r' : Bytes) (ha : okP d a = true) (hb : okP d b = true) (h : keyD d a ++ r = keyD d b ++ r') : a = b ∧ r = r' := by
  have ra := okP_range ha
  have rb := okP_range hb
  have hk : a.k = b.k := by
    obtain ⟨q, hq⟩ := key_cons ha
    obtain ⟨q', hq'⟩ := key_cons hb
    rw [hq, hq'] at h
    simp only [List.cons_append, List.cons.injEq] at h
    have := byteAt_small (a := a.k + 1) (b := b.k + 1) (by omega) (by omega) h.1
    omega
  have cases6 : a.k = 0 ∨ a.k = 1 ∨ a.k = 2 ∨ a.k = 3 ∨ a.k = 4 ∨ a.k = 5 := by omega
  unfold keyD headK at h
  rw [← hk] at h
  simp only [numP_1] at h
  rcases cases6 with k | k | k | k | k | k
  · rw [if_pos k, if_pos k] at h
    simp at h
    have na : a.n = 0 ∧ a.t = [] := by unfold okP at ha; simpa [k] using ha
    have nb : b.n = 0 ∧ b.t = [] := by unfold okP at hb; simpa [← hk, k] using hb
    exact ⟨Val.eq hk (by omega) (by rw [na.2, nb.2]), h⟩
  · have k0 : ¬ a.k = 0 := by omega
    rw [if_neg k0, if_pos k, if_neg k0, if_pos k] at h
    simp at h
    have na : (0 ≤ a.n ∧ a.n ≤ 1) ∧ a.t = [] := by unfold okP at ha; simpa [k] using ha
    have nb : (0 ≤ b.n ∧ b.n ≤ 1) ∧ b.t = [] := by unfold okP at hb; simpa [← hk, k] using hb
    have := byteAt_small (a := a.n) (b := b.n) (by omega) (by omega) h.1
    exact ⟨Val.eq hk this (by rw [na.2, nb.2]), h.2⟩
  · have k0 : ¬ a.k = 0 := by omega
    have k1 : ¬ a.k = 1 := by omega
    rw [if_neg k0, if_neg k1, if_pos k, if_neg k0, if_neg k1, if_pos k] at h
    simp only [List.cons_append, List.cons.injEq, true_and, List.nil_append] at h
    have l1 := numP_len (a.n + 4611686018427387904) 8
    have l2 := numP_len (b.n + 4611686018427387904) 8
    obtain ⟨h1, h2⟩ := List.append_inj h (by omega)
    have na : a.t = [] := okP_small ha (by omega) (by omega) (by omega)
    have nb : b.t = [] := okP_small hb (by omega) (by omega) (by omega)
    have := numP8_inj (by omega) (by omega) h1
    exact ⟨Val.eq hk (by omega) (by rw [na, nb]), h2⟩
  · have k0 : ¬ a.k = 0 := by omega
    have k1 : ¬ a.k = 1 := by omega
    have k2 : ¬ a.k = 2 := by omega
    rw [if_neg k0, if_neg k1, if_neg k2, if_pos k, if_neg k0, if_neg k1, if_neg k2, if_pos k] at h
    simp only [List.cons_append, List.cons.injEq, true_and, List.nil_append] at h
    obtain ⟨h1, h2⟩ := esc_inj _ _ _ _ h
    have na : a.n = 0 := by unfold okP at ha; simp [k] at ha; exact ha.1
    have nb : b.n = 0 := by unfold okP at hb; simp [← hk, k] at hb; exact hb.1
    exact ⟨Val.eq hk (by omega) h1, h2⟩
  · have k0 : ¬ a.k = 0 := by omega
    have k1 : ¬ a.k = 1 := by omega
    have k2 : ¬ a.k = 2 := by omega
    have k3 : ¬ a.k = 3 := by omega
    obtain ⟨e, xs, hd, na, hia, hxs⟩ := okP_list ha k
    obtain ⟨e', ys, hd', nb, hib, hys⟩ := okP_list hb (hk ▸ k)
    subst hd
    obtain rfl : e = e' := by omega
    rw [if_neg k0, if_neg k1, if_neg k2, if_neg k3, if_neg k0, if_neg k1, if_neg k2, if_neg k3] at h
    simp only [if_pos k, itemsL, hia, hib, Option.getD_some] at h
    simp only [List.cons_append, List.cons.injEq, true_and, List.nil_append, List.append_assoc] at h
    have hz : ∀ (zs : List Val), (∀ x ∈ zs, okP e x = true) → ∀ x ∈ zs, ∃ b q, keyD e x = b :: q ∧ b ≠ 0 := by
      intro zs hz x hx
      obtain ⟨q, hq⟩ := key_cons (hz x hx)
      refine ⟨_, q, hq, fun hb => ?_⟩
      have := head_byte (hz x hx)
      have := okP_range (hz x hx)
      rw [hb] at *
      simp at *
      omega
    obtain ⟨h1, h2⟩ := flat_inj (fun x hx y hy r r' hr => ih e rfl x y r r' (hxs x hx) (hys y hy) hr) (hz xs hxs) (hz ys hys) h
    subst h1
    exact ⟨Val.eq hk (by omega) (items_inj hia hib), h2⟩
  · have k0 : ¬ a.k = 0 := by omega
    have k1 : ¬ a.k = 1 := by omega
    have k2 : ¬ a.k = 2 := by omega
    have k3 : ¬ a.k = 3 := by omega
    have k4 : ¬ a.k = 4 := by omega
    obtain ⟨e, xs, hd, na, hia, _, hxs⟩ := okP_doc ha k
    obtain ⟨e', ys, hd', nb, hib, _, hys⟩ := okP_doc hb (hk ▸ k)
    subst hd
    obtain rfl : e = e' := by omega
    rw [if_neg k0, if_neg k1, if_neg k2, if_neg k3, if_neg k0, if_neg k1, if_neg k2, if_neg k3] at h
    simp only [if_neg k4, fieldsL, hia, hib, Option.getD_some] at h
    simp only [List.cons_append, List.cons.injEq, true_and, List.nil_append, List.append_assoc] at h
    have hz : ∀ (zs : List Fld), ∀ x ∈ zs, ∃ b q, (1 :: (escP x.name ++ keyD e x.v)) = b :: q ∧ b ≠ (0 : UInt8) := by
      intro zs x hx
      exact ⟨_, _, rfl, by decide⟩
    obtain ⟨h1, h2⟩ := flat_inj (f := fun f : Fld => 1 :: (escP f.name ++ keyD e f.v)) (fun x hx y hy r r' hr => by
      simp only [List.cons_append, List.cons.injEq, true_and, List.append_assoc] at hr
      obtain ⟨n1, hr⟩ := esc_inj _ _ _ _ hr
      obtain ⟨v1, hr⟩ := ih e rfl x.v y.v r r' (hxs x hx).2 (hys y hy).2 hr
      refine ⟨?_, hr⟩
      cases x; cases y
      simp at n1 v1
      rw [n1, v1]) (hz xs) (hz ys) h
    subst h1
    exact ⟨Val.eq hk (by omega) (fields_inj hia hib), h2⟩
/-- A key tells its value, whatever stands behind it. -/
theorem key_inj : ∀ (d : Nat) (a b : Val) (r r' : Bytes), okP d a = true → okP d b = true → keyD d a ++ r = keyD d b ++ r' → a = b ∧ r = r' := by
  intro d
  induction d with
  | zero =>
    intro a b r r' ha hb h
    exact key_inj_step 0 (fun e he => by omega) a b r r' ha hb h
  | succ d ih =>
    intro a b r r' ha hb h
    exact key_inj_step (d + 1) (fun e he => by
      have : e = d := by omega
      subst this
      exact ih) a b r r' ha hb h
end Go.Yd
/- Intervals: what is behind all that begins with a text; the interval of what begins with it; what two have in common. -/
set_option linter.unusedSimpArgs false
set_option linter.unusedVariables false
namespace Go.Yd
open Go.Ev Go.Proofs Go.Pu
set_option maxRecDepth 100000
set_option maxHeartbeats 16000000
structure Ivl where
  low : Bytes
  high : Bytes
  opn : Bool
  deriving DecidableEq, Inhabited
abbrev ivlT (i : Ivl) : T := .agg [.str i.low, .str i.high, .bool i.opn]
abbrev ivlX (i : Ivl) : X := .agg [.t (.str i.low), .t (.str i.high), .t (.bool i.opn)]
/-- The least text behind all that begin with t, seen from its first n bytes. -/
def behindN (t : Bytes) : Nat → Option Bytes
  | 0 => none
  | n + 1 => match t[n]? with
    | some b => if b < 255 then some (t.take n ++ [b + 1]) else behindN t n
    | none => none
def behindP (t : Bytes) : Option Bytes := behindN t t.length
def beginP (t : Bytes) : Ivl := match behindP t with
  | some h => ⟨t, h, false⟩
  | none => ⟨t, [], true⟩
def minS (x y : Bytes) : Bytes := if (Op.bytesLess x y || x == y) = true then x else y
def maxS (x y : Bytes) : Bytes := if (!Op.bytesLess x y) = true then x else y
def meetP (a b : Ivl) : Ivl :=
  ⟨maxS a.low b.low, if a.opn && b.opn then [] else if a.opn then b.high else if b.opn then a.high else minS a.high b.high, a.opn && b.opn⟩
theorem lt255 (b : UInt8) : ((b.toNat : Int) < 255) = (b < 255) := by
  have : (255 : UInt8).toNat = 255 := rfl
  simp only [UInt8.lt_iff_toNat_lt, this, eq_iff_iff]
  omega
theorem add1 (b : UInt8) : UInt8.ofNat (IntKind.u8.wrap ((b.toNat : Int) + 1)).toNat = b + 1 := by
  have hw : IntKind.u8.wrap ((b.toNat : Int) + 1) = ((b.toNat : Int) + 1) % 256 := by simp [IntKind.wrap, IntKind.bits, IntKind.signed]
  rw [hw]
  apply UInt8.toNat_inj.1
  rw [UInt8.toNat_add, UInt8.toNat_ofNat']
  have : (1 : UInt8).toNat = 1 := rfl
  rw [this]
  omega
theorem l04Behind (t : Bytes) (ht : t.length < 4294967296) : run E (.call 343 [xS t]) = some (.res [xS ((behindP t).getD []), xB (behindP t).isSome] []) := by
  rw [run_call E 343 _ rfl Tryz.func343 rfl rfl rfl (by simp)]
  have d5 := d343_5
  simp [regionOf, findR, pick, Tryz.f343] at d5
  have dd := fun st => run_region_draw E st 5 _ d5
  clear d5
  have lp := fun (R : Option Bytes) (hR : R = behindP t) => sk (fun s o q hI => loop_for (c := loopAt Tryz.f343 0) (N := 28)
    (fun i s o q => i ≤ t.length ∧ s 0 = .t (.str t) ∧ s 4 = .t (.int .i64 ((t.length : Int) - i)) ∧ R = behindN t (t.length - i))
    (fun e s' o' q' => e = (if R.isSome then .ret else .exit 0) ∧ (R.isSome = true → s' 2 = .t (.str (R.getD [])) ∧ s' 3 = .t (.bool true))) t.length
    (by
      rintro i s o q hi ⟨hle, h0, h4, hp⟩
      obtain ⟨j, hj⟩ : ∃ j, t.length - i = j + 1 := ⟨t.length - i - 1, by omega⟩
      have hjl : j < t.length := by omega
      have e1 : (t.length : Int) - i = (j : Int) + 1 := by omega
      have e2 : t.length - (i + 1) = j := by omega
      have e3 : (t.length : Int) - ((i + 1 : Nat) : Int) = (j : Int) := by omega
      have hw := wrap_nat (n := j) (by omega)
      have hpos : (0 : Int) < (j : Int) + 1 := by omega
      have hjx : t[j]? = some t[j] := List.getElem?_eq_getElem hjl
      have hjle : j ≤ t.length := by omega
      rw [hj] at hp
      rw [e1] at h4
      rw [e2]
      simp only [e3]
      unfold behindN at hp
      simp only [hjx] at hp
      have h255 := lt255 t[j]
      by_cases hb : t[j] < 255
      · rw [if_pos hb] at hp
        have hadd := add1 t[j]
        rw [hp]
        simp [loopAt, loopsOf, Tryz.f343, h0, h4, hw, hpos, hjx, h255, hb, dd, hjle]
        rw [if_pos (by omega)]
        exact hadd
      · rw [if_neg hb] at hp
        simp [loopAt, loopsOf, Tryz.f343, h0, h4, hw, hpos, hjx, h255, hb, hjle]
        exact ⟨by omega, hp⟩)
    (by
      rintro s o q ⟨hle, h0, h4, hp⟩
      simp [behindN] at hp
      simp [loopAt, loopsOf, Tryz.f343, h0, h4, hp])
    t.length 0 s o q (by omega) hI)
  simp only [loopAt, loopsOf, Tryz.f343] at lp
  cases hb : behindP t with
  | none =>
    obtain ⟨X, A, B, C, hx⟩ := lp none hb.symm
    have hx' := fun s o q a0 a4 => hx s o q ⟨Nat.zero_le _, a0, a4, by simpa [behindP] using hb.symm⟩
    simp at hx'
    simp [hx']
  | some h =>
    obtain ⟨X, A, B, C, hx⟩ := lp (some h) hb.symm
    have hx' := fun s o q a0 a4 => hx s o q ⟨Nat.zero_le _, a0, a4, by simpa [behindP] using hb.symm⟩
    simp at hx'
    simp [hx']
theorem l04Begin (t : Bytes) (ht : t.length < 4294967296) : run E (.call 270 [xS t]) = some (.res [ivlX (beginP t)] []) := by
  rw [run_call E 270 _ rfl Tryz.func270 rfl rfl rfl (by simp)]
  have h := l04Behind t ht
  unfold beginP
  cases hb : behindP t with
  | none => rw [hb] at h; simp at h; simp [h]
  | some x => rw [hb] at h; simp at h; simp [h]
end Go.Yd
/- Intervals: impl's begins; spec's meeting; turned texts. -/
set_option linter.unusedSimpArgs false
set_option linter.unusedVariables false
namespace Go.Yd
open Go.Ev Go.Proofs Go.Pu
set_option maxRecDepth 100000
set_option maxHeartbeats 16000000
theorem implBegins (t : Bytes) (ht : t.length < 4294967296) : run E (.call 269 [xS t]) = some (.res [ivlX (beginP t)] []) := by
  rw [run_call E 269 _ rfl Tryz.func269 rfl rfl rfl (by simp)]
  have d5 := d269_5
  simp [regionOf, findR, pick, Tryz.f269] at d5
  have dd := fun st => run_region_draw E st 5 _ d5
  clear d5
  have lp := fun (R : Option Bytes) (hR : R = behindP t) => sk (fun s o q hI => loop_for (c := loopAt Tryz.f269 0) (N := 29)
    (fun i s o q => i ≤ t.length ∧ s 0 = .t (.str t) ∧ s 2 = .ptr 0 0 ∧ o 0 = .box 112 [.t (.str []), .t (.str []), .t (.bool false)] ∧ 0 < q ∧ s 3 = .t (.int .i64 ((t.length : Int) - 1 - i)) ∧ R = behindN t (t.length - i))
    (fun e s' o' q' => e = (if R.isSome then .ret else .exit 0) ∧ s' 0 = .t (.str t) ∧ s' 2 = .ptr 0 0 ∧ o' 0 = .box 112 (if R.isSome then [.t (.str t), .t (.str (R.getD [])), .t (.bool false)] else [.t (.str []), .t (.str []), .t (.bool false)])) t.length
    (by
      rintro i s o q hi ⟨hle, h0, h2, ho, hq, h3, hp⟩
      obtain ⟨j, hj⟩ : ∃ j, t.length - i = j + 1 := ⟨t.length - i - 1, by omega⟩
      have hjl : j < t.length := by omega
      have e1 : (t.length : Int) - 1 - i = (j : Int) := by omega
      have e2 : t.length - (i + 1) = j := by omega
      have e3 : (t.length : Int) - 1 - ((i + 1 : Nat) : Int) = (j : Int) - 1 := by omega
      have hw : IntKind.i64.wrap ((j : Int) - 1) = (j : Int) - 1 := by rw [wrap_of (by omega) (by omega)]
      have hjx : t[j]? = some t[j] := List.getElem?_eq_getElem hjl
      have hjle : j ≤ t.length := by omega
      have hq0 : ¬ q = 0 := by omega
      have hq1 : ¬ 0 = q := by omega
      rw [hj] at hp
      rw [e1] at h3
      rw [e2]
      simp only [e3]
      unfold behindN at hp
      simp only [hjx] at hp
      have h255 := lt255 t[j]
      by_cases hb : t[j] < 255
      · rw [if_pos hb] at hp
        have hadd := add1 t[j]
        have hr1 : List.range 1 = [0] := rfl
        rw [hp]
        simp [loopAt, loopsOf, Tryz.f269, h0, h2, h3, ho, hw, hjx, h255, hb, dd, hjle, hr1, hq0, hq1]
        rw [if_pos (by omega)]
        exact hadd
      · rw [if_neg hb] at hp
        simp [loopAt, loopsOf, Tryz.f269, h0, h2, h3, ho, hw, hjx, h255, hb, hjle, hq, hq0, hq1]
        exact ⟨by omega, hp⟩)
    (by
      rintro s o q ⟨hle, h0, h2, ho, hq, h3, hp⟩
      simp [behindN] at hp
      have h3' : s 3 = .t (.int .i64 (-1)) := by rw [h3]; congr 2; omega
      simp [loopAt, loopsOf, Tryz.f269, h0, h2, h3', ho, hp])
    t.length 0 s o q (by omega) hI)
  simp only [loopAt, loopsOf, Tryz.f269] at lp
  unfold beginP
  have hw0 : IntKind.i64.wrap ((t.length : Int) - 1) = (t.length : Int) - 1 := wrap_of (by omega) (by omega)
  cases hb : behindP t with
  | none =>
    obtain ⟨X, A, B, C, hx⟩ := lp none hb.symm
    have hx' := fun s o q a0 a2 b1 hq (a3 : s 3 = .t (.int .i64 ((t.length : Int) - 1))) => hx s o q ⟨Nat.zero_le _, a0, a2, b1, hq, by rw [a3]; congr 2; omega, by simpa [behindP] using hb.symm⟩
    simp at hx'
    simp [hx', hw0]
  | some h =>
    obtain ⟨X, A, B, C, hx⟩ := lp (some h) hb.symm
    have hx' := fun s o q a0 a2 b1 hq (a3 : s 3 = .t (.int .i64 ((t.length : Int) - 1))) => hx s o q ⟨Nat.zero_le _, a0, a2, b1, hq, by rw [a3]; congr 2; omega, by simpa [behindP] using hb.symm⟩
    simp at hx'
    simp [hx', hw0]
theorem l04Turned (t : Bytes) (f : Bool) (ht : t.length < 4294967296) : run E (.call 271 [xS t, xB f]) = some (.res [xS (if f then turnP t else t)] []) := by
  rw [run_call E 271 _ rfl Tryz.func271 rfl rfl rfl (by simp)]
  have h := l04Turn t ht
  cases f <;> simp [h]
theorem l04Meet (a b : Ivl) : run E (.call 147 [.t (ivlT a), .t (ivlT b)]) = some (.res [ivlX (meetP a b)] []) := by
  rw [run_call E 147 _ rfl Tryz.func147 rfl rfl rfl (by simp)]
  obtain ⟨l, h, p⟩ := a
  obtain ⟨l', h', p'⟩ := b
  unfold meetP
  generalize hm : maxS l l' = m
  generalize hn : minS h h' = n
  simp [maxS] at hm
  simp [minS] at hn
  cases p <;> cases p' <;> simp [hm, hn]
theorem saysAll (t : Trm) : run E (.call 344 [.t (trmT t)]) = some (.res [xB (decide (t.op = 2) || decide (t.op = 7) || decide (t.op = 8) || decide (t.op = 10))] []) := by
  rw [run_call E 344 _ rfl Tryz.func344 rfl rfl rfl (by simp)]
  obtain ⟨a, a1, a2, a3⟩ := zcase t.op 2
  obtain ⟨b, b1, b2, b3⟩ := zcase t.op 7
  obtain ⟨c, c1, c2, c3⟩ := zcase t.op 8
  obtain ⟨e, e1, e2, e3⟩ := zcase t.op 10
  cases a <;> cases b <;> cases c <;> cases e <;> simp [a1, a2, a3, b1, b2, b3, c1, c2, c3, e1, e2, e3]
end Go.Yd
/- The interval of a term: spec's l04Term, impl's interval. -/
set_option linter.unusedSimpArgs false
set_option linter.unusedVariables false
namespace Go.Yd
open Go.Ev Go.Proofs Go.Pu
set_option maxRecDepth 100000
set_option maxHeartbeats 16000000
def keyI (v : Val) (f : Bool) : Bytes := if f then turnP (keyD 5 v) else keyD 5 v
def kindB (n : Int) (f : Bool) : Bytes := if f then turnP [byteAt n 0] else [byteAt n 0]
abbrev opnI : Ivl := ⟨[], [], true⟩
def flipO (op : Int) (f : Bool) : Int := if f then (if op = 3 then 5 else if op = 4 then 6 else if op = 5 then 3 else if op = 6 then 4 else op) else op
def implIv (t : Trm) (f : Bool) : Ivl :=
  if flipO t.op f = 1 then beginP (keyI t.v f)
  else if flipO t.op f = 9 then beginP (kindB (t.v.n + 1) f)
  else if flipO t.op f = 5 then { beginP ((keyI t.v f).take 1) with low := (beginP (keyI t.v f)).high }
  else if flipO t.op f = 6 then { beginP ((keyI t.v f).take 1) with low := keyI t.v f }
  else if flipO t.op f = 3 then { beginP ((keyI t.v f).take 1) with high := keyI t.v f }
  else if flipO t.op f = 4 then { beginP ((keyI t.v f).take 1) with high := (beginP (keyI t.v f)).high }
  else opnI
def specIv (t : Trm) (f : Bool) : Ivl :=
  if t.op = 1 then beginP (keyI t.v f)
  else if t.op = 3 ∨ t.op = 5 ∨ t.op = 4 ∨ t.op = 6 then
    if ((decide (t.op = 5) || decide (t.op = 6)) != f) = true then
      if t.op = 4 ∨ t.op = 6 then { beginP (kindB (t.v.k + 1) f) with low := (beginP (keyI t.v f)).low }
      else if (beginP (keyI t.v f)).opn then ⟨[], [], false⟩ else { beginP (kindB (t.v.k + 1) f) with low := (beginP (keyI t.v f)).high }
    else if t.op = 4 ∨ t.op = 6 then meetP (beginP (kindB (t.v.k + 1) f)) ⟨[], (beginP (keyI t.v f)).high, (beginP (keyI t.v f)).opn⟩
    else meetP (beginP (kindB (t.v.k + 1) f)) ⟨[], (beginP (keyI t.v f)).low, false⟩
  else if t.op = 9 then beginP (kindB (t.v.n + 1) f)
  else opnI
theorem keyI_len (v : Val) (f : Bool) (h : okP 5 v = true) : (keyI v f).length ≤ 3311 := by
  have h1 := keyD_len 5 v h
  have h2 := okP_size h
  unfold keyI
  cases f <;> simp [turnP] <;> omega
theorem specTermIv (t : Trm) (f : Bool) (hv : okP 5 t.v = true) (hn : -1000000000000 ≤ t.v.n ∧ t.v.n ≤ 1000000000000) : run E (.call 165 [.t (trmT t), xB f]) = some (.res [ivlX (specIv t f)] []) := by
  rw [run_call E 165 _ rfl Tryz.func165 rfl rfl rfl (by simp)]
  have hr := okP_range hv
  have hs := okP_size hv
  have hw : IntKind.i64.wrap (t.v.k + 1) = t.v.k + 1 := wrap_of (by omega) (by omega)
  have hw2 : IntKind.i64.wrap (t.v.n + 1) = t.v.n + 1 := wrap_of (by omega) (by omega)
  have h1 := l01Number (t.v.k + 1) 1 (by omega)
  have h2 := l01Number (t.v.n + 1) 1 (by omega)
  rw [numP_1] at h1 h2
  have hc1 : ((1 : Nat) : Int) = 1 := rfl
  rw [hc1] at h1 h2
  have h3 := l04Turned [byteAt (t.v.k + 1) 0] f (by simp)
  have h4 := l04Turned [byteAt (t.v.n + 1) 0] f (by simp)
  have h5 := l04Key 5 t.v f hv (by omega)
  have e3 : (if f then turnP [byteAt (t.v.k + 1) 0] else [byteAt (t.v.k + 1) 0]) = kindB (t.v.k + 1) f := rfl
  have e4 : (if f then turnP [byteAt (t.v.n + 1) 0] else [byteAt (t.v.n + 1) 0]) = kindB (t.v.n + 1) f := rfl
  have e5 : (if f then turnP (keyD 5 t.v) else keyD 5 t.v) = keyI t.v f := rfl
  rw [e3] at h3
  rw [e4] at h4
  rw [e5] at h5
  clear e3 e4 e5
  have hkl := keyI_len t.v f hv
  have hb1 : (kindB (t.v.k + 1) f).length = 1 := by unfold kindB; cases f <;> simp [turnP]
  have hb2 : (kindB (t.v.n + 1) f).length = 1 := by unfold kindB; cases f <;> simp [turnP]
  have h6 := l04Begin (kindB (t.v.k + 1) f) (by omega)
  have h7 := l04Begin (kindB (t.v.n + 1) f) (by omega)
  have h8 := l04Begin (keyI t.v f) (by omega)
  have m1 := l04Meet (beginP (kindB (t.v.k + 1) f)) ⟨[], (beginP (keyI t.v f)).high, (beginP (keyI t.v f)).opn⟩
  have m2 := l04Meet (beginP (kindB (t.v.k + 1) f)) ⟨[], (beginP (keyI t.v f)).low, false⟩
  unfold specIv
  generalize beginP (kindB (t.v.k + 1) f) = kd at *
  generalize beginP (kindB (t.v.n + 1) f) = kn at *
  generalize beginP (keyI t.v f) = on at *
  generalize meetP kd ⟨[], on.high, on.opn⟩ = mm1 at *
  generalize meetP kd ⟨[], on.low, false⟩ = mm2 at *
  obtain ⟨kl, kh, ko⟩ := kd
  obtain ⟨ol, oh, oo⟩ := on
  simp at m1 m2
  by_cases o1 : t.op = 1
  · have o3 : ¬ t.op = 3 := by omega
    simp [o1, hw, h1, h3, h5, h6, h8]
  · by_cases o3 : t.op = 3
    · cases f <;> simp [o3, hw, h1, h3, h5, h6, h8, m2] <;> try (cases oo <;> simp)
    · by_cases o5 : t.op = 5
      · cases f <;> simp [o5, hw, h1, h3, h5, h6, h8, m2] <;> try (cases oo <;> simp)
      · by_cases o4 : t.op = 4
        · cases f <;> simp [o4, hw, h1, h3, h5, h6, h8, m1]
        · by_cases o6 : t.op = 6
          · cases f <;> simp [o6, hw, h1, h3, h5, h6, h8, m1]
          · by_cases o9 : t.op = 9
            · simp [o9, hw, hw2, h1, h2, h3, h4, h5, h6, h7, h8]
            · have q1 : (t.op = 1) = False := eq_false o1
              have q3 : (t.op = 3) = False := eq_false o3
              have q4 : (t.op = 4) = False := eq_false o4
              have q5 : (t.op = 5) = False := eq_false o5
              have q6 : (t.op = 6) = False := eq_false o6
              have q9 : (t.op = 9) = False := eq_false o9
              simp [q1, q3, q4, q5, q6, q9, hw, h1, h3, h5, h6, h8]
end Go.Yd
/- The interval of a term: impl's; both are alike. -/
set_option linter.unusedSimpArgs false
set_option linter.unusedVariables false
namespace Go.Yd
open Go.Ev Go.Proofs Go.Pu
set_option maxRecDepth 100000
set_option maxHeartbeats 16000000
theorem keyI_cons (v : Val) (f : Bool) (h : okP 5 v = true) : ∃ r, keyI v f = kindB (v.k + 1) f ++ r := by
  obtain ⟨r, hr⟩ := key_cons h
  unfold keyI kindB
  rw [hr]
  cases f
  · exact ⟨r, by simp⟩
  · exact ⟨turnP r, by simp [turnP]⟩
theorem kindB_len (n : Int) (f : Bool) : (kindB n f).length = 1 := by unfold kindB; cases f <;> simp [turnP]
theorem keyI_take (v : Val) (f : Bool) (h : okP 5 v = true) : (keyI v f).take 1 = kindB (v.k + 1) f := by
  obtain ⟨r, hr⟩ := keyI_cons v f h
  rw [hr, List.take_append_of_le_length (by rw [kindB_len]; omega), List.take_of_length_le (by rw [kindB_len]; omega)]
theorem implTermIv (t : Trm) (f : Bool) (hv : okP 5 t.v = true) (hn : -1000000000000 ≤ t.v.n ∧ t.v.n ≤ 1000000000000) : run E (.call 163 [.t (trmT t), xB f]) = some (.res [ivlX (implIv t f)] []) := by
  rw [run_call E 163 _ rfl Tryz.func163 rfl rfl rfl (by simp)]
  have hs := okP_size hv
  have hw2 : IntKind.i64.wrap (t.v.n + 1) = t.v.n + 1 := wrap_of (by omega) (by omega)
  have hu := u8_wrap (t.v.n + 1)
  have h1 := keyOf 5 t.v f hv (by omega)
  have e5 : (if f then turnP (keyD 5 t.v) else keyD 5 t.v) = keyI t.v f := rfl
  rw [e5] at h1
  clear e5
  have hkl := keyI_len t.v f hv
  have ht1 := keyI_take t.v f hv
  have hb1 := kindB_len (t.v.k + 1) f
  have hb2 := kindB_len (t.v.n + 1) f
  have hge : 1 ≤ (keyI t.v f).length := by
    have := congrArg List.length ht1
    simp at this
    omega
  have h2 := implBegins ((keyI t.v f).take 1) (by rw [ht1]; omega)
  have h3 := implBegins (keyI t.v f) (by omega)
  have h4 := fallen [byteAt (t.v.n + 1) 0] f (by simp)
  have e4 : (if f then turnP [byteAt (t.v.n + 1) 0] else [byteAt (t.v.n + 1) 0]) = kindB (t.v.n + 1) f := rfl
  rw [e4] at h4
  clear e4
  have h5 := implBegins (kindB (t.v.n + 1) f) (by omega)
  have hr1 : List.range 1 = [0] := rfl
  have n2 := n163_2
  have s2 := s163_2
  simp [regionOf, findR, pick, Tryz.f163] at n2 s2
  have dd := fun st => run_region_drawS E st 2 _ n2 s2
  clear n2 s2
  unfold implIv
  clear ht1
  generalize beginP ((keyI t.v f).take 1) = kd at *
  generalize beginP (kindB (t.v.n + 1) f) = kn at *
  generalize beginP (keyI t.v f) = on at *
  obtain ⟨kl, kh, ko⟩ := kd
  obtain ⟨ol, oh, oo⟩ := on
  simp at h4
  by_cases o1 : t.op = 1
  · cases f <;> simp [flipO, o1, h1, h2, h3, dd, hge]
  · by_cases o3 : t.op = 3
    · cases f <;> simp [flipO, o3, h1, h2, h3, dd, hge]
    · by_cases o5 : t.op = 5
      · cases f <;> simp [flipO, o5, h1, h2, h3, dd, hge]
      · by_cases o4 : t.op = 4
        · cases f <;> simp [flipO, o4, h1, h2, h3, dd, hge]
        · by_cases o6 : t.op = 6
          · cases f <;> simp [flipO, o6, h1, h2, h3, dd, hge]
          · by_cases o9 : t.op = 9
            · cases f <;> simp [flipO, o9, h1, h2, h3, h4, h5, dd, hge, hw2, hu, hr1]
            · have q1 : (t.op = 1) = False := eq_false o1
              have q3 : (t.op = 3) = False := eq_false o3
              have q4 : (t.op = 4) = False := eq_false o4
              have q5 : (t.op = 5) = False := eq_false o5
              have q6 : (t.op = 6) = False := eq_false o6
              have q9 : (t.op = 9) = False := eq_false o9
              cases f <;> simp [flipO, q1, q3, q4, q5, q6, q9, h1, h2, h3, dd, hge]
end Go.Yd
/- The interval of a term: spec's is impl's. -/
set_option linter.unusedSimpArgs false
set_option linter.unusedVariables false
namespace Go.Yd
open Go.Ev Go.Proofs Go.Pu
set_option maxRecDepth 100000
set_option maxHeartbeats 4000000
theorem behind_cons (h : UInt8) (r : Bytes) (hh : h < 255) : ∀ n, n ≤ r.length → ∃ x, behindN (h :: r) (n + 1) = some x ∧ (x = [h + 1] ∨ ∃ y, x = h :: y)
  | 0, _ => ⟨[h + 1], by simp [behindN, hh], .inl rfl⟩
  | n + 1, hn => by
    obtain ⟨x, h1, h2⟩ := behind_cons h r hh n (by omega)
    have hg : (h :: r)[n + 1]? = some r[n] := by simp [List.getElem?_eq_getElem (show n < r.length by omega)]
    by_cases hb : r[n] < 255
    · refine ⟨(h :: r).take (n + 1) ++ [r[n] + 1], ?_, .inr ⟨r.take n ++ [r[n] + 1], by simp⟩⟩
      rw [behindN]
      simp only [hg, if_pos hb]
    · refine ⟨x, ?_, h2⟩
      rw [behindN]
      simp only [hg, if_neg hb]
      exact h1
theorem begin_cons (h : UInt8) (r : Bytes) (hh : h < 255) : ∃ x, beginP (h :: r) = ⟨h :: r, x, false⟩ ∧ (x = [h + 1] ∨ ∃ y, x = h :: y) := by
  obtain ⟨x, h1, h2⟩ := behind_cons h r hh r.length (Nat.le_refl _)
  refine ⟨x, ?_, h2⟩
  have : behindP (h :: r) = some x := h1
  unfold beginP
  rw [this]
theorem begin_one (h : UInt8) (hh : h < 255) : beginP [h] = ⟨[h], [h + 1], false⟩ := by
  have : behindP [h] = some [h + 1] := by simp [behindP, behindN, hh]
  unfold beginP
  rw [this]
theorem less_cons (h : UInt8) (y : Bytes) (hh : h < 255) : Op.bytesLess [h + 1] (h :: y) = false := by
  cases hb : Op.bytesLess [h + 1] (h :: y) with
  | false => rfl
  | true =>
    exfalso
    have h1 := (bytesLess_iff _ _).1 hb
    have h3 : h.toNat < 255 := by simpa [UInt8.lt_iff_toNat_lt] using hh
    have h2 : h < h + 1 := by
      rw [UInt8.lt_iff_toNat_lt, UInt8.toNat_add]
      have : (1 : UInt8).toNat = 1 := rfl
      omega
    rcases List.cons_lt_cons_iff.1 h1 with h4 | ⟨h4, _⟩
    · rw [UInt8.lt_iff_toNat_lt] at h4 h2
      omega
    · have e := congrArg UInt8.toNat h4
      rw [UInt8.lt_iff_toNat_lt] at h2
      omega
theorem min_cons (h : UInt8) (x : Bytes) (hh : h < 255) (hx : x = [h + 1] ∨ ∃ y, x = h :: y) : minS [h + 1] x = x := by
  unfold minS
  rcases hx with rfl | ⟨y, rfl⟩
  · simp
  · have h3 : h.toNat < 255 := by simpa [UInt8.lt_iff_toNat_lt] using hh
    have hne : ([h + 1] == h :: y) = false := by
      rw [beq_eq_false_iff_ne]
      intro e
      injection e with e _
      have := congrArg UInt8.toNat e
      rw [UInt8.toNat_add] at this
      have h1 : (1 : UInt8).toNat = 1 := rfl
      omega
    rw [less_cons h y hh, hne]
    simp
theorem max_one (h : UInt8) : maxS [h] [] = [h] := by
  unfold maxS
  have : Op.bytesLess [h] [] = false := rfl
  rw [this]; rfl
theorem specIv_eq (t : Trm) (f : Bool) (hv : okP 5 t.v = true) : specIv t f = implIv t f := by
  have hr := okP_range hv
  obtain ⟨r, hk⟩ := keyI_cons t.v f hv
  obtain ⟨h, hh, hb⟩ : ∃ h : UInt8, h < 255 ∧ kindB (t.v.k + 1) f = [h] := by
    have hn := head_byte hv
    cases f with
    | false =>
      refine ⟨_, ?_, rfl⟩
      rw [UInt8.lt_iff_toNat_lt, hn]
      have : (255 : UInt8).toNat = 255 := rfl
      omega
    | true =>
      refine ⟨turnB (byteAt (t.v.k + 1) 0), ?_, rfl⟩
      rw [UInt8.lt_iff_toNat_lt]
      have h1 : (255 : UInt8).toNat = 255 := rfl
      have h2 : (turnB (byteAt (t.v.k + 1) 0)).toNat = 255 - (byteAt (t.v.k + 1) 0).toNat := by
        unfold turnB
        rw [UInt8.toNat_sub]
        have := (byteAt (t.v.k + 1) 0).toNat_lt
        omega
      omega
  have ht := keyI_take t.v f hv
  rw [hb] at hk ht
  have hk' : keyI t.v f = h :: r := by simpa using hk
  obtain ⟨x, hx, hx2⟩ := begin_cons h r hh
  have b1 := begin_one h hh
  have m1 := min_cons h x hh hx2
  have m2 := min_cons h (h :: r) hh (.inr ⟨r, rfl⟩)
  have m3 := max_one h
  unfold specIv implIv
  rw [ht, hb, hk', hx, b1]
  by_cases o1 : t.op = 1
  · cases f <;> simp [flipO, o1]
  · by_cases o3 : t.op = 3
    · cases f <;> simp [flipO, o3, meetP, m1, m2, m3]
    · by_cases o5 : t.op = 5
      · cases f <;> simp [flipO, o5, meetP, m1, m2, m3]
      · by_cases o4 : t.op = 4
        · cases f <;> simp [flipO, o4, meetP, m1, m2, m3]
        · by_cases o6 : t.op = 6
          · cases f <;> simp [flipO, o6, meetP, m1, m2, m3]
          · by_cases o9 : t.op = 9
            · cases f <;> simp [flipO, o9]
            · cases f <;> simp [flipO, o1, o3, o4, o5, o6, o9]
end Go.Yd
/- The interval of a clause and of a filter: spec's and impl's. -/
set_option linter.unusedSimpArgs false
set_option linter.unusedVariables false
namespace Go.Yd
open Go.Ev Go.Proofs Go.Pu
set_option maxRecDepth 100000
set_option maxHeartbeats 16000000
def saysB (t : Trm) : Bool := decide (t.op = 2) || decide (t.op = 7) || decide (t.op = 8) || decide (t.op = 10)
def hitB (p : Prt) (t : Trm) : Bool := t.path == p.path && !saysB t
def clauseI (p : Prt) (c : List Trm) : Ivl := match c.find? (hitB p) with
  | some t => implIv t p.desc
  | none => opnI
def clStep (p : Prt) (out : Ivl) (t : Trm) : Ivl := if ((t.path == p.path) && out.opn && (out.low == [])) = true then specIv t p.desc else out
theorem implIv_closed (t : Trm) (f : Bool) (hv : okP 5 t.v = true) (ho : opOK t.op t.v = true) (hs : saysB t = false) : (implIv t f).opn = false := by
  obtain ⟨r, hk⟩ := keyI_cons t.v f hv
  have ht := keyI_take t.v f hv
  have hr := okP_range hv
  have hb : ∀ n : Int, 1 ≤ n → n ≤ 6 → ∃ h : UInt8, h < 255 ∧ kindB n f = [h] := by
    intro n h1 h6
    have hn : (byteAt n 0).toNat = n.toNat := by
      have := byteAt_nat n 0 (by omega)
      simp at this
      omega
    cases f with
    | false =>
      refine ⟨_, ?_, rfl⟩
      rw [UInt8.lt_iff_toNat_lt, hn]
      have : (255 : UInt8).toNat = 255 := rfl
      omega
    | true =>
      refine ⟨turnB (byteAt n 0), ?_, rfl⟩
      rw [UInt8.lt_iff_toNat_lt]
      have h1 : (255 : UInt8).toNat = 255 := rfl
      have h2 : (turnB (byteAt n 0)).toNat = 255 - (byteAt n 0).toNat := by
        unfold turnB
        rw [UInt8.toNat_sub]
        have := (byteAt n 0).toNat_lt
        omega
      omega
  obtain ⟨h, hh, hkb⟩ := hb (t.v.k + 1) (by omega) (by omega)
  rw [hkb] at hk ht
  have hk' : keyI t.v f = h :: r := by simpa using hk
  obtain ⟨x, hx, _⟩ := begin_cons h r hh
  have b1 := begin_one h hh
  have hop : 1 ≤ t.op ∧ t.op ≤ 10 := by
    unfold opOK at ho
    split at ho
    · omega
    · split at ho
      · omega
      · split at ho
        · omega
        · split at ho
          · omega
          · simp at ho; omega
  unfold saysB at hs
  simp at hs
  obtain ⟨⟨⟨s2, s7⟩, s8⟩, s10⟩ := hs
  unfold implIv
  rw [ht, hk', hx, b1]
  by_cases o9 : t.op = 9
  · have hn9 : 0 ≤ t.v.n ∧ t.v.n ≤ 5 := by
      rw [o9] at ho
      simp [opOK] at ho
      exact ho.2
    obtain ⟨h2, hh2, hkb2⟩ := hb (t.v.n + 1) (by omega) (by omega)
    have b2 := begin_one h2 hh2
    have e : flipO t.op f = 9 := by cases f <;> simp [flipO, o9]
    simp [e, hkb2, b2]
  · have h6 : t.op = 1 ∨ t.op = 3 ∨ t.op = 4 ∨ t.op = 5 ∨ t.op = 6 := by omega
    rcases h6 with o | o | o | o | o <;> cases f <;> simp [flipO, o]
theorem fold_closed (p : Prt) : ∀ (c : List Trm) (out : Ivl), out.opn = false → c.foldl (clStep p) out = out
  | [], out, h => rfl
  | t :: r, out, h => by
    have : clStep p out t = out := by unfold clStep; simp [h]
    rw [List.foldl_cons, this]
    exact fold_closed p r out h
theorem specIv_says (t : Trm) (f : Bool) (h : saysB t = true) : specIv t f = opnI := by
  unfold saysB at h
  simp at h
  unfold specIv
  have h1 : ¬ t.op = 1 := by omega
  have h2 : ¬ (t.op = 3 ∨ t.op = 5 ∨ t.op = 4 ∨ t.op = 6) := by omega
  have h3 : ¬ t.op = 9 := by omega
  rw [if_neg h1, if_neg h2, if_neg h3]
theorem clause_eq (p : Prt) : ∀ (c : List Trm), (∀ t ∈ c, okP 5 t.v = true ∧ opOK t.op t.v = true) → c.foldl (clStep p) opnI = clauseI p c
  | [], _ => rfl
  | t :: r, h => by
    have ih := clause_eq p r (fun x hx => h x (by simp [hx]))
    obtain ⟨hv, ho⟩ := h t (by simp)
    rw [List.foldl_cons]
    unfold clauseI
    rw [List.find?_cons]
    cases hp : (t.path == p.path) with
    | false =>
      have e1 : clStep p opnI t = opnI := by unfold clStep; simp [hp]
      have e2 : hitB p t = false := by unfold hitB; simp [hp]
      rw [e1, e2]
      exact ih
    | true =>
      have e1 : clStep p opnI t = specIv t p.desc := by unfold clStep; simp [hp]
      rw [e1]
      cases hs : saysB t with
      | true =>
        have e2 : hitB p t = false := by unfold hitB; simp [hs]
        rw [e2, specIv_says t _ hs]
        exact ih
      | false =>
        have e2 : hitB p t = true := by unfold hitB; simp [hp, hs]
        rw [e2, specIv_eq t _ hv]
        simp only
        exact fold_closed p r _ (implIv_closed t _ hv ho hs)
end Go.Yd
/- The interval of a clause: spec's l07Clause and impl's, run. -/
set_option linter.unusedSimpArgs false
set_option linter.unusedVariables false
namespace Go.Yd
open Go.Ev Go.Proofs Go.Pu
set_option maxRecDepth 100000
set_option maxHeartbeats 16000000
abbrev ivlS (i : Ivl) : List SV := [.t (.str i.low), .t (.str i.high), .t (.bool i.opn)]
def trmS (t : Trm) : List SV := [.t (.int .i64 t.op), .t (.str t.path), .t (.int .i64 t.v.k), .t (.int .i64 t.v.n), .t (.str t.v.t)]
def termsOK (c : List Trm) : Prop := ∀ t ∈ c, okP 5 t.v = true ∧ opOK t.op t.v = true ∧ t.path.length < 4294967296
theorem specClause (c : List Trm) (p : Prt) (hl : c.length < 4294967296) (h : termsOK c) : run E (.call 275 [.t (clsT c), .t (prtT p)]) = some (.res [ivlX (clauseI p c)] []) := by
  rw [run_call E 275 _ rfl Tryz.func275 rfl rfl rfl (by simp)]
  have lp := fun (R : Ivl) (hR : R = c.foldl (clStep p) opnI) => sk (fun s o q hI => loop_for (c := loopAt Tryz.f275 0) (N := 40)
    (fun i s o q => ∃ cur : Ivl, s 2 = .ptr 0 0 ∧ s 3 = .ptr 1 0 ∧ s 4 = .ptr 2 0 ∧ s 5 = .ptr 3 0 ∧ s 6 = .t (.int .i64 i) ∧ o 0 = .box 236 [.t (.list (c.map trmT))] ∧ o 1 = .box 133 [.t (.str p.path), .t (.bool p.desc)] ∧ o 2 = .box 112 (ivlS ⟨[], [], false⟩) ∧ o 3 = .box 112 (ivlS cur) ∧ 3 < q ∧ R = (c.drop i).foldl (clStep p) cur)
    (fun e s' o' q' => e = .exit 0 ∧ s' 4 = .ptr 2 0 ∧ s' 5 = .ptr 3 0 ∧ o' 2 = .box 112 (ivlS ⟨[], [], false⟩) ∧ o' 3 = .box 112 (ivlS R)) c.length
    (by
      rintro i s o q hi ⟨cur, h2, h3, h4, h5, h6, o0, o1, o2, o3, hq, hp⟩
      have hi' : (i : Int) < (c.length : Int) := by omega
      have hwi := wrap_succ (n := i) (by omega)
      have hxi : c[i]? = some c[i] := List.getElem?_eq_getElem hi
      have g0 : ¬ 0 = q := by omega
      have g1 : ¬ 1 = q := by omega
      have g2 : ¬ 2 = q := by omega
      have g3 : ¬ 3 = q := by omega
      have g4 : 3 < q + 1 := by omega
      obtain ⟨hv, ho, hpl⟩ := h c[i] (List.getElem_mem hi)
      have hr := okP_range hv
      have hsp := specTermIv c[i] p.desc hv (by omega)
      rw [List.drop_eq_getElem_cons hi, List.foldl_cons] at hp
      obtain ⟨cl, ch, co⟩ := cur
      cases hpe : (c[i].path == p.path) with
      | false =>
        have e1 : clStep p ⟨cl, ch, co⟩ c[i] = ⟨cl, ch, co⟩ := by unfold clStep; simp [hpe]
        rw [e1] at hp
        simp [loopAt, loopsOf, Tryz.f275, h2, h3, h4, h5, h6, o0, o1, o2, o3, hi, hi', hwi, hxi, hpe, g0, g1, g2, g3, g4]
        exact ⟨⟨cl, ch, co⟩, ⟨rfl, rfl, rfl⟩, hp⟩
      | true =>
        cases co with
        | false =>
          have e1 : clStep p ⟨cl, ch, false⟩ c[i] = ⟨cl, ch, false⟩ := by unfold clStep; simp
          rw [e1] at hp
          simp [loopAt, loopsOf, Tryz.f275, h2, h3, h4, h5, h6, o0, o1, o2, o3, hi, hi', hwi, hxi, hpe, g0, g1, g2, g3, g4]
          exact ⟨⟨cl, ch, false⟩, ⟨rfl, rfl, rfl⟩, hp⟩
        | true =>
          cases hle : (cl == []) with
          | false =>
            have e1 : clStep p ⟨cl, ch, true⟩ c[i] = ⟨cl, ch, true⟩ := by unfold clStep; simp [hle]
            rw [e1] at hp
            simp [loopAt, loopsOf, Tryz.f275, h2, h3, h4, h5, h6, o0, o1, o2, o3, hi, hi', hwi, hxi, hpe, hle, g0, g1, g2, g3, g4]
            exact ⟨⟨cl, ch, true⟩, ⟨rfl, rfl, rfl⟩, hp⟩
          | true =>
            have e1 : clStep p ⟨cl, ch, true⟩ c[i] = specIv c[i] p.desc := by unfold clStep; simp [hle, hpe]
            rw [e1] at hp
            generalize specIv c[i] p.desc = iv at *
            obtain ⟨il, ih, io⟩ := iv
            simp [loopAt, loopsOf, Tryz.f275, h2, h3, h4, h5, h6, o0, o1, o2, o3, hi, hi', hwi, hxi, hpe, hle, hsp, g0, g1, g2, g3, g4]
            exact ⟨⟨il, ih, io⟩, ⟨rfl, rfl, rfl⟩, hp⟩)
    (by
      rintro s o q ⟨cur, h2, h3, h4, h5, h6, o0, o1, o2, o3, hq, hp⟩
      simp at hp
      subst hp
      simp [loopAt, loopsOf, Tryz.f275, h2, h3, h4, h5, h6, o0, o1, o2, o3])
    c.length 0 s o q (by omega) hI)
  simp only [loopAt, loopsOf, Tryz.f275] at lp
  obtain ⟨X, A, B, C, hl⟩ := lp _ rfl
  have hl' := fun s o q a0 a1 a2 a3 a4 a5 a6 a7 a8 a9 => hl s o q ⟨opnI, a0, a1, a2, a3, a4, a5, a6, a7, a8, a9, rfl⟩
  clear hl lp
  rw [clause_eq p c (fun t ht => ⟨(h t ht).1, (h t ht).2.1⟩)] at hl'
  generalize clauseI p c = R at *
  obtain ⟨rl, rh, ro⟩ := R
  simp at hl'
  simp [hl']
theorem implClause (c : List Trm) (p : Prt) (hl : c.length < 4294967296) (h : termsOK c) : run E (.call 273 [.t (clsT c), .t (prtT p)]) = some (.res [ivlX (clauseI p c)] []) := by
  rw [run_call E 273 _ rfl Tryz.func273 rfl rfl rfl (by simp)]
  have lp := fun (R : Option Trm) (hR : R = c.find? (hitB p)) => sk (fun s o q hI => loop_for (c := loopAt Tryz.f273 0) (N := 30)
    (fun i s o q => s 2 = .ptr 0 0 ∧ s 3 = .ptr 1 0 ∧ s 4 = .ptr 2 0 ∧ s 8 = .t (.list (c.map trmT)) ∧ s 9 = .t (.int .i64 c.length) ∧ s 10 = .t (.int .i64 i) ∧ o 1 = .box 133 [.t (.str p.path), .t (.bool p.desc)] ∧ o 2 = .box 112 (ivlS ⟨[], [], false⟩) ∧ 2 < q ∧ R = (c.drop i).find? (hitB p))
    (fun e s' o' q' => e = (if R.isSome then .ret else .exit 0) ∧ s' 4 = .ptr 2 0 ∧ o' 2 = .box 112 (ivlS (match R with
      | some t => implIv t p.desc
      | none => ⟨[], [], false⟩))) c.length
    (by
      rintro i s o q hi ⟨h2, h3, h4, h8, h9, h10, o1, o2, hq, hp⟩
      have hi' : (i : Int) < (c.length : Int) := by omega
      have hwi := wrap_succ (n := i) (by omega)
      have hxi : c[i]? = some c[i] := List.getElem?_eq_getElem hi
      have g1 : ¬ 1 = q := by omega
      have g2 : ¬ 2 = q := by omega
      have g4 : 2 < q + 1 := by omega
      obtain ⟨hv, ho, hpl⟩ := h c[i] (List.getElem_mem hi)
      have hr := okP_range hv
      have hsp := implTermIv c[i] p.desc hv (by omega)
      have hsa := saysAll c[i]
      have e0 : (decide (c[i].op = 2) || decide (c[i].op = 7) || decide (c[i].op = 8) || decide (c[i].op = 10)) = saysB c[i] := rfl
      rw [e0] at hsa
      clear e0
      rw [List.drop_eq_getElem_cons hi, List.find?_cons] at hp
      cases hpe : (c[i].path == p.path) with
      | false =>
        have e1 : hitB p c[i] = false := by unfold hitB; simp [hpe]
        rw [e1] at hp
        simp [loopAt, loopsOf, Tryz.f273, h2, h3, h4, h8, h9, h10, o1, o2, hi, hi', hwi, hxi, hpe, g1, g2, g4]
        exact hp
      | true =>
        cases hs : saysB c[i] with
        | true =>
          rw [hs] at hsa
          have e1 : hitB p c[i] = false := by unfold hitB; simp [hs]
          rw [e1] at hp
          simp [loopAt, loopsOf, Tryz.f273, h2, h3, h4, h8, h9, h10, o1, o2, hi, hi', hwi, hxi, hpe, hsa, g1, g2, g4]
          exact hp
        | false =>
          rw [hs] at hsa
          have e1 : hitB p c[i] = true := by unfold hitB; simp [hs, hpe]
          rw [e1] at hp
          simp only at hp
          rw [hp]
          simp [loopAt, loopsOf, Tryz.f273, h2, h3, h4, h8, h9, h10, o1, o2, hi, hi', hwi, hxi, hpe, hsa, hsp, g1, g2, g4])
    (by
      rintro s o q ⟨h2, h3, h4, h8, h9, h10, o1, o2, hq, hp⟩
      simp at hp
      subst hp
      simp [loopAt, loopsOf, Tryz.f273, h2, h3, h4, h8, h9, h10, o1, o2])
    c.length 0 s o q (by omega) hI)
  simp only [loopAt, loopsOf, Tryz.f273] at lp
  unfold clauseI
  cases hf : c.find? (hitB p) with
  | none =>
    obtain ⟨X, A, B, C, hx⟩ := lp none hf.symm
    have hx' := fun s o q a0 a1 a2 a3 a4 a5 a6 a7 a8 => hx s o q ⟨a0, a1, a2, a3, a4, a5, a6, a7, a8, hf.symm⟩
    simp at hx'
    simp [hx']
  | some t =>
    obtain ⟨X, A, B, C, hx⟩ := lp (some t) hf.symm
    have hx' := fun s o q a0 a1 a2 a3 a4 a5 a6 a7 a8 => hx s o q ⟨a0, a1, a2, a3, a4, a5, a6, a7, a8, hf.symm⟩
    simp at hx'
    simp [hx']
end Go.Yd
/- The interval of a filter: spec's l07Filter and impl's; FilterInterval of both. -/
set_option linter.unusedSimpArgs false
set_option linter.unusedVariables false
namespace Go.Yd
open Go.Ev Go.Proofs Go.Pu
set_option maxRecDepth 100000
set_option maxHeartbeats 16000000
def flStep (p : Prt) (out : Ivl) (c : List Trm) : Ivl := ⟨minS out.low (clauseI p c).low, maxS out.high (clauseI p c).high, out.opn || (clauseI p c).opn⟩
def closeI (i : Ivl) : Ivl := if i.opn then ⟨i.low, [], true⟩ else i
def filterI (p : Prt) : List (List Trm) → Ivl
  | [] => opnI
  | c :: r => closeI (r.foldl (flStep p) (clauseI p c))
def clausesOK (f : List (List Trm)) : Prop := ∀ c ∈ f, c.length < 4294967296 ∧ termsOK c
theorem minS_nf (x y : Bytes) : minS x y = if Op.bytesLess x y = true ∨ x = y then x else y := by unfold minS; simp
theorem maxS_nf (x y : Bytes) : maxS x y = if Op.bytesLess x y = false then x else y := by unfold maxS; simp
theorem specFilter (f : List (List Trm)) (p : Prt) (hl : f.length < 4294967296) (h0 : 0 < f.length) (h : clausesOK f) : run E (.call 171 [.t (filT f), .t (prtT p)]) = some (.res [ivlX (filterI p f)] []) := by
  rw [run_call E 171 _ rfl Tryz.func171 rfl rfl rfl (by simp)]
  have d1 := d171_1
  simp [regionOf, findR, pick, Tryz.f171] at d1
  have dd1 := fun st => run_region_draw E st 1 _ d1
  clear d1
  have d5 := d171_5
  simp [regionOf, findR, pick, Tryz.f171] at d5
  have dd5 := fun st => run_region_draw E st 5 _ d5
  clear d5
  have lp := fun (R : Ivl) => sk (fun s o q hI => loop_for (c := loopAt Tryz.f171 0) (N := 51)
    (fun i s o q => ∃ cur : Ivl, 1 ≤ i ∧ s 2 = .ptr 0 0 ∧ s 3 = .ptr 1 0 ∧ s 4 = .ptr 2 0 ∧ s 5 = .ptr 3 0 ∧ s 6 = .t (.int .i64 i) ∧ o 0 = .box 33 [.t (.list (f.map clsT))] ∧ o 1 = .box 133 [.t (.str p.path), .t (.bool p.desc)] ∧ o 2 = .box 112 (ivlS ⟨[], [], false⟩) ∧ o 3 = .box 112 (ivlS cur) ∧ 3 < q ∧ R = (f.drop i).foldl (flStep p) cur)
    (fun e s' o' q' => e = .exit 0 ∧ s' 4 = .ptr 2 0 ∧ s' 5 = .ptr 3 0 ∧ o' 2 = .box 112 (ivlS ⟨[], [], false⟩) ∧ o' 3 = .box 112 (ivlS R)) f.length
    (by
      rintro i s o q hi ⟨cur, hi1, h2, h3, h4, h5, h6, o0, o1, o2, o3, hq, hp⟩
      have hi' : (i : Int) < (f.length : Int) := by omega
      have hwi := wrap_succ (n := i) (by omega)
      have hxi : f[i]? = some f[i] := List.getElem?_eq_getElem hi
      have g0 : ¬ 0 = q := by omega
      have g1 : ¬ 1 = q := by omega
      have g2 : ¬ 2 = q := by omega
      have g3 : ¬ 3 = q := by omega
      have g4 : 3 < q + 1 := by omega
      have g5 : ¬ q = 3 := by omega
      obtain ⟨hcl, hco⟩ := h f[i] (List.getElem_mem hi)
      have hsp := specClause f[i] p hcl hco
      rw [List.drop_eq_getElem_cons hi, List.foldl_cons] at hp
      obtain ⟨cl, ch, co⟩ := cur
      cases co <;> simp [loopAt, loopsOf, Tryz.f171, dd5, h2, h3, h4, h5, h6, o0, o1, o2, o3, hi, hi', hwi, hxi, hsp, g0, g1, g2, g3, g4, g5]
      · exact ⟨flStep p ⟨cl, ch, false⟩ f[i], ⟨by simp [flStep, minS_nf], by simp [flStep, maxS_nf], by simp [flStep]⟩, hp⟩
      · exact ⟨flStep p ⟨cl, ch, true⟩ f[i], ⟨by simp [flStep, minS_nf], by simp [flStep, maxS_nf], by simp [flStep]⟩, hp⟩)
    (by
      rintro s o q ⟨cur, hi1, h2, h3, h4, h5, h6, o0, o1, o2, o3, hq, hp⟩
      simp at hp
      subst hp
      simp [loopAt, loopsOf, Tryz.f171, h2, h3, h4, h5, h6, o0, o1, o2, o3])
    (f.length - 1) 1 s o q (by omega) hI)
  simp only [loopAt, loopsOf, Tryz.f171] at lp
  cases f with
  | nil => simp at h0
  | cons c r =>
    obtain ⟨hcl, hco⟩ := h c (by simp)
    have hsp := specClause c p hcl hco
    unfold filterI
    obtain ⟨iv, hiv⟩ : ∃ iv, iv = clauseI p c := ⟨_, rfl⟩
    obtain ⟨R, hR⟩ : ∃ R, R = r.foldl (flStep p) iv := ⟨_, rfl⟩
    simp only [← hiv, ← hR] at hsp ⊢
    obtain ⟨X, A, B, C, hl'⟩ := lp R
    have hx' := fun s o q a0 a1 a2 a3 a4 a5 a6 a7 a8 a9 => hl' s o q ⟨iv, Nat.le_refl _, a0, a1, a2, a3, a4, a5, a6, a7, a8, a9, by simpa using hR⟩
    clear hl' lp hR hiv
    obtain ⟨rl, rh, ro⟩ := R
    obtain ⟨il, ih, io⟩ := iv
    simp at hx'
    cases ro <;> simp [closeI, hx', dd1, hsp]
end Go.Yd
/- The interval of a filter: impl's; FilterInterval of both. -/
set_option linter.unusedSimpArgs false
set_option linter.unusedVariables false
namespace Go.Yd
open Go.Ev Go.Proofs Go.Pu
set_option maxRecDepth 100000
set_option maxHeartbeats 16000000
theorem implFilter (f : List (List Trm)) (p : Prt) (hl : f.length < 4294967296) (h0 : 0 < f.length) (h : clausesOK f) : run E (.call 169 [.t (filT f), .t (prtT p)]) = some (.res [ivlX (filterI p f)] []) := by
  rw [run_call E 169 _ rfl Tryz.func169 rfl rfl rfl (by simp)]
  have d1 := d169_1
  simp [regionOf, findR, pick, Tryz.f169] at d1
  have dd1 := fun st => run_region_draw E st 1 _ d1
  clear d1
  have n6 := n169_6
  have s6 := s169_6
  simp [regionOf, findR, pick, Tryz.f169] at n6 s6
  have dd6 := fun st => run_region_drawS E st 6 _ n6 s6
  clear n6 s6
  cases f with
  | nil => simp at h0
  | cons c r =>
  have lp := fun (R : Ivl) => sk (fun s o q hI => loop_for (c := loopAt Tryz.f169 0) (N := 50)
    (fun i s o q => ∃ cur : Ivl, s 3 = .ptr 1 0 ∧ s 4 = .ptr 2 0 ∧ s 5 = .ptr 3 0 ∧ s 17 = .t (.list (r.map clsT)) ∧ s 18 = .t (.int .i64 r.length) ∧ s 19 = .t (.int .i64 i) ∧ o 1 = .box 133 [.t (.str p.path), .t (.bool p.desc)] ∧ o 2 = .box 112 (ivlS ⟨[], [], false⟩) ∧ o 3 = .box 112 (ivlS cur) ∧ 3 < q ∧ R = (r.drop i).foldl (flStep p) cur)
    (fun e s' o' q' => e = .exit 0 ∧ s' 4 = .ptr 2 0 ∧ s' 5 = .ptr 3 0 ∧ o' 2 = .box 112 (ivlS ⟨[], [], false⟩) ∧ o' 3 = .box 112 (ivlS R)) r.length
    (by
      rintro i s o q hi ⟨cur, h3, h4, h5, h17, h18, h19, o1, o2, o3, hq, hp⟩
      have hlr : r.length < 4294967296 := by simp at hl; omega
      have hi' : (i : Int) < (r.length : Int) := by omega
      have hwi := wrap_succ (n := i) (by omega)
      have hxi : r[i]? = some r[i] := List.getElem?_eq_getElem hi
      have g1 : ¬ 1 = q := by omega
      have g2 : ¬ 2 = q := by omega
      have g3 : ¬ 3 = q := by omega
      have g4 : 3 < q + 1 + 1 := by omega
      have g5 : ¬ 1 = q + 1 := by omega
      have g6 : ¬ 2 = q + 1 := by omega
      have g7 : ¬ 3 = q + 1 := by omega
      have g8 : ¬ q + 1 = 3 := by omega
      have g9 : ¬ q = 2 := by omega
      have g10 : ¬ q = 0 := by omega
      obtain ⟨hcl, hco⟩ := h r[i] (by simp)
      have hsp := implClause r[i] p hcl hco
      rw [List.drop_eq_getElem_cons hi, List.foldl_cons] at hp
      obtain ⟨cl, ch, co⟩ := cur
      cases co <;> simp [loopAt, loopsOf, Tryz.f169, dd6, h3, h4, h5, h17, h18, h19, o1, o2, o3, hi, hi', hwi, hxi, hsp, g1, g2, g3, g4, g5, g6, g7, g8, g9, g10]
      · exact ⟨flStep p ⟨cl, ch, false⟩ r[i], ⟨by simp [flStep, minS_nf], by simp [flStep, maxS_nf], by simp [flStep]⟩, hp⟩
      · exact ⟨flStep p ⟨cl, ch, true⟩ r[i], ⟨by simp [flStep, minS_nf], by simp [flStep, maxS_nf], by simp [flStep]⟩, hp⟩)
    (by
      rintro s o q ⟨cur, h3, h4, h5, h17, h18, h19, o1, o2, o3, hq, hp⟩
      simp at hp
      subst hp
      simp [loopAt, loopsOf, Tryz.f169, h3, h4, h5, h17, h18, h19, o1, o2, o3])
    r.length 0 s o q (by omega) hI)
  simp only [loopAt, loopsOf, Tryz.f169] at lp
  obtain ⟨hcl, hco⟩ := h c (by simp)
  have hsp := implClause c p hcl hco
  unfold filterI
  obtain ⟨iv, hiv⟩ : ∃ iv, iv = clauseI p c := ⟨_, rfl⟩
  obtain ⟨R, hR⟩ : ∃ R, R = r.foldl (flStep p) iv := ⟨_, rfl⟩
  simp only [← hiv, ← hR] at hsp ⊢
  obtain ⟨X, A, B, C, hl'⟩ := lp R
  have hx' := fun s o q a0 a1 a2 a3 a4 a5 a6 a7 a8 a9 => hl' s o q ⟨iv, a0, a1, a2, a3, a4, a5, a6, a7, a8, a9, by simpa using hR⟩
  clear hl' lp hR hiv
  obtain ⟨rl, rh, ro⟩ := R
  obtain ⟨il, ih, io⟩ := iv
  simp at hx'
  have htk : (r.map clsT).take r.length = r.map clsT := List.take_of_length_le (by simp)
  cases ro <;> simp [closeI, hx', dd1, hsp, htk]
theorem terms_ok {f : List (List Trm)} (h : filterOK f = true) (hs : filterSm f) : clausesOK f := by
  intro c hc
  have hcs := hs.2 c hc
  unfold filterOK at h
  simp only [Bool.and_eq_true] at h
  have hco := List.all_eq_true.1 h.2 c hc
  unfold clauseOK at hco
  simp only [Bool.and_eq_true] at hco
  refine ⟨hcs.1, fun t ht => ?_⟩
  have hto := List.all_eq_true.1 hco.2 t ht
  unfold termOK at hto
  simp only [Bool.and_eq_true] at hto
  exact ⟨hto.1.2, hto.2, (hcs.2 t ht).1⟩
/-- What FilterInterval answers. -/
def fivOut (f : List (List Trm)) (p : Prt) : Ivl × Int := if filterOK f && pathOK p.path then (filterI p f, 0) else (⟨[], [], false⟩, 1)
theorem specFilterInterval (f : List (List Trm)) (p : Prt) (hs : filterSm f) (hp : p.path.length < 4294967296) : run E (.call 67 [.t (filT f), .t (prtT p)]) = some (.res [ivlX (fivOut f p).1, xI (fivOut f p).2] []) := by
  rw [run_call E 67 _ rfl Tryz.func67 rfl rfl rfl (by simp)]
  have h1 := specFilterOK f hs
  have h2 := specPathOK p.path hp
  unfold fivOut
  cases hf : filterOK f with
  | false => rw [hf] at h1; simp [h1]
  | true =>
    rw [hf] at h1
    cases hq : pathOK p.path with
    | false => rw [hq] at h2; simp [h1, h2]
    | true =>
      rw [hq] at h2
      have hf' := hf
      unfold filterOK at hf'
      simp at hf'
      have h3 := specFilter f p hs.1 (by omega) (terms_ok hf hs)
      simp [h1, h2, h3]
theorem implFilterInterval (f : List (List Trm)) (p : Prt) (hs : filterSm f) (hp : p.path.length < 4294967296) : run E (.call 66 [.t (filT f), .t (prtT p)]) = some (.res [ivlX (fivOut f p).1, xI (fivOut f p).2] []) := by
  rw [run_call E 66 _ rfl Tryz.func66 rfl rfl rfl (by simp)]
  have h1 := implFilterOK f hs
  have h2 := partOK p hp
  unfold fivOut
  cases hf : filterOK f with
  | false => rw [hf] at h1; simp [h1]
  | true =>
    rw [hf] at h1
    cases hq : pathOK p.path with
    | false => rw [hq] at h2; simp [h1, h2]
    | true =>
      rw [hq] at h2
      have hf' := hf
      unfold filterOK at hf'
      simp at hf'
      have h3 := implFilter f p hs.1 (by omega) (terms_ok hf hs)
      simp [h1, h2, h3]
end Go.Yd
/- A filter against a document: both sides' Matches. -/
set_option linter.unusedSimpArgs false
set_option linter.unusedVariables false
namespace Go.Yd
open Go.Ev Go.Proofs Go.Pu
set_option maxRecDepth 100000
set_option maxHeartbeats 16000000
def matchC (c : List Trm) (doc : Val) : Bool := c.all (fun t => matchT t doc)
def matchF (f : List (List Trm)) (doc : Val) : Bool := f.any (fun c => matchC c doc)
abbrev valC (v : Val) : List T := [.int .i64 v.k, .int .i64 v.n, .str v.t]
theorem opOK_seven {v : Val} (h : opOK 7 v = true) : v.k = 4 := by
  unfold opOK at h
  simpa using h
theorem termM (t : Trm) (doc : Val) (h : okP 5 t.v = true ∧ opOK t.op t.v = true ∧ t.path.length < 4294967295) (hd : okP 5 doc = true) : run E (.call 162 [.t (trmT t), xV doc]) = some (.res [xB (matchT t doc)] []) :=
  implTerm t doc 5 (by omega) (opOK_range h.2.1) (fun e => by have := h.2.1; rw [e] at this; exact opOK_seven this) h.2.2 h.1 hd
theorem termS (t : Trm) (doc : Val) (h : okP 5 t.v = true ∧ opOK t.op t.v = true ∧ t.path.length < 4294967295) (hd : okP 5 doc = true) : run E (.call 289 [.t (trmT t), xV doc]) = some (.res [xB (matchT t doc)] []) :=
  specTerm t doc 5 (by omega) (opOK_range h.2.1) h.2.2 h.1 hd
/-- All terms are right. -/
def clsFit (c : List Trm) : Prop := c.length < 4294967295 ∧ ∀ t ∈ c, okP 5 t.v = true ∧ opOK t.op t.v = true ∧ t.path.length < 4294967295
def filFit (f : List (List Trm)) : Prop := f.length < 4294967295 ∧ ∀ c ∈ f, clsFit c
theorem pathOK_len {p : Bytes} (h : pathOK p = true) : p.length ≤ 50 := by
  unfold pathOK at h
  simp at h
  exact h.1.1
theorem fil_fit {f : List (List Trm)} (h : filterOK f = true) (hs : filterSm f) : filFit f := by
  have hc := terms_ok h hs
  unfold filterOK at h
  simp only [Bool.and_eq_true, decide_eq_true_eq] at h
  refine ⟨by have := h.1; omega, fun c hcm => ?_⟩
  have hck := List.all_eq_true.1 h.2 c hcm
  unfold clauseOK at hck
  simp only [Bool.and_eq_true, decide_eq_true_eq] at hck
  refine ⟨by have := hck.1; omega, fun t ht => ?_⟩
  obtain ⟨h1, h2, _⟩ := (hc c hcm).2 t ht
  have ht := List.all_eq_true.1 hck.2 t ht
  unfold termOK at ht
  simp only [Bool.and_eq_true] at ht
  have := pathOK_len ht.1.1
  exact ⟨h1, h2, by omega⟩
theorem matchClosT (t : Trm) (doc : Val) (h : okP 5 t.v = true ∧ opOK t.op t.v = true ∧ t.path.length < 4294967295) (hd : okP 5 doc = true) : run E (.call 185 [.t (trmT t), .dref (valC doc)]) = some (.res [xB (!matchT t doc)] []) := by
  rw [run_call E 185 _ rfl Tryz.func185 rfl rfl rfl (by simp)]
  simp [termM t doc h hd]
theorem matchClosC (c : List Trm) (doc : Val) (h : clsFit c) (hd : okP 5 doc = true) : run E (.call 184 [.t (clsT c), .dref (valC doc)]) = some (.res [xB (matchC c doc)] []) := by
  rw [run_call E 184 _ rfl Tryz.func184 rfl rfl rfl (by simp)]
  have hc := containsFunc_182_1 c 185 (valC doc) (fun t => !matchT t doc) (by have := h.1; omega) rfl (by simp) (fun t ht => matchClosT t doc (h.2 t ht) hd)
  rw [any_not_all] at hc
  simp [hc, matchC, -List.all_eq_true]
theorem implMatchF (f : List (List Trm)) (doc : Val) (h : filFit f) (hd : okP 5 doc = true) : run E (.call 79 [.t (filT f), xV doc]) = some (.res [xB (matchF f doc)] []) := by
  rw [run_call E 79 _ rfl Tryz.func79 rfl rfl rfl (by simp)]
  have hc := containsFunc_180_1 f 184 (valC doc) (fun c => matchC c doc) (by have := h.1; omega) rfl (by simp) (fun c hcm => matchClosC c doc (h.2 c hcm) hd)
  simp [hc, matchF, -List.any_eq_true]
theorem specMatchC (c : List Trm) (doc : Val) (h : clsFit c) (hd : okP 5 doc = true) : run E (.call 178 [.t (clsT c), xV doc]) = some (.res [xB (matchC c doc)] []) := by
  rw [run_call E 178 _ rfl Tryz.func178 rfl rfl rfl (by simp)]
  have d4 := d178_4
  simp [regionOf, findR, pick, Tryz.f178] at d4
  have dd := fun st => run_region_draw E st 4 _ d4
  clear d4
  have lp := fun b (hb : b = matchC c doc) => sk (fun s o q hI => loop_for (c := loopAt Tryz.f178 0) (N := 21)
    (fun i s o q => s 2 = .ptr 0 0 ∧ s 3 = .ptr 1 0 ∧ s 5 = .t (.int .i64 i) ∧ o 0 = .box 236 [.t (.list (c.map trmT))] ∧ o 1 = .box 35 [.t (.int .i64 doc.k), .t (.int .i64 doc.n), .t (.str doc.t)] ∧ b = (c.drop i).all (fun t => matchT t doc))
    (fun e s' o' q' => e = (if b then .exit 0 else .ret) ∧ (b = false → s' 4 = .t (.bool false))) c.length
    (by
      rintro i s o q hi ⟨g2, g3, g5, o0, o1, hp⟩
      have hi' : (i : Int) < (c.length : Int) := by omega
      have hwi := wrap_succ (n := i) (by have := h.1; omega)
      have hxi : c[i]? = some c[i] := List.getElem?_eq_getElem hi
      have ht := termS c[i] doc (h.2 _ (List.getElem_mem hi)) hd
      rw [List.drop_eq_getElem_cons hi, List.all_cons] at hp
      cases hok : matchT c[i] doc <;> simp [hok] at hp ht <;> simp [loopAt, loopsOf, Tryz.f178, dd, g2, g3, g5, o0, o1, hi', hxi, hwi, ht, hp])
    (by
      rintro s o q ⟨g2, g3, g5, o0, o1, hp⟩
      simp at hp
      simp [loopAt, loopsOf, Tryz.f178, g2, g3, g5, o0, o1, hp])
    c.length 0 s o q (by omega) hI)
  simp only [loopAt, loopsOf, Tryz.f178] at lp
  cases hb : matchC c doc with
  | true =>
    obtain ⟨X, A, B, C, hx⟩ := lp true hb.symm
    simp [matchC, -List.all_eq_true] at hx hb
    simp [hx, hb, -List.all_eq_true]
  | false =>
    obtain ⟨X, A, B, C, hx⟩ := lp false hb.symm
    simp [matchC, -List.all_eq_true, -List.all_eq_false] at hx hb
    simp [hx, hb, -List.all_eq_true, -List.all_eq_false]
theorem specMatchF (f : List (List Trm)) (doc : Val) (h : filFit f) (hd : okP 5 doc = true) : run E (.call 75 [.t (filT f), xV doc]) = some (.res [xB (matchF f doc)] []) := by
  rw [run_call E 75 _ rfl Tryz.func75 rfl rfl rfl (by simp)]
  have d4 := d75_4
  simp [regionOf, findR, pick, Tryz.f75] at d4
  have dd := fun st => run_region_draw E st 4 _ d4
  clear d4
  have lp := fun b (hb : b = matchF f doc) => sk (fun s o q hI => loop_for (c := loopAt Tryz.f75 0) (N := 20)
    (fun i s o q => s 2 = .ptr 0 0 ∧ s 3 = .ptr 1 0 ∧ s 5 = .t (.int .i64 i) ∧ o 0 = .box 33 [.t (.list (f.map clsT))] ∧ o 1 = .box 35 [.t (.int .i64 doc.k), .t (.int .i64 doc.n), .t (.str doc.t)] ∧ b = (f.drop i).any (fun c => matchC c doc))
    (fun e s' o' q' => e = (if b then .ret else .exit 0) ∧ (b = true → s' 4 = .t (.bool true))) f.length
    (by
      rintro i s o q hi ⟨g2, g3, g5, o0, o1, hp⟩
      have hi' : (i : Int) < (f.length : Int) := by omega
      have hwi := wrap_succ (n := i) (by have := h.1; omega)
      have hxi : f[i]? = some f[i] := List.getElem?_eq_getElem hi
      have ht := specMatchC f[i] doc (h.2 _ (List.getElem_mem hi)) hd
      rw [List.drop_eq_getElem_cons hi, List.any_cons] at hp
      cases hok : matchC f[i] doc <;> simp [hok] at hp ht <;> simp [loopAt, loopsOf, Tryz.f75, dd, g2, g3, g5, o0, o1, hi', hxi, hwi, ht, hp])
    (by
      rintro s o q ⟨g2, g3, g5, o0, o1, hp⟩
      simp at hp
      simp [loopAt, loopsOf, Tryz.f75, g2, g3, g5, o0, o1, hp])
    f.length 0 s o q (by omega) hI)
  simp only [loopAt, loopsOf, Tryz.f75] at lp
  cases hb : matchF f doc with
  | true =>
    obtain ⟨X, A, B, C, hx⟩ := lp true hb.symm
    simp [matchF, -List.any_eq_true] at hx hb
    simp [hx, hb, -List.any_eq_true]
  | false =>
    obtain ⟨X, A, B, C, hx⟩ := lp false hb.symm
    simp [matchF, -List.any_eq_true, -List.any_eq_false] at hx hb
    simp [hx, hb, -List.any_eq_true, -List.any_eq_false]
def matchesOut (f : List (List Trm)) (doc : Val) : Bool × Int := if filterOK f && isDocP doc then (matchF f doc, 0) else (false, 1)
theorem doc_ok {v : Val} (h : isDocP v = true) : okP 5 v = true ∧ v.k = 5 := by
  unfold isDocP valueOK at h
  simp only [Bool.and_eq_true, beq_iff_eq, decide_eq_true_eq] at h
  exact ⟨h.1, h.2⟩
theorem implMatches (f : List (List Trm)) (doc : Val) (hs : filterSm f) (hd : doc.t.length < 4294967296) : run E (.call 18 [.t (filT f), xV doc]) = some (.res [xB (matchesOut f doc).1, xI (matchesOut f doc).2] []) := by
  rw [run_call E 18 _ rfl Tryz.func18 rfl rfl rfl (by simp)]
  have h1 := implFilterOK f hs
  have h2 := isDoc doc hd
  unfold matchesOut
  cases hf : filterOK f with
  | false => rw [hf] at h1; simp [h1]
  | true =>
    rw [hf] at h1
    cases hk : isDocP doc with
    | false => rw [hk] at h2; simp [h1, h2]
    | true =>
      rw [hk] at h2
      have h3 := implMatchF f doc (fil_fit hf hs) (doc_ok hk).1
      simp [h1, h2, h3]
theorem specMatches (f : List (List Trm)) (doc : Val) (hs : filterSm f) (hd : doc.t.length < 4294967296) : run E (.call 15 [.t (filT f), xV doc]) = some (.res [xB (matchesOut f doc).1, xI (matchesOut f doc).2] []) := by
  rw [run_call E 15 _ rfl Tryz.func15 rfl rfl rfl (by simp)]
  have h1 := specFilterOK f hs
  have h2 := l03Doc doc hd
  unfold matchesOut
  cases hf : filterOK f with
  | false => rw [hf] at h1; simp [h1]
  | true =>
    rw [hf] at h1
    cases hk : isDocP doc with
    | false => rw [hk] at h2; simp [h1, h2]
    | true =>
      rw [hk] at h2
      have h3 := specMatchF f doc (fil_fit hf hs) (doc_ok hk).1
      simp [h1, h2, h3]
end Go.Yd
/- The law FnExactMatches over plain data. -/
set_option linter.unusedSimpArgs false
set_option linter.unusedVariables false
namespace Go.Yd
open Go.Ev Go.Proofs Go.Pu
set_option maxRecDepth 100000
set_option maxHeartbeats 16000000
theorem lawMatches (f : List (List Trm)) (v : Val) (hf : filWd f) (hv : W v.t.length) : run E (.call 3 [.t (filT f), xV v]) = some (.res [xB true] []) := by
  rw [run_call E 3 _ rfl Tryz.func3 rfl rfl rfl (by simp)]
  have h1 := szFilter f hf 1048576 (by omega) (by omega)
  by_cases hn : szFil f 1048576 < 0
  · simp [h1, hn]
  · have l1 := szFil_le f 1048576 (by omega)
    have h2 := szValue v hv (szFil f 1048576) (by omega) (by omega)
    by_cases hn2 : szVal v (szFil f 1048576) < 0
    · simp [h1, hn, h2, hn2]
    · have hs := szFil_sm (by omega) (by omega) hn
      have hvl : v.t.length < 4294967296 := by have := szB_bound hn2; omega
      have t1 := toFilter f hs.1 (fun c hc => (hs.2 c hc).1)
      have t2 := toValue v
      have t3 := specMatches f v hs hvl
      have t4 := implMatches f v hs hvl
      have t5 := eqFilter f hs.1 (fun c hc => (hs.2 c hc).1)
      have d8 := d3_8
      simp [regionOf, findR, pick, Tryz.f3] at d8
      have dd8 := fun st => run_region_draw E st 8 _ d8
      have d10 := d3_10
      simp [regionOf, findR, pick, Tryz.f3] at d10
      have dd10 := fun st => run_region_draw E st 10 _ d10
      have d13 := d3_13
      simp [regionOf, findR, pick, Tryz.f3] at d13
      have dd13 := fun st => run_region_draw E st 13 _ d13
      clear d8 d10 d13
      generalize matchesOut f v = R at *
      obtain ⟨b, c⟩ := R
      simp [h1, hn, h2, hn2, t1, t2, t3, t4, t5, dd8, dd10, dd13]
end Go.Yd
