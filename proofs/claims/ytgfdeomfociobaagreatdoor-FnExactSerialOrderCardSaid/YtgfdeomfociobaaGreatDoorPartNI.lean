/- Keys of values: impl's putKey and keyOf. -/
import Derived.Test.YtgfdeomfociobaaGreatDoorPartNH
import Derived.Test.YtgfdeomfociobaaGreatDoorPartNG
set_option linter.unusedSimpArgs false
set_option linter.unusedVariables false
namespace Go.Nd
open Go.Ev Go.Proofs Go.Pu
set_option maxRecDepth 100000
set_option maxHeartbeats 16000000
theorem u8_wrap (n : Int) : IntKind.u8.wrap n = ((byteAt n 0).toNat : Int) := by
  have := byteAt_wrap n 0
  simpa using this
theorem numP_1 (n : Int) : numP n 1 = [byteAt n 0] := rfl
theorem putKey_small_row (d : Nat) (v : Val) (acc : Bytes) (h : okP d v = true) (ha : acc.length + 4096 ≤ 70368744177664) (hv : v.t.length < 1048576) (hk : v.k = 0 ∨ v.k = 1 ∨ v.k = 2 ∨ v.k = 3) : run E (.call 254 [.row 5 (acc.map byteT), xV v]) = some (.res [.row 5 ((acc ++ keyD d v).map byteT)] [none]) := by
  rw [run_call E 254 _ rfl Tryz.func254 rfl rfl rfl (by simp)]
  have hsz := okP_range h
  unfold keyD headK
  have hw : IntKind.i64.wrap (v.k + 1) = v.k + 1 := wrap_of (by omega) (by omega)
  have hu := u8_wrap (v.k + 1)
  have hu2 := u8_wrap v.n
  have hr1 : List.range 1 = [0] := rfl
  have hl1 : acc.length + 1 ≤ 140737488355328 := by omega
  have hl2 : acc.length + 1 + 1 ≤ 140737488355328 := by omega
  have hl8 : acc.length + 1 + 8 ≤ 140737488355328 := by omega
  rcases hk with hk | hk | hk | hk
  · have e0 : (v.k = 0) = True := by rw [hk]; simp
    have e1 : (v.k = 1) = False := by rw [hk]; simp
    have e2 : (v.k = 2) = False := by rw [hk]; simp
    have e3 : (v.k = 3) = False := by rw [hk]; simp
    have e4 : (v.k = 4) = False := by rw [hk]; simp
    have e5 : (v.k = 5) = False := by rw [hk]; simp
    clear hk
    simp [e0, e1, e2, e3, e4, e5, hw, hu, hr1, hl1, numP_1]
  · have e0 : (v.k = 0) = False := by rw [hk]; simp
    have e1 : (v.k = 1) = True := by rw [hk]; simp
    have e2 : (v.k = 2) = False := by rw [hk]; simp
    have e3 : (v.k = 3) = False := by rw [hk]; simp
    have e4 : (v.k = 4) = False := by rw [hk]; simp
    have e5 : (v.k = 5) = False := by rw [hk]; simp
    clear hk
    simp [e0, e1, e2, e3, e4, e5, hw, hu, hu2, hr1, hl1, hl2, numP_1]
  · have hw2 : IntKind.i64.wrap (v.n + 4611686018427387904) = v.n + 4611686018427387904 := wrap_of (by omega) (by omega)
    have he := eight (v.n + 4611686018427387904)
    have hlen := numP_len (v.n + 4611686018427387904) 8
    have e0 : (v.k = 0) = False := by rw [hk]; simp
    have e1 : (v.k = 1) = False := by rw [hk]; simp
    have e2 : (v.k = 2) = True := by rw [hk]; simp
    have e3 : (v.k = 3) = False := by rw [hk]; simp
    have e4 : (v.k = 4) = False := by rw [hk]; simp
    have e5 : (v.k = 5) = False := by rw [hk]; simp
    clear hk
    generalize numP (v.n + 4611686018427387904) 8 = w at *
    simp [e0, e1, e2, e3, e4, e5, hw, hw2, hu, he, hlen, hr1, hl1, hl8, numP_1]
  · have he := putText (acc ++ [byteAt (v.k + 1) 0]) v.t (by omega) (by simp <;> omega)
    simp at he
    have e0 : (v.k = 0) = False := by rw [hk]; simp
    have e1 : (v.k = 1) = False := by rw [hk]; simp
    have e2 : (v.k = 2) = False := by rw [hk]; simp
    have e3 : (v.k = 3) = True := by rw [hk]; simp
    have e4 : (v.k = 4) = False := by rw [hk]; simp
    have e5 : (v.k = 5) = False := by rw [hk]; simp
    clear hk
    simp [e0, e1, e2, e3, e4, e5, hw, hu, he, hr1, hl1, numP_1]
theorem putKey_small_nil (d : Nat) (v : Val)  (h : okP d v = true) (ha : ([] : Bytes).length + 4096 ≤ 70368744177664) (hv : v.t.length < 1048576) (hk : v.k = 0 ∨ v.k = 1 ∨ v.k = 2 ∨ v.k = 3) : run E (.call 254 [.nil, xV v]) = some (.res [.row 5 ((([] : Bytes) ++ keyD d v).map byteT)] [some .nil]) := by
  rw [run_call E 254 _ rfl Tryz.func254 rfl rfl rfl (by simp)]
  have hsz := okP_range h
  unfold keyD headK
  have hw : IntKind.i64.wrap (v.k + 1) = v.k + 1 := wrap_of (by omega) (by omega)
  have hu := u8_wrap (v.k + 1)
  have hu2 := u8_wrap v.n
  have hr1 : List.range 1 = [0] := rfl
  have hl1 : ([] : Bytes).length + 1 ≤ 140737488355328 := by omega
  have hl2 : ([] : Bytes).length + 1 + 1 ≤ 140737488355328 := by omega
  have hl8 : ([] : Bytes).length + 1 + 8 ≤ 140737488355328 := by omega
  rcases hk with hk | hk | hk | hk
  · have e0 : (v.k = 0) = True := by rw [hk]; simp
    have e1 : (v.k = 1) = False := by rw [hk]; simp
    have e2 : (v.k = 2) = False := by rw [hk]; simp
    have e3 : (v.k = 3) = False := by rw [hk]; simp
    have e4 : (v.k = 4) = False := by rw [hk]; simp
    have e5 : (v.k = 5) = False := by rw [hk]; simp
    clear hk
    simp [e0, e1, e2, e3, e4, e5, hw, hu, hr1, hl1, numP_1]
  · have e0 : (v.k = 0) = False := by rw [hk]; simp
    have e1 : (v.k = 1) = True := by rw [hk]; simp
    have e2 : (v.k = 2) = False := by rw [hk]; simp
    have e3 : (v.k = 3) = False := by rw [hk]; simp
    have e4 : (v.k = 4) = False := by rw [hk]; simp
    have e5 : (v.k = 5) = False := by rw [hk]; simp
    clear hk
    simp [e0, e1, e2, e3, e4, e5, hw, hu, hu2, hr1, hl1, hl2, numP_1]
  · have hw2 : IntKind.i64.wrap (v.n + 4611686018427387904) = v.n + 4611686018427387904 := wrap_of (by omega) (by omega)
    have he := eight (v.n + 4611686018427387904)
    have hlen := numP_len (v.n + 4611686018427387904) 8
    have e0 : (v.k = 0) = False := by rw [hk]; simp
    have e1 : (v.k = 1) = False := by rw [hk]; simp
    have e2 : (v.k = 2) = True := by rw [hk]; simp
    have e3 : (v.k = 3) = False := by rw [hk]; simp
    have e4 : (v.k = 4) = False := by rw [hk]; simp
    have e5 : (v.k = 5) = False := by rw [hk]; simp
    clear hk
    generalize numP (v.n + 4611686018427387904) 8 = w at *
    simp [e0, e1, e2, e3, e4, e5, hw, hw2, hu, he, hlen, hr1, hl1, hl8, numP_1]
  · have he := putText (([] : Bytes) ++ [byteAt (v.k + 1) 0]) v.t (by omega) (by simp <;> omega)
    simp at he
    have e0 : (v.k = 0) = False := by rw [hk]; simp
    have e1 : (v.k = 1) = False := by rw [hk]; simp
    have e2 : (v.k = 2) = False := by rw [hk]; simp
    have e3 : (v.k = 3) = True := by rw [hk]; simp
    have e4 : (v.k = 4) = False := by rw [hk]; simp
    have e5 : (v.k = 5) = False := by rw [hk]; simp
    clear hk
    simp [e0, e1, e2, e3, e4, e5, hw, hu, he, hr1, hl1, numP_1]
end Go.Nd
/- Keys of values: impl's putKey and keyOf. -/
set_option linter.unusedSimpArgs false
set_option linter.unusedVariables false
namespace Go.Nd
open Go.Ev Go.Proofs Go.Pu
set_option maxRecDepth 100000
set_option maxHeartbeats 16000000
theorem putKey_items_row (d : Nat) (ih : ∀ (v : Val) (acc : Bytes), okP d v = true → acc.length + (keyD d v).length + 4096 ≤ 70368744177664 → v.t.length < 1048576 → run E (.call 254 [.row 5 (acc.map byteT), xV v]) = some (.res [.row 5 ((acc ++ keyD d v).map byteT)] [none]))
    (v : Val) (acc : Bytes) (h : okP (d + 1) v = true) (ha : acc.length + (keyD (d + 1) v).length + 4096 ≤ 70368744177664) (hv : v.t.length < 1048576) (hk : v.k = 4) : run E (.call 254 [.row 5 (acc.map byteT), xV v]) = some (.res [.row 5 ((acc ++ keyD (d + 1) v).map byteT)] [none]) := by
  rw [run_call E 254 _ rfl Tryz.func254 rfl rfl rfl (by simp)]
  obtain ⟨e, xs, hd, _, hit, hx⟩ := okP_list h hk
  obtain rfl : d = e := by omega
  have hi := implItems v (by omega)
  rw [itemsI_some hit] at hi
  simp at hi
  obtain ⟨hs1, hs2⟩ := items_small hit
  have hw : IntKind.i64.wrap (v.k + 1) = v.k + 1 := wrap_of (by omega) (by omega)
  have hu := u8_wrap (v.k + 1)
  have hr1 : List.range 1 = [0] := rfl
  have e0 : (v.k = 0) = False := by rw [hk]; simp
  have e1 : (v.k = 1) = False := by rw [hk]; simp
  have e2 : (v.k = 2) = False := by rw [hk]; simp
  have e3 : (v.k = 3) = False := by rw [hk]; simp
  have e4 : (v.k = 4) = True := by rw [hk]; simp
  have eL : itemsL v.t = xs := by simp [itemsL, hit]
  have ekey : keyD (d + 1) v = byteAt (v.k + 1) 0 :: (xs.flatMap (keyD d) ++ [0]) := by simp [keyD, e0, e1, e2, e3, e4, eL, headK, numP_1]
  rw [ekey] at ha ⊢
  clear hk
  have lp := fun (ri : Nat) (hri0 : 0 < ri) (R : Bytes) (hR : R = acc ++ [byteAt (v.k + 1) 0] ++ xs.flatMap (keyD d)) => sk1 (fun s o q hI => loop_for (c := loopAt Tryz.f254 0) (N := 91)
    (fun i s o q => ∃ r acc', s 0 = .row r ∧ o r = .row 5 (acc'.map byteT) true ∧ r < q ∧ s 51 = .row ri ∧ o ri = .row 35 (xs.map valT) true ∧ ri < q ∧ ri ≠ r ∧ 0 < r ∧ s 52 = .t (.int .i64 xs.length) ∧ s 53 = .t (.int .i64 i) ∧ o 0 = .dead ∧ R = acc' ++ (xs.drop i).flatMap (keyD d))
    (fun e s' o' q' => ∃ r, e = .exit 1 ∧ s' 0 = .row r ∧ o' r = .row 5 (R.map byteT) true ∧ ¬ r = q' ∧ ¬ q' = r ∧ ¬ r = q' + 1 ∧ ¬ q' = 0 ∧ ¬ 0 = q' ∧ ¬ r = 0 ∧ ¬ 0 = r ∧ o' 0 = .dead) xs.length
    (by
      rintro i s o q hi ⟨r, acc', h0, hor, hrq, h51, hori, hriq, hne, hr0, h52, h53, hdd, hp⟩
      have hi' : (i : Int) < (xs.length : Int) := by omega
      have hwi := wrap_succ (n := i) (by omega)
      have hxi : xs[i]? = some xs[i] := List.getElem?_eq_getElem hi
      rw [flat_drop _ _ _ hi, ← List.append_assoc] at hp
      have hlen : acc'.length + (keyD d xs[i]).length + 4096 ≤ 70368744177664 := by
        have h1 := congrArg List.length hp
        have h2 := congrArg List.length hR
        simp at h1 h2 ha
        omega
      have hr := ih xs[i] acc' (hx _ (List.getElem_mem hi)) hlen (by have := hs2 _ (List.getElem_mem hi); omega)
      have g1 : ¬ r = q := by omega
      have g2 : ¬ q = r := by omega
      have g3 : ¬ ri = q := by omega
      have g4 : ¬ q = ri := by omega
      have g5 : ¬ r = q + 1 := by omega
      have g6 : ¬ ri = q + 1 := by omega
      have g7 : ¬ q = 0 := by omega
      have g8 : ¬ 0 = q := by omega
      have g9 : ¬ r = ri := fun h => hne h.symm
      have g10 : ¬ 0 = r := by omega
      have g11 : ¬ r = 0 := by omega
      have g12 : ¬ ri = 0 := by omega
      have g13 : ¬ q + 1 = ri := by omega
      simp [loopAt, loopsOf, Tryz.f254, h0, hor, h51, hori, h52, h53, hi, hi', hwi, hxi, hr, g1, g2, g3, g4, g5, g6, g7, g8, g9, g10, g11, g12, g13, hne, hdd]
      exact ⟨acc' ++ keyD d xs[i], by simp, by omega, hp⟩)
    (by
      rintro s o q ⟨r, acc', h0, hor, hrq, h51, hori, hriq, hne, hr0, h52, h53, hdd, hp⟩
      simp at hp
      subst hp
      have g1 : ¬ r = q := by omega
      have g2 : ¬ q = r := by omega
      have g5 : ¬ r = q + 1 := by omega
      have g7 : ¬ q = 0 := by omega
      have g8 : ¬ 0 = q := by omega
      have g10 : ¬ 0 = r := by omega
      have g11 : ¬ r = 0 := by omega
      simp [loopAt, loopsOf, Tryz.f254, h0, hor, h51, hori, h52, h53, g1, g2, g5, g7, g8, g10, g11, hdd])
    xs.length 0 s o q (by omega) hI)
  simp only [loopAt, loopsOf, Tryz.f254] at lp
  obtain ⟨R, hR⟩ : ∃ R, R = acc ++ [byteAt (v.k + 1) 0] ++ xs.flatMap (keyD d) := ⟨_, rfl⟩
  obtain ⟨X, A, B, C, M, hl⟩ := lp 4 (by omega) R hR
  have hl' := fun s o q r a0 a1 a2 a3 a4 a5 a6 a7 a8 a9 a10 => hl s o q ⟨r, acc ++ [byteAt (v.k + 1) 0], a0, a1, a2, a3, a4, a5, a6, a7, a8, a9, a10, by simpa using hR⟩
  clear hl lp
  have hlR : R.length + 1 ≤ 140737488355328 := by
    have h2 := congrArg List.length hR
    simp at h2 ha
    omega
  have hl1 : acc.length + 1 ≤ 140737488355328 := by simp at ha ⊢ <;> omega
  have hfin : acc ++ byteAt (v.k + 1) 0 :: (xs.flatMap (keyD d) ++ [0]) = R ++ [0] := by rw [hR]; simp
  rw [hfin]
  clear hfin hR ekey
  simp at hl'
  simp [e0, e1, e2, e3, e4, hw, hu, hi, hl', hlR, hr1, hl1]
theorem putKey_items_nil (d : Nat) (ih : ∀ (v : Val) (acc : Bytes), okP d v = true → acc.length + (keyD d v).length + 4096 ≤ 70368744177664 → v.t.length < 1048576 → run E (.call 254 [.row 5 (acc.map byteT), xV v]) = some (.res [.row 5 ((acc ++ keyD d v).map byteT)] [none]))
    (v : Val)  (h : okP (d + 1) v = true) (ha : ([] : Bytes).length + (keyD (d + 1) v).length + 4096 ≤ 70368744177664) (hv : v.t.length < 1048576) (hk : v.k = 4) : run E (.call 254 [.nil, xV v]) = some (.res [.row 5 ((([] : Bytes) ++ keyD (d + 1) v).map byteT)] [some .nil]) := by
  rw [run_call E 254 _ rfl Tryz.func254 rfl rfl rfl (by simp)]
  obtain ⟨e, xs, hd, _, hit, hx⟩ := okP_list h hk
  obtain rfl : d = e := by omega
  have hi := implItems v (by omega)
  rw [itemsI_some hit] at hi
  simp at hi
  obtain ⟨hs1, hs2⟩ := items_small hit
  have hw : IntKind.i64.wrap (v.k + 1) = v.k + 1 := wrap_of (by omega) (by omega)
  have hu := u8_wrap (v.k + 1)
  have hr1 : List.range 1 = [0] := rfl
  have e0 : (v.k = 0) = False := by rw [hk]; simp
  have e1 : (v.k = 1) = False := by rw [hk]; simp
  have e2 : (v.k = 2) = False := by rw [hk]; simp
  have e3 : (v.k = 3) = False := by rw [hk]; simp
  have e4 : (v.k = 4) = True := by rw [hk]; simp
  have eL : itemsL v.t = xs := by simp [itemsL, hit]
  have ekey : keyD (d + 1) v = byteAt (v.k + 1) 0 :: (xs.flatMap (keyD d) ++ [0]) := by simp [keyD, e0, e1, e2, e3, e4, eL, headK, numP_1]
  rw [ekey] at ha ⊢
  clear hk
  have lp := fun (ri : Nat) (hri0 : 0 < ri) (R : Bytes) (hR : R = ([] : Bytes) ++ [byteAt (v.k + 1) 0] ++ xs.flatMap (keyD d)) => sk1 (fun s o q hI => loop_for (c := loopAt Tryz.f254 0) (N := 91)
    (fun i s o q => ∃ r acc', s 0 = .row r ∧ o r = .row 5 (acc'.map byteT) true ∧ r < q ∧ s 51 = .row ri ∧ o ri = .row 35 (xs.map valT) true ∧ ri < q ∧ ri ≠ r ∧ 0 < r ∧ s 52 = .t (.int .i64 xs.length) ∧ s 53 = .t (.int .i64 i) ∧ True ∧ R = acc' ++ (xs.drop i).flatMap (keyD d))
    (fun e s' o' q' => ∃ r, e = .exit 1 ∧ s' 0 = .row r ∧ o' r = .row 5 (R.map byteT) true ∧ ¬ r = q' ∧ ¬ q' = r ∧ ¬ r = q' + 1 ∧ ¬ q' = 0 ∧ ¬ 0 = q' ∧ ¬ r = 0 ∧ ¬ 0 = r ∧ True) xs.length
    (by
      rintro i s o q hi ⟨r, acc', h0, hor, hrq, h51, hori, hriq, hne, hr0, h52, h53, hdd, hp⟩
      have hi' : (i : Int) < (xs.length : Int) := by omega
      have hwi := wrap_succ (n := i) (by omega)
      have hxi : xs[i]? = some xs[i] := List.getElem?_eq_getElem hi
      rw [flat_drop _ _ _ hi, ← List.append_assoc] at hp
      have hlen : acc'.length + (keyD d xs[i]).length + 4096 ≤ 70368744177664 := by
        have h1 := congrArg List.length hp
        have h2 := congrArg List.length hR
        simp at h1 h2 ha
        omega
      have hr := ih xs[i] acc' (hx _ (List.getElem_mem hi)) hlen (by have := hs2 _ (List.getElem_mem hi); omega)
      have g1 : ¬ r = q := by omega
      have g2 : ¬ q = r := by omega
      have g3 : ¬ ri = q := by omega
      have g4 : ¬ q = ri := by omega
      have g5 : ¬ r = q + 1 := by omega
      have g6 : ¬ ri = q + 1 := by omega
      have g7 : ¬ q = 0 := by omega
      have g8 : ¬ 0 = q := by omega
      have g9 : ¬ r = ri := fun h => hne h.symm
      have g10 : ¬ 0 = r := by omega
      have g11 : ¬ r = 0 := by omega
      have g12 : ¬ ri = 0 := by omega
      have g13 : ¬ q + 1 = ri := by omega
      simp [loopAt, loopsOf, Tryz.f254, h0, hor, h51, hori, h52, h53, hi, hi', hwi, hxi, hr, g1, g2, g3, g4, g5, g6, g7, g8, g9, g10, g11, g12, g13, hne, hdd]
      exact ⟨acc' ++ keyD d xs[i], by simp, by omega, hp⟩)
    (by
      rintro s o q ⟨r, acc', h0, hor, hrq, h51, hori, hriq, hne, hr0, h52, h53, hdd, hp⟩
      simp at hp
      subst hp
      have g1 : ¬ r = q := by omega
      have g2 : ¬ q = r := by omega
      have g5 : ¬ r = q + 1 := by omega
      have g7 : ¬ q = 0 := by omega
      have g8 : ¬ 0 = q := by omega
      have g10 : ¬ 0 = r := by omega
      have g11 : ¬ r = 0 := by omega
      simp [loopAt, loopsOf, Tryz.f254, h0, hor, h51, hori, h52, h53, g1, g2, g5, g7, g8, g10, g11, hdd])
    xs.length 0 s o q (by omega) hI)
  simp only [loopAt, loopsOf, Tryz.f254] at lp
  obtain ⟨R, hR⟩ : ∃ R, R = ([] : Bytes) ++ [byteAt (v.k + 1) 0] ++ xs.flatMap (keyD d) := ⟨_, rfl⟩
  obtain ⟨X, A, B, C, M, hl⟩ := lp 3 (by omega) R hR
  have hl' := fun s o q r a0 a1 a2 a3 a4 a5 a6 a7 a8 a9 a10 => hl s o q ⟨r, ([] : Bytes) ++ [byteAt (v.k + 1) 0], a0, a1, a2, a3, a4, a5, a6, a7, a8, a9, a10, by simpa using hR⟩
  clear hl lp
  have hlR : R.length + 1 ≤ 140737488355328 := by
    have h2 := congrArg List.length hR
    simp at h2 ha
    omega
  have hl1 : ([] : Bytes).length + 1 ≤ 140737488355328 := by simp at ha ⊢ <;> omega
  have hfin : ([] : Bytes) ++ byteAt (v.k + 1) 0 :: (xs.flatMap (keyD d) ++ [0]) = R ++ [0] := by rw [hR]; simp
  rw [hfin]
  clear hfin hR ekey
  simp at hl'
  simp [e0, e1, e2, e3, e4, hw, hu, hi, hl', hlR, hr1, hl1]
end Go.Nd
/- Keys of values: impl's putKey and keyOf. -/
set_option linter.unusedSimpArgs false
set_option linter.unusedVariables false
namespace Go.Nd
open Go.Ev Go.Proofs Go.Pu
set_option maxRecDepth 100000
set_option maxHeartbeats 16000000
theorem putKey_fields_row (d : Nat) (ih : ∀ (v : Val) (acc : Bytes), okP d v = true → acc.length + (keyD d v).length + 4096 ≤ 70368744177664 → v.t.length < 1048576 → run E (.call 254 [.row 5 (acc.map byteT), xV v]) = some (.res [.row 5 ((acc ++ keyD d v).map byteT)] [none]))
    (v : Val) (acc : Bytes) (h : okP (d + 1) v = true) (ha : acc.length + (keyD (d + 1) v).length + 4096 ≤ 70368744177664) (hv : v.t.length < 1048576) (hk : v.k = 5) : run E (.call 254 [.row 5 (acc.map byteT), xV v]) = some (.res [.row 5 ((acc ++ keyD (d + 1) v).map byteT)] [none]) := by
  rw [run_call E 254 _ rfl Tryz.func254 rfl rfl rfl (by simp)]
  obtain ⟨e, xs, hd, _, hit, _, hx⟩ := okP_doc h hk
  obtain rfl : d = e := by omega
  have hi := implFields v (by omega)
  rw [fieldsI_some hit] at hi
  simp at hi
  obtain ⟨hs1, hs2⟩ := fields_small hit
  have hw : IntKind.i64.wrap (v.k + 1) = v.k + 1 := wrap_of (by omega) (by omega)
  have hu := u8_wrap (v.k + 1)
  have hr1 : List.range 1 = [0] := rfl
  have e0 : (v.k = 0) = False := by rw [hk]; simp
  have e1 : (v.k = 1) = False := by rw [hk]; simp
  have e2 : (v.k = 2) = False := by rw [hk]; simp
  have e3 : (v.k = 3) = False := by rw [hk]; simp
  have e4 : (v.k = 4) = False := by rw [hk]; simp
  have e5 : (v.k = 5) = True := by rw [hk]; simp
  have eL : fieldsL v.t = xs := by simp [fieldsL, hit]
  obtain ⟨F, hF⟩ : ∃ F : Fld → Bytes, F = (fun f => [1] ++ escP f.name ++ keyD d f.v) := ⟨_, rfl⟩
  have hFx : ∀ f, F f = 1 :: (escP f.name ++ keyD d f.v) := by intro f; rw [hF]; simp
  have hFl : ∀ f, (F f).length = 1 + (escP f.name).length + (keyD d f.v).length := by intro f; rw [hF]; simp; omega
  have ekey : keyD (d + 1) v = byteAt (v.k + 1) 0 :: (xs.flatMap F ++ [0]) := by rw [hF]; simp [keyD, e0, e1, e2, e3, e4, eL, headK, numP_1]
  clear hF
  have n22 := n254_22
  have s22 := s254_22
  simp [regionOf, findR, pick, Tryz.f254] at n22 s22
  have dd := fun st => run_region_drawS E st 22 _ n22 s22
  clear n22 s22
  rw [ekey] at ha ⊢
  clear hk
  have lp := fun (ri : Nat) (hri0 : 0 < ri) (R : Bytes) (hR : R = acc ++ [byteAt (v.k + 1) 0] ++ xs.flatMap F) => sk1 (fun s o q hI => loop_for (c := loopAt Tryz.f254 1) (N := 91)
    (fun i s o q => ∃ r acc', s 0 = .row r ∧ o r = .row 5 (acc'.map byteT) true ∧ r < q ∧ s 71 = .row ri ∧ o ri = .row 125 (xs.map fldT) true ∧ ri < q ∧ ri ≠ r ∧ 0 < r ∧ s 72 = .t (.int .i64 xs.length) ∧ s 73 = .t (.int .i64 i) ∧ o 0 = .dead ∧ R = acc' ++ (xs.drop i).flatMap F)
    (fun e s' o' q' => ∃ r, e = .exit 3 ∧ s' 0 = .row r ∧ o' r = .row 5 (R.map byteT) true ∧ ¬ r = q' ∧ ¬ q' = r ∧ ¬ r = q' + 1 ∧ ¬ q' = 0 ∧ ¬ 0 = q' ∧ ¬ r = 0 ∧ ¬ 0 = r ∧ o' 0 = .dead) xs.length
    (by
      rintro i s o q hi ⟨r, acc', h0, hor, hrq, h51, hori, hriq, hne, hr0, h52, h53, hdd, hp⟩
      have hi' : (i : Int) < (xs.length : Int) := by omega
      have hwi := wrap_succ (n := i) (by omega)
      have hxi : xs[i]? = some xs[i] := List.getElem?_eq_getElem hi
      rw [flat_drop _ _ _ hi, ← List.append_assoc] at hp
      have hlen : acc'.length + (F xs[i]).length + 4096 ≤ 70368744177664 := by
        have h1 := congrArg List.length hp
        have h2 := congrArg List.length hR
        simp at h1 h2 ha
        omega
      have hsm := hs2 _ (List.getElem_mem hi)
      have hFi := hFx xs[i]
      have hFk := hFl xs[i]
      have hpt := putText (acc' ++ [1]) xs[i].name (by omega) (by simp; omega)
      have hr := ih xs[i].v (acc' ++ [1] ++ escP xs[i].name) (hx _ (List.getElem_mem hi)).2 (by simp; omega) (by omega)
      have hb1 : acc'.length + 1 ≤ 140737488355328 := by omega
      have hb1' : byteT 1 = T.int IntKind.u8 1 := rfl
      simp [hb1'] at hpt hr
      rw [hFi] at hp
      have g1 : ¬ r = q := by omega
      have g2 : ¬ q = r := by omega
      have g3 : ¬ ri = q := by omega
      have g4 : ¬ q = ri := by omega
      have g5 : ¬ r = q + 1 := by omega
      have g6 : ¬ ri = q + 1 := by omega
      have g7 : ¬ q = 0 := by omega
      have g8 : ¬ 0 = q := by omega
      have g9 : ¬ r = ri := fun h => hne h.symm
      have g10 : ¬ 0 = r := by omega
      have g11 : ¬ r = 0 := by omega
      have g12 : ¬ ri = 0 := by omega
      have g13 : ¬ q + 1 = ri := by omega
      have g14 : ¬ q + 1 + 1 = ri := by omega
      have g15 : ¬ q + 1 + 1 + 1 = ri := by omega
      have g16 : ¬ ri = q + 1 + 1 := by omega
      have g17 : ¬ ri = q + 1 + 1 + 1 := by omega
      have g18 : ¬ q = q + 1 + 1 := by omega
      simp [loopAt, loopsOf, Tryz.f254, h0, hor, h51, hori, h52, h53, hi, hi', hwi, hxi, hr, hpt, hb1, hr1, dd, g1, g2, g3, g4, g5, g6, g7, g8, g9, g10, g11, g12, g13, g14, g15, g16, g17, g18, hne, hdd]
      exact ⟨acc' ++ 1 :: (escP xs[i].name ++ keyD d xs[i].v), by simp [hb1'], by omega, hp⟩)
    (by
      rintro s o q ⟨r, acc', h0, hor, hrq, h51, hori, hriq, hne, hr0, h52, h53, hdd, hp⟩
      simp at hp
      subst hp
      have g1 : ¬ r = q := by omega
      have g2 : ¬ q = r := by omega
      have g5 : ¬ r = q + 1 := by omega
      have g7 : ¬ q = 0 := by omega
      have g8 : ¬ 0 = q := by omega
      have g10 : ¬ 0 = r := by omega
      have g11 : ¬ r = 0 := by omega
      simp [loopAt, loopsOf, Tryz.f254, h0, hor, h51, hori, h52, h53, g1, g2, g5, g7, g8, g10, g11, hdd])
    xs.length 0 s o q (by omega) hI)
  simp only [loopAt, loopsOf, Tryz.f254] at lp
  obtain ⟨R, hR⟩ : ∃ R, R = acc ++ [byteAt (v.k + 1) 0] ++ xs.flatMap F := ⟨_, rfl⟩
  obtain ⟨X, A, B, C, M, hl⟩ := lp 4 (by omega) R hR
  have hl' := fun s o q r a0 a1 a2 a3 a4 a5 a6 a7 a8 a9 a10 => hl s o q ⟨r, acc ++ [byteAt (v.k + 1) 0], a0, a1, a2, a3, a4, a5, a6, a7, a8, a9, a10, by simpa using hR⟩
  clear hl lp
  have hlR : R.length + 1 ≤ 140737488355328 := by
    have h2 := congrArg List.length hR
    simp at h2 ha
    omega
  have hl1 : acc.length + 1 ≤ 140737488355328 := by simp at ha ⊢ <;> omega
  have hfin : acc ++ byteAt (v.k + 1) 0 :: (xs.flatMap F ++ [0]) = R ++ [0] := by rw [hR]; simp
  rw [hfin]
  clear hfin hR ekey
  simp at hl'
  simp [e0, e1, e2, e3, e4, e5, hw, hu, hi, hl', hlR, hr1, hl1]
theorem putKey_fields_nil (d : Nat) (ih : ∀ (v : Val) (acc : Bytes), okP d v = true → acc.length + (keyD d v).length + 4096 ≤ 70368744177664 → v.t.length < 1048576 → run E (.call 254 [.row 5 (acc.map byteT), xV v]) = some (.res [.row 5 ((acc ++ keyD d v).map byteT)] [none]))
    (v : Val)  (h : okP (d + 1) v = true) (ha : ([] : Bytes).length + (keyD (d + 1) v).length + 4096 ≤ 70368744177664) (hv : v.t.length < 1048576) (hk : v.k = 5) : run E (.call 254 [.nil, xV v]) = some (.res [.row 5 ((([] : Bytes) ++ keyD (d + 1) v).map byteT)] [some .nil]) := by
  rw [run_call E 254 _ rfl Tryz.func254 rfl rfl rfl (by simp)]
  obtain ⟨e, xs, hd, _, hit, _, hx⟩ := okP_doc h hk
  obtain rfl : d = e := by omega
  have hi := implFields v (by omega)
  rw [fieldsI_some hit] at hi
  simp at hi
  obtain ⟨hs1, hs2⟩ := fields_small hit
  have hw : IntKind.i64.wrap (v.k + 1) = v.k + 1 := wrap_of (by omega) (by omega)
  have hu := u8_wrap (v.k + 1)
  have hr1 : List.range 1 = [0] := rfl
  have e0 : (v.k = 0) = False := by rw [hk]; simp
  have e1 : (v.k = 1) = False := by rw [hk]; simp
  have e2 : (v.k = 2) = False := by rw [hk]; simp
  have e3 : (v.k = 3) = False := by rw [hk]; simp
  have e4 : (v.k = 4) = False := by rw [hk]; simp
  have e5 : (v.k = 5) = True := by rw [hk]; simp
  have eL : fieldsL v.t = xs := by simp [fieldsL, hit]
  obtain ⟨F, hF⟩ : ∃ F : Fld → Bytes, F = (fun f => [1] ++ escP f.name ++ keyD d f.v) := ⟨_, rfl⟩
  have hFx : ∀ f, F f = 1 :: (escP f.name ++ keyD d f.v) := by intro f; rw [hF]; simp
  have hFl : ∀ f, (F f).length = 1 + (escP f.name).length + (keyD d f.v).length := by intro f; rw [hF]; simp; omega
  have ekey : keyD (d + 1) v = byteAt (v.k + 1) 0 :: (xs.flatMap F ++ [0]) := by rw [hF]; simp [keyD, e0, e1, e2, e3, e4, eL, headK, numP_1]
  clear hF
  have n22 := n254_22
  have s22 := s254_22
  simp [regionOf, findR, pick, Tryz.f254] at n22 s22
  have dd := fun st => run_region_drawS E st 22 _ n22 s22
  clear n22 s22
  rw [ekey] at ha ⊢
  clear hk
  have lp := fun (ri : Nat) (hri0 : 0 < ri) (R : Bytes) (hR : R = ([] : Bytes) ++ [byteAt (v.k + 1) 0] ++ xs.flatMap F) => sk1 (fun s o q hI => loop_for (c := loopAt Tryz.f254 1) (N := 91)
    (fun i s o q => ∃ r acc', s 0 = .row r ∧ o r = .row 5 (acc'.map byteT) true ∧ r < q ∧ s 71 = .row ri ∧ o ri = .row 125 (xs.map fldT) true ∧ ri < q ∧ ri ≠ r ∧ 0 < r ∧ s 72 = .t (.int .i64 xs.length) ∧ s 73 = .t (.int .i64 i) ∧ True ∧ R = acc' ++ (xs.drop i).flatMap F)
    (fun e s' o' q' => ∃ r, e = .exit 3 ∧ s' 0 = .row r ∧ o' r = .row 5 (R.map byteT) true ∧ ¬ r = q' ∧ ¬ q' = r ∧ ¬ r = q' + 1 ∧ ¬ q' = 0 ∧ ¬ 0 = q' ∧ ¬ r = 0 ∧ ¬ 0 = r ∧ True) xs.length
    (by
      rintro i s o q hi ⟨r, acc', h0, hor, hrq, h51, hori, hriq, hne, hr0, h52, h53, hdd, hp⟩
      have hi' : (i : Int) < (xs.length : Int) := by omega
      have hwi := wrap_succ (n := i) (by omega)
      have hxi : xs[i]? = some xs[i] := List.getElem?_eq_getElem hi
      rw [flat_drop _ _ _ hi, ← List.append_assoc] at hp
      have hlen : acc'.length + (F xs[i]).length + 4096 ≤ 70368744177664 := by
        have h1 := congrArg List.length hp
        have h2 := congrArg List.length hR
        simp at h1 h2 ha
        omega
      have hsm := hs2 _ (List.getElem_mem hi)
      have hFi := hFx xs[i]
      have hFk := hFl xs[i]
      have hpt := putText (acc' ++ [1]) xs[i].name (by omega) (by simp; omega)
      have hr := ih xs[i].v (acc' ++ [1] ++ escP xs[i].name) (hx _ (List.getElem_mem hi)).2 (by simp; omega) (by omega)
      have hb1 : acc'.length + 1 ≤ 140737488355328 := by omega
      have hb1' : byteT 1 = T.int IntKind.u8 1 := rfl
      simp [hb1'] at hpt hr
      rw [hFi] at hp
      have g1 : ¬ r = q := by omega
      have g2 : ¬ q = r := by omega
      have g3 : ¬ ri = q := by omega
      have g4 : ¬ q = ri := by omega
      have g5 : ¬ r = q + 1 := by omega
      have g6 : ¬ ri = q + 1 := by omega
      have g7 : ¬ q = 0 := by omega
      have g8 : ¬ 0 = q := by omega
      have g9 : ¬ r = ri := fun h => hne h.symm
      have g10 : ¬ 0 = r := by omega
      have g11 : ¬ r = 0 := by omega
      have g12 : ¬ ri = 0 := by omega
      have g13 : ¬ q + 1 = ri := by omega
      have g14 : ¬ q + 1 + 1 = ri := by omega
      have g15 : ¬ q + 1 + 1 + 1 = ri := by omega
      have g16 : ¬ ri = q + 1 + 1 := by omega
      have g17 : ¬ ri = q + 1 + 1 + 1 := by omega
      have g18 : ¬ q = q + 1 + 1 := by omega
      simp [loopAt, loopsOf, Tryz.f254, h0, hor, h51, hori, h52, h53, hi, hi', hwi, hxi, hr, hpt, hb1, hr1, dd, g1, g2, g3, g4, g5, g6, g7, g8, g9, g10, g11, g12, g13, g14, g15, g16, g17, g18, hne, hdd]
      exact ⟨acc' ++ 1 :: (escP xs[i].name ++ keyD d xs[i].v), by simp [hb1'], by omega, hp⟩)
    (by
      rintro s o q ⟨r, acc', h0, hor, hrq, h51, hori, hriq, hne, hr0, h52, h53, hdd, hp⟩
      simp at hp
      subst hp
      have g1 : ¬ r = q := by omega
      have g2 : ¬ q = r := by omega
      have g5 : ¬ r = q + 1 := by omega
      have g7 : ¬ q = 0 := by omega
      have g8 : ¬ 0 = q := by omega
      have g10 : ¬ 0 = r := by omega
      have g11 : ¬ r = 0 := by omega
      simp [loopAt, loopsOf, Tryz.f254, h0, hor, h51, hori, h52, h53, g1, g2, g5, g7, g8, g10, g11, hdd])
    xs.length 0 s o q (by omega) hI)
  simp only [loopAt, loopsOf, Tryz.f254] at lp
  obtain ⟨R, hR⟩ : ∃ R, R = ([] : Bytes) ++ [byteAt (v.k + 1) 0] ++ xs.flatMap F := ⟨_, rfl⟩
  obtain ⟨X, A, B, C, M, hl⟩ := lp 3 (by omega) R hR
  have hl' := fun s o q r a0 a1 a2 a3 a4 a5 a6 a7 a8 a9 a10 => hl s o q ⟨r, ([] : Bytes) ++ [byteAt (v.k + 1) 0], a0, a1, a2, a3, a4, a5, a6, a7, a8, a9, a10, by simpa using hR⟩
  clear hl lp
  have hlR : R.length + 1 ≤ 140737488355328 := by
    have h2 := congrArg List.length hR
    simp at h2 ha
    omega
  have hl1 : ([] : Bytes).length + 1 ≤ 140737488355328 := by simp at ha ⊢ <;> omega
  have hfin : ([] : Bytes) ++ byteAt (v.k + 1) 0 :: (xs.flatMap F ++ [0]) = R ++ [0] := by rw [hR]; simp
  rw [hfin]
  clear hfin hR ekey
  simp at hl'
  simp [e0, e1, e2, e3, e4, e5, hw, hu, hi, hl', hlR, hr1, hl1]
end Go.Nd
/- Keys of values: impl's putKey and keyOf. -/
set_option linter.unusedSimpArgs false
set_option linter.unusedVariables false
namespace Go.Nd
open Go.Ev Go.Proofs Go.Pu
set_option maxRecDepth 100000
set_option maxHeartbeats 16000000
theorem putKey : ∀ (d : Nat) (v : Val) (acc : Bytes), okP d v = true → acc.length + (keyD d v).length + 4096 ≤ 70368744177664 → v.t.length < 1048576 → run E (.call 254 [.row 5 (acc.map byteT), xV v]) = some (.res [.row 5 ((acc ++ keyD d v).map byteT)] [none]) := by
  intro d
  induction d with
  | zero =>
    intro v acc h ha hv
    refine putKey_small_row 0 v acc h (by omega) hv ?_
    unfold okP at h
    by_cases h0 : v.k = 0; · omega
    by_cases h1 : v.k = 1; · omega
    by_cases h2 : v.k = 2; · omega
    by_cases h3 : v.k = 3; · omega
    simp [h0, h1, h2, h3] at h
  | succ d ih =>
    intro v acc h ha hv
    have hr := okP_range h
    by_cases h4 : v.k = 4
    · exact putKey_items_row d (fun v acc h1 h2 h3 => ih v acc h1 h2 h3) v acc h ha hv h4
    · by_cases h5 : v.k = 5
      · exact putKey_fields_row d (fun v acc h1 h2 h3 => ih v acc h1 h2 h3) v acc h ha hv h5
      · exact putKey_small_row (d + 1) v acc h (by omega) hv (by omega)
theorem putKeyNil (d : Nat) (v : Val) (h : okP d v = true) (hv : v.t.length < 1048576) : run E (.call 254 [.nil, xV v]) = some (.res [.row 5 ((keyD d v).map byteT)] [some .nil]) := by
  have hr := okP_range h
  have hl := keyD_len d v h
  cases d with
  | zero =>
    refine putKey_small_nil 0 v h (by simp) hv ?_
    unfold okP at h
    by_cases h0 : v.k = 0; · omega
    by_cases h1 : v.k = 1; · omega
    by_cases h2 : v.k = 2; · omega
    by_cases h3 : v.k = 3; · omega
    simp [h0, h1, h2, h3] at h
  | succ d =>
    by_cases h4 : v.k = 4
    · exact putKey_items_nil d (fun v acc h1 h2 h3 => putKey d v acc h1 h2 h3) v h (by simp; omega) hv h4
    · by_cases h5 : v.k = 5
      · exact putKey_fields_nil d (fun v acc h1 h2 h3 => putKey d v acc h1 h2 h3) v h (by simp; omega) hv h5
      · exact putKey_small_nil (d + 1) v h (by simp) hv (by omega)
theorem keyOf (d : Nat) (v : Val) (f : Bool) (h : okP d v = true) (hv : v.t.length < 1048576) : run E (.call 150 [xV v, xB f]) = some (.res [xS (if f then turnP (keyD d v) else keyD d v)] []) := by
  rw [run_call E 150 _ rfl Tryz.func150 rfl rfl rfl (by simp)]
  have h1 := putKeyNil d v h hv
  have hl := keyD_len d v h
  have h2 := fallen (keyD d v) f (by omega)
  cases f <;> simp at h2 <;> simp [h1, h2]
end Go.Nd
/- Keys of values: no two values have one key; what a key begins with. -/
set_option linter.unusedSimpArgs false
set_option linter.unusedVariables false
namespace Go.Nd
open Go.Ev Go.Proofs Go.Pu
set_option maxRecDepth 100000
set_option maxHeartbeats 4000000
end Go.Nd
/- Intervals: what is behind all that begins with a text; the interval of what begins with it; what two have in common. -/
set_option linter.unusedSimpArgs false
set_option linter.unusedVariables false
namespace Go.Nd
open Go.Ev Go.Proofs Go.Pu
set_option maxRecDepth 100000
set_option maxHeartbeats 16000000
structure Ivl where
  low : Bytes
  high : Bytes
  opn : Bool
  deriving DecidableEq, Inhabited
abbrev ivlT (i : Ivl) : T := .agg [.str i.low, .str i.high, .bool i.opn]
abbrev ivlX (i : Ivl) : X := .agg [.t (.str i.low), .t (.str i.high), .t (.bool i.opn)]
/-- The least text behind all that begin with t, seen from its first n bytes. -/
def behindN (t : Bytes) : Nat → Option Bytes
  | 0 => none
  | n + 1 => match t[n]? with
    | some b => if b < 255 then some (t.take n ++ [b + 1]) else behindN t n
    | none => none
def behindP (t : Bytes) : Option Bytes := behindN t t.length
def beginP (t : Bytes) : Ivl := match behindP t with
  | some h => ⟨t, h, false⟩
  | none => ⟨t, [], true⟩
def minS (x y : Bytes) : Bytes := if (Op.bytesLess x y || x == y) = true then x else y
def maxS (x y : Bytes) : Bytes := if (!Op.bytesLess x y) = true then x else y
def meetP (a b : Ivl) : Ivl :=
  ⟨maxS a.low b.low, if a.opn && b.opn then [] else if a.opn then b.high else if b.opn then a.high else minS a.high b.high, a.opn && b.opn⟩
end Go.Nd
/- Intervals: impl's begins; spec's meeting; turned texts. -/
set_option linter.unusedSimpArgs false
set_option linter.unusedVariables false
namespace Go.Nd
open Go.Ev Go.Proofs Go.Pu
set_option maxRecDepth 100000
set_option maxHeartbeats 16000000
end Go.Nd
/- The interval of a term: spec's l04Term, impl's interval. -/
set_option linter.unusedSimpArgs false
set_option linter.unusedVariables false
namespace Go.Nd
open Go.Ev Go.Proofs Go.Pu
set_option maxRecDepth 100000
set_option maxHeartbeats 16000000
def keyI (v : Val) (f : Bool) : Bytes := if f then turnP (keyD 5 v) else keyD 5 v
def kindB (n : Int) (f : Bool) : Bytes := if f then turnP [byteAt n 0] else [byteAt n 0]
abbrev opnI : Ivl := ⟨[], [], true⟩
def flipO (op : Int) (f : Bool) : Int := if f then (if op = 3 then 5 else if op = 4 then 6 else if op = 5 then 3 else if op = 6 then 4 else op) else op
def implIv (t : Trm) (f : Bool) : Ivl :=
  if flipO t.op f = 1 then beginP (keyI t.v f)
  else if flipO t.op f = 9 then beginP (kindB (t.v.n + 1) f)
  else if flipO t.op f = 5 then { beginP ((keyI t.v f).take 1) with low := (beginP (keyI t.v f)).high }
  else if flipO t.op f = 6 then { beginP ((keyI t.v f).take 1) with low := keyI t.v f }
  else if flipO t.op f = 3 then { beginP ((keyI t.v f).take 1) with high := keyI t.v f }
  else if flipO t.op f = 4 then { beginP ((keyI t.v f).take 1) with high := (beginP (keyI t.v f)).high }
  else opnI
def specIv (t : Trm) (f : Bool) : Ivl :=
  if t.op = 1 then beginP (keyI t.v f)
  else if t.op = 3 ∨ t.op = 5 ∨ t.op = 4 ∨ t.op = 6 then
    if ((decide (t.op = 5) || decide (t.op = 6)) != f) = true then
      if t.op = 4 ∨ t.op = 6 then { beginP (kindB (t.v.k + 1) f) with low := (beginP (keyI t.v f)).low }
      else if (beginP (keyI t.v f)).opn then ⟨[], [], false⟩ else { beginP (kindB (t.v.k + 1) f) with low := (beginP (keyI t.v f)).high }
    else if t.op = 4 ∨ t.op = 6 then meetP (beginP (kindB (t.v.k + 1) f)) ⟨[], (beginP (keyI t.v f)).high, (beginP (keyI t.v f)).opn⟩
    else meetP (beginP (kindB (t.v.k + 1) f)) ⟨[], (beginP (keyI t.v f)).low, false⟩
  else if t.op = 9 then beginP (kindB (t.v.n + 1) f)
  else opnI
end Go.Nd
/- The interval of a term: impl's; both are alike. -/
set_option linter.unusedSimpArgs false
set_option linter.unusedVariables false
namespace Go.Nd
open Go.Ev Go.Proofs Go.Pu
set_option maxRecDepth 100000
set_option maxHeartbeats 16000000
end Go.Nd
/- The interval of a term: spec's is impl's. -/
set_option linter.unusedSimpArgs false
set_option linter.unusedVariables false
namespace Go.Nd
open Go.Ev Go.Proofs Go.Pu
set_option maxRecDepth 100000
set_option maxHeartbeats 4000000
end Go.Nd
/- The interval of a clause and of a filter: spec's and impl's. -/
set_option linter.unusedSimpArgs false
set_option linter.unusedVariables false
namespace Go.Nd
open Go.Ev Go.Proofs Go.Pu
set_option maxRecDepth 100000
set_option maxHeartbeats 16000000
def saysB (t : Trm) : Bool := decide (t.op = 2) || decide (t.op = 7) || decide (t.op = 8) || decide (t.op = 10)
def hitB (p : Prt) (t : Trm) : Bool := t.path == p.path && !saysB t
def clauseI (p : Prt) (c : List Trm) : Ivl := match c.find? (hitB p) with
  | some t => implIv t p.desc
  | none => opnI
def clStep (p : Prt) (out : Ivl) (t : Trm) : Ivl := if ((t.path == p.path) && out.opn && (out.low == [])) = true then specIv t p.desc else out
end Go.Nd
/- The interval of a clause: spec's l07Clause and impl's, run. -/
set_option linter.unusedSimpArgs false
set_option linter.unusedVariables false
namespace Go.Nd
open Go.Ev Go.Proofs Go.Pu
set_option maxRecDepth 100000
set_option maxHeartbeats 16000000
abbrev ivlS (i : Ivl) : List SV := [.t (.str i.low), .t (.str i.high), .t (.bool i.opn)]
def trmS (t : Trm) : List SV := [.t (.int .i64 t.op), .t (.str t.path), .t (.int .i64 t.v.k), .t (.int .i64 t.v.n), .t (.str t.v.t)]
def termsOK (c : List Trm) : Prop := ∀ t ∈ c, okP 5 t.v = true ∧ opOK t.op t.v = true ∧ t.path.length < 4294967296
end Go.Nd
/- The interval of a filter: spec's l07Filter and impl's; FilterInterval of both. -/
set_option linter.unusedSimpArgs false
set_option linter.unusedVariables false
namespace Go.Nd
open Go.Ev Go.Proofs Go.Pu
set_option maxRecDepth 100000
set_option maxHeartbeats 16000000
def flStep (p : Prt) (out : Ivl) (c : List Trm) : Ivl := ⟨minS out.low (clauseI p c).low, maxS out.high (clauseI p c).high, out.opn || (clauseI p c).opn⟩
def closeI (i : Ivl) : Ivl := if i.opn then ⟨i.low, [], true⟩ else i
def filterI (p : Prt) : List (List Trm) → Ivl
  | [] => opnI
  | c :: r => closeI (r.foldl (flStep p) (clauseI p c))
def clausesOK (f : List (List Trm)) : Prop := ∀ c ∈ f, c.length < 4294967296 ∧ termsOK c
end Go.Nd
/- The interval of a filter: impl's; FilterInterval of both. -/
set_option linter.unusedSimpArgs false
set_option linter.unusedVariables false
namespace Go.Nd
open Go.Ev Go.Proofs Go.Pu
set_option maxRecDepth 100000
set_option maxHeartbeats 16000000
theorem terms_ok {f : List (List Trm)} (h : filterOK f = true) (hs : filterSm f) : clausesOK f := by
  intro c hc
  have hcs := hs.2 c hc
  unfold filterOK at h
  simp only [Bool.and_eq_true] at h
  have hco := List.all_eq_true.1 h.2 c hc
  unfold clauseOK at hco
  simp only [Bool.and_eq_true] at hco
  refine ⟨hcs.1, fun t ht => ?_⟩
  have hto := List.all_eq_true.1 hco.2 t ht
  unfold termOK at hto
  simp only [Bool.and_eq_true] at hto
  exact ⟨hto.1.2, hto.2, (hcs.2 t ht).1⟩
/-- What FilterInterval answers. -/
def fivOut (f : List (List Trm)) (p : Prt) : Ivl × Int := if filterOK f && pathOK p.path then (filterI p f, 0) else (⟨[], [], false⟩, 1)
end Go.Nd
/- A filter against a document: both sides' Matches. -/
set_option linter.unusedSimpArgs false
set_option linter.unusedVariables false
namespace Go.Nd
open Go.Ev Go.Proofs Go.Pu
set_option maxRecDepth 100000
set_option maxHeartbeats 16000000
def matchC (c : List Trm) (doc : Val) : Bool := c.all (fun t => matchT t doc)
def matchF (f : List (List Trm)) (doc : Val) : Bool := f.any (fun c => matchC c doc)
abbrev valC (v : Val) : List T := [.int .i64 v.k, .int .i64 v.n, .str v.t]
theorem opOK_seven {v : Val} (h : opOK 7 v = true) : v.k = 4 := by
  unfold opOK at h
  simpa using h
theorem termM (t : Trm) (doc : Val) (h : okP 5 t.v = true ∧ opOK t.op t.v = true ∧ t.path.length < 4294967295) (hd : okP 5 doc = true) : run E (.call 162 [.t (trmT t), xV doc]) = some (.res [xB (matchT t doc)] []) :=
  implTerm t doc 5 (by omega) (opOK_range h.2.1) (fun e => by have := h.2.1; rw [e] at this; exact opOK_seven this) h.2.2 h.1 hd
theorem termS (t : Trm) (doc : Val) (h : okP 5 t.v = true ∧ opOK t.op t.v = true ∧ t.path.length < 4294967295) (hd : okP 5 doc = true) : run E (.call 289 [.t (trmT t), xV doc]) = some (.res [xB (matchT t doc)] []) :=
  specTerm t doc 5 (by omega) (opOK_range h.2.1) h.2.2 h.1 hd
/-- All terms are right. -/
def clsFit (c : List Trm) : Prop := c.length < 4294967295 ∧ ∀ t ∈ c, okP 5 t.v = true ∧ opOK t.op t.v = true ∧ t.path.length < 4294967295
def filFit (f : List (List Trm)) : Prop := f.length < 4294967295 ∧ ∀ c ∈ f, clsFit c
theorem pathOK_len {p : Bytes} (h : pathOK p = true) : p.length ≤ 50 := by
  unfold pathOK at h
  simp at h
  exact h.1.1
theorem fil_fit {f : List (List Trm)} (h : filterOK f = true) (hs : filterSm f) : filFit f := by
  have hc := terms_ok h hs
  unfold filterOK at h
  simp only [Bool.and_eq_true, decide_eq_true_eq] at h
  refine ⟨by have := h.1; omega, fun c hcm => ?_⟩
  have hck := List.all_eq_true.1 h.2 c hcm
  unfold clauseOK at hck
  simp only [Bool.and_eq_true, decide_eq_true_eq] at hck
  refine ⟨by have := hck.1; omega, fun t ht => ?_⟩
  obtain ⟨h1, h2, _⟩ := (hc c hcm).2 t ht
  have ht := List.all_eq_true.1 hck.2 t ht
  unfold termOK at ht
  simp only [Bool.and_eq_true] at ht
  have := pathOK_len ht.1.1
  exact ⟨h1, h2, by omega⟩
theorem matchClosT (t : Trm) (doc : Val) (h : okP 5 t.v = true ∧ opOK t.op t.v = true ∧ t.path.length < 4294967295) (hd : okP 5 doc = true) : run E (.call 185 [.t (trmT t), .dref (valC doc)]) = some (.res [xB (!matchT t doc)] []) := by
  rw [run_call E 185 _ rfl Tryz.func185 rfl rfl rfl (by simp)]
  simp [termM t doc h hd]
theorem matchClosC (c : List Trm) (doc : Val) (h : clsFit c) (hd : okP 5 doc = true) : run E (.call 184 [.t (clsT c), .dref (valC doc)]) = some (.res [xB (matchC c doc)] []) := by
  rw [run_call E 184 _ rfl Tryz.func184 rfl rfl rfl (by simp)]
  have hc := containsFunc_182_1 c 185 (valC doc) (fun t => !matchT t doc) (by have := h.1; omega) rfl (by simp) (fun t ht => matchClosT t doc (h.2 t ht) hd)
  rw [any_not_all] at hc
  simp [hc, matchC, -List.all_eq_true]
theorem implMatchF (f : List (List Trm)) (doc : Val) (h : filFit f) (hd : okP 5 doc = true) : run E (.call 79 [.t (filT f), xV doc]) = some (.res [xB (matchF f doc)] []) := by
  rw [run_call E 79 _ rfl Tryz.func79 rfl rfl rfl (by simp)]
  have hc := containsFunc_180_1 f 184 (valC doc) (fun c => matchC c doc) (by have := h.1; omega) rfl (by simp) (fun c hcm => matchClosC c doc (h.2 c hcm) hd)
  simp [hc, matchF, -List.any_eq_true]
theorem specMatchC (c : List Trm) (doc : Val) (h : clsFit c) (hd : okP 5 doc = true) : run E (.call 178 [.t (clsT c), xV doc]) = some (.res [xB (matchC c doc)] []) := by
  rw [run_call E 178 _ rfl Tryz.func178 rfl rfl rfl (by simp)]
  have d4 := d178_4
  simp [regionOf, findR, pick, Tryz.f178] at d4
  have dd := fun st => run_region_draw E st 4 _ d4
  clear d4
  have lp := fun b (hb : b = matchC c doc) => sk (fun s o q hI => loop_for (c := loopAt Tryz.f178 0) (N := 21)
    (fun i s o q => s 2 = .ptr 0 0 ∧ s 3 = .ptr 1 0 ∧ s 5 = .t (.int .i64 i) ∧ o 0 = .box 236 [.t (.list (c.map trmT))] ∧ o 1 = .box 35 [.t (.int .i64 doc.k), .t (.int .i64 doc.n), .t (.str doc.t)] ∧ b = (c.drop i).all (fun t => matchT t doc))
    (fun e s' o' q' => e = (if b then .exit 0 else .ret) ∧ (b = false → s' 4 = .t (.bool false))) c.length
    (by
      rintro i s o q hi ⟨g2, g3, g5, o0, o1, hp⟩
      have hi' : (i : Int) < (c.length : Int) := by omega
      have hwi := wrap_succ (n := i) (by have := h.1; omega)
      have hxi : c[i]? = some c[i] := List.getElem?_eq_getElem hi
      have ht := termS c[i] doc (h.2 _ (List.getElem_mem hi)) hd
      rw [List.drop_eq_getElem_cons hi, List.all_cons] at hp
      cases hok : matchT c[i] doc <;> simp [hok] at hp ht <;> simp [loopAt, loopsOf, Tryz.f178, dd, g2, g3, g5, o0, o1, hi', hxi, hwi, ht, hp])
    (by
      rintro s o q ⟨g2, g3, g5, o0, o1, hp⟩
      simp at hp
      simp [loopAt, loopsOf, Tryz.f178, g2, g3, g5, o0, o1, hp])
    c.length 0 s o q (by omega) hI)
  simp only [loopAt, loopsOf, Tryz.f178] at lp
  cases hb : matchC c doc with
  | true =>
    obtain ⟨X, A, B, C, hx⟩ := lp true hb.symm
    simp [matchC, -List.all_eq_true] at hx hb
    simp [hx, hb, -List.all_eq_true]
  | false =>
    obtain ⟨X, A, B, C, hx⟩ := lp false hb.symm
    simp [matchC, -List.all_eq_true, -List.all_eq_false] at hx hb
    simp [hx, hb, -List.all_eq_true, -List.all_eq_false]
theorem specMatchF (f : List (List Trm)) (doc : Val) (h : filFit f) (hd : okP 5 doc = true) : run E (.call 75 [.t (filT f), xV doc]) = some (.res [xB (matchF f doc)] []) := by
  rw [run_call E 75 _ rfl Tryz.func75 rfl rfl rfl (by simp)]
  have d4 := d75_4
  simp [regionOf, findR, pick, Tryz.f75] at d4
  have dd := fun st => run_region_draw E st 4 _ d4
  clear d4
  have lp := fun b (hb : b = matchF f doc) => sk (fun s o q hI => loop_for (c := loopAt Tryz.f75 0) (N := 20)
    (fun i s o q => s 2 = .ptr 0 0 ∧ s 3 = .ptr 1 0 ∧ s 5 = .t (.int .i64 i) ∧ o 0 = .box 33 [.t (.list (f.map clsT))] ∧ o 1 = .box 35 [.t (.int .i64 doc.k), .t (.int .i64 doc.n), .t (.str doc.t)] ∧ b = (f.drop i).any (fun c => matchC c doc))
    (fun e s' o' q' => e = (if b then .ret else .exit 0) ∧ (b = true → s' 4 = .t (.bool true))) f.length
    (by
      rintro i s o q hi ⟨g2, g3, g5, o0, o1, hp⟩
      have hi' : (i : Int) < (f.length : Int) := by omega
      have hwi := wrap_succ (n := i) (by have := h.1; omega)
      have hxi : f[i]? = some f[i] := List.getElem?_eq_getElem hi
      have ht := specMatchC f[i] doc (h.2 _ (List.getElem_mem hi)) hd
      rw [List.drop_eq_getElem_cons hi, List.any_cons] at hp
      cases hok : matchC f[i] doc <;> simp [hok] at hp ht <;> simp [loopAt, loopsOf, Tryz.f75, dd, g2, g3, g5, o0, o1, hi', hxi, hwi, ht, hp])
    (by
      rintro s o q ⟨g2, g3, g5, o0, o1, hp⟩
      simp at hp
      simp [loopAt, loopsOf, Tryz.f75, g2, g3, g5, o0, o1, hp])
    f.length 0 s o q (by omega) hI)
  simp only [loopAt, loopsOf, Tryz.f75] at lp
  cases hb : matchF f doc with
  | true =>
    obtain ⟨X, A, B, C, hx⟩ := lp true hb.symm
    simp [matchF, -List.any_eq_true] at hx hb
    simp [hx, hb, -List.any_eq_true]
  | false =>
    obtain ⟨X, A, B, C, hx⟩ := lp false hb.symm
    simp [matchF, -List.any_eq_true, -List.any_eq_false] at hx hb
    simp [hx, hb, -List.any_eq_true, -List.any_eq_false]
def matchesOut (f : List (List Trm)) (doc : Val) : Bool × Int := if filterOK f && isDocP doc then (matchF f doc, 0) else (false, 1)
theorem doc_ok {v : Val} (h : isDocP v = true) : okP 5 v = true ∧ v.k = 5 := by
  unfold isDocP valueOK at h
  simp only [Bool.and_eq_true, beq_iff_eq, decide_eq_true_eq] at h
  exact ⟨h.1, h.2⟩
end Go.Nd
/- Reads, writes, changes, what was committed: what they are, which are right; the checks of one of them. -/
set_option linter.unusedSimpArgs false
set_option linter.unusedVariables false
namespace Go.Nd
open Go.Ev Go.Proofs Go.Pu
set_option maxRecDepth 100000
set_option maxHeartbeats 16000000
structure Rd.Sm (r : Rd) : Prop where
  coll : r.coll.length < 4294967296
  filter : filterSm r.filter
structure Wr.Sm (w : Wr) : Prop where
  coll : w.coll.length < 4294967296
  v : w.v.t.length < 4294967296
structure Chg.Sm (c : Chg) : Prop where
  w : c.w.Sm
  before : c.before.t.length < 4294967296
structure Dn.Sm (d : Dn) : Prop where
  reads : d.reads.length < 4294967296 ∧ ∀ r ∈ d.reads, r.Sm
  changes : d.changes.length < 4294967296 ∧ ∀ c ∈ d.changes, c.Sm
def readOK (r : Rd) : Bool := nameP r.coll && filterOK r.filter
def writeOK (w : Wr) : Bool := nameP w.coll && in1 0 19 w.id && verDoc w.id w.gone w.v
def chgOK (c : Chg) : Bool := writeOK c.w && verDoc c.w.id (!c.was) c.before
theorem inR (a b c : Int) : run E (.call 92 [xI a, xI b, xI c]) = some (.res [xB (in1 b c a)] []) := inRange a b c
theorem in1_low {a b c : Int} (h : in1 a b c = true) : a ≤ c := by
  unfold in1 at h
  simp at h
  exact h.1
theorem implReadOK (r : Rd) (h : r.Sm) : run E (.call 198 [.t (rdT r)]) = some (.res [xB (readOK r)] []) := by
  rw [run_call E 198 _ rfl Tryz.func198 rfl rfl rfl (by simp)]
  have h1 := isShort r.coll (by have := h.coll; omega)
  have h2 := implFilterOK r.filter h.filter
  unfold readOK
  cases hn : nameP r.coll <;> rw [hn] at h1 <;> simp [h1, h2]
theorem specReadOK (r : Rd) (h : r.Sm) : run E (.call 84 [.t (rdT r)]) = some (.res [xB (readOK r)] []) := by
  rw [run_call E 84 _ rfl Tryz.func84 rfl rfl rfl (by simp)]
  have h1 := l01Name r.coll (by have := h.coll; omega)
  have h2 := specFilterOK r.filter h.filter
  unfold readOK
  cases hn : nameP r.coll <;> rw [hn] at h1 <;> simp [h1, h2]
theorem implWriteOK (w : Wr) (h : w.Sm) : run E (.call 89 [.t (wrT w)]) = some (.res [xB (writeOK w)] []) := by
  rw [run_call E 89 _ rfl Tryz.func89 rfl rfl rfl (by simp)]
  have h1 := isShort w.coll (by have := h.coll; omega)
  have h2 := inR w.id 0 19
  have h3 := implDocOK w.gone w.v w.id h.v
  unfold writeOK
  cases hn : nameP w.coll with
  | false => rw [hn] at h1; simp [h1]
  | true =>
    rw [hn] at h1
    cases hi : in1 0 19 w.id with
    | false => rw [hi] at h2; simp [h1, h2]
    | true =>
      rw [hi] at h2
      rw [verDocI_eq _ _ _ (in1_low hi)] at h3
      simp [h1, h2, h3]
theorem specWriteOK (w : Wr) (h : w.Sm) : run E (.call 85 [.t (wrT w)]) = some (.res [xB (writeOK w)] []) := by
  rw [run_call E 85 _ rfl Tryz.func85 rfl rfl rfl (by simp)]
  have h1 := l01Name w.coll (by have := h.coll; omega)
  have h2 := l01In1 w.id 0 19
  have h3 := specDocOK w.id w.gone w.v h.v
  unfold writeOK
  cases hn : nameP w.coll with
  | false => rw [hn] at h1; simp [h1]
  | true =>
    rw [hn] at h1
    cases hi : in1 0 19 w.id with
    | false => rw [hi] at h2; simp [h1, h2]
    | true =>
      rw [hi] at h2
      simp [h1, h2, h3]
theorem writeOK_id {w : Wr} (h : writeOK w = true) : 0 ≤ w.id ∧ w.id ≤ 19 := by
  unfold writeOK in1 at h
  simp at h
  exact h.1.2
theorem implChgOK (c : Chg) (h : c.Sm) : run E (.call 206 [.t (chgT c)]) = some (.res [xB (chgOK c)] []) := by
  rw [run_call E 206 _ rfl Tryz.func206 rfl rfl rfl (by simp)]
  have h1 := implWriteOK c.w h.w
  have h3 := implDocOK (!c.was) c.before c.w.id h.before
  unfold chgOK
  cases hn : writeOK c.w with
  | false => rw [hn] at h1; simp [h1]
  | true =>
    rw [hn] at h1
    rw [verDocI_eq _ _ _ (writeOK_id hn).1] at h3
    simp [h1, h3]
theorem specChgOK (c : Chg) (h : c.Sm) : run E (.call 202 [.t (chgT c)]) = some (.res [xB (chgOK c)] []) := by
  rw [run_call E 202 _ rfl Tryz.func202 rfl rfl rfl (by simp)]
  have h1 := specWriteOK c.w h.w
  have h3 := specDocOK c.w.id (!c.was) c.before h.before
  unfold chgOK
  cases hn : writeOK c.w with
  | false => rw [hn] at h1; simp [h1]
  | true =>
    rw [hn] at h1
    simp [h1, h3]
theorem readClosure (r : Rd) (h : r.Sm) : run E (.call 197 [.t (rdT r)]) = some (.res [xB (!readOK r)] []) := by
  rw [run_call E 197 _ rfl Tryz.func197 rfl rfl rfl (by simp)]
  simp [implReadOK r h]
theorem areReads (l : List Rd) (hl : l.length < 4294967296) (h : ∀ r ∈ l, r.Sm) : run E (.call 93 [.t (.list (l.map rdT))]) = some (.res [xB (l.all readOK)] []) := by
  rw [run_call E 93 _ rfl Tryz.func93 rfl rfl rfl (by simp)]
  have hc := containsFunc_196_0 l 197 (fun r => !readOK r) (by omega) rfl (by simp) (fun r hr => readClosure r (h r hr))
  rw [any_not_all] at hc
  simp [hc, -List.all_eq_true]
theorem chgClosure (c : Chg) (h : c.Sm) : run E (.call 205 [.t (chgT c)]) = some (.res [xB (!chgOK c)] []) := by
  rw [run_call E 205 _ rfl Tryz.func205 rfl rfl rfl (by simp)]
  simp [implChgOK c h]
theorem areChanges (l : List Chg) (hl : l.length < 4294967296) (h : ∀ r ∈ l, r.Sm) : run E (.call 103 [.t (.list (l.map chgT))]) = some (.res [xB (l.all chgOK)] []) := by
  rw [run_call E 103 _ rfl Tryz.func103 rfl rfl rfl (by simp)]
  have hc := containsFunc_99_0 l 205 (fun r => !chgOK r) (by omega) rfl (by simp) (fun r hr => chgClosure r (h r hr))
  rw [any_not_all] at hc
  simp [hc, -List.all_eq_true]
def sameC (a b : Chg) : Bool := (a.w.coll == b.w.coll) && (a.w.id == b.w.id)
theorem sameC_comm (a b : Chg) : sameC a b = sameC b a := by
  unfold sameC
  rw [Bool.eq_iff_iff]
  simp
  constructor <;> rintro ⟨h1, h2⟩ <;> exact ⟨h1.symm, h2.symm⟩
theorem sameDoc (a b : Chg) : run E (.call 101 [.t (chgT a), .t (chgT b)]) = some (.res [xB (sameC a b)] []) := by
  rw [run_call E 101 _ rfl Tryz.func101 rfl rfl rfl (by simp)]
  unfold sameC
  cases hc : (a.w.coll == b.w.coll) <;> simp [hc]
abbrev chgC (c : Chg) : List T := [.str c.w.coll, .int .i64 c.w.id, .bool c.w.gone, .int .i64 c.w.v.k, .int .i64 c.w.v.n, .str c.w.v.t, .int .i64 c.before.k, .int .i64 c.before.n, .str c.before.t, .bool c.was]
theorem doneClosure (o c : Chg) : run E (.call 100 [.t (chgT o), .dref (chgC c)]) = some (.res [xB (sameC c o)] []) := by
  rw [run_call E 100 _ rfl Tryz.func100 rfl rfl rfl (by simp)]
  simp [sameDoc c o]
/-- No two are of one document. -/
def distGo : List Chg → List Chg → Bool
  | _, [] => true
  | s, c :: r => !s.any (sameC c) && distGo (s ++ [c]) r
def timesOK (d : Dn) : Bool := decide (0 ≤ d.snap) && in1 1 10000 d.at_ && decide (d.snap < d.at_)
def doneOK (d : Dn) : Bool := distGo [] d.changes && (timesOK d && decide (d.reads.length ≤ 20) && decide (d.changes.length ≤ 60) && d.reads.all readOK && d.changes.all chgOK)
theorem times_spec (d : Dn) : timesOK d = (in1 0 10000 d.snap && in1 (d.snap + 1) 10000 d.at_) := by
  unfold timesOK in1
  rw [Bool.eq_iff_iff]
  simp
  omega
end Go.Nd
/- The law FnExactTermMatches over plain data. -/
set_option linter.unusedSimpArgs false
set_option linter.unusedVariables false
namespace Go.Nd
open Go.Ev Go.Proofs Go.Pu
set_option maxRecDepth 100000
set_option maxHeartbeats 16000000
end Go.Nd
/- Updates: the law's own functions, UpdateOK of both sides. -/
set_option linter.unusedSimpArgs false
set_option linter.unusedVariables false
namespace Go.Nd
open Go.Ev Go.Proofs Go.Pu
set_option maxRecDepth 100000
set_option maxHeartbeats 8000000
def updOK (t : Trm) : Bool := pathOK t.path && !(t.path == [105, 100]) && valueOK t.v && (if t.op = 2 then ((t.v.k == 0) && ((t.v.n == 0) && (t.v.t == []))) else if t.op = 3 then t.v.k == 2 else (t.op == 1) || ((t.op == 4) || (t.op == 5)))
end Go.Nd
/- The laws' own functions over reads, writes, changes, transactions, commands, stores (printed by genstr.py). -/
set_option linter.unusedSimpArgs false
set_option linter.unusedVariables false
namespace Go.Nd
open Go.Ev Go.Proofs Go.Pu
set_option maxRecDepth 100000
set_option maxHeartbeats 16000000
structure Txn.Sm (x : Txn) : Prop where
  reads : x.reads.length < 4294967296 ∧ ∀ r ∈ x.reads, r.Sm
  writes : x.writes.length < 4294967296 ∧ ∀ r ∈ x.writes, r.Sm
structure Cmd.Sm (x : Cmd) : Prop where
  coll : x.coll.length < 4294967296
  doc : x.doc.t.length < 4294967296
  q : x.q.Sm
  ups : x.ups.length < 4294967296 ∧ ∀ r ∈ x.ups, r.sm
  d : x.d.Sm
structure Sto.Sm (x : Sto) : Prop where
  colls : x.colls.length < 4294967296 ∧ ∀ r ∈ x.colls, r.Sm
  txns : x.txns.length < 4294967296 ∧ ∀ r ∈ x.txns, r.Sm
  done : x.done.length < 4294967296 ∧ ∀ r ∈ x.done, r.Sm
structure Rd.Wd (x : Rd) : Prop where
  coll : W x.coll.length
  filter : filWd x.filter
def szRd (x : Rd) : Int → Int := thenSz (szB x.coll.length) (thenSz (szFil x.filter) (fun k => k))
theorem szRd_le (x : Rd) (k : Int) (h : 0 ≤ k) : szRd x k ≤ k := (fun k hk => thenSz_le hk (fun k hk => szB_le hk) (fun k hk => thenSz_le hk (fun k hk => szFil_le x.filter k hk) (fun k _ => Int.le_refl k))) k h
theorem szLRd (x : Rd) (h : x.Wd) (l : Int) (h0 : 0 ≤ l) (hm : l ≤ 1048576) : run E (.call 187 [.t (rdT x), xI l]) = some (.res [xI (szRd x l)] []) := by
  rw [run_call E 187 _ rfl Tryz.func187 rfl rfl rfl (by simp)]
  unfold szRd thenSz
  have g0 : 0 ≤ l := h0
  have m0 : l ≤ 1048576 := hm
  have w0 := wrap_sz (l := l) h.coll g0 m0
  by_cases n0 : l - (x.coll.length : Int) < 0
  · have e0 : szB x.coll.length (l) = -1 := by simp [szB, n0]
    simp [w0, n0, e0]
  · have e0 : szB x.coll.length (l) = l - x.coll.length := by simp [szB, n0]
    have g1 : 0 ≤ l - (x.coll.length : Int) := by omega
    have m1 : l - (x.coll.length : Int) ≤ 1048576 := by omega
    have e1 := szFilter x.filter h.filter (l - (x.coll.length : Int)) g1 m1
    have q1 := szFil_le x.filter (l - (x.coll.length : Int)) g1
    by_cases n1 : szFil x.filter (l - (x.coll.length : Int)) < 0
    · simp [w0, n0, e0, e1, n1]
    · have g2 : 0 ≤ szFil x.filter (l - (x.coll.length : Int)) := by omega
      have m2 : szFil x.filter (l - (x.coll.length : Int)) ≤ 1048576 := by omega
      simp [w0, n0, e0, e1, n1]
theorem szRd_sm {x : Rd} {k : Int} (h0 : 0 ≤ k) (hm : k ≤ 1048576) (h : ¬ szRd x k < 0) : x.Sm := by
  obtain ⟨a0, b0⟩ := thenSz_neg h
  have c0 := szB_le (n := x.coll.length) (l := k) (by omega)
  have s0 := szB_bound a0
  obtain ⟨a1, b1⟩ := thenSz_neg b0
  have c1 := szFil_le x.filter (szB x.coll.length (k)) (by omega)
  exact ⟨by omega, szFil_sm (by omega) (by omega) a1⟩
theorem eqRd (x : Rd) (h : x.Sm) : run E (.call 199 [.t (rdT x), .t (rdT x)]) = some (.res [xB true] []) := by
  rw [run_call E 199 _ rfl Tryz.func199 rfl rfl rfl (by simp)]
  have t1 := eqFilter x.filter h.filter.1 (fun c hc => (h.filter.2 c hc).1)
  simp [t1]
structure Wr.Wd (x : Wr) : Prop where
  coll : W x.coll.length
  v : W x.v.t.length
def szWr (x : Wr) : Int → Int := thenSz (szB x.coll.length) (thenSz (szVal x.v) (fun k => k))
theorem szWr_le (x : Wr) (k : Int) (h : 0 ≤ k) : szWr x k ≤ k := (fun k hk => thenSz_le hk (fun k hk => szB_le hk) (fun k hk => thenSz_le hk (fun k hk => szVal_le x.v k hk) (fun k _ => Int.le_refl k))) k h
theorem szLWr (x : Wr) (h : x.Wd) (l : Int) (h0 : 0 ≤ l) (hm : l ≤ 1048576) : run E (.call 188 [.t (wrT x), xI l]) = some (.res [xI (szWr x l)] []) := by
  rw [run_call E 188 _ rfl Tryz.func188 rfl rfl rfl (by simp)]
  unfold szWr thenSz
  have g0 : 0 ≤ l := h0
  have m0 : l ≤ 1048576 := hm
  have w0 := wrap_sz (l := l) h.coll g0 m0
  by_cases n0 : l - (x.coll.length : Int) < 0
  · have e0 : szB x.coll.length (l) = -1 := by simp [szB, n0]
    simp [w0, n0, e0]
  · have e0 : szB x.coll.length (l) = l - x.coll.length := by simp [szB, n0]
    have g1 : 0 ≤ l - (x.coll.length : Int) := by omega
    have m1 : l - (x.coll.length : Int) ≤ 1048576 := by omega
    have e1 := szValue x.v h.v (l - (x.coll.length : Int)) g1 m1
    have q1 := szVal_le x.v (l - (x.coll.length : Int)) g1
    by_cases n1 : szVal x.v (l - (x.coll.length : Int)) < 0
    · simp [w0, n0, e0, e1, n1]
    · have g2 : 0 ≤ szVal x.v (l - (x.coll.length : Int)) := by omega
      have m2 : szVal x.v (l - (x.coll.length : Int)) ≤ 1048576 := by omega
      simp [w0, n0, e0, e1, n1]
theorem szWr_sm {x : Wr} {k : Int} (h0 : 0 ≤ k) (hm : k ≤ 1048576) (h : ¬ szWr x k < 0) : x.Sm := by
  obtain ⟨a0, b0⟩ := thenSz_neg h
  have c0 := szB_le (n := x.coll.length) (l := k) (by omega)
  have s0 := szB_bound a0
  obtain ⟨a1, b1⟩ := thenSz_neg b0
  have c1 := szVal_le x.v (szB x.coll.length (k)) (by omega)
  have s1 := szB_bound a1
  exact ⟨by omega, by omega⟩
theorem toWr (x : Wr) (h : x.Sm) : run E (.call 191 [.t (wrT x)]) = some (.res [.agg [.t (.str x.coll), .t (.int .i64 x.id), .t (.bool x.gone), .t (.int .i64 x.v.k), .t (.int .i64 x.v.n), .t (.str x.v.t)]] []) := by
  rw [run_call E 191 _ rfl Tryz.func191 rfl rfl rfl (by simp)]
  simp [toValue x.v]
theorem eqWr (x : Wr) (h : x.Sm) : run E (.call 200 [.t (wrT x), .t (wrT x)]) = some (.res [xB true] []) := by
  rw [run_call E 200 _ rfl Tryz.func200 rfl rfl rfl (by simp)]
  simp [eqValue x.v]
structure Chg.Wd (x : Chg) : Prop where
  w : x.w.Wd
  before : W x.before.t.length
def szChg (x : Chg) : Int → Int := thenSz (szWr x.w) (thenSz (szVal x.before) (fun k => k))
theorem szChg_le (x : Chg) (k : Int) (h : 0 ≤ k) : szChg x k ≤ k := (fun k hk => thenSz_le hk (fun k hk => szWr_le x.w k hk) (fun k hk => thenSz_le hk (fun k hk => szVal_le x.before k hk) (fun k _ => Int.le_refl k))) k h
theorem szLChg (x : Chg) (h : x.Wd) (l : Int) (h0 : 0 ≤ l) (hm : l ≤ 1048576) : run E (.call 201 [.t (chgT x), xI l]) = some (.res [xI (szChg x l)] []) := by
  rw [run_call E 201 _ rfl Tryz.func201 rfl rfl rfl (by simp)]
  unfold szChg thenSz
  have g0 : 0 ≤ l := h0
  have m0 : l ≤ 1048576 := hm
  have e0 := szLWr x.w h.w (l) g0 m0
  have q0 := szWr_le x.w (l) g0
  by_cases n0 : szWr x.w (l) < 0
  · simp [e0, n0]
  · have g1 : 0 ≤ szWr x.w (l) := by omega
    have m1 : szWr x.w (l) ≤ 1048576 := by omega
    have e1 := szValue x.before h.before (szWr x.w (l)) g1 m1
    have q1 := szVal_le x.before (szWr x.w (l)) g1
    by_cases n1 : szVal x.before (szWr x.w (l)) < 0
    · simp [e0, n0, e1, n1]
    · have g2 : 0 ≤ szVal x.before (szWr x.w (l)) := by omega
      have m2 : szVal x.before (szWr x.w (l)) ≤ 1048576 := by omega
      simp [e0, n0, e1, n1]
theorem szChg_sm {x : Chg} {k : Int} (h0 : 0 ≤ k) (hm : k ≤ 1048576) (h : ¬ szChg x k < 0) : x.Sm := by
  obtain ⟨a0, b0⟩ := thenSz_neg h
  have c0 := szWr_le x.w (k) (by omega)
  obtain ⟨a1, b1⟩ := thenSz_neg b0
  have c1 := szVal_le x.before (szWr x.w (k)) (by omega)
  have s1 := szB_bound a1
  exact ⟨szWr_sm (by omega) (by omega) a0, by omega⟩
theorem toChg (x : Chg) (h : x.Sm) : run E (.call 203 [.t (chgT x)]) = some (.res [.agg [.t (.str x.w.coll), .t (.int .i64 x.w.id), .t (.bool x.w.gone), .t (.int .i64 x.w.v.k), .t (.int .i64 x.w.v.n), .t (.str x.w.v.t), .t (.int .i64 x.before.k), .t (.int .i64 x.before.n), .t (.str x.before.t), .t (.bool x.was)]] []) := by
  rw [run_call E 203 _ rfl Tryz.func203 rfl rfl rfl (by simp)]
  have t0 := toWr x.w h.w
  simp [t0, toValue x.before]
theorem eqChg (x : Chg) (h : x.Sm) : run E (.call 207 [.t (chgT x), .t (chgT x)]) = some (.res [xB true] []) := by
  rw [run_call E 207 _ rfl Tryz.func207 rfl rfl rfl (by simp)]
  have t0 := eqWr x.w h.w
  simp [t0, eqValue x.before]
end Go.Nd
/- The laws' own functions, part B (printed by genstr.py). -/
set_option linter.unusedSimpArgs false
set_option linter.unusedVariables false
namespace Go.Nd
open Go.Ev Go.Proofs Go.Pu
set_option maxRecDepth 100000
set_option maxHeartbeats 16000000
theorem sz_81 (xs : List Rd) (f : Rd → Int → Int) (hl : xs.length < 9223372036854775807) (hf : ∀ x ∈ xs, ∀ l, 0 ≤ l → l ≤ 1048576 → run E (.call 187 [.t (rdT x), xI l]) = some (.res [xI (f x l)] [])) (hle : ∀ x ∈ xs, ∀ k, 0 ≤ k → f x k ≤ k) (l : Int) (h0 : 0 ≤ l) (hm : l ≤ 1048576) :
    run E (.call 81 [.t (.list (xs.map rdT)), xI l]) = some (.res [xI (lstSz f xs l)] []) := by
  rw [run_call E 81 _ rfl Tryz.func81 rfl rfl rfl (by simp)]
  have hw : IntKind.i64.wrap (l - (xs.length : Int)) = l - xs.length := wrap_of (by omega) (by omega)
  unfold lstSz szB
  by_cases hb : l - (xs.length : Int) < 0
  · simp [hw, hb]
  · have hb0 : ¬ l < (xs.length : Int) := by omega
    have lp := fun (r : Int) (hr : r = goSz f xs (l - xs.length)) => sk (fun s o q hI => loop_for (c := loopAt Tryz.f81 0) (N := 27)
      (fun i s o q => ∃ k : Int, s 0 = .t (.list (xs.map rdT)) ∧ s 1 = .t (.int .i64 k) ∧ s 5 = .t (.int .i64 i) ∧ 0 ≤ k ∧ k ≤ 1048576 ∧ r = goSz f (xs.drop i) k)
      (fun e s' o' q' => e = (if r < 0 then .ret else .exit 0) ∧ (r < 0 → s' 4 = .t (.int .i64 r)) ∧ (0 ≤ r → s' 1 = .t (.int .i64 r))) xs.length
      (by
        rintro i s o q hi ⟨k, g0, g1, g5, hk0, hkm, hp⟩
        have hi' : (i : Int) < (xs.length : Int) := by omega
        have hwi := wrap_succ (n := i) (by omega)
        have hxi : xs[i]? = some xs[i] := List.getElem?_eq_getElem hi
        have hx := hf _ (List.getElem_mem hi) k hk0 hkm
        have hxl := hle _ (List.getElem_mem hi) k hk0
        rw [List.drop_eq_getElem_cons hi, goSz] at hp
        by_cases hn : f xs[i] k < 0
        · simp [hn] at hp
          simp [loopAt, loopsOf, Tryz.f81, g0, g1, g5, hi', hxi, hwi, hx, hn, hp]
        · simp [hn] at hp
          simp [loopAt, loopsOf, Tryz.f81, g0, g1, g5, hi', hxi, hwi, hx, hn]
          exact ⟨by omega, by omega, hp⟩)
      (by
        rintro s o q ⟨k, g0, g1, g5, hk0, hkm, hp⟩
        simp [goSz] at hp
        have hn : ¬ r < 0 := by omega
        have hn' : 0 ≤ r := by omega
        have hk1 : ¬ k < 0 := by omega
        simp [loopAt, loopsOf, Tryz.f81, g0, g1, g5, hp, hk1]
        try omega)
      xs.length 0 s o q (by omega) hI)
    simp only [loopAt, loopsOf, Tryz.f81] at lp
    obtain ⟨r, hr⟩ : ∃ r, r = goSz f xs (l - xs.length) := ⟨_, rfl⟩
    obtain ⟨X, A, B, C, hx⟩ := lp r hr
    have hx' := fun s o q a0 a1 a5 => hx s o q ⟨l - xs.length, a0, a1, a5, by omega, by omega, by simpa using hr⟩
    clear hx
    by_cases hn : r < 0
    · have hn' : ¬ 0 ≤ r := by omega
      simp [hn, hn'] at hx'
      simp [hw, hb, hb0, hx', hn, ← hr]
    · have hn' : 0 ≤ r := by omega
      simp [hn, hn'] at hx'
      simp [hw, hb, hb0, hx', hn, ← hr]
theorem eq_94 (xs : List Rd) (hl : xs.length < 9223372036854775807) (hf : ∀ x ∈ xs, run E (.call 199 [.t (rdT x), .t (rdT x)]) = some (.res [xB true] [])) :
    run E (.call 94 [.t (.list (xs.map rdT)), .t (.list (xs.map rdT))]) = some (.res [xB true] []) := by
  rw [run_call E 94 _ rfl Tryz.func94 rfl rfl rfl (by simp)]
  have d6 := d94_6
  simp [regionOf, findR, pick, Tryz.f94] at d6
  have dd := fun st => run_region_draw E st 6 _ d6
  clear d6
  have lp := sk (fun s o q hI => loop_for (c := loopAt Tryz.f94 0) (N := 27)
    (fun i s o q => s 0 = .t (.list (xs.map rdT)) ∧ s 1 = .t (.list (xs.map rdT)) ∧ s 5 = .t (.int .i64 i))
    (fun e s' o' q' => e = .exit 0) xs.length
    (by
      rintro i s o q hi ⟨g0, g1, g5⟩
      have hi' : (i : Int) < (xs.length : Int) := by omega
      have hwi := wrap_succ (n := i) (by omega)
      have hxi : xs[i]? = some xs[i] := List.getElem?_eq_getElem hi
      have hx := hf _ (List.getElem_mem hi)
      simp [loopAt, loopsOf, Tryz.f94, dd, g0, g1, g5, hi', hxi, hwi, hx])
    (by
      rintro s o q ⟨g0, g1, g5⟩
      simp [loopAt, loopsOf, Tryz.f94, g0, g1, g5])
    xs.length 0 s o q (by omega) hI)
  simp only [loopAt, loopsOf, Tryz.f94] at lp
  obtain ⟨X, A, B, C, hx⟩ := lp
  simp at hx
  simp [hx]
theorem sz_96 (xs : List Chg) (f : Chg → Int → Int) (hl : xs.length < 9223372036854775807) (hf : ∀ x ∈ xs, ∀ l, 0 ≤ l → l ≤ 1048576 → run E (.call 201 [.t (chgT x), xI l]) = some (.res [xI (f x l)] [])) (hle : ∀ x ∈ xs, ∀ k, 0 ≤ k → f x k ≤ k) (l : Int) (h0 : 0 ≤ l) (hm : l ≤ 1048576) :
    run E (.call 96 [.t (.list (xs.map chgT)), xI l]) = some (.res [xI (lstSz f xs l)] []) := by
  rw [run_call E 96 _ rfl Tryz.func96 rfl rfl rfl (by simp)]
  have hw : IntKind.i64.wrap (l - (xs.length : Int)) = l - xs.length := wrap_of (by omega) (by omega)
  unfold lstSz szB
  by_cases hb : l - (xs.length : Int) < 0
  · simp [hw, hb]
  · have hb0 : ¬ l < (xs.length : Int) := by omega
    have lp := fun (r : Int) (hr : r = goSz f xs (l - xs.length)) => sk (fun s o q hI => loop_for (c := loopAt Tryz.f96 0) (N := 27)
      (fun i s o q => ∃ k : Int, s 0 = .t (.list (xs.map chgT)) ∧ s 1 = .t (.int .i64 k) ∧ s 5 = .t (.int .i64 i) ∧ 0 ≤ k ∧ k ≤ 1048576 ∧ r = goSz f (xs.drop i) k)
      (fun e s' o' q' => e = (if r < 0 then .ret else .exit 0) ∧ (r < 0 → s' 4 = .t (.int .i64 r)) ∧ (0 ≤ r → s' 1 = .t (.int .i64 r))) xs.length
      (by
        rintro i s o q hi ⟨k, g0, g1, g5, hk0, hkm, hp⟩
        have hi' : (i : Int) < (xs.length : Int) := by omega
        have hwi := wrap_succ (n := i) (by omega)
        have hxi : xs[i]? = some xs[i] := List.getElem?_eq_getElem hi
        have hx := hf _ (List.getElem_mem hi) k hk0 hkm
        have hxl := hle _ (List.getElem_mem hi) k hk0
        rw [List.drop_eq_getElem_cons hi, goSz] at hp
        by_cases hn : f xs[i] k < 0
        · simp [hn] at hp
          simp [loopAt, loopsOf, Tryz.f96, g0, g1, g5, hi', hxi, hwi, hx, hn, hp]
        · simp [hn] at hp
          simp [loopAt, loopsOf, Tryz.f96, g0, g1, g5, hi', hxi, hwi, hx, hn]
          exact ⟨by omega, by omega, hp⟩)
      (by
        rintro s o q ⟨k, g0, g1, g5, hk0, hkm, hp⟩
        simp [goSz] at hp
        have hn : ¬ r < 0 := by omega
        have hn' : 0 ≤ r := by omega
        have hk1 : ¬ k < 0 := by omega
        simp [loopAt, loopsOf, Tryz.f96, g0, g1, g5, hp, hk1]
        try omega)
      xs.length 0 s o q (by omega) hI)
    simp only [loopAt, loopsOf, Tryz.f96] at lp
    obtain ⟨r, hr⟩ : ∃ r, r = goSz f xs (l - xs.length) := ⟨_, rfl⟩
    obtain ⟨X, A, B, C, hx⟩ := lp r hr
    have hx' := fun s o q a0 a1 a5 => hx s o q ⟨l - xs.length, a0, a1, a5, by omega, by omega, by simpa using hr⟩
    clear hx
    by_cases hn : r < 0
    · have hn' : ¬ 0 ≤ r := by omega
      simp [hn, hn'] at hx'
      simp [hw, hb, hb0, hx', hn, ← hr]
    · have hn' : 0 ≤ r := by omega
      simp [hn, hn'] at hx'
      simp [hw, hb, hb0, hx', hn, ← hr]
theorem to_98 (xs : List Chg) (hl : xs.length < 4294967296) (hf : ∀ x ∈ xs, run E (.call 203 [.t (chgT x)]) = some (.res [.agg [.t (.str x.w.coll), .t (.int .i64 x.w.id), .t (.bool x.w.gone), .t (.int .i64 x.w.v.k), .t (.int .i64 x.w.v.n), .t (.str x.w.v.t), .t (.int .i64 x.before.k), .t (.int .i64 x.before.n), .t (.str x.before.t), .t (.bool x.was)]] [])) :
    run E (.call 98 [.t (.list (xs.map chgT))]) = some (.res [.row 167 (xs.map chgT)] []) := by
  rw [run_call E 98 _ rfl Tryz.func98 rfl rfl rfl (by simp)]
  have lp := sk (fun s o q hI => loop_for (c := loopAt Tryz.f98 0) (N := 23)
    (fun i s o q => s 0 = .t (.list (xs.map chgT)) ∧ s 3 = .row 0 ∧ s 4 = .t (.int .i64 i) ∧ 0 < q ∧ o 0 = .row 167 ((xs.map chgT).take i ++ List.replicate (xs.length - i) (.agg [.str [], .int .i64 0, .bool false, .int .i64 0, .int .i64 0, .str [], .int .i64 0, .int .i64 0, .str [], .bool false])) true)
    (fun e s' o' q' => e = .exit 0 ∧ s' 3 = .row 0 ∧ o' 0 = .row 167 (xs.map chgT) true) xs.length
    (by
      rintro i s o q hi ⟨g0, g3, g4, hq, ho⟩
      have hi' : (i : Int) < (xs.length : Int) := by omega
      have hwi := wrap_succ (n := i) (by omega)
      have hxi : xs[i]? = some xs[i] := List.getElem?_eq_getElem hi
      have hx := hf _ (List.getElem_mem hi)
      have hq0 : q ≠ 0 := by omega
      have h0q : 0 ≠ q := by omega
      have hget := mid_get (xs.map chgT) (.agg [.str [], .int .i64 0, .bool false, .int .i64 0, .int .i64 0, .str [], .int .i64 0, .int .i64 0, .str [], .bool false]) i xs.length hi (by simp; omega)
      have hset := mid_set (xs.map chgT) (.agg [.str [], .int .i64 0, .bool false, .int .i64 0, .int .i64 0, .str [], .int .i64 0, .int .i64 0, .str [], .bool false]) (chgT xs[i]) i xs.length hi (by simp [hxi])
      simp [loopAt, loopsOf, Tryz.f98, g0, g3, g4, hi', hxi, hwi, hx, ho, hget, hset, hq0, h0q]
      try omega)
    (by
      rintro s o q ⟨g0, g3, g4, hq, ho⟩
      have hfull : (xs.map chgT).take xs.length = xs.map chgT := List.take_of_length_le (by simp)
      simp [hfull] at ho
      simp [loopAt, loopsOf, Tryz.f98, g0, g3, g4, ho])
    xs.length 0 s o q (by omega) hI)
  simp only [loopAt, loopsOf, Tryz.f98] at lp
  obtain ⟨X, A, B, C, hx⟩ := lp
  simp at hx
  have h1 : xs.length ≤ 140737488355328 := by omega
  have h2 : xs.length * 104 ≤ 140737488355328 := by omega
  simp [h1, h2, hx]
theorem eq_104 (xs : List Chg) (hl : xs.length < 9223372036854775807) (hf : ∀ x ∈ xs, run E (.call 207 [.t (chgT x), .t (chgT x)]) = some (.res [xB true] [])) :
    run E (.call 104 [.t (.list (xs.map chgT)), .t (.list (xs.map chgT))]) = some (.res [xB true] []) := by
  rw [run_call E 104 _ rfl Tryz.func104 rfl rfl rfl (by simp)]
  have d6 := d104_6
  simp [regionOf, findR, pick, Tryz.f104] at d6
  have dd := fun st => run_region_draw E st 6 _ d6
  clear d6
  have lp := sk (fun s o q hI => loop_for (c := loopAt Tryz.f104 0) (N := 27)
    (fun i s o q => s 0 = .t (.list (xs.map chgT)) ∧ s 1 = .t (.list (xs.map chgT)) ∧ s 5 = .t (.int .i64 i))
    (fun e s' o' q' => e = .exit 0) xs.length
    (by
      rintro i s o q hi ⟨g0, g1, g5⟩
      have hi' : (i : Int) < (xs.length : Int) := by omega
      have hwi := wrap_succ (n := i) (by omega)
      have hxi : xs[i]? = some xs[i] := List.getElem?_eq_getElem hi
      have hx := hf _ (List.getElem_mem hi)
      simp [loopAt, loopsOf, Tryz.f104, dd, g0, g1, g5, hi', hxi, hwi, hx])
    (by
      rintro s o q ⟨g0, g1, g5⟩
      simp [loopAt, loopsOf, Tryz.f104, g0, g1, g5])
    xs.length 0 s o q (by omega) hI)
  simp only [loopAt, loopsOf, Tryz.f104] at lp
  obtain ⟨X, A, B, C, hx⟩ := lp
  simp at hx
  simp [hx]
end Go.Nd
/- The laws' own functions, part C (printed by genstr.py). -/
set_option linter.unusedSimpArgs false
set_option linter.unusedVariables false
namespace Go.Nd
open Go.Ev Go.Proofs Go.Pu
set_option maxRecDepth 100000
set_option maxHeartbeats 16000000
structure Dn.Wd (x : Dn) : Prop where
  reads : W x.reads.length ∧ ∀ y ∈ x.reads, y.Wd
  changes : W x.changes.length ∧ ∀ y ∈ x.changes, y.Wd
def szDn (x : Dn) : Int → Int := thenSz (lstSz szRd x.reads) (thenSz (lstSz szChg x.changes) (fun k => k))
theorem szDn_le (x : Dn) (k : Int) (h : 0 ≤ k) : szDn x k ≤ k := (fun k hk => thenSz_le hk (fun k hk => lstSz_le hk (fun y _ k hk => szRd_le y k hk)) (fun k hk => thenSz_le hk (fun k hk => lstSz_le hk (fun y _ k hk => szChg_le y k hk)) (fun k _ => Int.le_refl k))) k h
theorem szLDn (x : Dn) (h : x.Wd) (l : Int) (h0 : 0 ≤ l) (hm : l ≤ 1048576) : run E (.call 25 [.t (dnT x), xI l]) = some (.res [xI (szDn x l)] []) := by
  rw [run_call E 25 _ rfl Tryz.func25 rfl rfl rfl (by simp)]
  unfold szDn thenSz
  have g0 : 0 ≤ l := h0
  have m0 : l ≤ 1048576 := hm
  have e0 := sz_81 x.reads szRd (by have := h.reads.1; unfold W at this; omega) (fun y hy l h0 hm => szLRd y (h.reads.2 y hy) l h0 hm) (fun y _ k hk => szRd_le y k hk) (l) g0 m0
  have q0 := lstSz_le (f := szRd) (xs := x.reads) (l := l) g0 (fun y _ k hk => szRd_le y k hk)
  by_cases n0 : lstSz szRd x.reads (l) < 0
  · simp [e0, n0]
  · have g1 : 0 ≤ lstSz szRd x.reads (l) := by omega
    have m1 : lstSz szRd x.reads (l) ≤ 1048576 := by omega
    have e1 := sz_96 x.changes szChg (by have := h.changes.1; unfold W at this; omega) (fun y hy l h0 hm => szLChg y (h.changes.2 y hy) l h0 hm) (fun y _ k hk => szChg_le y k hk) (lstSz szRd x.reads (l)) g1 m1
    have q1 := lstSz_le (f := szChg) (xs := x.changes) (l := lstSz szRd x.reads (l)) g1 (fun y _ k hk => szChg_le y k hk)
    by_cases n1 : lstSz szChg x.changes (lstSz szRd x.reads (l)) < 0
    · simp [e0, n0, e1, n1]
    · have g2 : 0 ≤ lstSz szChg x.changes (lstSz szRd x.reads (l)) := by omega
      have m2 : lstSz szChg x.changes (lstSz szRd x.reads (l)) ≤ 1048576 := by omega
      simp [e0, n0, e1, n1]
theorem szDn_sm {x : Dn} {k : Int} (h0 : 0 ≤ k) (hm : k ≤ 1048576) (h : ¬ szDn x k < 0) : x.Sm := by
  obtain ⟨a0, b0⟩ := thenSz_neg h
  have c0 := lstSz_le (f := szRd) (xs := x.reads) (l := k) (by omega) (fun y _ k hk => szRd_le y k hk)
  obtain ⟨s0, t0⟩ := lstSz_all (P := fun y : Rd => y.Sm) (m := 1048576) (by omega) (by omega) (fun y _ k hk => szRd_le y k hk) (fun y _ k hk hm h => szRd_sm hk hm h) a0
  obtain ⟨a1, b1⟩ := thenSz_neg b0
  have c1 := lstSz_le (f := szChg) (xs := x.changes) (l := lstSz szRd x.reads (k)) (by omega) (fun y _ k hk => szChg_le y k hk)
  obtain ⟨s1, t1⟩ := lstSz_all (P := fun y : Chg => y.Sm) (m := 1048576) (by omega) (by omega) (fun y _ k hk => szChg_le y k hk) (fun y _ k hk hm h => szChg_sm hk hm h) a1
  exact ⟨⟨by omega, t0⟩, ⟨by omega, t1⟩⟩
theorem eqDn (x : Dn) (h : x.Sm) : run E (.call 29 [.t (dnT x), .t (dnT x)]) = some (.res [xB true] []) := by
  rw [run_call E 29 _ rfl Tryz.func29 rfl rfl rfl (by simp)]
  have t2 := eq_94 x.reads (by have := h.reads.1; omega) (fun y hy => eqRd y (h.reads.2 y hy))
  have t3 := eq_104 x.changes (by have := h.changes.1; omega) (fun y hy => eqChg y (h.changes.2 y hy))
  simp [t2, t3]
structure Txn.Wd (x : Txn) : Prop where
  reads : W x.reads.length ∧ ∀ y ∈ x.reads, y.Wd
  writes : W x.writes.length ∧ ∀ y ∈ x.writes, y.Wd
def szTxn (x : Txn) : Int → Int := thenSz (lstSz szRd x.reads) (thenSz (lstSz szWr x.writes) (fun k => k))
end Go.Nd
/- The laws' own functions, part D (printed by genstr.py). -/
set_option linter.unusedSimpArgs false
set_option linter.unusedVariables false
namespace Go.Nd
open Go.Ev Go.Proofs Go.Pu
set_option maxRecDepth 100000
set_option maxHeartbeats 16000000
theorem sz_40 (xs : List Dn) (f : Dn → Int → Int) (hl : xs.length < 9223372036854775807) (hf : ∀ x ∈ xs, ∀ l, 0 ≤ l → l ≤ 1048576 → run E (.call 25 [.t (dnT x), xI l]) = some (.res [xI (f x l)] [])) (hle : ∀ x ∈ xs, ∀ k, 0 ≤ k → f x k ≤ k) (l : Int) (h0 : 0 ≤ l) (hm : l ≤ 1048576) :
    run E (.call 40 [.t (.list (xs.map dnT)), xI l]) = some (.res [xI (lstSz f xs l)] []) := by
  rw [run_call E 40 _ rfl Tryz.func40 rfl rfl rfl (by simp)]
  have hw : IntKind.i64.wrap (l - (xs.length : Int)) = l - xs.length := wrap_of (by omega) (by omega)
  unfold lstSz szB
  by_cases hb : l - (xs.length : Int) < 0
  · simp [hw, hb]
  · have hb0 : ¬ l < (xs.length : Int) := by omega
    have lp := fun (r : Int) (hr : r = goSz f xs (l - xs.length)) => sk (fun s o q hI => loop_for (c := loopAt Tryz.f40 0) (N := 27)
      (fun i s o q => ∃ k : Int, s 0 = .t (.list (xs.map dnT)) ∧ s 1 = .t (.int .i64 k) ∧ s 5 = .t (.int .i64 i) ∧ 0 ≤ k ∧ k ≤ 1048576 ∧ r = goSz f (xs.drop i) k)
      (fun e s' o' q' => e = (if r < 0 then .ret else .exit 0) ∧ (r < 0 → s' 4 = .t (.int .i64 r)) ∧ (0 ≤ r → s' 1 = .t (.int .i64 r))) xs.length
      (by
        rintro i s o q hi ⟨k, g0, g1, g5, hk0, hkm, hp⟩
        have hi' : (i : Int) < (xs.length : Int) := by omega
        have hwi := wrap_succ (n := i) (by omega)
        have hxi : xs[i]? = some xs[i] := List.getElem?_eq_getElem hi
        have hx := hf _ (List.getElem_mem hi) k hk0 hkm
        have hxl := hle _ (List.getElem_mem hi) k hk0
        rw [List.drop_eq_getElem_cons hi, goSz] at hp
        by_cases hn : f xs[i] k < 0
        · simp [hn] at hp
          simp [loopAt, loopsOf, Tryz.f40, g0, g1, g5, hi', hxi, hwi, hx, hn, hp]
        · simp [hn] at hp
          simp [loopAt, loopsOf, Tryz.f40, g0, g1, g5, hi', hxi, hwi, hx, hn]
          exact ⟨by omega, by omega, hp⟩)
      (by
        rintro s o q ⟨k, g0, g1, g5, hk0, hkm, hp⟩
        simp [goSz] at hp
        have hn : ¬ r < 0 := by omega
        have hn' : 0 ≤ r := by omega
        have hk1 : ¬ k < 0 := by omega
        simp [loopAt, loopsOf, Tryz.f40, g0, g1, g5, hp, hk1]
        try omega)
      xs.length 0 s o q (by omega) hI)
    simp only [loopAt, loopsOf, Tryz.f40] at lp
    obtain ⟨r, hr⟩ : ∃ r, r = goSz f xs (l - xs.length) := ⟨_, rfl⟩
    obtain ⟨X, A, B, C, hx⟩ := lp r hr
    have hx' := fun s o q a0 a1 a5 => hx s o q ⟨l - xs.length, a0, a1, a5, by omega, by omega, by simpa using hr⟩
    clear hx
    by_cases hn : r < 0
    · have hn' : ¬ 0 ≤ r := by omega
      simp [hn, hn'] at hx'
      simp [hw, hb, hb0, hx', hn, ← hr]
    · have hn' : 0 ≤ r := by omega
      simp [hn, hn'] at hx'
      simp [hw, hb, hb0, hx', hn, ← hr]
theorem eq_45 (xs : List Dn) (hl : xs.length < 9223372036854775807) (hf : ∀ x ∈ xs, run E (.call 29 [.t (dnT x), .t (dnT x)]) = some (.res [xB true] [])) :
    run E (.call 45 [.t (.list (xs.map dnT)), .t (.list (xs.map dnT))]) = some (.res [xB true] []) := by
  rw [run_call E 45 _ rfl Tryz.func45 rfl rfl rfl (by simp)]
  have d6 := d45_6
  simp [regionOf, findR, pick, Tryz.f45] at d6
  have dd := fun st => run_region_draw E st 6 _ d6
  clear d6
  have lp := sk (fun s o q hI => loop_for (c := loopAt Tryz.f45 0) (N := 27)
    (fun i s o q => s 0 = .t (.list (xs.map dnT)) ∧ s 1 = .t (.list (xs.map dnT)) ∧ s 5 = .t (.int .i64 i))
    (fun e s' o' q' => e = .exit 0) xs.length
    (by
      rintro i s o q hi ⟨g0, g1, g5⟩
      have hi' : (i : Int) < (xs.length : Int) := by omega
      have hwi := wrap_succ (n := i) (by omega)
      have hxi : xs[i]? = some xs[i] := List.getElem?_eq_getElem hi
      have hx := hf _ (List.getElem_mem hi)
      simp [loopAt, loopsOf, Tryz.f45, dd, g0, g1, g5, hi', hxi, hwi, hx])
    (by
      rintro s o q ⟨g0, g1, g5⟩
      simp [loopAt, loopsOf, Tryz.f45, g0, g1, g5])
    xs.length 0 s o q (by omega) hI)
  simp only [loopAt, loopsOf, Tryz.f45] at lp
  obtain ⟨X, A, B, C, hx⟩ := lp
  simp at hx
  simp [hx]
end Go.Nd
/- The laws' own functions, part E (printed by genstr.py). -/
set_option linter.unusedSimpArgs false
set_option linter.unusedVariables false
namespace Go.Nd
open Go.Ev Go.Proofs Go.Pu
set_option maxRecDepth 100000
set_option maxHeartbeats 16000000
structure Cmd.Wd (x : Cmd) : Prop where
  coll : W x.coll.length
  doc : W x.doc.t.length
  q : x.q.Wd
  ups : W x.ups.length ∧ ∀ y ∈ x.ups, y.wd
  d : x.d.Wd
def szCmd (x : Cmd) : Int → Int := thenSz (szB x.coll.length) (thenSz (szVal x.doc) (thenSz (szQry x.q) (thenSz (lstSz szTrm x.ups) (thenSz (szDfn x.d) (fun k => k)))))
structure Sto.Wd (x : Sto) : Prop where
  colls : W x.colls.length ∧ ∀ y ∈ x.colls, y.Wd
  txns : W x.txns.length ∧ ∀ y ∈ x.txns, y.Wd
  done : W x.done.length ∧ ∀ y ∈ x.done, y.Wd
def szSto (x : Sto) : Int → Int := thenSz (lstSz szCol x.colls) (thenSz (lstSz szTxn x.txns) (thenSz (lstSz szDn x.done) (fun k => k)))
end Go.Nd
/- What comes in, as plain data: reads, writes, changes, transactions, commands, stores (printed by gendec.py). -/
set_option linter.unusedSimpArgs false
set_option linter.unusedVariables false
namespace Go.Nd
open Go.Ev Go.Proofs Go.Pu
set_option maxRecDepth 100000
set_option maxHeartbeats 4000000
theorem dec252 {n : Nat} {ts : List T} (h : typed E (n + 8) 252 ts) : ∃ x : Rd, T.agg ts = rdT x ∧ x.Wd := by
  obtain ⟨h1, h2⟩ := typed_struct (by simp) h
  simp at h1 h2
  obtain ⟨g0, g1⟩ := h2
  match ts, h1 with
  | [c0, c1], _ =>
    obtain ⟨x0, e0, w0⟩ := typed_str g0
    obtain ⟨x1, e1, w1⟩ := dec24 g1
    simp at e0 e1
    exact ⟨⟨x0, x1⟩, by simp [e0, e1], ⟨w0, w1⟩⟩
theorem dec39 {n : Nat} {ts : List T} (h : typed E (n + 9) 39 ts) : ∃ c : List Rd, ts = [.list (c.map rdT)] ∧ W c.length ∧ ∀ x ∈ c, x.Wd := by
  obtain ⟨xs, rfl, h1, h2⟩ := typed_slice (by simp) (by simp) h
  obtain ⟨l, rfl, h4⟩ := list_choose (enc := rdT) (P := Rd.Wd) (fun x hx => by
    obtain ⟨cs, e, _, h⟩ := h2 x hx
    simp at e h
    obtain ⟨t, h3, h4⟩ := dec252 h
    exact ⟨t, e.trans h3, h4⟩)
  exact ⟨l, rfl, by simpa using h1, h4⟩
theorem dec255 {n : Nat} {ts : List T} (h : typed E (n + 3) 255 ts) : ∃ x : Wr, T.agg ts = wrT x ∧ x.Wd := by
  obtain ⟨h1, h2⟩ := typed_struct (by simp) h
  simp at h1 h2
  obtain ⟨g0, g1, g2, g3⟩ := h2
  match ts, h1 with
  | [c0, c1, c2, c3, c4, c5], _ =>
    obtain ⟨x0, e0, w0⟩ := typed_str g0
    obtain ⟨x1, e1⟩ := typed_int g1
    obtain ⟨x2, e2⟩ := typed_bool g2
    obtain ⟨x3, e3, w3⟩ := dec26 g3
    simp at e0 e1 e2 e3
    exact ⟨⟨x0, x1, x2, x3⟩, by simp [e0, e1, e2, e3], ⟨w0, w3⟩⟩
theorem dec267 {n : Nat} {ts : List T} (h : typed E (n + 4) 267 ts) : ∃ x : Chg, T.agg ts = chgT x ∧ x.Wd := by
  obtain ⟨h1, h2⟩ := typed_struct (by simp) h
  simp at h1 h2
  obtain ⟨g0, g1, g2⟩ := h2
  match ts, h1 with
  | [c0, c1, c2, c3, c4, c5, c6, c7, c8, c9], _ =>
    obtain ⟨x0, e0, w0⟩ := dec255 g0
    obtain ⟨x1, e1, w1⟩ := dec26 g1
    obtain ⟨x2, e2⟩ := typed_bool g2
    simp at e0 e1 e2
    exact ⟨⟨x0, x1, x2⟩, by simp [e0, e1, e2], ⟨w0, w1⟩⟩
theorem dec52 {n : Nat} {ts : List T} (h : typed E (n + 5) 52 ts) : ∃ c : List Chg, ts = [.list (c.map chgT)] ∧ W c.length ∧ ∀ x ∈ c, x.Wd := by
  obtain ⟨xs, rfl, h1, h2⟩ := typed_slice (by simp) (by simp) h
  obtain ⟨l, rfl, h4⟩ := list_choose (enc := chgT) (P := Chg.Wd) (fun x hx => by
    obtain ⟨cs, e, _, h⟩ := h2 x hx
    simp at e h
    obtain ⟨t, h3, h4⟩ := dec267 h
    exact ⟨t, e.trans h3, h4⟩)
  exact ⟨l, rfl, by simpa using h1, h4⟩
theorem dec54 {n : Nat} {ts : List T} (h : typed E (n + 10) 54 ts) : ∃ x : Dn, T.agg ts = dnT x ∧ x.Wd := by
  obtain ⟨h1, h2⟩ := typed_struct (by simp) h
  simp at h1 h2
  obtain ⟨g0, g1, g2, g3, g4, g5⟩ := h2
  match ts, h1 with
  | [c0, c1, c2, c3, c4, c5], _ =>
    obtain ⟨x0, e0⟩ := typed_int g0
    obtain ⟨x1, e1⟩ := typed_int g1
    obtain ⟨x2, e2, w2⟩ := dec39 g2
    obtain ⟨x3, e3, w3⟩ := dec52 g3
    obtain ⟨x4, e4⟩ := typed_bool g4
    obtain ⟨x5, e5⟩ := typed_bool g5
    simp at e0 e1 e2 e3 e4 e5
    exact ⟨⟨x0, x1, x2, x3, x4, x5⟩, by simp [e0, e1, e2, e3, e4, e5], ⟨w2, w3⟩⟩
theorem dec87 {n : Nat} {ts : List T} (h : typed E (n + 11) 87 ts) : ∃ c : List Dn, ts = [.list (c.map dnT)] ∧ W c.length ∧ ∀ x ∈ c, x.Wd := by
  obtain ⟨xs, rfl, h1, h2⟩ := typed_slice (by simp) (by simp) h
  obtain ⟨l, rfl, h4⟩ := list_choose (enc := dnT) (P := Dn.Wd) (fun x hx => by
    obtain ⟨cs, e, _, h⟩ := h2 x hx
    simp at e h
    obtain ⟨t, h3, h4⟩ := dec54 h
    exact ⟨t, e.trans h3, h4⟩)
  exact ⟨l, rfl, by simpa using h1, h4⟩
end Go.Nd
/- slices.ContainsFunc over reads and changes, as the hits ask. -/
set_option linter.unusedSimpArgs false
set_option linter.unusedVariables false
namespace Go.Nd
open Go.Ev Go.Proofs Go.Pu
set_option maxRecDepth 100000
set_option maxHeartbeats 4000000
theorem indexFunc_298_1 (xs : List Rd) (g : Nat) (c0 : List T) (p : Rd → Bool) (hl : xs.length < 9223372036854775807) (hm : E.md g = []) (hf : E.flat g = true) (hp : ∀ x ∈ xs, run E (.call g [.t (rdT x), .dref c0]) = some (.res [xB (p x)] [])) :
    run E (.call 298 [.t (.list (xs.map rdT)), .fn g [c0]]) = some (.res [xI (idxP p xs)] []) := by
  rw [run_call E 298 _ rfl Tryz.func298 rfl rfl rfl (by simp)]
  rw [E_md] at hm
  have lp := fun (r : Int) (hr : r = idxP p xs) => sk (fun s o q hI => loop_for (c := loopAt Tryz.f298 0) (N := 19)
    (fun i s o q => s 0 = .t (.list (xs.map rdT)) ∧ s 1 = .fn g [.dptr c0] ∧ s 7 = .t (.int .i64 xs.length) ∧ s 8 = .t (.int .i64 i) ∧ r = if idxP p (xs.drop i) < 0 then -1 else idxP p (xs.drop i) + i)
    (fun e s' o' q' => e = (if r < 0 then .exit 0 else .ret) ∧ (0 ≤ r → s' 4 = .t (.int .i64 r))) xs.length
    (by
      rintro i s o q hi ⟨h0, h1, h7, h8, hr⟩
      have hd : xs.drop i = xs[i] :: xs.drop (i + 1) := by rw [List.drop_eq_getElem_cons hi]
      have hi' : (i : Int) < (xs.length : Int) := by omega
      have hw := wrap_succ (n := i) (by omega)
      have hx := hp xs[i] (List.getElem_mem hi)
      rw [hd, idxP] at hr
      cases hpx : p xs[i] with
      | true =>
        simp [hpx] at hr hx
        have hr' : ¬ r < 0 := by omega
        simp [-mdOf, loopAt, loopsOf, Tryz.f298, h0, h1, h7, h8, hi, hi', hx, hw, hm, hf, hr', hr]
      | false =>
        simp [hpx] at hr hx
        have hr2 : r = if idxP p (xs.drop (i + 1)) < 0 then -1 else idxP p (xs.drop (i + 1)) + ((i : Int) + 1) := by
          rw [hr]
          by_cases hq : idxP p (xs.drop (i + 1)) < 0
          · simp [hq]
          · have : ¬ idxP p (xs.drop (i + 1)) + 1 < 0 := by omega
            simp [hq, this]; omega
        clear hr
        simp [-mdOf, loopAt, loopsOf, Tryz.f298, h0, h1, h7, h8, hi, hi', hx, hw, hm, hf]
        exact hr2)
    (by
      rintro s o q ⟨h0, h1, h7, h8, hr⟩
      simp [idxP] at hr
      simp [loopAt, loopsOf, Tryz.f298, h0, h1, h7, h8, hr])
    xs.length 0 s o q (by omega) hI)
  simp only [loopAt, loopsOf, Tryz.f298] at lp
  obtain ⟨X, A, B, C, hx⟩ := lp _ rfl
  have hz : idxP p xs = if idxP p xs < 0 then -1 else idxP p xs := by
    cases xs with
    | nil => simp [idxP]
    | cons x r =>
      unfold idxP
      split
      · simp
      · split
        · simp
        · have : ¬ idxP p r + 1 < 0 := by omega
          simp [this]
  simp [← hz] at hx
  by_cases h : idxP p xs < 0
  · have h1 : idxP p xs = -1 := by rw [hz]; simp [h]
    simp [h] at hx
    simp [hx, h1]
  · have h2 : 0 ≤ idxP p xs := by omega
    simp [h, h2] at hx
    simp [hx]
theorem containsFunc_196_1 (xs : List Rd) (g : Nat) (c0 : List T) (p : Rd → Bool) (hl : xs.length < 9223372036854775807) (hm : E.md g = []) (hf : E.flat g = true) (hp : ∀ x ∈ xs, run E (.call g [.t (rdT x), .dref c0]) = some (.res [xB (p x)] [])) :
    run E (.call 196 [.t (.list (xs.map rdT)), .fn g [c0]]) = some (.res [xB (xs.any p)] []) := by
  rw [run_call E 196 _ rfl Tryz.func196 rfl rfl rfl (by simp)]
  have h := indexFunc_298_1 xs g c0 p hl hm hf hp
  simp [h, idxP_ge]
theorem indexFunc_204_m (xs : List Chg) (g : Nat) (c : List T) (hc : ∀ y ∈ c, y.one = true) (p : Chg → Bool) (hl : xs.length < 9223372036854775807) (hm : E.md g = []) (hf : E.flat g = true) (hp : ∀ x ∈ xs, run E (.call g [.t (.agg c), .t (chgT x)]) = some (.res [xB (p x)] [])) :
    run E (.call 204 [.t (.list (xs.map chgT)), .meth g [.agg c]]) = some (.res [xI (idxP p xs)] []) := by
  rw [run_call E 204 _ rfl Tryz.func204 rfl rfl rfl (by simp)]
  rw [E_md] at hm
  have hpk := fun st => peekL_t st c hc
  have lp := fun (r : Int) (hr : r = idxP p xs) => sk (fun s o q hI => loop_for (c := loopAt Tryz.f204 0) (N := 19)
    (fun i s o q => s 0 = .t (.list (xs.map chgT)) ∧ s 1 = .meth g [.agg c] ∧ s 7 = .t (.int .i64 xs.length) ∧ s 8 = .t (.int .i64 i) ∧ r = if idxP p (xs.drop i) < 0 then -1 else idxP p (xs.drop i) + i)
    (fun e s' o' q' => e = (if r < 0 then .exit 0 else .ret) ∧ (0 ≤ r → s' 4 = .t (.int .i64 r))) xs.length
    (by
      rintro i s o q hi ⟨h0, h1, h7, h8, hr⟩
      have hd : xs.drop i = xs[i] :: xs.drop (i + 1) := by rw [List.drop_eq_getElem_cons hi]
      have hi' : (i : Int) < (xs.length : Int) := by omega
      have hw := wrap_succ (n := i) (by omega)
      have hx := hp xs[i] (List.getElem_mem hi)
      rw [hd, idxP] at hr
      cases hpx : p xs[i] with
      | true =>
        simp [hpx] at hr hx
        have hr' : ¬ r < 0 := by omega
        simp [-mdOf, loopAt, loopsOf, Tryz.f204, h0, h1, h7, h8, hi, hi', hx, hw, hm, hf, hpk, hr', hr]
      | false =>
        simp [hpx] at hr hx
        have hr2 : r = if idxP p (xs.drop (i + 1)) < 0 then -1 else idxP p (xs.drop (i + 1)) + ((i : Int) + 1) := by
          rw [hr]
          by_cases hq : idxP p (xs.drop (i + 1)) < 0
          · simp [hq]
          · have : ¬ idxP p (xs.drop (i + 1)) + 1 < 0 := by omega
            simp [hq, this]; omega
        clear hr
        simp [-mdOf, loopAt, loopsOf, Tryz.f204, h0, h1, h7, h8, hi, hi', hx, hw, hm, hf, hpk]
        exact hr2)
    (by
      rintro s o q ⟨h0, h1, h7, h8, hr⟩
      simp [idxP] at hr
      simp [loopAt, loopsOf, Tryz.f204, h0, h1, h7, h8, hr])
    xs.length 0 s o q (by omega) hI)
  simp only [loopAt, loopsOf, Tryz.f204] at lp
  obtain ⟨X, A, B, C, hx⟩ := lp _ rfl
  have hz : idxP p xs = if idxP p xs < 0 then -1 else idxP p xs := by
    cases xs with
    | nil => simp [idxP]
    | cons x r =>
      unfold idxP
      split
      · simp
      · split
        · simp
        · have : ¬ idxP p r + 1 < 0 := by omega
          simp [this]
  simp [← hz] at hx
  by_cases h : idxP p xs < 0
  · have h1 : idxP p xs = -1 := by rw [hz]; simp [h]
    simp [h] at hx
    simp [hx, h1]
  · have h2 : 0 ≤ idxP p xs := by omega
    simp [h, h2] at hx
    simp [hx]
theorem containsFunc_99_m (xs : List Chg) (g : Nat) (c : List T) (hc : ∀ y ∈ c, y.one = true) (p : Chg → Bool) (hl : xs.length < 9223372036854775807) (hm : E.md g = []) (hf : E.flat g = true) (hp : ∀ x ∈ xs, run E (.call g [.t (.agg c), .t (chgT x)]) = some (.res [xB (p x)] [])) :
    run E (.call 99 [.t (.list (xs.map chgT)), .meth g [.agg c]]) = some (.res [xB (xs.any p)] []) := by
  rw [run_call E 99 _ rfl Tryz.func99 rfl rfl rfl (by simp)]
  have h := indexFunc_204_m xs g c hc p hl hm hf hp
  simp [h, idxP_ge]
end Go.Nd
/- DoneOK: both. -/
set_option linter.unusedSimpArgs false
set_option linter.unusedVariables false
namespace Go.Nd
open Go.Ev Go.Proofs Go.Pu
set_option maxRecDepth 100000
set_option maxHeartbeats 16000000
abbrev dnBox (d : Dn) : Ob := .box 59 [.t (.int .i64 d.snap), .t (.int .i64 d.at_), .t (.list (d.reads.map rdT)), .t (.list (d.changes.map chgT)), .t (.bool d.inn), .t (.bool d.out)]
theorem implDone_loop (d : Dn) (h : d.Sm) (b : Bool) (hb : b = distGo [] d.changes) : ∀ s o q, (s 1 = .ptr 0 0 ∧ s 6 = .t (.list (d.changes.map chgT)) ∧ s 7 = .t (.int .i64 d.changes.length) ∧ s 8 = .t (.int .i64 0) ∧ o 0 = dnBox d ∧ 0 < q) →
    ∃ e s' o' q', run E (.code (.loop (loopAt Tryz.f28 0)) ⟨s, o, q, 57⟩) = some (.st e ⟨s', o', q', 57⟩) ∧ e = (if b then .exit 0 else .ret) ∧ s' 1 = .ptr 0 0 ∧ o' 0 = dnBox d ∧ 0 < q' ∧ (b = false → s' 2 = .t (.bool false)) := by
  intro s o q hI
  refine loop_for (c := loopAt Tryz.f28 0) (N := 57)
    (fun i s o q => s 1 = .ptr 0 0 ∧ s 6 = .t (.list (d.changes.map chgT)) ∧ s 7 = .t (.int .i64 d.changes.length) ∧ s 8 = .t (.int .i64 i) ∧ o 0 = dnBox d ∧ 0 < q ∧ b = distGo (d.changes.take i) (d.changes.drop i))
    (fun e s' o' q' => e = (if b then .exit 0 else .ret) ∧ s' 1 = .ptr 0 0 ∧ o' 0 = dnBox d ∧ 0 < q' ∧ (b = false → s' 2 = .t (.bool false))) d.changes.length ?_ ?_
    d.changes.length 0 s o q (by omega) ⟨hI.1, hI.2.1, hI.2.2.1, hI.2.2.2.1, hI.2.2.2.2.1, hI.2.2.2.2.2, by simpa using hb⟩
  · rintro i s o q hi ⟨h1, h6, h7, h8, ho, hq, hp⟩
    have hq0 : q ≠ 0 := by omega
    have h0q : 0 ≠ q := by omega
    have hxi : d.changes[i]? = some d.changes[i] := List.getElem?_eq_getElem hi
    have hi' : (i : Int) < (d.changes.length : Int) := by omega
    have hil : i ≤ d.changes.length := by omega
    have hw := wrap_succ (n := i) (by have := h.changes.1; omega)
    have hc := containsFunc_99_1 (d.changes.take i) 100 (chgC d.changes[i]) (sameC d.changes[i]) (by have := h.changes.1; simp; omega) rfl (by simp) (fun x _ => doneClosure x d.changes[i])
    rw [List.map_take] at hc
    have htk : d.changes.take (i + 1) = d.changes.take i ++ [d.changes[i]] := by rw [List.take_add_one, hxi]; rfl
    rw [List.drop_eq_getElem_cons hi, distGo, ← htk] at hp
    generalize hz : (d.changes.take i).any (sameC d.changes[i]) = z at *
    cases z with
    | true =>
      simp at hp
      simp [loopAt, loopsOf, Tryz.f28, h1, h6, h7, h8, ho, hq0, h0q, hi', hil, hxi, hw, hc, hp, hq]
    | false =>
      simp at hp
      simp [loopAt, loopsOf, Tryz.f28, h1, h6, h7, h8, ho, hq0, h0q, hi', hil, hxi, hw, hc]
      rw [hp, htk]
  · rintro s o q ⟨h1, h6, h7, h8, ho, hq, hp⟩
    simp [distGo] at hp
    simp [loopAt, loopsOf, Tryz.f28, h1, h6, h7, h8, ho, hp, hq]
theorem implDoneOK (d : Dn) (h : d.Sm) : run E (.call 28 [.t (dnT d)]) = some (.res [xB (doneOK d)] []) := by
  rw [run_call E 28 _ rfl Tryz.func28 rfl rfl rfl (by simp)]
  have h2 := isTime d.at_
  have h3 := areReads d.reads h.reads.1 h.reads.2
  have h4 := areChanges d.changes h.changes.1 h.changes.2
  have l20 : ((d.reads.length : Int) ≤ 20) = (d.reads.length ≤ 20) := by simp; omega
  have l60 : ((d.changes.length : Int) ≤ 60) = (d.changes.length ≤ 60) := by simp; omega
  unfold doneOK timesOK
  cases hb : distGo [] d.changes with
  | false =>
    obtain ⟨X, A, B, C, hx⟩ := sk (implDone_loop d h false hb.symm)
    simp [loopAt, loopsOf, Tryz.f28] at hx
    simp [hx]
  | true =>
    obtain ⟨X, A, B, C, hx⟩ := sk (implDone_loop d h true hb.symm)
    simp [loopAt, loopsOf, Tryz.f28] at hx
    by_cases c1 : 0 ≤ d.snap
    · cases c2 : in1 1 10000 d.at_ with
      | false => rw [c2] at h2; simp [hx, c1, h2]
      | true =>
        rw [c2] at h2
        by_cases c3 : d.snap < d.at_
        · by_cases c4 : d.reads.length ≤ 20
          · by_cases c5 : d.changes.length ≤ 60
            · cases c6 : d.reads.all readOK with
              | false => rw [c6] at h3; simp [hx, c1, h2, c3, l20, c4, l60, c5, h3, -List.all_eq_true, -List.all_eq_false]
              | true => rw [c6] at h3; simp [hx, c1, h2, c3, l20, c4, l60, c5, h3, h4, -List.all_eq_true, -List.all_eq_false]
            · simp [hx, c1, h2, c3, l20, c4, l60, c5]
          · simp [hx, c1, h2, c3, l20, c4]
        · simp [hx, c1, h2, c3]
    · simp [hx, c1]
def chgsGo : List Chg → List Chg → Bool
  | _, [] => true
  | s, c :: r => chgOK c && (!s.any (fun x => sameC x c) && chgsGo (s ++ [c]) r)
theorem chgsGo_eq : ∀ (r s : List Chg), chgsGo s r = (r.all chgOK && distGo s r)
  | [], s => rfl
  | c :: r, s => by
    have e : (fun x => sameC x c) = sameC c := by funext x; exact sameC_comm x c
    rw [chgsGo, distGo, chgsGo_eq r, List.all_cons, e]
    cases chgOK c <;> cases r.all chgOK <;> simp
theorem specLists_reads (rs : List Rd) (cs : List Chg) (hl : rs.length < 4294967296) (h : ∀ r ∈ rs, r.Sm) (b : Bool) (hb : b = rs.all readOK) : ∀ s o q, (s 0 = .t (.list (rs.map rdT)) ∧ s 1 = .t (.list (cs.map chgT)) ∧ s 5 = .t (.int .i64 0)) →
    ∃ e s' o' q', run E (.code (.loop (loopAt Tryz.f97 0)) ⟨s, o, q, 73⟩) = some (.st e ⟨s', o', q', 73⟩) ∧ e = (if b then .exit 0 else .ret) ∧ s' 0 = .t (.list (rs.map rdT)) ∧ s' 1 = .t (.list (cs.map chgT)) ∧ (b = false → s' 4 = .t (.bool false)) := by
  intro s o q hI
  refine loop_for (c := loopAt Tryz.f97 0) (N := 73)
    (fun i s o q => s 0 = .t (.list (rs.map rdT)) ∧ s 1 = .t (.list (cs.map chgT)) ∧ s 5 = .t (.int .i64 i) ∧ b = (rs.drop i).all readOK)
    (fun e s' o' q' => e = (if b then .exit 0 else .ret) ∧ s' 0 = .t (.list (rs.map rdT)) ∧ s' 1 = .t (.list (cs.map chgT)) ∧ (b = false → s' 4 = .t (.bool false))) rs.length ?_ ?_
    rs.length 0 s o q (by omega) ⟨hI.1, hI.2.1, hI.2.2, by simpa using hb⟩
  · rintro i s o q hi ⟨h0, h1, h5, hp⟩
    have hxi : rs[i]? = some rs[i] := List.getElem?_eq_getElem hi
    have hi' : (i : Int) < (rs.length : Int) := by omega
    have hw := wrap_succ (n := i) (by omega)
    have hd := specReadOK rs[i] (h _ (List.getElem_mem hi))
    rw [List.drop_eq_getElem_cons hi, List.all_cons] at hp
    cases hok : readOK rs[i] <;> simp [hok] at hp hd <;> simp [loopAt, loopsOf, Tryz.f97, h0, h1, h5, hi', hxi, hw, hd, hp]
  · rintro s o q ⟨h0, h1, h5, hp⟩
    simp at hp
    simp [loopAt, loopsOf, Tryz.f97, h0, h1, h5, hp]
theorem specLists_in (rs : List Rd) (cs : List Chg) (hl : cs.length < 4294967296) (i : Nat) (hi : i < cs.length) (z : Bool) (hz : z = (cs.take i).any (fun x => sameC x cs[i])) : ∀ s o q, (s 0 = .t (.list (rs.map rdT)) ∧ s 1 = .t (.list (cs.map chgT)) ∧ s 6 = .t (.int .i64 i) ∧ s 7 = .t (.int .i64 0)) →
    ∃ e s' o' q', run E (.code (.loop (loopAt Tryz.f97 2)) ⟨s, o, q, 73⟩) = some (.st e ⟨s', o', q', 73⟩) ∧ e = (if z then .ret else .exit 4) ∧ s' 0 = .t (.list (rs.map rdT)) ∧ s' 1 = .t (.list (cs.map chgT)) ∧ s' 6 = .t (.int .i64 i) ∧ (z = true → s' 4 = .t (.bool false)) := by
  intro s o q hI
  have d14 := d97_14
  simp [regionOf, findR, pick, Tryz.f97] at d14
  have dd := fun st => run_region_draw E st 14 _ d14
  clear d14
  refine loop_for (c := loopAt Tryz.f97 2) (N := 73)
    (fun j s o q => s 0 = .t (.list (rs.map rdT)) ∧ s 1 = .t (.list (cs.map chgT)) ∧ s 6 = .t (.int .i64 i) ∧ s 7 = .t (.int .i64 j) ∧ z = ((cs.take i).drop j).any (fun x => sameC x cs[i]))
    (fun e s' o' q' => e = (if z then .ret else .exit 4) ∧ s' 0 = .t (.list (rs.map rdT)) ∧ s' 1 = .t (.list (cs.map chgT)) ∧ s' 6 = .t (.int .i64 i) ∧ (z = true → s' 4 = .t (.bool false))) i ?_ ?_
    i 0 s o q (by omega) ⟨hI.1, hI.2.1, hI.2.2.1, hI.2.2.2, by simpa using hz⟩
  · rintro j s o q hj ⟨h0, h1, h6, h7, hp⟩
    have hjd : j < cs.length := by omega
    have hxi : cs[i]? = some cs[i] := List.getElem?_eq_getElem hi
    have hxj : cs[j]? = some cs[j] := List.getElem?_eq_getElem hjd
    have hi' : (i : Int) < (cs.length : Int) := by omega
    have hj' : (j : Int) < (cs.length : Int) := by omega
    have hji : (j : Int) < (i : Int) := by omega
    have hw := wrap_succ (n := j) (by omega)
    rw [List.drop_eq_getElem_cons (by simp; omega), List.any_cons, List.getElem_take] at hp
    cases he : (cs[j].w.coll == cs[i].w.coll) with
    | true =>
      by_cases hd : cs[j].w.id = cs[i].w.id
      · have e : sameC cs[j] cs[i] = true := by simp [sameC, he, hd]
        rw [e, Bool.true_or] at hp
        simp [loopAt, loopsOf, Tryz.f97, dd, h0, h1, h6, h7, hxi, hxj, hi', hj', hji, hw, he, hd, hp, -List.any_eq_true, -List.any_eq_false]
      · have e : sameC cs[j] cs[i] = false := by simp [sameC, he, hd]
        rw [e, Bool.false_or] at hp
        simp [loopAt, loopsOf, Tryz.f97, dd, h0, h1, h6, h7, hxi, hxj, hi', hj', hji, hw, he, hd, -List.any_eq_true, -List.any_eq_false]
        exact hp
    | false =>
      have e : sameC cs[j] cs[i] = false := by simp [sameC, he]
      rw [e, Bool.false_or] at hp
      simp [loopAt, loopsOf, Tryz.f97, dd, h0, h1, h6, h7, hxi, hxj, hi', hj', hji, hw, he, -List.any_eq_true, -List.any_eq_false]
      exact hp
  · rintro s o q ⟨h0, h1, h6, h7, hp⟩
    simp at hp
    simp [loopAt, loopsOf, Tryz.f97, h0, h1, h6, h7, hp]
theorem specLists_chgs (rs : List Rd) (cs : List Chg) (hl : cs.length < 4294967296) (h : ∀ r ∈ cs, r.Sm) (b : Bool) (hb : b = chgsGo [] cs) : ∀ s o q, (s 0 = .t (.list (rs.map rdT)) ∧ s 1 = .t (.list (cs.map chgT)) ∧ s 6 = .t (.int .i64 0)) →
    ∃ e s' o' q', run E (.code (.loop (loopAt Tryz.f97 1)) ⟨s, o, q, 73⟩) = some (.st e ⟨s', o', q', 73⟩) ∧ e = (if b then .exit 2 else .ret) ∧ s' 0 = .t (.list (rs.map rdT)) ∧ s' 1 = .t (.list (cs.map chgT)) ∧ (b = false → s' 4 = .t (.bool false)) := by
  intro s o q hI
  refine loop_for (c := loopAt Tryz.f97 1) (N := 73)
    (fun i s o q => s 0 = .t (.list (rs.map rdT)) ∧ s 1 = .t (.list (cs.map chgT)) ∧ s 6 = .t (.int .i64 i) ∧ b = chgsGo (cs.take i) (cs.drop i))
    (fun e s' o' q' => e = (if b then .exit 2 else .ret) ∧ s' 0 = .t (.list (rs.map rdT)) ∧ s' 1 = .t (.list (cs.map chgT)) ∧ (b = false → s' 4 = .t (.bool false))) cs.length ?_ ?_
    cs.length 0 s o q (by omega) ⟨hI.1, hI.2.1, hI.2.2, by simpa using hb⟩
  · rintro i s o q hi ⟨h0, h1, h6, hp⟩
    have hxi : cs[i]? = some cs[i] := List.getElem?_eq_getElem hi
    have hi' : (i : Int) < (cs.length : Int) := by omega
    have hw := wrap_succ (n := i) (by omega)
    have hd := specChgOK cs[i] (h _ (List.getElem_mem hi))
    have htk : cs.take (i + 1) = cs.take i ++ [cs[i]] := by rw [List.take_add_one, hxi]; rfl
    obtain ⟨z, hz⟩ : ∃ z, z = (cs.take i).any (fun x => sameC x cs[i]) := ⟨_, rfl⟩
    obtain ⟨X, A, B, C, hx⟩ := sk (specLists_in rs cs hl i hi z hz)
    simp only [loopAt, loopsOf, Tryz.f97] at hx
    rw [List.drop_eq_getElem_cons hi, chgsGo, ← htk, ← hz] at hp
    clear hz
    cases hO : chgOK cs[i] with
    | false =>
      simp [hO] at hp hd
      simp [loopAt, loopsOf, Tryz.f97, h0, h1, h6, hi', hxi, hw, hd, hp]
    | true =>
      cases z with
      | true =>
        simp [hO] at hp hd hx
        simp [loopAt, loopsOf, Tryz.f97, h0, h1, h6, hi', hxi, hw, hd, hp, hx]
      | false =>
        simp [hO] at hp hd hx
        simp [loopAt, loopsOf, Tryz.f97, h0, h1, h6, hi', hxi, hw, hd, hx]
        exact hp
  · rintro s o q ⟨h0, h1, h6, hp⟩
    simp [chgsGo] at hp
    simp [loopAt, loopsOf, Tryz.f97, h0, h1, h6, hp]
def listsOK (rs : List Rd) (cs : List Chg) : Bool := rs.all readOK && (chgsGo [] cs && (decide (rs.length ≤ 20) && decide (cs.length ≤ 60)))
theorem specLists (rs : List Rd) (cs : List Chg) (hl : rs.length < 4294967296) (h : ∀ r ∈ rs, r.Sm) (hl2 : cs.length < 4294967296) (h2 : ∀ r ∈ cs, r.Sm) : run E (.call 97 [.t (.list (rs.map rdT)), .t (.list (cs.map chgT))]) = some (.res [xB (listsOK rs cs)] []) := by
  rw [run_call E 97 _ rfl Tryz.func97 rfl rfl rfl (by simp)]
  have l20 : ((rs.length : Int) ≤ 20) = (rs.length ≤ 20) := by simp; omega
  have l60 : ((cs.length : Int) ≤ 60) = (cs.length ≤ 60) := by simp; omega
  unfold listsOK
  cases hb : rs.all readOK with
  | false =>
    obtain ⟨X, A, B, C, hx⟩ := sk (specLists_reads rs cs hl h false hb.symm)
    simp [loopAt, loopsOf, Tryz.f97] at hx
    simp [hx]
  | true =>
    obtain ⟨X, A, B, C, hx⟩ := sk (specLists_reads rs cs hl h true hb.symm)
    simp [loopAt, loopsOf, Tryz.f97] at hx
    cases hb2 : chgsGo [] cs with
    | false =>
      obtain ⟨X2, A2, B2, C2, hx2⟩ := sk (specLists_chgs rs cs hl2 h2 false hb2.symm)
      simp [loopAt, loopsOf, Tryz.f97] at hx2
      simp (maxDischargeDepth := 6) [hx, hx2]
    | true =>
      obtain ⟨X2, A2, B2, C2, hx2⟩ := sk (specLists_chgs rs cs hl2 h2 true hb2.symm)
      simp [loopAt, loopsOf, Tryz.f97] at hx2
      by_cases c4 : rs.length ≤ 20
      · by_cases c5 : cs.length ≤ 60 <;> simp (maxDischargeDepth := 6) [hx, hx2, l20, l60, c4, c5]
      · simp (maxDischargeDepth := 6) [hx, hx2, l20, c4]
theorem done_eq (d : Dn) : doneOK d = (in1 0 10000 d.snap && (in1 (d.snap + 1) 10000 d.at_ && listsOK d.reads d.changes)) := by
  unfold doneOK listsOK
  rw [times_spec, chgsGo_eq]
  generalize distGo [] d.changes = a1; generalize in1 0 10000 d.snap = a2; generalize in1 (d.snap + 1) 10000 d.at_ = a3; generalize decide (d.reads.length ≤ 20) = a4; generalize decide (d.changes.length ≤ 60) = a5; generalize d.reads.all readOK = a6; generalize d.changes.all chgOK = a7
  revert a1 a2 a3 a4 a5 a6 a7
  decide
theorem specDoneOK (d : Dn) (h : d.Sm) : run E (.call 26 [.t (dnT d)]) = some (.res [xB (doneOK d)] []) := by
  rw [run_call E 26 _ rfl Tryz.func26 rfl rfl rfl (by simp)]
  have h1 := l01In1 d.snap 0 10000
  have h2 := l01In1 d.at_ (d.snap + 1) 10000
  have h3 := specLists d.reads d.changes h.reads.1 h.reads.2 h.changes.1 h.changes.2
  rw [done_eq]
  cases c1 : in1 0 10000 d.snap with
  | false => rw [c1] at h1; simp [h1]
  | true =>
    have hw : IntKind.i64.wrap (d.snap + 1) = d.snap + 1 := by
      have := in1_low c1
      unfold in1 at c1
      simp at c1
      exact wrap_of (by omega) (by omega)
    rw [c1] at h1
    cases c2 : in1 (d.snap + 1) 10000 d.at_ with
    | false => rw [c2] at h2; simp [h1, h2, hw]
    | true => rw [c2] at h2; simp [h1, h2, h3, hw]
end Go.Nd
/- What reads hang on what changes: both sides. -/
set_option linter.unusedSimpArgs false
set_option linter.unusedVariables false
namespace Go.Nd
open Go.Ev Go.Proofs Go.Pu
set_option maxRecDepth 100000
set_option maxHeartbeats 16000000
def hangsP (r : Rd) (c : Chg) : Bool := (r.coll == c.w.coll) && ((c.was && matchF r.filter c.before) || (!c.w.gone && matchF r.filter c.w.v))
def hitsP (rs : List Rd) (cs : List Chg) : Bool := rs.any (fun r => cs.any (hangsP r))
/-- What is asked of a read and a change. -/
def rdFit (r : Rd) : Prop := filFit r.filter
def chFit (c : Chg) : Prop := (c.was = true → okP 5 c.before = true) ∧ (c.w.gone = false → okP 5 c.w.v = true)
theorem read_fit {r : Rd} (h : readOK r = true) (hs : r.Sm) : rdFit r := by
  unfold readOK at h
  simp only [Bool.and_eq_true] at h
  exact fil_fit h.2 hs.filter
theorem verDoc_ok {id : Int} {g : Bool} {v : Val} (h : verDoc id g v = true) (hg : g = false) : isDocP v = true := by
  subst hg
  unfold verDoc at h
  simp at h
  exact h.1
theorem chg_fit {c : Chg} (h : chgOK c = true) : chFit c := by
  unfold chgOK writeOK at h
  simp only [Bool.and_eq_true] at h
  exact ⟨fun hw => (doc_ok (verDoc_ok h.2 (by rw [hw]; rfl))).1, fun hg => (doc_ok (verDoc_ok h.1.2 hg)).1⟩
theorem implHangs (r : Rd) (c : Chg) (hr : rdFit r) (hc : chFit c) : run E (.call 322 [.t (rdT r), .t (chgT c)]) = some (.res [xB (hangsP r c)] []) := by
  rw [run_call E 322 _ rfl Tryz.func322 rfl rfl rfl (by simp)]
  unfold hangsP
  cases hn : r.coll == c.w.coll with
  | false => simp [hn]
  | true =>
    have m1 : c.was = true → run E (.call 79 [.t (filT r.filter), xV c.before]) = some (.res [xB (matchF r.filter c.before)] []) := fun h => implMatchF r.filter c.before hr (hc.1 h)
    have m2 : c.w.gone = false → run E (.call 79 [.t (filT r.filter), xV c.w.v]) = some (.res [xB (matchF r.filter c.w.v)] []) := fun h => implMatchF r.filter c.w.v hr (hc.2 h)
    generalize matchF r.filter c.before = z1 at *
    generalize matchF r.filter c.w.v = z2 at *
    cases hw : c.was <;> cases hg : c.w.gone <;> simp [hw, hg] at m1 m2 <;> cases z1 <;> cases z2 <;> simp [hn, hw, hg, m1, m2]
theorem specHangs (r : Rd) (c : Chg) (hr : rdFit r) (hc : chFit c) : run E (.call 320 [.t (rdT r), .t (chgT c)]) = some (.res [xB (hangsP r c)] []) := by
  rw [run_call E 320 _ rfl Tryz.func320 rfl rfl rfl (by simp)]
  unfold hangsP
  cases hn : r.coll == c.w.coll with
  | false => simp [hn]
  | true =>
    have m1 : c.was = true → run E (.call 75 [.t (filT r.filter), xV c.before]) = some (.res [xB (matchF r.filter c.before)] []) := fun h => specMatchF r.filter c.before hr (hc.1 h)
    have m2 : c.w.gone = false → run E (.call 75 [.t (filT r.filter), xV c.w.v]) = some (.res [xB (matchF r.filter c.w.v)] []) := fun h => specMatchF r.filter c.w.v hr (hc.2 h)
    generalize matchF r.filter c.before = z1 at *
    generalize matchF r.filter c.w.v = z2 at *
    cases hw : c.was <;> cases hg : c.w.gone <;> simp [hw, hg] at m1 m2 <;> cases z1 <;> cases z2 <;> simp [hn, hw, hg, m1, m2]
theorem implHits_clos (r : Rd) (cs : List Chg) (hl : cs.length < 4294967296) (hr : rdFit r) (hc : ∀ c ∈ cs, chFit c) : run E (.call 321 [.t (rdT r), .dref [.list (cs.map chgT)]]) = some (.res [xB (cs.any (hangsP r))] []) := by
  rw [run_call E 321 _ rfl Tryz.func321 rfl rfl rfl (by simp)]
  have h := containsFunc_99_m cs 322 [.str r.coll, .list (r.filter.map clsT)] (by simp [T.one]) (hangsP r) (by omega) rfl (by simp) (fun c hm => implHangs r c hr (hc c hm))
  simp [h, -List.any_eq_true, -List.any_eq_false]
theorem implHitsIn (rs : List Rd) (cs : List Chg) (h1 : rs.length < 4294967296) (hl : cs.length < 4294967296) (hr : ∀ r ∈ rs, rdFit r) (hc : ∀ c ∈ cs, chFit c) : run E (.call 237 [.t (.list (rs.map rdT)), .t (.list (cs.map chgT))]) = some (.res [xB (hitsP rs cs)] []) := by
  rw [run_call E 237 _ rfl Tryz.func237 rfl rfl rfl (by simp)]
  have h := containsFunc_196_1 rs 321 [.list (cs.map chgT)] (fun r => cs.any (hangsP r)) (by omega) rfl (by simp) (fun r hm => implHits_clos r cs hl (hr r hm) hc)
  simp [h, hitsP, -List.any_eq_true, -List.any_eq_false]
theorem specHits_in (rs : List Rd) (cs : List Chg) (i : Nat) (hi : i < rs.length) (h1 : rs.length < 4294967296) (hl : cs.length < 4294967296) (hr : rdFit rs[i]) (hc : ∀ c ∈ cs, chFit c) (b : Bool) (hb : b = cs.any (hangsP rs[i])) : ∀ s o q, (s 0 = .t (.list (rs.map rdT)) ∧ s 1 = .t (.list (cs.map chgT)) ∧ s 5 = .t (.int .i64 i) ∧ s 6 = .t (.int .i64 0)) →
    ∃ e s' o' q', run E (.code (.loop (loopAt Tryz.f236 1)) ⟨s, o, q, 28⟩) = some (.st e ⟨s', o', q', 28⟩) ∧ e = (if b then .ret else .exit 2) ∧ s' 0 = .t (.list (rs.map rdT)) ∧ s' 1 = .t (.list (cs.map chgT)) ∧ s' 5 = .t (.int .i64 i) ∧ (b = true → s' 4 = .t (.bool true)) := by
  intro s o q hI
  have d7 := d236_7
  simp [regionOf, findR, pick, Tryz.f236] at d7
  have dd := fun st => run_region_draw E st 7 _ d7
  clear d7
  have hxi : rs[i]? = some rs[i] := List.getElem?_eq_getElem hi
  have hi' : (i : Int) < (rs.length : Int) := by omega
  refine loop_for (c := loopAt Tryz.f236 1) (N := 28)
    (fun j s o q => s 0 = .t (.list (rs.map rdT)) ∧ s 1 = .t (.list (cs.map chgT)) ∧ s 5 = .t (.int .i64 i) ∧ s 6 = .t (.int .i64 j) ∧ b = (cs.drop j).any (hangsP rs[i]))
    (fun e s' o' q' => e = (if b then .ret else .exit 2) ∧ s' 0 = .t (.list (rs.map rdT)) ∧ s' 1 = .t (.list (cs.map chgT)) ∧ s' 5 = .t (.int .i64 i) ∧ (b = true → s' 4 = .t (.bool true))) cs.length ?_ ?_
    cs.length 0 s o q (by omega) ⟨hI.1, hI.2.1, hI.2.2.1, hI.2.2.2, by simpa using hb⟩
  · rintro j s o q hj ⟨g0, g1, g5, g6, hp⟩
    have hj' : (j : Int) < (cs.length : Int) := by omega
    have hw := wrap_succ (n := j) (by omega)
    have hxj : cs[j]? = some cs[j] := List.getElem?_eq_getElem hj
    have hh := specHangs rs[i] cs[j] hr (hc _ (List.getElem_mem hj))
    rw [List.drop_eq_getElem_cons hj, List.any_cons] at hp
    cases he : hangsP rs[i] cs[j] with
    | true =>
      rw [he] at hp hh
      simp only [Bool.true_or] at hp
      simp [loopAt, loopsOf, Tryz.f236, dd, g0, g1, g5, g6, hi, hi', hxi, hj, hj', hxj, hw, hh, hp]
    | false =>
      rw [he] at hp hh
      simp only [Bool.false_or] at hp
      simp [loopAt, loopsOf, Tryz.f236, dd, g0, g1, g5, g6, hi, hi', hxi, hj, hj', hxj, hw, hh, -List.any_eq_true, -List.any_eq_false]
      exact hp
  · rintro s o q ⟨g0, g1, g5, g6, hp⟩
    simp at hp
    simp [loopAt, loopsOf, Tryz.f236, g0, g1, g5, g6, hp]
theorem specHits_loop (rs : List Rd) (cs : List Chg) (h1 : rs.length < 4294967296) (hl : cs.length < 4294967296) (hr : ∀ r ∈ rs, rdFit r) (hc : ∀ c ∈ cs, chFit c) (b : Bool) (hb : b = hitsP rs cs) : ∀ s o q, (s 0 = .t (.list (rs.map rdT)) ∧ s 1 = .t (.list (cs.map chgT)) ∧ s 5 = .t (.int .i64 0)) →
    ∃ e s' o' q', run E (.code (.loop (loopAt Tryz.f236 0)) ⟨s, o, q, 28⟩) = some (.st e ⟨s', o', q', 28⟩) ∧ e = (if b then .ret else .exit 0) ∧ (b = true → s' 4 = .t (.bool true)) := by
  intro s o q hI
  unfold hitsP at hb
  refine loop_for (c := loopAt Tryz.f236 0) (N := 28)
    (fun i s o q => s 0 = .t (.list (rs.map rdT)) ∧ s 1 = .t (.list (cs.map chgT)) ∧ s 5 = .t (.int .i64 i) ∧ b = (rs.drop i).any (fun r => cs.any (hangsP r)))
    (fun e s' o' q' => e = (if b then .ret else .exit 0) ∧ (b = true → s' 4 = .t (.bool true))) rs.length ?_ ?_
    rs.length 0 s o q (by omega) ⟨hI.1, hI.2.1, hI.2.2, by simpa using hb⟩
  · rintro i s o q hi ⟨g0, g1, g5, hp⟩
    have hi' : (i : Int) < (rs.length : Int) := by omega
    have hw := wrap_succ (n := i) (by omega)
    rw [List.drop_eq_getElem_cons hi, List.any_cons] at hp
    obtain ⟨z, hz⟩ : ∃ z, z = cs.any (hangsP rs[i]) := ⟨_, rfl⟩
    obtain ⟨X, A, B, C, hx⟩ := sk (specHits_in rs cs i hi h1 hl (hr _ (List.getElem_mem hi)) hc z hz)
    simp only [loopAt, loopsOf, Tryz.f236] at hx
    rw [← hz] at hp
    cases z with
    | true =>
      simp only [Bool.true_or] at hp
      simp at hx
      simp [loopAt, loopsOf, Tryz.f236, g0, g1, g5, hi', hw, hx, hp]
    | false =>
      simp only [Bool.false_or] at hp
      simp at hx
      simp [loopAt, loopsOf, Tryz.f236, g0, g1, g5, hi', hw, hx, -List.any_eq_true, -List.any_eq_false]
      exact hp
  · rintro s o q ⟨g0, g1, g5, hp⟩
    simp at hp
    simp [loopAt, loopsOf, Tryz.f236, g0, g1, g5, hp]
theorem specHitsIn (rs : List Rd) (cs : List Chg) (h1 : rs.length < 4294967296) (hl : cs.length < 4294967296) (hr : ∀ r ∈ rs, rdFit r) (hc : ∀ c ∈ cs, chFit c) : run E (.call 236 [.t (.list (rs.map rdT)), .t (.list (cs.map chgT))]) = some (.res [xB (hitsP rs cs)] []) := by
  rw [run_call E 236 _ rfl Tryz.func236 rfl rfl rfl (by simp)]
  obtain ⟨b, hb⟩ : ∃ b, b = hitsP rs cs := ⟨_, rfl⟩
  obtain ⟨X, A, B, C, hx⟩ := sk (specHits_loop rs cs h1 hl hr hc b hb)
  simp only [loopAt, loopsOf, Tryz.f236] at hx
  rw [← hb]
  cases b <;> simp at hx <;> simp [hx]
end Go.Nd
/- Lists in order: collections, what was committed: both sides. -/
set_option linter.unusedSimpArgs false
set_option linter.unusedVariables false
namespace Go.Nd
open Go.Ev Go.Proofs Go.Pu
set_option maxRecDepth 100000
set_option maxHeartbeats 16000000
def stepsFrom (n : Nat) (P : Nat → Bool) (i : Nat) : Bool := ((List.range n).drop i).all P
theorem stepsFrom_lt {n i : Nat} {P : Nat → Bool} (h : i < n) : stepsFrom n P i = (P i && stepsFrom n P (i + 1)) := by
  unfold stepsFrom
  rw [List.drop_eq_getElem_cons (by simpa using h)]
  simp
theorem stepsFrom_end {n : Nat} {P : Nat → Bool} : stepsFrom n P n = true := by
  unfold stepsFrom
  rw [List.drop_of_length_le (by simp)]
  rfl
theorem steps_all {n : Nat} {P : Nat → Bool} : stepsFrom n P 0 = true ↔ ∀ i, i < n → P i = true := by
  unfold stepsFrom
  simp
/-- Each is right, and in order with the one ahead. -/
def seqStep {α : Type} (ok : α → Bool) (ord : α → α → Bool) (l : List α) : Nat → Bool
  | 0 => match l[0]? with
    | some c => ok c
    | none => true
  | k + 1 => match l[k]?, l[k + 1]? with
    | some p, some c => ok c && ord p c
    | _, _ => true
theorem seq_zero {α : Type} {ok : α → Bool} {ord : α → α → Bool} {l : List α} (h : 0 < l.length) : seqStep ok ord l 0 = ok l[0] := by
  simp [seqStep, List.getElem?_eq_getElem h]
theorem seq_succ {α : Type} {ok : α → Bool} {ord : α → α → Bool} {l : List α} {k : Nat} (h : k + 1 < l.length) : seqStep ok ord l (k + 1) = (ok l[k + 1] && ord l[k] l[k + 1]) := by
  have h' : k < l.length := by omega
  simp [seqStep, List.getElem?_eq_getElem h, List.getElem?_eq_getElem h']
def seqOK {α : Type} (ok : α → Bool) (ord : α → α → Bool) (l : List α) : Bool := stepsFrom l.length (seqStep ok ord l) 0
def collOrd (a b : Col) : Bool := Op.bytesLess a.name b.name
def collsOK (l : List Col) : Bool := seqOK collOK collOrd l && decide (l.length ≤ 3)
def dnFine (d : Dn) : Bool := doneOK d && !(d.inn && d.out)
def dnOrd (a b : Dn) : Bool := decide (a.at_ < b.at_)
theorem specDones_loop (l : List Dn) (hl : l.length < 4294967296) (h : ∀ c ∈ l, c.Sm) (b : Bool) (hb : b = seqOK dnFine dnOrd l) : ∀ s o q, (s 0 = .t (.list (l.map dnT)) ∧ s 3 = .t (.int .i64 0)) →
    ∃ e s' o' q', run E (.code (.loop (loopAt Tryz.f126 0)) ⟨s, o, q, 51⟩) = some (.st e ⟨s', o', q', 51⟩) ∧ e = (if b then .exit 0 else .ret) ∧ s' 0 = .t (.list (l.map dnT)) ∧ (b = false → s' 2 = .t (.bool false)) := by
  intro s o q hI
  have d4 := d126_4
  simp [regionOf, findR, pick, Tryz.f126] at d4
  have dd := fun st => run_region_draw E st 4 _ d4
  clear d4
  refine loop_for (c := loopAt Tryz.f126 0) (N := 51)
    (fun i s o q => s 0 = .t (.list (l.map dnT)) ∧ s 3 = .t (.int .i64 i) ∧ b = stepsFrom l.length (seqStep dnFine dnOrd l) i)
    (fun e s' o' q' => e = (if b then .exit 0 else .ret) ∧ s' 0 = .t (.list (l.map dnT)) ∧ (b = false → s' 2 = .t (.bool false))) l.length ?_ ?_
    l.length 0 s o q (by omega) ⟨hI.1, hI.2, hb⟩
  · rintro i s o q hi ⟨h0, h3, hp⟩
    have hxi : l[i]? = some l[i] := List.getElem?_eq_getElem hi
    have hi' : (i : Int) < (l.length : Int) := by omega
    have hw := wrap_succ (n := i) (by omega)
    have hc := specDoneOK l[i] (h _ (List.getElem_mem hi))
    rw [stepsFrom_lt hi] at hp
    cases i with
    | zero =>
      rw [seq_zero hi] at hp
      simp at h3 hw hxi hi'
      rw [show dnFine l[0] = (doneOK l[0] && !(l[0].inn && l[0].out)) from rfl] at hp
      generalize doneOK l[0] = z at *
      generalize hx1 : l[0].inn = x1 at *
      generalize hx2 : l[0].out = x2 at *
      simp only [dnT, hx1, hx2] at hc
      cases z <;> cases x1 <;> cases x2 <;> simp at hp <;> simp [loopAt, loopsOf, Tryz.f126, dd, h0, h3, hi, hi', hxi, hw, hc, hp, hx1, hx2]
    | succ k =>
      rw [seq_succ hi] at hp
      have hk : k < l.length := by omega
      have hxk : l[k]? = some l[k] := List.getElem?_eq_getElem hk
      have hwk := wrap_nat (n := k) (by omega)
      have hpos : (0 : Int) < (k : Int) + 1 := by omega
      have hge : (0 : Int) ≤ (k : Int) + 1 := by omega
      simp at h3 hw hi'
      rw [show dnFine l[k + 1] = (doneOK l[k + 1] && !(l[k + 1].inn && l[k + 1].out)) from rfl, show dnOrd l[k] l[k + 1] = decide (l[k].at_ < l[k + 1].at_) from rfl] at hp
      generalize doneOK l[k + 1] = z at *
      generalize hx1 : l[k + 1].inn = x1 at *
      generalize hx2 : l[k + 1].out = x2 at *
      simp only [dnT, hx1, hx2] at hc
      by_cases hy : l[k].at_ < l[k + 1].at_
      · have hy' : ¬ l[k + 1].at_ ≤ l[k].at_ := by omega
        cases z <;> cases x1 <;> cases x2 <;> simp [hy] at hp <;> simp [loopAt, loopsOf, Tryz.f126, dd, h0, h3, hi, hi', hxi, hw, hc, hp, hk, hxk, hwk, hpos, hge, hy, hy', hx1, hx2]
      · have hy' : l[k + 1].at_ ≤ l[k].at_ := by omega
        cases z <;> cases x1 <;> cases x2 <;> simp [hy] at hp <;> simp [loopAt, loopsOf, Tryz.f126, dd, h0, h3, hi, hi', hxi, hw, hc, hp, hk, hxk, hwk, hpos, hge, hy, hy', hx1, hx2]
  · rintro s o q ⟨h0, h3, hp⟩
    rw [stepsFrom_end] at hp
    simp [loopAt, loopsOf, Tryz.f126, h0, h3, hp]
def donesOK (l : List Dn) : Bool := seqOK dnFine dnOrd l && decide (l.length ≤ 30)
theorem specDones (l : List Dn) (hl : l.length < 4294967296) (h : ∀ c ∈ l, c.Sm) : run E (.call 126 [.t (.list (l.map dnT))]) = some (.res [xB (donesOK l)] []) := by
  rw [run_call E 126 _ rfl Tryz.func126 rfl rfl rfl (by simp)]
  obtain ⟨b, hb⟩ : ∃ b, b = seqOK dnFine dnOrd l := ⟨_, rfl⟩
  obtain ⟨X, A, B, C, hx⟩ := sk (specDones_loop l hl h b hb)
  simp only [loopAt, loopsOf, Tryz.f126] at hx
  have l3 : ((l.length : Int) ≤ 30) = (l.length ≤ 30) := by simp; omega
  unfold donesOK
  rw [← hb]
  cases b <;> simp at hx <;> simp [hx, l3]
theorem implDones_loop (l : List Dn) (hl : l.length < 4294967296) (h : ∀ c ∈ l, c.Sm) (b : Bool) (hb : b = seqOK dnFine dnOrd l) : ∀ s o q, (s 0 = .t (.list (l.map dnT)) ∧ s 5 = .t (.list (l.map dnT)) ∧ s 6 = .t (.int .i64 l.length) ∧ s 7 = .t (.int .i64 0)) →
    ∃ e s' o' q', run E (.code (.loop (loopAt Tryz.f131 0)) ⟨s, o, q, 42⟩) = some (.st e ⟨s', o', q', 42⟩) ∧ e = (if b then .exit 0 else .ret) ∧ s' 0 = .t (.list (l.map dnT)) ∧ (b = false → s' 2 = .t (.bool false)) := by
  intro s o q hI
  have d4 := d131_4
  simp [regionOf, findR, pick, Tryz.f131] at d4
  have dd := fun st => run_region_draw E st 4 _ d4
  clear d4
  refine loop_for (c := loopAt Tryz.f131 0) (N := 42)
    (fun i s o q => s 0 = .t (.list (l.map dnT)) ∧ s 5 = .t (.list (l.map dnT)) ∧ s 6 = .t (.int .i64 l.length) ∧ s 7 = .t (.int .i64 i) ∧ b = stepsFrom l.length (seqStep dnFine dnOrd l) i)
    (fun e s' o' q' => e = (if b then .exit 0 else .ret) ∧ s' 0 = .t (.list (l.map dnT)) ∧ (b = false → s' 2 = .t (.bool false))) l.length ?_ ?_
    l.length 0 s o q (by omega) ⟨hI.1, hI.2.1, hI.2.2.1, hI.2.2.2, hb⟩
  · rintro i s o q hi ⟨h0, h5, h6, h7, hp⟩
    have hxi : l[i]? = some l[i] := List.getElem?_eq_getElem hi
    have hi' : (i : Int) < (l.length : Int) := by omega
    have hw := wrap_succ (n := i) (by omega)
    have hc := implDoneOK l[i] (h _ (List.getElem_mem hi))
    rw [stepsFrom_lt hi] at hp
    cases i with
    | zero =>
      rw [seq_zero hi] at hp
      simp at h7 hw hxi hi'
      rw [show dnFine l[0] = (doneOK l[0] && !(l[0].inn && l[0].out)) from rfl] at hp
      generalize doneOK l[0] = z at *
      generalize hx1 : l[0].inn = x1 at *
      generalize hx2 : l[0].out = x2 at *
      simp only [dnT, hx1, hx2] at hc
      cases z <;> cases x1 <;> cases x2 <;> simp at hp <;> simp [loopAt, loopsOf, Tryz.f131, dd, h0, h5, h6, h7, hi, hi', hxi, hw, hc, hp, hx1, hx2]
    | succ k =>
      rw [seq_succ hi] at hp
      have hk : k < l.length := by omega
      have hxk : l[k]? = some l[k] := List.getElem?_eq_getElem hk
      have hwk := wrap_nat (n := k) (by omega)
      have hpos : (0 : Int) < (k : Int) + 1 := by omega
      have hge : (0 : Int) ≤ (k : Int) + 1 := by omega
      simp at h7 hw hi'
      rw [show dnFine l[k + 1] = (doneOK l[k + 1] && !(l[k + 1].inn && l[k + 1].out)) from rfl, show dnOrd l[k] l[k + 1] = decide (l[k].at_ < l[k + 1].at_) from rfl] at hp
      generalize doneOK l[k + 1] = z at *
      generalize hx1 : l[k + 1].inn = x1 at *
      generalize hx2 : l[k + 1].out = x2 at *
      simp only [dnT, hx1, hx2] at hc
      by_cases hy : l[k].at_ < l[k + 1].at_
      · have hy' : ¬ l[k + 1].at_ ≤ l[k].at_ := by omega
        cases z <;> cases x1 <;> cases x2 <;> simp [hy] at hp <;> simp [loopAt, loopsOf, Tryz.f131, dd, h0, h5, h6, h7, hi, hi', hxi, hw, hc, hp, hk, hxk, hwk, hpos, hge, hy, hy', hx1, hx2]
      · have hy' : l[k + 1].at_ ≤ l[k].at_ := by omega
        cases z <;> cases x1 <;> cases x2 <;> simp [hy] at hp <;> simp [loopAt, loopsOf, Tryz.f131, dd, h0, h5, h6, h7, hi, hi', hxi, hw, hc, hp, hk, hxk, hwk, hpos, hge, hy, hy', hx1, hx2]
  · rintro s o q ⟨h0, h5, h6, h7, hp⟩
    rw [stepsFrom_end] at hp
    simp [loopAt, loopsOf, Tryz.f131, h0, h5, h6, h7, hp]
theorem implDones (l : List Dn) (hl : l.length < 4294967296) (h : ∀ c ∈ l, c.Sm) : run E (.call 131 [.t (.list (l.map dnT))]) = some (.res [xB (donesOK l)] []) := by
  rw [run_call E 131 _ rfl Tryz.func131 rfl rfl rfl (by simp)]
  obtain ⟨b, hb⟩ : ∃ b, b = seqOK dnFine dnOrd l := ⟨_, rfl⟩
  obtain ⟨X, A, B, C, hx⟩ := sk (implDones_loop l hl h b hb)
  simp only [loopAt, loopsOf, Tryz.f131] at hx
  have l3 : ((l.length : Int) ≤ 30) = (l.length ≤ 30) := by simp; omega
  unfold donesOK
  rw [← hb]
  cases b <;> simp at hx <;> simp [hx, l3]
end Go.Nd
/- Who comes ahead of whom; the places of all pairs that are bound to an order. -/
set_option linter.unusedSimpArgs false
set_option linter.unusedVariables false
namespace Go.Nd
open Go.Ev Go.Proofs Go.Pu
set_option maxRecDepth 100000
set_option maxHeartbeats 16000000
def aheadP (a b : Dn) : Bool := decide (a.at_ ≤ b.snap) || (decide (a.snap < b.at_) && hitsP a.reads b.changes)
/-- What is asked of one that was committed. -/
structure dnFit (d : Dn) : Prop where
  sm : d.Sm
  rd : ∀ r ∈ d.reads, rdFit r
  ch : ∀ c ∈ d.changes, chFit c
theorem done_fit {d : Dn} (h : doneOK d = true) (hs : d.Sm) : dnFit d := by
  unfold doneOK at h
  simp only [Bool.and_eq_true, List.all_eq_true] at h
  exact ⟨hs, fun r hr => read_fit (h.2.1.2 r hr) (hs.reads.2 r hr), fun c hc => chg_fit (h.2.2 c hc)⟩
theorem implAhead (a b : Dn) (ha : dnFit a) (hb : dnFit b) : run E (.call 138 [.t (dnT a), .t (dnT b)]) = some (.res [xB (aheadP a b)] []) := by
  rw [run_call E 138 _ rfl Tryz.func138 rfl rfl rfl (by simp)]
  have h := implHitsIn a.reads b.changes ha.sm.reads.1 hb.sm.changes.1 ha.rd hb.ch
  unfold aheadP
  generalize hitsP a.reads b.changes = z at *
  by_cases h1 : a.at_ ≤ b.snap
  · simp [h1]
  · by_cases h2 : a.snap < b.at_ <;> cases z <;> simp [h1, h2, h]
theorem specAhead (a b : Dn) (ha : dnFit a) (hb : dnFit b) : run E (.call 137 [.t (dnT a), .t (dnT b)]) = some (.res [xB (aheadP a b)] []) := by
  rw [run_call E 137 _ rfl Tryz.func137 rfl rfl rfl (by simp)]
  have h := specHitsIn a.reads b.changes ha.sm.reads.1 hb.sm.changes.1 ha.rd hb.ch
  unfold aheadP
  generalize hitsP a.reads b.changes = z at *
  by_cases h1 : a.at_ ≤ b.snap
  · simp [h1]
  · by_cases h2 : a.snap < b.at_ <;> cases z <;> simp [h1, h2, h]
/-- Two places of a list. -/
def aheadAt (l : List Dn) (i k : Nat) : Bool := match l[i]?, l[k]? with
  | some a, some b => aheadP a b
  | _, _ => false
theorem aheadAt_eq {l : List Dn} {i k : Nat} (hi : i < l.length) (hk : k < l.length) : aheadAt l i k = aheadP l[i] l[k] := by
  simp [aheadAt, List.getElem?_eq_getElem hi, List.getElem?_eq_getElem hk]
abbrev intT (n : Nat) : T := .int .i64 n
/-- The pairs of one place. -/
def edgesI (l : List Dn) (i m : Nat) : List Nat := (List.range m).flatMap fun k => if i ≠ k ∧ aheadAt l i k = true then [i, k] else []
def edgesP (l : List Dn) (m : Nat) : List Nat := (List.range m).flatMap fun i => edgesI l i l.length
theorem edgesI_succ (l : List Dn) (i m : Nat) : edgesI l i (m + 1) = edgesI l i m ++ (if i ≠ m ∧ aheadAt l i m = true then [i, m] else []) := by
  simp [edgesI, List.range_succ, List.flatMap_append]
theorem edgesP_succ (l : List Dn) (m : Nat) : edgesP l (m + 1) = edgesP l m ++ edgesI l m l.length := by
  simp [edgesP, List.range_succ, List.flatMap_append]
theorem edgesI_len (l : List Dn) (i : Nat) : ∀ m, (edgesI l i m).length ≤ 2 * m
  | 0 => by simp [edgesI]
  | m + 1 => by
    rw [edgesI_succ, List.length_append]
    have := edgesI_len l i m
    split <;> simp <;> omega
theorem edgesP_len (l : List Dn) : ∀ m, (edgesP l m).length ≤ m * (2 * l.length)
  | 0 => by simp [edgesP]
  | m + 1 => by
    rw [edgesP_succ, List.length_append, Nat.add_mul, Nat.one_mul]
    have := edgesP_len l m
    have := edgesI_len l m l.length
    omega
end Go.Nd
