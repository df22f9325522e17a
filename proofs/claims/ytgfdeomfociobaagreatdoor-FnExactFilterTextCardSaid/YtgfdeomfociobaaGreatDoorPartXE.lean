/- Keys: impl's eight, fallen. -/
import Derived.Test.YtgfdeomfociobaaGreatDoorPartXD
import Derived.Test.YtgfdeomfociobaaGreatDoorPartXB
import Derived.Test.YtgfdeomfociobaaGreatDoorPartXC
import Derived.Test.YtgfdeomfociobaaGreatDoorPartD
import Derived.Lib.LaidTab
import Derived.Stop.LaidErr
import Derived.ChangeVars
set_option linter.unusedSimpArgs false
set_option linter.unusedVariables false
namespace Go.Xd
open Go.Ev Go.Proofs Go.Pu
set_option maxRecDepth 100000
set_option maxHeartbeats 16000000
theorem numP_get (n : Int) : ∀ (k i : Nat), i < k → (numP n k)[i]? = some (byteAt n (k - 1 - i))
  | 0, i, h => by omega
  | k + 1, 0, h => by simp [numP]
  | k + 1, i + 1, h => by
    have := numP_get n k i (by omega)
    simp [numP, this]
    congr 1; omega
theorem eight (n : Int) : run E (.call 329 [xI n]) = some (.res [.row 5 ((numP n 8).map byteT)] []) := by
  rw [run_call E 329 _ rfl Tryz.func329 rfl rfl rfl (by simp)]
  obtain ⟨L, hL⟩ : ∃ L, L = (numP n 8).map byteT := ⟨_, rfl⟩
  have hLl : L.length = 8 := by rw [hL]; simp [numP_len]
  have lp := sk (fun s o q hI => loop_for (c := loopAt Tryz.f329 0) (N := 20)
    (fun i s o q => s 0 = .t (.int .i64 n) ∧ s 3 = .row 0 ∧ s 6 = .t (.int .i64 i) ∧ o 0 = .row 5 (L.take i ++ List.replicate (8 - i) (.int .u8 0)) true)
    (fun e s' o' q' => e = .exit 0 ∧ s' 3 = .row 0 ∧ o' 0 = .row 5 L true) 8
    (by
      rintro i s o q hi ⟨h0, h3, h6, ho⟩
      have hi' : (i : Int) < 8 := by omega
      have hw := wrap_succ (n := i) (by omega)
      obtain ⟨j, hj⟩ : ∃ j : Nat, j = 7 - i := ⟨_, rfl⟩
      have hw8 : IntKind.i64.wrap (8 * (i : Int)) = 8 * (i : Int) := wrap_of (by omega) (by omega)
      have hw56 : IntKind.i64.wrap (56 - 8 * (i : Int)) = 8 * (j : Int) := by rw [wrap_of (by omega) (by omega)]; omega
      have hneg : ¬ (8 * (j : Int) < 0) := by omega
      have hnat : (8 * (j : Int)).toNat = 8 * j := by omega
      have hmin : min (8 * j) IntKind.i64.bits = 8 * j := by simp [IntKind.bits]; omega
      have hb := byteAt_wrap n j
      have hx : L[i]? = some (byteT (byteAt n j)) := by
        rw [hL, List.getElem?_map, numP_get n 8 i hi, hj]; rfl
      have hget := mid_get L (T.int .u8 0) i 8 hi (by omega)
      have hset := mid_set L (T.int .u8 0) (byteT (byteAt n j)) i 8 hi hx
      have hge : (0 : Int) ≤ (i : Int) := by omega
      simp [loopAt, loopsOf, Tryz.f329, h0, h3, h6, hi', hw, ho, hw8, hw56, hneg, hnat, hmin, hb, hget, hset])
    (by
      rintro s o q ⟨h0, h3, h6, ho⟩
      have hfull : L.take 8 = L := List.take_of_length_le (by omega)
      simp [hfull] at ho
      simp [loopAt, loopsOf, Tryz.f329, h0, h3, h6, ho])
    8 0 s o q (by omega) hI)
  simp only [loopAt, loopsOf, Tryz.f329] at lp
  obtain ⟨X, A, B, C, hx⟩ := lp
  simp at hx
  rw [← hL]
  simp [hx]
theorem flats_bytes : ∀ (l : Bytes), T.flats (l.map byteT) = true
  | [] => rfl
  | b :: r => by simp [T.flats, T.flat, flats_bytes r]
theorem fallen (l : Bytes) (f : Bool) (hl : l.length < 4294967296) : run E (.call 253 [.row 5 (l.map byteT), xB f]) = some (.res [xS (if f then turnP l else l)] [some (.row 5 ((if f then turnP l else l).map byteT))]) := by
  rw [run_call E 253 _ rfl Tryz.func253 rfl rfl rfl (by simp)]
  cases f with
  | false =>
    have hb := toBytes_map l
    simp [hb, flats_bytes]
  | true =>
    have lp := sk (fun s o q hI => loop_for (c := loopAt Tryz.f253 0) (N := 23)
      (fun i s o q => s 0 = .row 0 ∧ s 8 = .row 0 ∧ s 9 = .t (.int .i64 l.length) ∧ s 10 = .t (.int .i64 i) ∧ o 0 = .row 5 ((turnP (l.take i) ++ l.drop i).map byteT) true)
      (fun e s' o' q' => e = .exit 0 ∧ s' 0 = .row 0 ∧ o' 0 = .row 5 ((turnP l).map byteT) true) l.length
      (by
        rintro i s o q hi ⟨h0, h8, h9, h10, ho⟩
        have hi' : (i : Int) < (l.length : Int) := by omega
        have hw := wrap_succ (n := i) (by omega)
        have htw := turn_wrap l[i]
        have e : l.take (i + 1) = l.take i ++ [l[i]] := by rw [List.take_add_one, List.getElem?_eq_getElem hi]; rfl
        have hli : (turnP (l.take i)).length = i := by simp [turnP]; omega
        have hget : ((turnP (l.take i) ++ l.drop i).map byteT)[i]? = some (byteT l[i]) := by
          rw [List.getElem?_map, List.getElem?_append_right (by omega), hli]
          simp [List.getElem?_eq_getElem hi]
        have hset : ((turnP (l.take i) ++ l.drop i).map byteT).set i (byteT (turnB l[i])) = (turnP (l.take (i + 1)) ++ l.drop (i + 1)).map byteT := by
          have et : turnP (l.take (i + 1)) = turnP (l.take i) ++ [turnB l[i]] := by rw [e]; simp only [turnP, List.map_append, List.map_cons, List.map_nil]
          rw [et, List.drop_eq_getElem_cons hi, List.map_append, List.set_append_right _ _ (by simp; omega)]
          have hd : (l[i] :: l.drop (i + 1)).map byteT = byteT l[i] :: (l.drop (i + 1)).map byteT := rfl
          have hz : i - ((turnP (l.take i)).map byteT).length = 0 := by simp; omega
          rw [hd, hz, List.set_cons_zero, List.map_append, List.map_append, List.map_cons, List.map_nil, List.append_assoc]
          rfl
        generalize (turnP (l.take i) ++ l.drop i).map byteT = m at *
        generalize (turnP (l.take (i + 1)) ++ l.drop (i + 1)).map byteT = m' at *
        simp [loopAt, loopsOf, Tryz.f253, h0, h8, h9, h10, hi', hw, ho, htw, hget, hset])
      (by
        rintro s o q ⟨h0, h8, h9, h10, ho⟩
        simp only [List.take_length, List.drop_length, List.append_nil] at ho
        simp [loopAt, loopsOf, Tryz.f253, h0, h8, h9, h10, ho])
      l.length 0 s o q (by omega) hI)
    simp only [loopAt, loopsOf, Tryz.f253] at lp
    obtain ⟨X, A, B, C, hx⟩ := lp
    have hb := toBytes_map (turnP l)
    have hf := flats_bytes (turnP l)
    simp only [turnP] at hf
    simp [turnP] at hx hb hf
    simp [hx, hb, turnP, hf]
end Go.Xd
/- Keys of values: impl's putKey and keyOf. -/
set_option linter.unusedSimpArgs false
set_option linter.unusedVariables false
namespace Go.Xd
open Go.Ev Go.Proofs Go.Pu
set_option maxRecDepth 100000
set_option maxHeartbeats 16000000
theorem u8_wrap (n : Int) : IntKind.u8.wrap n = ((byteAt n 0).toNat : Int) := by
  have := byteAt_wrap n 0
  simpa using this
theorem numP_1 (n : Int) : numP n 1 = [byteAt n 0] := rfl
theorem putKey_small_row (d : Nat) (v : Val) (acc : Bytes) (h : okP d v = true) (ha : acc.length + 4096 ≤ 70368744177664) (hv : v.t.length < 1048576) (hk : v.k = 0 ∨ v.k = 1 ∨ v.k = 2 ∨ v.k = 3) : run E (.call 254 [.row 5 (acc.map byteT), xV v]) = some (.res [.row 5 ((acc ++ keyD d v).map byteT)] [none]) := by
  rw [run_call E 254 _ rfl Tryz.func254 rfl rfl rfl (by simp)]
  have hsz := okP_range h
  unfold keyD headK
  have hw : IntKind.i64.wrap (v.k + 1) = v.k + 1 := wrap_of (by omega) (by omega)
  have hu := u8_wrap (v.k + 1)
  have hu2 := u8_wrap v.n
  have hr1 : List.range 1 = [0] := rfl
  have hl1 : acc.length + 1 ≤ 140737488355328 := by omega
  have hl2 : acc.length + 1 + 1 ≤ 140737488355328 := by omega
  have hl8 : acc.length + 1 + 8 ≤ 140737488355328 := by omega
  rcases hk with hk | hk | hk | hk
  · have e0 : (v.k = 0) = True := by rw [hk]; simp
    have e1 : (v.k = 1) = False := by rw [hk]; simp
    have e2 : (v.k = 2) = False := by rw [hk]; simp
    have e3 : (v.k = 3) = False := by rw [hk]; simp
    have e4 : (v.k = 4) = False := by rw [hk]; simp
    have e5 : (v.k = 5) = False := by rw [hk]; simp
    clear hk
    simp [e0, e1, e2, e3, e4, e5, hw, hu, hr1, hl1, numP_1]
  · have e0 : (v.k = 0) = False := by rw [hk]; simp
    have e1 : (v.k = 1) = True := by rw [hk]; simp
    have e2 : (v.k = 2) = False := by rw [hk]; simp
    have e3 : (v.k = 3) = False := by rw [hk]; simp
    have e4 : (v.k = 4) = False := by rw [hk]; simp
    have e5 : (v.k = 5) = False := by rw [hk]; simp
    clear hk
    simp [e0, e1, e2, e3, e4, e5, hw, hu, hu2, hr1, hl1, hl2, numP_1]
  · have hw2 : IntKind.i64.wrap (v.n + 4611686018427387904) = v.n + 4611686018427387904 := wrap_of (by omega) (by omega)
    have he := eight (v.n + 4611686018427387904)
    have hlen := numP_len (v.n + 4611686018427387904) 8
    have e0 : (v.k = 0) = False := by rw [hk]; simp
    have e1 : (v.k = 1) = False := by rw [hk]; simp
    have e2 : (v.k = 2) = True := by rw [hk]; simp
    have e3 : (v.k = 3) = False := by rw [hk]; simp
    have e4 : (v.k = 4) = False := by rw [hk]; simp
    have e5 : (v.k = 5) = False := by rw [hk]; simp
    clear hk
    generalize numP (v.n + 4611686018427387904) 8 = w at *
    simp [e0, e1, e2, e3, e4, e5, hw, hw2, hu, he, hlen, hr1, hl1, hl8, numP_1]
  · have he := putText (acc ++ [byteAt (v.k + 1) 0]) v.t (by omega) (by simp <;> omega)
    simp at he
    have e0 : (v.k = 0) = False := by rw [hk]; simp
    have e1 : (v.k = 1) = False := by rw [hk]; simp
    have e2 : (v.k = 2) = False := by rw [hk]; simp
    have e3 : (v.k = 3) = True := by rw [hk]; simp
    have e4 : (v.k = 4) = False := by rw [hk]; simp
    have e5 : (v.k = 5) = False := by rw [hk]; simp
    clear hk
    simp [e0, e1, e2, e3, e4, e5, hw, hu, he, hr1, hl1, numP_1]
theorem putKey_small_nil (d : Nat) (v : Val)  (h : okP d v = true) (ha : ([] : Bytes).length + 4096 ≤ 70368744177664) (hv : v.t.length < 1048576) (hk : v.k = 0 ∨ v.k = 1 ∨ v.k = 2 ∨ v.k = 3) : run E (.call 254 [.nil, xV v]) = some (.res [.row 5 ((([] : Bytes) ++ keyD d v).map byteT)] [some .nil]) := by
  rw [run_call E 254 _ rfl Tryz.func254 rfl rfl rfl (by simp)]
  have hsz := okP_range h
  unfold keyD headK
  have hw : IntKind.i64.wrap (v.k + 1) = v.k + 1 := wrap_of (by omega) (by omega)
  have hu := u8_wrap (v.k + 1)
  have hu2 := u8_wrap v.n
  have hr1 : List.range 1 = [0] := rfl
  have hl1 : ([] : Bytes).length + 1 ≤ 140737488355328 := by omega
  have hl2 : ([] : Bytes).length + 1 + 1 ≤ 140737488355328 := by omega
  have hl8 : ([] : Bytes).length + 1 + 8 ≤ 140737488355328 := by omega
  rcases hk with hk | hk | hk | hk
  · have e0 : (v.k = 0) = True := by rw [hk]; simp
    have e1 : (v.k = 1) = False := by rw [hk]; simp
    have e2 : (v.k = 2) = False := by rw [hk]; simp
    have e3 : (v.k = 3) = False := by rw [hk]; simp
    have e4 : (v.k = 4) = False := by rw [hk]; simp
    have e5 : (v.k = 5) = False := by rw [hk]; simp
    clear hk
    simp [e0, e1, e2, e3, e4, e5, hw, hu, hr1, hl1, numP_1]
  · have e0 : (v.k = 0) = False := by rw [hk]; simp
    have e1 : (v.k = 1) = True := by rw [hk]; simp
    have e2 : (v.k = 2) = False := by rw [hk]; simp
    have e3 : (v.k = 3) = False := by rw [hk]; simp
    have e4 : (v.k = 4) = False := by rw [hk]; simp
    have e5 : (v.k = 5) = False := by rw [hk]; simp
    clear hk
    simp [e0, e1, e2, e3, e4, e5, hw, hu, hu2, hr1, hl1, hl2, numP_1]
  · have hw2 : IntKind.i64.wrap (v.n + 4611686018427387904) = v.n + 4611686018427387904 := wrap_of (by omega) (by omega)
    have he := eight (v.n + 4611686018427387904)
    have hlen := numP_len (v.n + 4611686018427387904) 8
    have e0 : (v.k = 0) = False := by rw [hk]; simp
    have e1 : (v.k = 1) = False := by rw [hk]; simp
    have e2 : (v.k = 2) = True := by rw [hk]; simp
    have e3 : (v.k = 3) = False := by rw [hk]; simp
    have e4 : (v.k = 4) = False := by rw [hk]; simp
    have e5 : (v.k = 5) = False := by rw [hk]; simp
    clear hk
    generalize numP (v.n + 4611686018427387904) 8 = w at *
    simp [e0, e1, e2, e3, e4, e5, hw, hw2, hu, he, hlen, hr1, hl1, hl8, numP_1]
  · have he := putText (([] : Bytes) ++ [byteAt (v.k + 1) 0]) v.t (by omega) (by simp <;> omega)
    simp at he
    have e0 : (v.k = 0) = False := by rw [hk]; simp
    have e1 : (v.k = 1) = False := by rw [hk]; simp
    have e2 : (v.k = 2) = False := by rw [hk]; simp
    have e3 : (v.k = 3) = True := by rw [hk]; simp
    have e4 : (v.k = 4) = False := by rw [hk]; simp
    have e5 : (v.k = 5) = False := by rw [hk]; simp
    clear hk
    simp [e0, e1, e2, e3, e4, e5, hw, hu, he, hr1, hl1, numP_1]
end Go.Xd
/- Keys of values: impl's putKey and keyOf. -/
set_option linter.unusedSimpArgs false
set_option linter.unusedVariables false
namespace Go.Xd
open Go.Ev Go.Proofs Go.Pu
set_option maxRecDepth 100000
set_option maxHeartbeats 16000000
theorem putKey_items_row (d : Nat) (ih : ∀ (v : Val) (acc : Bytes), okP d v = true → acc.length + (keyD d v).length + 4096 ≤ 70368744177664 → v.t.length < 1048576 → run E (.call 254 [.row 5 (acc.map byteT), xV v]) = some (.res [.row 5 ((acc ++ keyD d v).map byteT)] [none]))
    (v : Val) (acc : Bytes) (h : okP (d + 1) v = true) (ha : acc.length + (keyD (d + 1) v).length + 4096 ≤ 70368744177664) (hv : v.t.length < 1048576) (hk : v.k = 4) : run E (.call 254 [.row 5 (acc.map byteT), xV v]) = some (.res [.row 5 ((acc ++ keyD (d + 1) v).map byteT)] [none]) := by
  rw [run_call E 254 _ rfl Tryz.func254 rfl rfl rfl (by simp)]
  obtain ⟨e, xs, hd, _, hit, hx⟩ := okP_list h hk
  obtain rfl : d = e := by omega
  have hi := implItems v (by omega)
  rw [itemsI_some hit] at hi
  simp at hi
  obtain ⟨hs1, hs2⟩ := items_small hit
  have hw : IntKind.i64.wrap (v.k + 1) = v.k + 1 := wrap_of (by omega) (by omega)
  have hu := u8_wrap (v.k + 1)
  have hr1 : List.range 1 = [0] := rfl
  have e0 : (v.k = 0) = False := by rw [hk]; simp
  have e1 : (v.k = 1) = False := by rw [hk]; simp
  have e2 : (v.k = 2) = False := by rw [hk]; simp
  have e3 : (v.k = 3) = False := by rw [hk]; simp
  have e4 : (v.k = 4) = True := by rw [hk]; simp
  have eL : itemsL v.t = xs := by simp [itemsL, hit]
  have ekey : keyD (d + 1) v = byteAt (v.k + 1) 0 :: (xs.flatMap (keyD d) ++ [0]) := by simp [keyD, e0, e1, e2, e3, e4, eL, headK, numP_1]
  rw [ekey] at ha ⊢
  clear hk
  have lp := fun (ri : Nat) (hri0 : 0 < ri) (R : Bytes) (hR : R = acc ++ [byteAt (v.k + 1) 0] ++ xs.flatMap (keyD d)) => sk1 (fun s o q hI => loop_for (c := loopAt Tryz.f254 0) (N := 91)
    (fun i s o q => ∃ r acc', s 0 = .row r ∧ o r = .row 5 (acc'.map byteT) true ∧ r < q ∧ s 51 = .row ri ∧ o ri = .row 35 (xs.map valT) true ∧ ri < q ∧ ri ≠ r ∧ 0 < r ∧ s 52 = .t (.int .i64 xs.length) ∧ s 53 = .t (.int .i64 i) ∧ o 0 = .dead ∧ R = acc' ++ (xs.drop i).flatMap (keyD d))
    (fun e s' o' q' => ∃ r, e = .exit 1 ∧ s' 0 = .row r ∧ o' r = .row 5 (R.map byteT) true ∧ ¬ r = q' ∧ ¬ q' = r ∧ ¬ r = q' + 1 ∧ ¬ q' = 0 ∧ ¬ 0 = q' ∧ ¬ r = 0 ∧ ¬ 0 = r ∧ o' 0 = .dead) xs.length
    (by
      rintro i s o q hi ⟨r, acc', h0, hor, hrq, h51, hori, hriq, hne, hr0, h52, h53, hdd, hp⟩
      have hi' : (i : Int) < (xs.length : Int) := by omega
      have hwi := wrap_succ (n := i) (by omega)
      have hxi : xs[i]? = some xs[i] := List.getElem?_eq_getElem hi
      rw [flat_drop _ _ _ hi, ← List.append_assoc] at hp
      have hlen : acc'.length + (keyD d xs[i]).length + 4096 ≤ 70368744177664 := by
        have h1 := congrArg List.length hp
        have h2 := congrArg List.length hR
        simp at h1 h2 ha
        omega
      have hr := ih xs[i] acc' (hx _ (List.getElem_mem hi)) hlen (by have := hs2 _ (List.getElem_mem hi); omega)
      have g1 : ¬ r = q := by omega
      have g2 : ¬ q = r := by omega
      have g3 : ¬ ri = q := by omega
      have g4 : ¬ q = ri := by omega
      have g5 : ¬ r = q + 1 := by omega
      have g6 : ¬ ri = q + 1 := by omega
      have g7 : ¬ q = 0 := by omega
      have g8 : ¬ 0 = q := by omega
      have g9 : ¬ r = ri := fun h => hne h.symm
      have g10 : ¬ 0 = r := by omega
      have g11 : ¬ r = 0 := by omega
      have g12 : ¬ ri = 0 := by omega
      have g13 : ¬ q + 1 = ri := by omega
      simp [loopAt, loopsOf, Tryz.f254, h0, hor, h51, hori, h52, h53, hi, hi', hwi, hxi, hr, g1, g2, g3, g4, g5, g6, g7, g8, g9, g10, g11, g12, g13, hne, hdd]
      exact ⟨acc' ++ keyD d xs[i], by simp, by omega, hp⟩)
    (by
      rintro s o q ⟨r, acc', h0, hor, hrq, h51, hori, hriq, hne, hr0, h52, h53, hdd, hp⟩
      simp at hp
      subst hp
      have g1 : ¬ r = q := by omega
      have g2 : ¬ q = r := by omega
      have g5 : ¬ r = q + 1 := by omega
      have g7 : ¬ q = 0 := by omega
      have g8 : ¬ 0 = q := by omega
      have g10 : ¬ 0 = r := by omega
      have g11 : ¬ r = 0 := by omega
      simp [loopAt, loopsOf, Tryz.f254, h0, hor, h51, hori, h52, h53, g1, g2, g5, g7, g8, g10, g11, hdd])
    xs.length 0 s o q (by omega) hI)
  simp only [loopAt, loopsOf, Tryz.f254] at lp
  obtain ⟨R, hR⟩ : ∃ R, R = acc ++ [byteAt (v.k + 1) 0] ++ xs.flatMap (keyD d) := ⟨_, rfl⟩
  obtain ⟨X, A, B, C, M, hl⟩ := lp 4 (by omega) R hR
  have hl' := fun s o q r a0 a1 a2 a3 a4 a5 a6 a7 a8 a9 a10 => hl s o q ⟨r, acc ++ [byteAt (v.k + 1) 0], a0, a1, a2, a3, a4, a5, a6, a7, a8, a9, a10, by simpa using hR⟩
  clear hl lp
  have hlR : R.length + 1 ≤ 140737488355328 := by
    have h2 := congrArg List.length hR
    simp at h2 ha
    omega
  have hl1 : acc.length + 1 ≤ 140737488355328 := by simp at ha ⊢ <;> omega
  have hfin : acc ++ byteAt (v.k + 1) 0 :: (xs.flatMap (keyD d) ++ [0]) = R ++ [0] := by rw [hR]; simp
  rw [hfin]
  clear hfin hR ekey
  simp at hl'
  simp [e0, e1, e2, e3, e4, hw, hu, hi, hl', hlR, hr1, hl1]
theorem putKey_items_nil (d : Nat) (ih : ∀ (v : Val) (acc : Bytes), okP d v = true → acc.length + (keyD d v).length + 4096 ≤ 70368744177664 → v.t.length < 1048576 → run E (.call 254 [.row 5 (acc.map byteT), xV v]) = some (.res [.row 5 ((acc ++ keyD d v).map byteT)] [none]))
    (v : Val)  (h : okP (d + 1) v = true) (ha : ([] : Bytes).length + (keyD (d + 1) v).length + 4096 ≤ 70368744177664) (hv : v.t.length < 1048576) (hk : v.k = 4) : run E (.call 254 [.nil, xV v]) = some (.res [.row 5 ((([] : Bytes) ++ keyD (d + 1) v).map byteT)] [some .nil]) := by
  rw [run_call E 254 _ rfl Tryz.func254 rfl rfl rfl (by simp)]
  obtain ⟨e, xs, hd, _, hit, hx⟩ := okP_list h hk
  obtain rfl : d = e := by omega
  have hi := implItems v (by omega)
  rw [itemsI_some hit] at hi
  simp at hi
  obtain ⟨hs1, hs2⟩ := items_small hit
  have hw : IntKind.i64.wrap (v.k + 1) = v.k + 1 := wrap_of (by omega) (by omega)
  have hu := u8_wrap (v.k + 1)
  have hr1 : List.range 1 = [0] := rfl
  have e0 : (v.k = 0) = False := by rw [hk]; simp
  have e1 : (v.k = 1) = False := by rw [hk]; simp
  have e2 : (v.k = 2) = False := by rw [hk]; simp
  have e3 : (v.k = 3) = False := by rw [hk]; simp
  have e4 : (v.k = 4) = True := by rw [hk]; simp
  have eL : itemsL v.t = xs := by simp [itemsL, hit]
  have ekey : keyD (d + 1) v = byteAt (v.k + 1) 0 :: (xs.flatMap (keyD d) ++ [0]) := by simp [keyD, e0, e1, e2, e3, e4, eL, headK, numP_1]
  rw [ekey] at ha ⊢
  clear hk
  have lp := fun (ri : Nat) (hri0 : 0 < ri) (R : Bytes) (hR : R = ([] : Bytes) ++ [byteAt (v.k + 1) 0] ++ xs.flatMap (keyD d)) => sk1 (fun s o q hI => loop_for (c := loopAt Tryz.f254 0) (N := 91)
    (fun i s o q => ∃ r acc', s 0 = .row r ∧ o r = .row 5 (acc'.map byteT) true ∧ r < q ∧ s 51 = .row ri ∧ o ri = .row 35 (xs.map valT) true ∧ ri < q ∧ ri ≠ r ∧ 0 < r ∧ s 52 = .t (.int .i64 xs.length) ∧ s 53 = .t (.int .i64 i) ∧ True ∧ R = acc' ++ (xs.drop i).flatMap (keyD d))
    (fun e s' o' q' => ∃ r, e = .exit 1 ∧ s' 0 = .row r ∧ o' r = .row 5 (R.map byteT) true ∧ ¬ r = q' ∧ ¬ q' = r ∧ ¬ r = q' + 1 ∧ ¬ q' = 0 ∧ ¬ 0 = q' ∧ ¬ r = 0 ∧ ¬ 0 = r ∧ True) xs.length
    (by
      rintro i s o q hi ⟨r, acc', h0, hor, hrq, h51, hori, hriq, hne, hr0, h52, h53, hdd, hp⟩
      have hi' : (i : Int) < (xs.length : Int) := by omega
      have hwi := wrap_succ (n := i) (by omega)
      have hxi : xs[i]? = some xs[i] := List.getElem?_eq_getElem hi
      rw [flat_drop _ _ _ hi, ← List.append_assoc] at hp
      have hlen : acc'.length + (keyD d xs[i]).length + 4096 ≤ 70368744177664 := by
        have h1 := congrArg List.length hp
        have h2 := congrArg List.length hR
        simp at h1 h2 ha
        omega
      have hr := ih xs[i] acc' (hx _ (List.getElem_mem hi)) hlen (by have := hs2 _ (List.getElem_mem hi); omega)
      have g1 : ¬ r = q := by omega
      have g2 : ¬ q = r := by omega
      have g3 : ¬ ri = q := by omega
      have g4 : ¬ q = ri := by omega
      have g5 : ¬ r = q + 1 := by omega
      have g6 : ¬ ri = q + 1 := by omega
      have g7 : ¬ q = 0 := by omega
      have g8 : ¬ 0 = q := by omega
      have g9 : ¬ r = ri := fun h => hne h.symm
      have g10 : ¬ 0 = r := by omega
      have g11 : ¬ r = 0 := by omega
      have g12 : ¬ ri = 0 := by omega
      have g13 : ¬ q + 1 = ri := by omega
      simp [loopAt, loopsOf, Tryz.f254, h0, hor, h51, hori, h52, h53, hi, hi', hwi, hxi, hr, g1, g2, g3, g4, g5, g6, g7, g8, g9, g10, g11, g12, g13, hne, hdd]
      exact ⟨acc' ++ keyD d xs[i], by simp, by omega, hp⟩)
    (by
      rintro s o q ⟨r, acc', h0, hor, hrq, h51, hori, hriq, hne, hr0, h52, h53, hdd, hp⟩
      simp at hp
      subst hp
      have g1 : ¬ r = q := by omega
      have g2 : ¬ q = r := by omega
      have g5 : ¬ r = q + 1 := by omega
      have g7 : ¬ q = 0 := by omega
      have g8 : ¬ 0 = q := by omega
      have g10 : ¬ 0 = r := by omega
      have g11 : ¬ r = 0 := by omega
      simp [loopAt, loopsOf, Tryz.f254, h0, hor, h51, hori, h52, h53, g1, g2, g5, g7, g8, g10, g11, hdd])
    xs.length 0 s o q (by omega) hI)
  simp only [loopAt, loopsOf, Tryz.f254] at lp
  obtain ⟨R, hR⟩ : ∃ R, R = ([] : Bytes) ++ [byteAt (v.k + 1) 0] ++ xs.flatMap (keyD d) := ⟨_, rfl⟩
  obtain ⟨X, A, B, C, M, hl⟩ := lp 3 (by omega) R hR
  have hl' := fun s o q r a0 a1 a2 a3 a4 a5 a6 a7 a8 a9 a10 => hl s o q ⟨r, ([] : Bytes) ++ [byteAt (v.k + 1) 0], a0, a1, a2, a3, a4, a5, a6, a7, a8, a9, a10, by simpa using hR⟩
  clear hl lp
  have hlR : R.length + 1 ≤ 140737488355328 := by
    have h2 := congrArg List.length hR
    simp at h2 ha
    omega
  have hl1 : ([] : Bytes).length + 1 ≤ 140737488355328 := by simp at ha ⊢ <;> omega
  have hfin : ([] : Bytes) ++ byteAt (v.k + 1) 0 :: (xs.flatMap (keyD d) ++ [0]) = R ++ [0] := by rw [hR]; simp
  rw [hfin]
  clear hfin hR ekey
  simp at hl'
  simp [e0, e1, e2, e3, e4, hw, hu, hi, hl', hlR, hr1, hl1]
end Go.Xd
/- Keys of values: impl's putKey and keyOf. -/
set_option linter.unusedSimpArgs false
set_option linter.unusedVariables false
namespace Go.Xd
open Go.Ev Go.Proofs Go.Pu
set_option maxRecDepth 100000
set_option maxHeartbeats 16000000
theorem putKey_fields_row (d : Nat) (ih : ∀ (v : Val) (acc : Bytes), okP d v = true → acc.length + (keyD d v).length + 4096 ≤ 70368744177664 → v.t.length < 1048576 → run E (.call 254 [.row 5 (acc.map byteT), xV v]) = some (.res [.row 5 ((acc ++ keyD d v).map byteT)] [none]))
    (v : Val) (acc : Bytes) (h : okP (d + 1) v = true) (ha : acc.length + (keyD (d + 1) v).length + 4096 ≤ 70368744177664) (hv : v.t.length < 1048576) (hk : v.k = 5) : run E (.call 254 [.row 5 (acc.map byteT), xV v]) = some (.res [.row 5 ((acc ++ keyD (d + 1) v).map byteT)] [none]) := by
  rw [run_call E 254 _ rfl Tryz.func254 rfl rfl rfl (by simp)]
  obtain ⟨e, xs, hd, _, hit, _, hx⟩ := okP_doc h hk
  obtain rfl : d = e := by omega
  have hi := implFields v (by omega)
  rw [fieldsI_some hit] at hi
  simp at hi
  obtain ⟨hs1, hs2⟩ := fields_small hit
  have hw : IntKind.i64.wrap (v.k + 1) = v.k + 1 := wrap_of (by omega) (by omega)
  have hu := u8_wrap (v.k + 1)
  have hr1 : List.range 1 = [0] := rfl
  have e0 : (v.k = 0) = False := by rw [hk]; simp
  have e1 : (v.k = 1) = False := by rw [hk]; simp
  have e2 : (v.k = 2) = False := by rw [hk]; simp
  have e3 : (v.k = 3) = False := by rw [hk]; simp
  have e4 : (v.k = 4) = False := by rw [hk]; simp
  have e5 : (v.k = 5) = True := by rw [hk]; simp
  have eL : fieldsL v.t = xs := by simp [fieldsL, hit]
  obtain ⟨F, hF⟩ : ∃ F : Fld → Bytes, F = (fun f => [1] ++ escP f.name ++ keyD d f.v) := ⟨_, rfl⟩
  have hFx : ∀ f, F f = 1 :: (escP f.name ++ keyD d f.v) := by intro f; rw [hF]; simp
  have hFl : ∀ f, (F f).length = 1 + (escP f.name).length + (keyD d f.v).length := by intro f; rw [hF]; simp; omega
  have ekey : keyD (d + 1) v = byteAt (v.k + 1) 0 :: (xs.flatMap F ++ [0]) := by rw [hF]; simp [keyD, e0, e1, e2, e3, e4, eL, headK, numP_1]
  clear hF
  have n22 := n254_22
  have s22 := s254_22
  simp [regionOf, findR, pick, Tryz.f254] at n22 s22
  have dd := fun st => run_region_drawS E st 22 _ n22 s22
  clear n22 s22
  rw [ekey] at ha ⊢
  clear hk
  have lp := fun (ri : Nat) (hri0 : 0 < ri) (R : Bytes) (hR : R = acc ++ [byteAt (v.k + 1) 0] ++ xs.flatMap F) => sk1 (fun s o q hI => loop_for (c := loopAt Tryz.f254 1) (N := 91)
    (fun i s o q => ∃ r acc', s 0 = .row r ∧ o r = .row 5 (acc'.map byteT) true ∧ r < q ∧ s 71 = .row ri ∧ o ri = .row 125 (xs.map fldT) true ∧ ri < q ∧ ri ≠ r ∧ 0 < r ∧ s 72 = .t (.int .i64 xs.length) ∧ s 73 = .t (.int .i64 i) ∧ o 0 = .dead ∧ R = acc' ++ (xs.drop i).flatMap F)
    (fun e s' o' q' => ∃ r, e = .exit 3 ∧ s' 0 = .row r ∧ o' r = .row 5 (R.map byteT) true ∧ ¬ r = q' ∧ ¬ q' = r ∧ ¬ r = q' + 1 ∧ ¬ q' = 0 ∧ ¬ 0 = q' ∧ ¬ r = 0 ∧ ¬ 0 = r ∧ o' 0 = .dead) xs.length
    (by
      rintro i s o q hi ⟨r, acc', h0, hor, hrq, h51, hori, hriq, hne, hr0, h52, h53, hdd, hp⟩
      have hi' : (i : Int) < (xs.length : Int) := by omega
      have hwi := wrap_succ (n := i) (by omega)
      have hxi : xs[i]? = some xs[i] := List.getElem?_eq_getElem hi
      rw [flat_drop _ _ _ hi, ← List.append_assoc] at hp
      have hlen : acc'.length + (F xs[i]).length + 4096 ≤ 70368744177664 := by
        have h1 := congrArg List.length hp
        have h2 := congrArg List.length hR
        simp at h1 h2 ha
        omega
      have hsm := hs2 _ (List.getElem_mem hi)
      have hFi := hFx xs[i]
      have hFk := hFl xs[i]
      have hpt := putText (acc' ++ [1]) xs[i].name (by omega) (by simp; omega)
      have hr := ih xs[i].v (acc' ++ [1] ++ escP xs[i].name) (hx _ (List.getElem_mem hi)).2 (by simp; omega) (by omega)
      have hb1 : acc'.length + 1 ≤ 140737488355328 := by omega
      have hb1' : byteT 1 = T.int IntKind.u8 1 := rfl
      simp [hb1'] at hpt hr
      rw [hFi] at hp
      have g1 : ¬ r = q := by omega
      have g2 : ¬ q = r := by omega
      have g3 : ¬ ri = q := by omega
      have g4 : ¬ q = ri := by omega
      have g5 : ¬ r = q + 1 := by omega
      have g6 : ¬ ri = q + 1 := by omega
      have g7 : ¬ q = 0 := by omega
      have g8 : ¬ 0 = q := by omega
      have g9 : ¬ r = ri := fun h => hne h.symm
      have g10 : ¬ 0 = r := by omega
      have g11 : ¬ r = 0 := by omega
      have g12 : ¬ ri = 0 := by omega
      have g13 : ¬ q + 1 = ri := by omega
      have g14 : ¬ q + 1 + 1 = ri := by omega
      have g15 : ¬ q + 1 + 1 + 1 = ri := by omega
      have g16 : ¬ ri = q + 1 + 1 := by omega
      have g17 : ¬ ri = q + 1 + 1 + 1 := by omega
      have g18 : ¬ q = q + 1 + 1 := by omega
      simp [loopAt, loopsOf, Tryz.f254, h0, hor, h51, hori, h52, h53, hi, hi', hwi, hxi, hr, hpt, hb1, hr1, dd, g1, g2, g3, g4, g5, g6, g7, g8, g9, g10, g11, g12, g13, g14, g15, g16, g17, g18, hne, hdd]
      exact ⟨acc' ++ 1 :: (escP xs[i].name ++ keyD d xs[i].v), by simp [hb1'], by omega, hp⟩)
    (by
      rintro s o q ⟨r, acc', h0, hor, hrq, h51, hori, hriq, hne, hr0, h52, h53, hdd, hp⟩
      simp at hp
      subst hp
      have g1 : ¬ r = q := by omega
      have g2 : ¬ q = r := by omega
      have g5 : ¬ r = q + 1 := by omega
      have g7 : ¬ q = 0 := by omega
      have g8 : ¬ 0 = q := by omega
      have g10 : ¬ 0 = r := by omega
      have g11 : ¬ r = 0 := by omega
      simp [loopAt, loopsOf, Tryz.f254, h0, hor, h51, hori, h52, h53, g1, g2, g5, g7, g8, g10, g11, hdd])
    xs.length 0 s o q (by omega) hI)
  simp only [loopAt, loopsOf, Tryz.f254] at lp
  obtain ⟨R, hR⟩ : ∃ R, R = acc ++ [byteAt (v.k + 1) 0] ++ xs.flatMap F := ⟨_, rfl⟩
  obtain ⟨X, A, B, C, M, hl⟩ := lp 4 (by omega) R hR
  have hl' := fun s o q r a0 a1 a2 a3 a4 a5 a6 a7 a8 a9 a10 => hl s o q ⟨r, acc ++ [byteAt (v.k + 1) 0], a0, a1, a2, a3, a4, a5, a6, a7, a8, a9, a10, by simpa using hR⟩
  clear hl lp
  have hlR : R.length + 1 ≤ 140737488355328 := by
    have h2 := congrArg List.length hR
    simp at h2 ha
    omega
  have hl1 : acc.length + 1 ≤ 140737488355328 := by simp at ha ⊢ <;> omega
  have hfin : acc ++ byteAt (v.k + 1) 0 :: (xs.flatMap F ++ [0]) = R ++ [0] := by rw [hR]; simp
  rw [hfin]
  clear hfin hR ekey
  simp at hl'
  simp [e0, e1, e2, e3, e4, e5, hw, hu, hi, hl', hlR, hr1, hl1]
theorem putKey_fields_nil (d : Nat) (ih : ∀ (v : Val) (acc : Bytes), okP d v = true → acc.length + (keyD d v).length + 4096 ≤ 70368744177664 → v.t.length < 1048576 → run E (.call 254 [.row 5 (acc.map byteT), xV v]) = some (.res [.row 5 ((acc ++ keyD d v).map byteT)] [none]))
    (v : Val)  (h : okP (d + 1) v = true) (ha : ([] : Bytes).length + (keyD (d + 1) v).length + 4096 ≤ 70368744177664) (hv : v.t.length < 1048576) (hk : v.k = 5) : run E (.call 254 [.nil, xV v]) = some (.res [.row 5 ((([] : Bytes) ++ keyD (d + 1) v).map byteT)] [some .nil]) := by
  rw [run_call E 254 _ rfl Tryz.func254 rfl rfl rfl (by simp)]
  obtain ⟨e, xs, hd, _, hit, _, hx⟩ := okP_doc h hk
  obtain rfl : d = e := by omega
  have hi := implFields v (by omega)
  rw [fieldsI_some hit] at hi
  simp at hi
  obtain ⟨hs1, hs2⟩ := fields_small hit
  have hw : IntKind.i64.wrap (v.k + 1) = v.k + 1 := wrap_of (by omega) (by omega)
  have hu := u8_wrap (v.k + 1)
  have hr1 : List.range 1 = [0] := rfl
  have e0 : (v.k = 0) = False := by rw [hk]; simp
  have e1 : (v.k = 1) = False := by rw [hk]; simp
  have e2 : (v.k = 2) = False := by rw [hk]; simp
  have e3 : (v.k = 3) = False := by rw [hk]; simp
  have e4 : (v.k = 4) = False := by rw [hk]; simp
  have e5 : (v.k = 5) = True := by rw [hk]; simp
  have eL : fieldsL v.t = xs := by simp [fieldsL, hit]
  obtain ⟨F, hF⟩ : ∃ F : Fld → Bytes, F = (fun f => [1] ++ escP f.name ++ keyD d f.v) := ⟨_, rfl⟩
  have hFx : ∀ f, F f = 1 :: (escP f.name ++ keyD d f.v) := by intro f; rw [hF]; simp
  have hFl : ∀ f, (F f).length = 1 + (escP f.name).length + (keyD d f.v).length := by intro f; rw [hF]; simp; omega
  have ekey : keyD (d + 1) v = byteAt (v.k + 1) 0 :: (xs.flatMap F ++ [0]) := by rw [hF]; simp [keyD, e0, e1, e2, e3, e4, eL, headK, numP_1]
  clear hF
  have n22 := n254_22
  have s22 := s254_22
  simp [regionOf, findR, pick, Tryz.f254] at n22 s22
  have dd := fun st => run_region_drawS E st 22 _ n22 s22
  clear n22 s22
  rw [ekey] at ha ⊢
  clear hk
  have lp := fun (ri : Nat) (hri0 : 0 < ri) (R : Bytes) (hR : R = ([] : Bytes) ++ [byteAt (v.k + 1) 0] ++ xs.flatMap F) => sk1 (fun s o q hI => loop_for (c := loopAt Tryz.f254 1) (N := 91)
    (fun i s o q => ∃ r acc', s 0 = .row r ∧ o r = .row 5 (acc'.map byteT) true ∧ r < q ∧ s 71 = .row ri ∧ o ri = .row 125 (xs.map fldT) true ∧ ri < q ∧ ri ≠ r ∧ 0 < r ∧ s 72 = .t (.int .i64 xs.length) ∧ s 73 = .t (.int .i64 i) ∧ True ∧ R = acc' ++ (xs.drop i).flatMap F)
    (fun e s' o' q' => ∃ r, e = .exit 3 ∧ s' 0 = .row r ∧ o' r = .row 5 (R.map byteT) true ∧ ¬ r = q' ∧ ¬ q' = r ∧ ¬ r = q' + 1 ∧ ¬ q' = 0 ∧ ¬ 0 = q' ∧ ¬ r = 0 ∧ ¬ 0 = r ∧ True) xs.length
    (by
      rintro i s o q hi ⟨r, acc', h0, hor, hrq, h51, hori, hriq, hne, hr0, h52, h53, hdd, hp⟩
      have hi' : (i : Int) < (xs.length : Int) := by omega
      have hwi := wrap_succ (n := i) (by omega)
      have hxi : xs[i]? = some xs[i] := List.getElem?_eq_getElem hi
      rw [flat_drop _ _ _ hi, ← List.append_assoc] at hp
      have hlen : acc'.length + (F xs[i]).length + 4096 ≤ 70368744177664 := by
        have h1 := congrArg List.length hp
        have h2 := congrArg List.length hR
        simp at h1 h2 ha
        omega
      have hsm := hs2 _ (List.getElem_mem hi)
      have hFi := hFx xs[i]
      have hFk := hFl xs[i]
      have hpt := putText (acc' ++ [1]) xs[i].name (by omega) (by simp; omega)
      have hr := ih xs[i].v (acc' ++ [1] ++ escP xs[i].name) (hx _ (List.getElem_mem hi)).2 (by simp; omega) (by omega)
      have hb1 : acc'.length + 1 ≤ 140737488355328 := by omega
      have hb1' : byteT 1 = T.int IntKind.u8 1 := rfl
      simp [hb1'] at hpt hr
      rw [hFi] at hp
      have g1 : ¬ r = q := by omega
      have g2 : ¬ q = r := by omega
      have g3 : ¬ ri = q := by omega
      have g4 : ¬ q = ri := by omega
      have g5 : ¬ r = q + 1 := by omega
      have g6 : ¬ ri = q + 1 := by omega
      have g7 : ¬ q = 0 := by omega
      have g8 : ¬ 0 = q := by omega
      have g9 : ¬ r = ri := fun h => hne h.symm
      have g10 : ¬ 0 = r := by omega
      have g11 : ¬ r = 0 := by omega
      have g12 : ¬ ri = 0 := by omega
      have g13 : ¬ q + 1 = ri := by omega
      have g14 : ¬ q + 1 + 1 = ri := by omega
      have g15 : ¬ q + 1 + 1 + 1 = ri := by omega
      have g16 : ¬ ri = q + 1 + 1 := by omega
      have g17 : ¬ ri = q + 1 + 1 + 1 := by omega
      have g18 : ¬ q = q + 1 + 1 := by omega
      simp [loopAt, loopsOf, Tryz.f254, h0, hor, h51, hori, h52, h53, hi, hi', hwi, hxi, hr, hpt, hb1, hr1, dd, g1, g2, g3, g4, g5, g6, g7, g8, g9, g10, g11, g12, g13, g14, g15, g16, g17, g18, hne, hdd]
      exact ⟨acc' ++ 1 :: (escP xs[i].name ++ keyD d xs[i].v), by simp [hb1'], by omega, hp⟩)
    (by
      rintro s o q ⟨r, acc', h0, hor, hrq, h51, hori, hriq, hne, hr0, h52, h53, hdd, hp⟩
      simp at hp
      subst hp
      have g1 : ¬ r = q := by omega
      have g2 : ¬ q = r := by omega
      have g5 : ¬ r = q + 1 := by omega
      have g7 : ¬ q = 0 := by omega
      have g8 : ¬ 0 = q := by omega
      have g10 : ¬ 0 = r := by omega
      have g11 : ¬ r = 0 := by omega
      simp [loopAt, loopsOf, Tryz.f254, h0, hor, h51, hori, h52, h53, g1, g2, g5, g7, g8, g10, g11, hdd])
    xs.length 0 s o q (by omega) hI)
  simp only [loopAt, loopsOf, Tryz.f254] at lp
  obtain ⟨R, hR⟩ : ∃ R, R = ([] : Bytes) ++ [byteAt (v.k + 1) 0] ++ xs.flatMap F := ⟨_, rfl⟩
  obtain ⟨X, A, B, C, M, hl⟩ := lp 3 (by omega) R hR
  have hl' := fun s o q r a0 a1 a2 a3 a4 a5 a6 a7 a8 a9 a10 => hl s o q ⟨r, ([] : Bytes) ++ [byteAt (v.k + 1) 0], a0, a1, a2, a3, a4, a5, a6, a7, a8, a9, a10, by simpa using hR⟩
  clear hl lp
  have hlR : R.length + 1 ≤ 140737488355328 := by
    have h2 := congrArg List.length hR
    simp at h2 ha
    omega
  have hl1 : ([] : Bytes).length + 1 ≤ 140737488355328 := by simp at ha ⊢ <;> omega
  have hfin : ([] : Bytes) ++ byteAt (v.k + 1) 0 :: (xs.flatMap F ++ [0]) = R ++ [0] := by rw [hR]; simp
  rw [hfin]
  clear hfin hR ekey
  simp at hl'
  simp [e0, e1, e2, e3, e4, e5, hw, hu, hi, hl', hlR, hr1, hl1]
end Go.Xd
/- Keys of values: impl's putKey and keyOf. -/
set_option linter.unusedSimpArgs false
set_option linter.unusedVariables false
namespace Go.Xd
open Go.Ev Go.Proofs Go.Pu
set_option maxRecDepth 100000
set_option maxHeartbeats 16000000
theorem putKey : ∀ (d : Nat) (v : Val) (acc : Bytes), okP d v = true → acc.length + (keyD d v).length + 4096 ≤ 70368744177664 → v.t.length < 1048576 → run E (.call 254 [.row 5 (acc.map byteT), xV v]) = some (.res [.row 5 ((acc ++ keyD d v).map byteT)] [none]) := by
  intro d
  induction d with
  | zero =>
    intro v acc h ha hv
    refine putKey_small_row 0 v acc h (by omega) hv ?_
    unfold okP at h
    by_cases h0 : v.k = 0; · omega
    by_cases h1 : v.k = 1; · omega
    by_cases h2 : v.k = 2; · omega
    by_cases h3 : v.k = 3; · omega
    simp [h0, h1, h2, h3] at h
  | succ d ih =>
    intro v acc h ha hv
    have hr := okP_range h
    by_cases h4 : v.k = 4
    · exact putKey_items_row d (fun v acc h1 h2 h3 => ih v acc h1 h2 h3) v acc h ha hv h4
    · by_cases h5 : v.k = 5
      · exact putKey_fields_row d (fun v acc h1 h2 h3 => ih v acc h1 h2 h3) v acc h ha hv h5
      · exact putKey_small_row (d + 1) v acc h (by omega) hv (by omega)
theorem putKeyNil (d : Nat) (v : Val) (h : okP d v = true) (hv : v.t.length < 1048576) : run E (.call 254 [.nil, xV v]) = some (.res [.row 5 ((keyD d v).map byteT)] [some .nil]) := by
  have hr := okP_range h
  have hl := keyD_len d v h
  cases d with
  | zero =>
    refine putKey_small_nil 0 v h (by simp) hv ?_
    unfold okP at h
    by_cases h0 : v.k = 0; · omega
    by_cases h1 : v.k = 1; · omega
    by_cases h2 : v.k = 2; · omega
    by_cases h3 : v.k = 3; · omega
    simp [h0, h1, h2, h3] at h
  | succ d =>
    by_cases h4 : v.k = 4
    · exact putKey_items_nil d (fun v acc h1 h2 h3 => putKey d v acc h1 h2 h3) v h (by simp; omega) hv h4
    · by_cases h5 : v.k = 5
      · exact putKey_fields_nil d (fun v acc h1 h2 h3 => putKey d v acc h1 h2 h3) v h (by simp; omega) hv h5
      · exact putKey_small_nil (d + 1) v h (by simp) hv (by omega)
theorem keyOf (d : Nat) (v : Val) (f : Bool) (h : okP d v = true) (hv : v.t.length < 1048576) : run E (.call 150 [xV v, xB f]) = some (.res [xS (if f then turnP (keyD d v) else keyD d v)] []) := by
  rw [run_call E 150 _ rfl Tryz.func150 rfl rfl rfl (by simp)]
  have h1 := putKeyNil d v h hv
  have hl := keyD_len d v h
  have h2 := fallen (keyD d v) f (by omega)
  cases f <;> simp at h2 <;> simp [h1, h2]
end Go.Xd
/- Keys of values: no two values have one key; what a key begins with. -/
set_option linter.unusedSimpArgs false
set_option linter.unusedVariables false
namespace Go.Xd
open Go.Ev Go.Proofs Go.Pu
set_option maxRecDepth 100000
set_option maxHeartbeats 4000000
theorem byteAt_nat (n : Int) (j : Nat) (h0 : 0 ≤ n) : ((byteAt n j).toNat : Int) = n / 2 ^ (8 * j) % 256 := by
  rw [← byteAt_wrap]
  rw [Int.fdiv_eq_ediv_of_nonneg _ (Int.pow_nonneg (by omega))]
  simp [IntKind.wrap, IntKind.bits, IntKind.signed]
theorem byteAt_small {a b : Int} (ha : 0 ≤ a ∧ a < 256) (hb : 0 ≤ b ∧ b < 256) (h : byteAt a 0 = byteAt b 0) : a = b := by
  have h1 := byteAt_nat a 0 ha.1
  have h2 := byteAt_nat b 0 hb.1
  rw [h] at h1
  simp at h1 h2
  omega
theorem numP8_inj {a b : Int} (ha : 0 ≤ a ∧ a < 9223372036854775808) (hb : 0 ≤ b ∧ b < 9223372036854775808) (h : numP a 8 = numP b 8) : a = b := by
  simp only [numP, List.cons.injEq] at h
  obtain ⟨h7, h6, h5, h4, h3, h2, h1, h0, _⟩ := h
  have e : ∀ j, byteAt a j = byteAt b j → a / 2 ^ (8 * j) % 256 = b / 2 ^ (8 * j) % 256 := fun j h => by
    rw [← byteAt_nat a j ha.1, ← byteAt_nat b j hb.1, h]
  have q0 := e 0 h0
  have q1 := e 1 h1
  have q2 := e 2 h2
  have q3 := e 3 h3
  have q4 := e 4 h4
  have q5 := e 5 h5
  have q6 := e 6 h6
  have q7 := e 7 h7
  simp at q0 q1 q2 q3 q4 q5 q6 q7
  omega
theorem esc_inj : ∀ (t t' r r' : Bytes), escP t ++ r = escP t' ++ r' → t = t' ∧ r = r'
  | [], [], r, r', h => by simp [escP, escGo] at h; exact ⟨rfl, h⟩
  | [], b :: t', r, r', h => by
    exfalso
    unfold escP escGo at h
    by_cases hb : b = 0
    · simp [hb] at h
    · rw [if_neg hb] at h
      simp at h
      exact hb h.1.symm
  | b :: t, [], r, r', h => by
    exfalso
    unfold escP escGo at h
    by_cases hb : b = 0
    · simp [hb] at h
    · rw [if_neg hb] at h
      simp at h
      exact hb h.1
  | b :: t, b' :: t', r, r', h => by
    have step : ∀ (x : UInt8) (q : Bytes), escP (x :: q) = (if x = 0 then [x, 255] else [x]) ++ escP q := fun x q => by simp only [escP, escGo, List.append_assoc]
    rw [step, step] at h
    by_cases hb : b = 0
    · by_cases hb' : b' = 0
      · subst hb; subst hb'
        simp at h
        have := esc_inj t t' r r' h
        simp [this]
      · rw [if_pos hb, if_neg hb'] at h
        simp at h
        exact absurd (h.1.symm.trans hb) hb'
    · by_cases hb' : b' = 0
      · rw [if_neg hb, if_pos hb'] at h
        simp at h
        exact absurd (h.1.trans hb') hb
      · rw [if_neg hb, if_neg hb'] at h
        simp at h
        obtain ⟨rfl, h⟩ := h
        have := esc_inj t t' r r' h
        simp [this]
theorem key_cons {d : Nat} {v : Val} (h : okP d v = true) : ∃ r, keyD d v = byteAt (v.k + 1) 0 :: r := by
  have hr := okP_range h
  unfold keyD headK
  rw [numP_1]
  split
  · exact ⟨_, rfl⟩
  · split
    · exact ⟨_, rfl⟩
    · split
      · exact ⟨_, rfl⟩
      · split
        · exact ⟨_, rfl⟩
        · cases d with
          | zero =>
            exfalso
            unfold okP at h
            simp_all
          | succ d =>
            simp only
            split
            · exact ⟨_, by simp only [List.cons_append]; rfl⟩
            · exact ⟨_, by simp only [List.cons_append]; rfl⟩
theorem head_byte {d : Nat} {v : Val} (h : okP d v = true) : (byteAt (v.k + 1) 0).toNat = (v.k + 1).toNat := by
  have hr := okP_range h
  have := byteAt_nat (v.k + 1) 0 (by omega)
  simp at this
  omega
theorem flat_inj {α : Type} {f : α → Bytes} : ∀ {xs ys : List α} {r r' : Bytes}, (∀ x ∈ xs, ∀ y ∈ ys, ∀ r r', f x ++ r = f y ++ r' → x = y ∧ r = r') → (∀ x ∈ xs, ∃ b q, f x = b :: q ∧ b ≠ 0) → (∀ x ∈ ys, ∃ b q, f x = b :: q ∧ b ≠ 0) → xs.flatMap f ++ 0 :: r = ys.flatMap f ++ 0 :: r' → xs = ys ∧ r = r'
  | [], [], r, r', hi, hx, hy, h => by simp at h; exact ⟨rfl, h⟩
  | [], y :: ys, r, r', hi, hx, hy, h => by
    exfalso
    obtain ⟨b, q, e, hb⟩ := hy y (by simp)
    simp [e] at h
    exact hb h.1.symm
  | x :: xs, [], r, r', hi, hx, hy, h => by
    exfalso
    obtain ⟨b, q, e, hb⟩ := hx x (by simp)
    simp [e] at h
    exact hb h.1
  | x :: xs, y :: ys, r, r', hi, hx, hy, h => by
    simp only [List.flatMap_cons, List.append_assoc] at h
    obtain ⟨e1, h2⟩ := hi x (by simp) y (by simp) _ _ h
    obtain ⟨e3, h4⟩ := flat_inj (xs := xs) (ys := ys) (fun x hx y hy => hi x (by simp [hx]) y (by simp [hy])) (fun x h => hx x (by simp [h])) (fun x h => hy x (by simp [h])) h2
    exact ⟨by rw [e1, e3], h4⟩
theorem key_inj_step (d : Nat) (ih : ∀ e, d = e + 1 → ∀ (a b : Val) (r r' : Bytes), okP e a = true → okP e b = true → keyD e a ++ r = keyD e b ++ r' → a = b ∧ r = r') (a b : Val) (r r' : Bytes) (ha : okP d a = true) (hb : okP d b = true) (h : keyD d a ++ r = keyD d b ++ r') : a = b ∧ r = r' := by
  have ra := okP_range ha
  have rb := okP_range hb
  have hk : a.k = b.k := by
    obtain ⟨q, hq⟩ := key_cons ha
    obtain ⟨q', hq'⟩ := key_cons hb
    rw [hq, hq'] at h
    simp only [List.cons_append, List.cons.injEq] at h
    have := byteAt_small (a := a.k + 1) (b := b.k + 1) (by omega) (by omega) h.1
    omega
  have cases6 : a.k = 0 ∨ a.k = 1 ∨ a.k = 2 ∨ a.k = 3 ∨ a.k = 4 ∨ a.k = 5 := by omega
  unfold keyD headK at h
  rw [← hk] at h
  simp only [numP_1] at h
  rcases cases6 with k | k | k | k | k | k
  · rw [if_pos k, if_pos k] at h
    simp at h
    have na : a.n = 0 ∧ a.t = [] := by unfold okP at ha; simpa [k] using ha
    have nb : b.n = 0 ∧ b.t = [] := by unfold okP at hb; simpa [← hk, k] using hb
    exact ⟨Val.eq hk (by omega) (by rw [na.2, nb.2]), h⟩
  · have k0 : ¬ a.k = 0 := by omega
    rw [if_neg k0, if_pos k, if_neg k0, if_pos k] at h
    simp at h
    have na : (0 ≤ a.n ∧ a.n ≤ 1) ∧ a.t = [] := by unfold okP at ha; simpa [k] using ha
    have nb : (0 ≤ b.n ∧ b.n ≤ 1) ∧ b.t = [] := by unfold okP at hb; simpa [← hk, k] using hb
    have := byteAt_small (a := a.n) (b := b.n) (by omega) (by omega) h.1
    exact ⟨Val.eq hk this (by rw [na.2, nb.2]), h.2⟩
  · have k0 : ¬ a.k = 0 := by omega
    have k1 : ¬ a.k = 1 := by omega
    rw [if_neg k0, if_neg k1, if_pos k, if_neg k0, if_neg k1, if_pos k] at h
    simp only [List.cons_append, List.cons.injEq, true_and, List.nil_append] at h
    have l1 := numP_len (a.n + 4611686018427387904) 8
    have l2 := numP_len (b.n + 4611686018427387904) 8
    obtain ⟨h1, h2⟩ := List.append_inj h (by omega)
    have na : a.t = [] := okP_small ha (by omega) (by omega) (by omega)
    have nb : b.t = [] := okP_small hb (by omega) (by omega) (by omega)
    have := numP8_inj (by omega) (by omega) h1
    exact ⟨Val.eq hk (by omega) (by rw [na, nb]), h2⟩
  · have k0 : ¬ a.k = 0 := by omega
    have k1 : ¬ a.k = 1 := by omega
    have k2 : ¬ a.k = 2 := by omega
    rw [if_neg k0, if_neg k1, if_neg k2, if_pos k, if_neg k0, if_neg k1, if_neg k2, if_pos k] at h
    simp only [List.cons_append, List.cons.injEq, true_and, List.nil_append] at h
    obtain ⟨h1, h2⟩ := esc_inj _ _ _ _ h
    have na : a.n = 0 := by unfold okP at ha; simp [k] at ha; exact ha.1
    have nb : b.n = 0 := by unfold okP at hb; simp [← hk, k] at hb; exact hb.1
    exact ⟨Val.eq hk (by omega) h1, h2⟩
  · have k0 : ¬ a.k = 0 := by omega
    have k1 : ¬ a.k = 1 := by omega
    have k2 : ¬ a.k = 2 := by omega
    have k3 : ¬ a.k = 3 := by omega
    obtain ⟨e, xs, hd, na, hia, hxs⟩ := okP_list ha k
    obtain ⟨e', ys, hd', nb, hib, hys⟩ := okP_list hb (hk ▸ k)
    subst hd
    obtain rfl : e = e' := by omega
    rw [if_neg k0, if_neg k1, if_neg k2, if_neg k3, if_neg k0, if_neg k1, if_neg k2, if_neg k3] at h
    simp only [if_pos k, itemsL, hia, hib, Option.getD_some] at h
    simp only [List.cons_append, List.cons.injEq, true_and, List.nil_append, List.append_assoc] at h
    have hz : ∀ (zs : List Val), (∀ x ∈ zs, okP e x = true) → ∀ x ∈ zs, ∃ b q, keyD e x = b :: q ∧ b ≠ 0 := by
      intro zs hz x hx
      obtain ⟨q, hq⟩ := key_cons (hz x hx)
      refine ⟨_, q, hq, fun hb => ?_⟩
      have := head_byte (hz x hx)
      have := okP_range (hz x hx)
      rw [hb] at *
      simp at *
      omega
    obtain ⟨h1, h2⟩ := flat_inj (fun x hx y hy r r' hr => ih e rfl x y r r' (hxs x hx) (hys y hy) hr) (hz xs hxs) (hz ys hys) h
    subst h1
    exact ⟨Val.eq hk (by omega) (items_inj hia hib), h2⟩
  · have k0 : ¬ a.k = 0 := by omega
    have k1 : ¬ a.k = 1 := by omega
    have k2 : ¬ a.k = 2 := by omega
    have k3 : ¬ a.k = 3 := by omega
    have k4 : ¬ a.k = 4 := by omega
    obtain ⟨e, xs, hd, na, hia, _, hxs⟩ := okP_doc ha k
    obtain ⟨e', ys, hd', nb, hib, _, hys⟩ := okP_doc hb (hk ▸ k)
    subst hd
    obtain rfl : e = e' := by omega
    rw [if_neg k0, if_neg k1, if_neg k2, if_neg k3, if_neg k0, if_neg k1, if_neg k2, if_neg k3] at h
    simp only [if_neg k4, fieldsL, hia, hib, Option.getD_some] at h
    simp only [List.cons_append, List.cons.injEq, true_and, List.nil_append, List.append_assoc] at h
    have hz : ∀ (zs : List Fld), ∀ x ∈ zs, ∃ b q, (1 :: (escP x.name ++ keyD e x.v)) = b :: q ∧ b ≠ (0 : UInt8) := by
      intro zs x hx
      exact ⟨_, _, rfl, by decide⟩
    obtain ⟨h1, h2⟩ := flat_inj (f := fun f : Fld => 1 :: (escP f.name ++ keyD e f.v)) (fun x hx y hy r r' hr => by
      simp only [List.cons_append, List.cons.injEq, true_and, List.append_assoc] at hr
      obtain ⟨n1, hr⟩ := esc_inj _ _ _ _ hr
      obtain ⟨v1, hr⟩ := ih e rfl x.v y.v r r' (hxs x hx).2 (hys y hy).2 hr
      refine ⟨?_, hr⟩
      cases x; cases y
      simp at n1 v1
      rw [n1, v1]) (hz xs) (hz ys) h
    subst h1
    exact ⟨Val.eq hk (by omega) (fields_inj hia hib), h2⟩
/-- A key tells its value, whatever stands behind it. -/
theorem key_inj : ∀ (d : Nat) (a b : Val) (r r' : Bytes), okP d a = true → okP d b = true → keyD d a ++ r = keyD d b ++ r' → a = b ∧ r = r' := by
  intro d
  induction d with
  | zero =>
    intro a b r r' ha hb h
    exact key_inj_step 0 (fun e he => by omega) a b r r' ha hb h
  | succ d ih =>
    intro a b r r' ha hb h
    exact key_inj_step (d + 1) (fun e he => by
      have : e = d := by omega
      subst this
      exact ih) a b r r' ha hb h
end Go.Xd
/- Intervals: what is behind all that begins with a text; the interval of what begins with it; what two have in common. -/
set_option linter.unusedSimpArgs false
set_option linter.unusedVariables false
namespace Go.Xd
open Go.Ev Go.Proofs Go.Pu
set_option maxRecDepth 100000
set_option maxHeartbeats 16000000
structure Ivl where
  low : Bytes
  high : Bytes
  opn : Bool
  deriving DecidableEq, Inhabited
abbrev ivlT (i : Ivl) : T := .agg [.str i.low, .str i.high, .bool i.opn]
abbrev ivlX (i : Ivl) : X := .agg [.t (.str i.low), .t (.str i.high), .t (.bool i.opn)]
/-- The least text behind all that begin with t, seen from its first n bytes. -/
def behindN (t : Bytes) : Nat → Option Bytes
  | 0 => none
  | n + 1 => match t[n]? with
    | some b => if b < 255 then some (t.take n ++ [b + 1]) else behindN t n
    | none => none
def behindP (t : Bytes) : Option Bytes := behindN t t.length
def beginP (t : Bytes) : Ivl := match behindP t with
  | some h => ⟨t, h, false⟩
  | none => ⟨t, [], true⟩
def minS (x y : Bytes) : Bytes := if (Op.bytesLess x y || x == y) = true then x else y
def maxS (x y : Bytes) : Bytes := if (!Op.bytesLess x y) = true then x else y
def meetP (a b : Ivl) : Ivl :=
  ⟨maxS a.low b.low, if a.opn && b.opn then [] else if a.opn then b.high else if b.opn then a.high else minS a.high b.high, a.opn && b.opn⟩
theorem lt255 (b : UInt8) : ((b.toNat : Int) < 255) = (b < 255) := by
  have : (255 : UInt8).toNat = 255 := rfl
  simp only [UInt8.lt_iff_toNat_lt, this, eq_iff_iff]
  omega
theorem add1 (b : UInt8) : UInt8.ofNat (IntKind.u8.wrap ((b.toNat : Int) + 1)).toNat = b + 1 := by
  have hw : IntKind.u8.wrap ((b.toNat : Int) + 1) = ((b.toNat : Int) + 1) % 256 := by simp [IntKind.wrap, IntKind.bits, IntKind.signed]
  rw [hw]
  apply UInt8.toNat_inj.1
  rw [UInt8.toNat_add, UInt8.toNat_ofNat']
  have : (1 : UInt8).toNat = 1 := rfl
  rw [this]
  omega
theorem l04Behind (t : Bytes) (ht : t.length < 4294967296) : run E (.call 343 [xS t]) = some (.res [xS ((behindP t).getD []), xB (behindP t).isSome] []) := by
  rw [run_call E 343 _ rfl Tryz.func343 rfl rfl rfl (by simp)]
  have d5 := d343_5
  simp [regionOf, findR, pick, Tryz.f343] at d5
  have dd := fun st => run_region_draw E st 5 _ d5
  clear d5
  have lp := fun (R : Option Bytes) (hR : R = behindP t) => sk (fun s o q hI => loop_for (c := loopAt Tryz.f343 0) (N := 28)
    (fun i s o q => i ≤ t.length ∧ s 0 = .t (.str t) ∧ s 4 = .t (.int .i64 ((t.length : Int) - i)) ∧ R = behindN t (t.length - i))
    (fun e s' o' q' => e = (if R.isSome then .ret else .exit 0) ∧ (R.isSome = true → s' 2 = .t (.str (R.getD [])) ∧ s' 3 = .t (.bool true))) t.length
    (by
      rintro i s o q hi ⟨hle, h0, h4, hp⟩
      obtain ⟨j, hj⟩ : ∃ j, t.length - i = j + 1 := ⟨t.length - i - 1, by omega⟩
      have hjl : j < t.length := by omega
      have e1 : (t.length : Int) - i = (j : Int) + 1 := by omega
      have e2 : t.length - (i + 1) = j := by omega
      have e3 : (t.length : Int) - ((i + 1 : Nat) : Int) = (j : Int) := by omega
      have hw := wrap_nat (n := j) (by omega)
      have hpos : (0 : Int) < (j : Int) + 1 := by omega
      have hjx : t[j]? = some t[j] := List.getElem?_eq_getElem hjl
      have hjle : j ≤ t.length := by omega
      rw [hj] at hp
      rw [e1] at h4
      rw [e2]
      simp only [e3]
      unfold behindN at hp
      simp only [hjx] at hp
      have h255 := lt255 t[j]
      by_cases hb : t[j] < 255
      · rw [if_pos hb] at hp
        have hadd := add1 t[j]
        rw [hp]
        simp [loopAt, loopsOf, Tryz.f343, h0, h4, hw, hpos, hjx, h255, hb, dd, hjle]
        rw [if_pos (by omega)]
        exact hadd
      · rw [if_neg hb] at hp
        simp [loopAt, loopsOf, Tryz.f343, h0, h4, hw, hpos, hjx, h255, hb, hjle]
        exact ⟨by omega, hp⟩)
    (by
      rintro s o q ⟨hle, h0, h4, hp⟩
      simp [behindN] at hp
      simp [loopAt, loopsOf, Tryz.f343, h0, h4, hp])
    t.length 0 s o q (by omega) hI)
  simp only [loopAt, loopsOf, Tryz.f343] at lp
  cases hb : behindP t with
  | none =>
    obtain ⟨X, A, B, C, hx⟩ := lp none hb.symm
    have hx' := fun s o q a0 a4 => hx s o q ⟨Nat.zero_le _, a0, a4, by simpa [behindP] using hb.symm⟩
    simp at hx'
    simp [hx']
  | some h =>
    obtain ⟨X, A, B, C, hx⟩ := lp (some h) hb.symm
    have hx' := fun s o q a0 a4 => hx s o q ⟨Nat.zero_le _, a0, a4, by simpa [behindP] using hb.symm⟩
    simp at hx'
    simp [hx']
theorem l04Begin (t : Bytes) (ht : t.length < 4294967296) : run E (.call 270 [xS t]) = some (.res [ivlX (beginP t)] []) := by
  rw [run_call E 270 _ rfl Tryz.func270 rfl rfl rfl (by simp)]
  have h := l04Behind t ht
  unfold beginP
  cases hb : behindP t with
  | none => rw [hb] at h; simp at h; simp [h]
  | some x => rw [hb] at h; simp at h; simp [h]
end Go.Xd
/- Intervals: impl's begins; spec's meeting; turned texts. -/
set_option linter.unusedSimpArgs false
set_option linter.unusedVariables false
namespace Go.Xd
open Go.Ev Go.Proofs Go.Pu
set_option maxRecDepth 100000
set_option maxHeartbeats 16000000
theorem implBegins (t : Bytes) (ht : t.length < 4294967296) : run E (.call 269 [xS t]) = some (.res [ivlX (beginP t)] []) := by
  rw [run_call E 269 _ rfl Tryz.func269 rfl rfl rfl (by simp)]
  have d5 := d269_5
  simp [regionOf, findR, pick, Tryz.f269] at d5
  have dd := fun st => run_region_draw E st 5 _ d5
  clear d5
  have lp := fun (R : Option Bytes) (hR : R = behindP t) => sk (fun s o q hI => loop_for (c := loopAt Tryz.f269 0) (N := 29)
    (fun i s o q => i ≤ t.length ∧ s 0 = .t (.str t) ∧ s 2 = .ptr 0 0 ∧ o 0 = .box 112 [.t (.str []), .t (.str []), .t (.bool false)] ∧ 0 < q ∧ s 3 = .t (.int .i64 ((t.length : Int) - 1 - i)) ∧ R = behindN t (t.length - i))
    (fun e s' o' q' => e = (if R.isSome then .ret else .exit 0) ∧ s' 0 = .t (.str t) ∧ s' 2 = .ptr 0 0 ∧ o' 0 = .box 112 (if R.isSome then [.t (.str t), .t (.str (R.getD [])), .t (.bool false)] else [.t (.str []), .t (.str []), .t (.bool false)])) t.length
    (by
      rintro i s o q hi ⟨hle, h0, h2, ho, hq, h3, hp⟩
      obtain ⟨j, hj⟩ : ∃ j, t.length - i = j + 1 := ⟨t.length - i - 1, by omega⟩
      have hjl : j < t.length := by omega
      have e1 : (t.length : Int) - 1 - i = (j : Int) := by omega
      have e2 : t.length - (i + 1) = j := by omega
      have e3 : (t.length : Int) - 1 - ((i + 1 : Nat) : Int) = (j : Int) - 1 := by omega
      have hw : IntKind.i64.wrap ((j : Int) - 1) = (j : Int) - 1 := by rw [wrap_of (by omega) (by omega)]
      have hjx : t[j]? = some t[j] := List.getElem?_eq_getElem hjl
      have hjle : j ≤ t.length := by omega
      have hq0 : ¬ q = 0 := by omega
      have hq1 : ¬ 0 = q := by omega
      rw [hj] at hp
      rw [e1] at h3
      rw [e2]
      simp only [e3]
      unfold behindN at hp
      simp only [hjx] at hp
      have h255 := lt255 t[j]
      by_cases hb : t[j] < 255
      · rw [if_pos hb] at hp
        have hadd := add1 t[j]
        have hr1 : List.range 1 = [0] := rfl
        rw [hp]
        simp [loopAt, loopsOf, Tryz.f269, h0, h2, h3, ho, hw, hjx, h255, hb, dd, hjle, hr1, hq0, hq1]
        rw [if_pos (by omega)]
        exact hadd
      · rw [if_neg hb] at hp
        simp [loopAt, loopsOf, Tryz.f269, h0, h2, h3, ho, hw, hjx, h255, hb, hjle, hq, hq0, hq1]
        exact ⟨by omega, hp⟩)
    (by
      rintro s o q ⟨hle, h0, h2, ho, hq, h3, hp⟩
      simp [behindN] at hp
      have h3' : s 3 = .t (.int .i64 (-1)) := by rw [h3]; congr 2; omega
      simp [loopAt, loopsOf, Tryz.f269, h0, h2, h3', ho, hp])
    t.length 0 s o q (by omega) hI)
  simp only [loopAt, loopsOf, Tryz.f269] at lp
  unfold beginP
  have hw0 : IntKind.i64.wrap ((t.length : Int) - 1) = (t.length : Int) - 1 := wrap_of (by omega) (by omega)
  cases hb : behindP t with
  | none =>
    obtain ⟨X, A, B, C, hx⟩ := lp none hb.symm
    have hx' := fun s o q a0 a2 b1 hq (a3 : s 3 = .t (.int .i64 ((t.length : Int) - 1))) => hx s o q ⟨Nat.zero_le _, a0, a2, b1, hq, by rw [a3]; congr 2; omega, by simpa [behindP] using hb.symm⟩
    simp at hx'
    simp [hx', hw0]
  | some h =>
    obtain ⟨X, A, B, C, hx⟩ := lp (some h) hb.symm
    have hx' := fun s o q a0 a2 b1 hq (a3 : s 3 = .t (.int .i64 ((t.length : Int) - 1))) => hx s o q ⟨Nat.zero_le _, a0, a2, b1, hq, by rw [a3]; congr 2; omega, by simpa [behindP] using hb.symm⟩
    simp at hx'
    simp [hx', hw0]
theorem l04Turned (t : Bytes) (f : Bool) (ht : t.length < 4294967296) : run E (.call 271 [xS t, xB f]) = some (.res [xS (if f then turnP t else t)] []) := by
  rw [run_call E 271 _ rfl Tryz.func271 rfl rfl rfl (by simp)]
  have h := l04Turn t ht
  cases f <;> simp [h]
theorem l04Meet (a b : Ivl) : run E (.call 147 [.t (ivlT a), .t (ivlT b)]) = some (.res [ivlX (meetP a b)] []) := by
  rw [run_call E 147 _ rfl Tryz.func147 rfl rfl rfl (by simp)]
  obtain ⟨l, h, p⟩ := a
  obtain ⟨l', h', p'⟩ := b
  unfold meetP
  generalize hm : maxS l l' = m
  generalize hn : minS h h' = n
  simp [maxS] at hm
  simp [minS] at hn
  cases p <;> cases p' <;> simp [hm, hn]
theorem saysAll (t : Trm) : run E (.call 344 [.t (trmT t)]) = some (.res [xB (decide (t.op = 2) || decide (t.op = 7) || decide (t.op = 8) || decide (t.op = 10))] []) := by
  rw [run_call E 344 _ rfl Tryz.func344 rfl rfl rfl (by simp)]
  obtain ⟨a, a1, a2, a3⟩ := zcase t.op 2
  obtain ⟨b, b1, b2, b3⟩ := zcase t.op 7
  obtain ⟨c, c1, c2, c3⟩ := zcase t.op 8
  obtain ⟨e, e1, e2, e3⟩ := zcase t.op 10
  cases a <;> cases b <;> cases c <;> cases e <;> simp [a1, a2, a3, b1, b2, b3, c1, c2, c3, e1, e2, e3]
end Go.Xd
/- The interval of a term: spec's l04Term, impl's interval. -/
set_option linter.unusedSimpArgs false
set_option linter.unusedVariables false
namespace Go.Xd
open Go.Ev Go.Proofs Go.Pu
set_option maxRecDepth 100000
set_option maxHeartbeats 16000000
def keyI (v : Val) (f : Bool) : Bytes := if f then turnP (keyD 5 v) else keyD 5 v
def kindB (n : Int) (f : Bool) : Bytes := if f then turnP [byteAt n 0] else [byteAt n 0]
abbrev opnI : Ivl := ⟨[], [], true⟩
def flipO (op : Int) (f : Bool) : Int := if f then (if op = 3 then 5 else if op = 4 then 6 else if op = 5 then 3 else if op = 6 then 4 else op) else op
def implIv (t : Trm) (f : Bool) : Ivl :=
  if flipO t.op f = 1 then beginP (keyI t.v f)
  else if flipO t.op f = 9 then beginP (kindB (t.v.n + 1) f)
  else if flipO t.op f = 5 then { beginP ((keyI t.v f).take 1) with low := (beginP (keyI t.v f)).high }
  else if flipO t.op f = 6 then { beginP ((keyI t.v f).take 1) with low := keyI t.v f }
  else if flipO t.op f = 3 then { beginP ((keyI t.v f).take 1) with high := keyI t.v f }
  else if flipO t.op f = 4 then { beginP ((keyI t.v f).take 1) with high := (beginP (keyI t.v f)).high }
  else opnI
def specIv (t : Trm) (f : Bool) : Ivl :=
  if t.op = 1 then beginP (keyI t.v f)
  else if t.op = 3 ∨ t.op = 5 ∨ t.op = 4 ∨ t.op = 6 then
    if ((decide (t.op = 5) || decide (t.op = 6)) != f) = true then
      if t.op = 4 ∨ t.op = 6 then { beginP (kindB (t.v.k + 1) f) with low := (beginP (keyI t.v f)).low }
      else if (beginP (keyI t.v f)).opn then ⟨[], [], false⟩ else { beginP (kindB (t.v.k + 1) f) with low := (beginP (keyI t.v f)).high }
    else if t.op = 4 ∨ t.op = 6 then meetP (beginP (kindB (t.v.k + 1) f)) ⟨[], (beginP (keyI t.v f)).high, (beginP (keyI t.v f)).opn⟩
    else meetP (beginP (kindB (t.v.k + 1) f)) ⟨[], (beginP (keyI t.v f)).low, false⟩
  else if t.op = 9 then beginP (kindB (t.v.n + 1) f)
  else opnI
theorem keyI_len (v : Val) (f : Bool) (h : okP 5 v = true) : (keyI v f).length ≤ 3311 := by
  have h1 := keyD_len 5 v h
  have h2 := okP_size h
  unfold keyI
  cases f <;> simp [turnP] <;> omega
theorem specTermIv (t : Trm) (f : Bool) (hv : okP 5 t.v = true) (hn : -1000000000000 ≤ t.v.n ∧ t.v.n ≤ 1000000000000) : run E (.call 165 [.t (trmT t), xB f]) = some (.res [ivlX (specIv t f)] []) := by
  rw [run_call E 165 _ rfl Tryz.func165 rfl rfl rfl (by simp)]
  have hr := okP_range hv
  have hs := okP_size hv
  have hw : IntKind.i64.wrap (t.v.k + 1) = t.v.k + 1 := wrap_of (by omega) (by omega)
  have hw2 : IntKind.i64.wrap (t.v.n + 1) = t.v.n + 1 := wrap_of (by omega) (by omega)
  have h1 := l01Number (t.v.k + 1) 1 (by omega)
  have h2 := l01Number (t.v.n + 1) 1 (by omega)
  rw [numP_1] at h1 h2
  have hc1 : ((1 : Nat) : Int) = 1 := rfl
  rw [hc1] at h1 h2
  have h3 := l04Turned [byteAt (t.v.k + 1) 0] f (by simp)
  have h4 := l04Turned [byteAt (t.v.n + 1) 0] f (by simp)
  have h5 := l04Key 5 t.v f hv (by omega)
  have e3 : (if f then turnP [byteAt (t.v.k + 1) 0] else [byteAt (t.v.k + 1) 0]) = kindB (t.v.k + 1) f := rfl
  have e4 : (if f then turnP [byteAt (t.v.n + 1) 0] else [byteAt (t.v.n + 1) 0]) = kindB (t.v.n + 1) f := rfl
  have e5 : (if f then turnP (keyD 5 t.v) else keyD 5 t.v) = keyI t.v f := rfl
  rw [e3] at h3
  rw [e4] at h4
  rw [e5] at h5
  clear e3 e4 e5
  have hkl := keyI_len t.v f hv
  have hb1 : (kindB (t.v.k + 1) f).length = 1 := by unfold kindB; cases f <;> simp [turnP]
  have hb2 : (kindB (t.v.n + 1) f).length = 1 := by unfold kindB; cases f <;> simp [turnP]
  have h6 := l04Begin (kindB (t.v.k + 1) f) (by omega)
  have h7 := l04Begin (kindB (t.v.n + 1) f) (by omega)
  have h8 := l04Begin (keyI t.v f) (by omega)
  have m1 := l04Meet (beginP (kindB (t.v.k + 1) f)) ⟨[], (beginP (keyI t.v f)).high, (beginP (keyI t.v f)).opn⟩
  have m2 := l04Meet (beginP (kindB (t.v.k + 1) f)) ⟨[], (beginP (keyI t.v f)).low, false⟩
  unfold specIv
  generalize beginP (kindB (t.v.k + 1) f) = kd at *
  generalize beginP (kindB (t.v.n + 1) f) = kn at *
  generalize beginP (keyI t.v f) = on at *
  generalize meetP kd ⟨[], on.high, on.opn⟩ = mm1 at *
  generalize meetP kd ⟨[], on.low, false⟩ = mm2 at *
  obtain ⟨kl, kh, ko⟩ := kd
  obtain ⟨ol, oh, oo⟩ := on
  simp at m1 m2
  by_cases o1 : t.op = 1
  · have o3 : ¬ t.op = 3 := by omega
    simp [o1, hw, h1, h3, h5, h6, h8]
  · by_cases o3 : t.op = 3
    · cases f <;> simp [o3, hw, h1, h3, h5, h6, h8, m2] <;> try (cases oo <;> simp)
    · by_cases o5 : t.op = 5
      · cases f <;> simp [o5, hw, h1, h3, h5, h6, h8, m2] <;> try (cases oo <;> simp)
      · by_cases o4 : t.op = 4
        · cases f <;> simp [o4, hw, h1, h3, h5, h6, h8, m1]
        · by_cases o6 : t.op = 6
          · cases f <;> simp [o6, hw, h1, h3, h5, h6, h8, m1]
          · by_cases o9 : t.op = 9
            · simp [o9, hw, hw2, h1, h2, h3, h4, h5, h6, h7, h8]
            · have q1 : (t.op = 1) = False := eq_false o1
              have q3 : (t.op = 3) = False := eq_false o3
              have q4 : (t.op = 4) = False := eq_false o4
              have q5 : (t.op = 5) = False := eq_false o5
              have q6 : (t.op = 6) = False := eq_false o6
              have q9 : (t.op = 9) = False := eq_false o9
              simp [q1, q3, q4, q5, q6, q9, hw, h1, h3, h5, h6, h8]
end Go.Xd
/- The interval of a term: impl's; both are alike. -/
set_option linter.unusedSimpArgs false
set_option linter.unusedVariables false
namespace Go.Xd
open Go.Ev Go.Proofs Go.Pu
set_option maxRecDepth 100000
set_option maxHeartbeats 16000000
theorem keyI_cons (v : Val) (f : Bool) (h : okP 5 v = true) : ∃ r, keyI v f = kindB (v.k + 1) f ++ r := by
  obtain ⟨r, hr⟩ := key_cons h
  unfold keyI kindB
  rw [hr]
  cases f
  · exact ⟨r, by simp⟩
  · exact ⟨turnP r, by simp [turnP]⟩
theorem kindB_len (n : Int) (f : Bool) : (kindB n f).length = 1 := by unfold kindB; cases f <;> simp [turnP]
theorem keyI_take (v : Val) (f : Bool) (h : okP 5 v = true) : (keyI v f).take 1 = kindB (v.k + 1) f := by
  obtain ⟨r, hr⟩ := keyI_cons v f h
  rw [hr, List.take_append_of_le_length (by rw [kindB_len]; omega), List.take_of_length_le (by rw [kindB_len]; omega)]
theorem implTermIv (t : Trm) (f : Bool) (hv : okP 5 t.v = true) (hn : -1000000000000 ≤ t.v.n ∧ t.v.n ≤ 1000000000000) : run E (.call 163 [.t (trmT t), xB f]) = some (.res [ivlX (implIv t f)] []) := by
  rw [run_call E 163 _ rfl Tryz.func163 rfl rfl rfl (by simp)]
  have hs := okP_size hv
  have hw2 : IntKind.i64.wrap (t.v.n + 1) = t.v.n + 1 := wrap_of (by omega) (by omega)
  have hu := u8_wrap (t.v.n + 1)
  have h1 := keyOf 5 t.v f hv (by omega)
  have e5 : (if f then turnP (keyD 5 t.v) else keyD 5 t.v) = keyI t.v f := rfl
  rw [e5] at h1
  clear e5
  have hkl := keyI_len t.v f hv
  have ht1 := keyI_take t.v f hv
  have hb1 := kindB_len (t.v.k + 1) f
  have hb2 := kindB_len (t.v.n + 1) f
  have hge : 1 ≤ (keyI t.v f).length := by
    have := congrArg List.length ht1
    simp at this
    omega
  have h2 := implBegins ((keyI t.v f).take 1) (by rw [ht1]; omega)
  have h3 := implBegins (keyI t.v f) (by omega)
  have h4 := fallen [byteAt (t.v.n + 1) 0] f (by simp)
  have e4 : (if f then turnP [byteAt (t.v.n + 1) 0] else [byteAt (t.v.n + 1) 0]) = kindB (t.v.n + 1) f := rfl
  rw [e4] at h4
  clear e4
  have h5 := implBegins (kindB (t.v.n + 1) f) (by omega)
  have hr1 : List.range 1 = [0] := rfl
  have n2 := n163_2
  have s2 := s163_2
  simp [regionOf, findR, pick, Tryz.f163] at n2 s2
  have dd := fun st => run_region_drawS E st 2 _ n2 s2
  clear n2 s2
  unfold implIv
  clear ht1
  generalize beginP ((keyI t.v f).take 1) = kd at *
  generalize beginP (kindB (t.v.n + 1) f) = kn at *
  generalize beginP (keyI t.v f) = on at *
  obtain ⟨kl, kh, ko⟩ := kd
  obtain ⟨ol, oh, oo⟩ := on
  simp at h4
  by_cases o1 : t.op = 1
  · cases f <;> simp [flipO, o1, h1, h2, h3, dd, hge]
  · by_cases o3 : t.op = 3
    · cases f <;> simp [flipO, o3, h1, h2, h3, dd, hge]
    · by_cases o5 : t.op = 5
      · cases f <;> simp [flipO, o5, h1, h2, h3, dd, hge]
      · by_cases o4 : t.op = 4
        · cases f <;> simp [flipO, o4, h1, h2, h3, dd, hge]
        · by_cases o6 : t.op = 6
          · cases f <;> simp [flipO, o6, h1, h2, h3, dd, hge]
          · by_cases o9 : t.op = 9
            · cases f <;> simp [flipO, o9, h1, h2, h3, h4, h5, dd, hge, hw2, hu, hr1]
            · have q1 : (t.op = 1) = False := eq_false o1
              have q3 : (t.op = 3) = False := eq_false o3
              have q4 : (t.op = 4) = False := eq_false o4
              have q5 : (t.op = 5) = False := eq_false o5
              have q6 : (t.op = 6) = False := eq_false o6
              have q9 : (t.op = 9) = False := eq_false o9
              cases f <;> simp [flipO, q1, q3, q4, q5, q6, q9, h1, h2, h3, dd, hge]
end Go.Xd
/- The interval of a term: spec's is impl's. -/
set_option linter.unusedSimpArgs false
set_option linter.unusedVariables false
namespace Go.Xd
open Go.Ev Go.Proofs Go.Pu
set_option maxRecDepth 100000
set_option maxHeartbeats 4000000
theorem behind_cons (h : UInt8) (r : Bytes) (hh : h < 255) : ∀ n, n ≤ r.length → ∃ x, behindN (h :: r) (n + 1) = some x ∧ (x = [h + 1] ∨ ∃ y, x = h :: y)
  | 0, _ => ⟨[h + 1], by simp [behindN, hh], .inl rfl⟩
  | n + 1, hn => by
    obtain ⟨x, h1, h2⟩ := behind_cons h r hh n (by omega)
    have hg : (h :: r)[n + 1]? = some r[n] := by simp [List.getElem?_eq_getElem (show n < r.length by omega)]
    by_cases hb : r[n] < 255
    · refine ⟨(h :: r).take (n + 1) ++ [r[n] + 1], ?_, .inr ⟨r.take n ++ [r[n] + 1], by simp⟩⟩
      rw [behindN]
      simp only [hg, if_pos hb]
    · refine ⟨x, ?_, h2⟩
      rw [behindN]
      simp only [hg, if_neg hb]
      exact h1
theorem begin_cons (h : UInt8) (r : Bytes) (hh : h < 255) : ∃ x, beginP (h :: r) = ⟨h :: r, x, false⟩ ∧ (x = [h + 1] ∨ ∃ y, x = h :: y) := by
  obtain ⟨x, h1, h2⟩ := behind_cons h r hh r.length (Nat.le_refl _)
  refine ⟨x, ?_, h2⟩
  have : behindP (h :: r) = some x := h1
  unfold beginP
  rw [this]
theorem begin_one (h : UInt8) (hh : h < 255) : beginP [h] = ⟨[h], [h + 1], false⟩ := by
  have : behindP [h] = some [h + 1] := by simp [behindP, behindN, hh]
  unfold beginP
  rw [this]
theorem less_cons (h : UInt8) (y : Bytes) (hh : h < 255) : Op.bytesLess [h + 1] (h :: y) = false := by
  cases hb : Op.bytesLess [h + 1] (h :: y) with
  | false => rfl
  | true =>
    exfalso
    have h1 := (bytesLess_iff _ _).1 hb
    have h3 : h.toNat < 255 := by simpa [UInt8.lt_iff_toNat_lt] using hh
    have h2 : h < h + 1 := by
      rw [UInt8.lt_iff_toNat_lt, UInt8.toNat_add]
      have : (1 : UInt8).toNat = 1 := rfl
      omega
    rcases List.cons_lt_cons_iff.1 h1 with h4 | ⟨h4, _⟩
    · rw [UInt8.lt_iff_toNat_lt] at h4 h2
      omega
    · have e := congrArg UInt8.toNat h4
      rw [UInt8.lt_iff_toNat_lt] at h2
      omega
theorem min_cons (h : UInt8) (x : Bytes) (hh : h < 255) (hx : x = [h + 1] ∨ ∃ y, x = h :: y) : minS [h + 1] x = x := by
  unfold minS
  rcases hx with rfl | ⟨y, rfl⟩
  · simp
  · have h3 : h.toNat < 255 := by simpa [UInt8.lt_iff_toNat_lt] using hh
    have hne : ([h + 1] == h :: y) = false := by
      rw [beq_eq_false_iff_ne]
      intro e
      injection e with e _
      have := congrArg UInt8.toNat e
      rw [UInt8.toNat_add] at this
      have h1 : (1 : UInt8).toNat = 1 := rfl
      omega
    rw [less_cons h y hh, hne]
    simp
theorem max_one (h : UInt8) : maxS [h] [] = [h] := by
  unfold maxS
  have : Op.bytesLess [h] [] = false := rfl
  rw [this]; rfl
theorem specIv_eq (t : Trm) (f : Bool) (hv : okP 5 t.v = true) : specIv t f = implIv t f := by
  have hr := okP_range hv
  obtain ⟨r, hk⟩ := keyI_cons t.v f hv
  obtain ⟨h, hh, hb⟩ : ∃ h : UInt8, h < 255 ∧ kindB (t.v.k + 1) f = [h] := by
    have hn := head_byte hv
    cases f with
    | false =>
      refine ⟨_, ?_, rfl⟩
      rw [UInt8.lt_iff_toNat_lt, hn]
      have : (255 : UInt8).toNat = 255 := rfl
      omega
    | true =>
      refine ⟨turnB (byteAt (t.v.k + 1) 0), ?_, rfl⟩
      rw [UInt8.lt_iff_toNat_lt]
      have h1 : (255 : UInt8).toNat = 255 := rfl
      have h2 : (turnB (byteAt (t.v.k + 1) 0)).toNat = 255 - (byteAt (t.v.k + 1) 0).toNat := by
        unfold turnB
        rw [UInt8.toNat_sub]
        have := (byteAt (t.v.k + 1) 0).toNat_lt
        omega
      omega
  have ht := keyI_take t.v f hv
  rw [hb] at hk ht
  have hk' : keyI t.v f = h :: r := by simpa using hk
  obtain ⟨x, hx, hx2⟩ := begin_cons h r hh
  have b1 := begin_one h hh
  have m1 := min_cons h x hh hx2
  have m2 := min_cons h (h :: r) hh (.inr ⟨r, rfl⟩)
  have m3 := max_one h
  unfold specIv implIv
  rw [ht, hb, hk', hx, b1]
  by_cases o1 : t.op = 1
  · cases f <;> simp [flipO, o1]
  · by_cases o3 : t.op = 3
    · cases f <;> simp [flipO, o3, meetP, m1, m2, m3]
    · by_cases o5 : t.op = 5
      · cases f <;> simp [flipO, o5, meetP, m1, m2, m3]
      · by_cases o4 : t.op = 4
        · cases f <;> simp [flipO, o4, meetP, m1, m2, m3]
        · by_cases o6 : t.op = 6
          · cases f <;> simp [flipO, o6, meetP, m1, m2, m3]
          · by_cases o9 : t.op = 9
            · cases f <;> simp [flipO, o9]
            · cases f <;> simp [flipO, o1, o3, o4, o5, o6, o9]
end Go.Xd
/- The interval of a clause and of a filter: spec's and impl's. -/
set_option linter.unusedSimpArgs false
set_option linter.unusedVariables false
namespace Go.Xd
open Go.Ev Go.Proofs Go.Pu
set_option maxRecDepth 100000
set_option maxHeartbeats 16000000
def saysB (t : Trm) : Bool := decide (t.op = 2) || decide (t.op = 7) || decide (t.op = 8) || decide (t.op = 10)
def hitB (p : Prt) (t : Trm) : Bool := t.path == p.path && !saysB t
def clauseI (p : Prt) (c : List Trm) : Ivl := match c.find? (hitB p) with
  | some t => implIv t p.desc
  | none => opnI
def clStep (p : Prt) (out : Ivl) (t : Trm) : Ivl := if ((t.path == p.path) && out.opn && (out.low == [])) = true then specIv t p.desc else out
theorem implIv_closed (t : Trm) (f : Bool) (hv : okP 5 t.v = true) (ho : opOK t.op t.v = true) (hs : saysB t = false) : (implIv t f).opn = false := by
  obtain ⟨r, hk⟩ := keyI_cons t.v f hv
  have ht := keyI_take t.v f hv
  have hr := okP_range hv
  have hb : ∀ n : Int, 1 ≤ n → n ≤ 6 → ∃ h : UInt8, h < 255 ∧ kindB n f = [h] := by
    intro n h1 h6
    have hn : (byteAt n 0).toNat = n.toNat := by
      have := byteAt_nat n 0 (by omega)
      simp at this
      omega
    cases f with
    | false =>
      refine ⟨_, ?_, rfl⟩
      rw [UInt8.lt_iff_toNat_lt, hn]
      have : (255 : UInt8).toNat = 255 := rfl
      omega
    | true =>
      refine ⟨turnB (byteAt n 0), ?_, rfl⟩
      rw [UInt8.lt_iff_toNat_lt]
      have h1 : (255 : UInt8).toNat = 255 := rfl
      have h2 : (turnB (byteAt n 0)).toNat = 255 - (byteAt n 0).toNat := by
        unfold turnB
        rw [UInt8.toNat_sub]
        have := (byteAt n 0).toNat_lt
        omega
      omega
  obtain ⟨h, hh, hkb⟩ := hb (t.v.k + 1) (by omega) (by omega)
  rw [hkb] at hk ht
  have hk' : keyI t.v f = h :: r := by simpa using hk
  obtain ⟨x, hx, _⟩ := begin_cons h r hh
  have b1 := begin_one h hh
  have hop : 1 ≤ t.op ∧ t.op ≤ 10 := by
    unfold opOK at ho
    split at ho
    · omega
    · split at ho
      · omega
      · split at ho
        · omega
        · split at ho
          · omega
          · simp at ho; omega
  unfold saysB at hs
  simp at hs
  obtain ⟨⟨⟨s2, s7⟩, s8⟩, s10⟩ := hs
  unfold implIv
  rw [ht, hk', hx, b1]
  by_cases o9 : t.op = 9
  · have hn9 : 0 ≤ t.v.n ∧ t.v.n ≤ 5 := by
      rw [o9] at ho
      simp [opOK] at ho
      exact ho.2
    obtain ⟨h2, hh2, hkb2⟩ := hb (t.v.n + 1) (by omega) (by omega)
    have b2 := begin_one h2 hh2
    have e : flipO t.op f = 9 := by cases f <;> simp [flipO, o9]
    simp [e, hkb2, b2]
  · have h6 : t.op = 1 ∨ t.op = 3 ∨ t.op = 4 ∨ t.op = 5 ∨ t.op = 6 := by omega
    rcases h6 with o | o | o | o | o <;> cases f <;> simp [flipO, o]
theorem fold_closed (p : Prt) : ∀ (c : List Trm) (out : Ivl), out.opn = false → c.foldl (clStep p) out = out
  | [], out, h => rfl
  | t :: r, out, h => by
    have : clStep p out t = out := by unfold clStep; simp [h]
    rw [List.foldl_cons, this]
    exact fold_closed p r out h
theorem specIv_says (t : Trm) (f : Bool) (h : saysB t = true) : specIv t f = opnI := by
  unfold saysB at h
  simp at h
  unfold specIv
  have h1 : ¬ t.op = 1 := by omega
  have h2 : ¬ (t.op = 3 ∨ t.op = 5 ∨ t.op = 4 ∨ t.op = 6) := by omega
  have h3 : ¬ t.op = 9 := by omega
  rw [if_neg h1, if_neg h2, if_neg h3]
theorem clause_eq (p : Prt) : ∀ (c : List Trm), (∀ t ∈ c, okP 5 t.v = true ∧ opOK t.op t.v = true) → c.foldl (clStep p) opnI = clauseI p c
  | [], _ => rfl
  | t :: r, h => by
    have ih := clause_eq p r (fun x hx => h x (by simp [hx]))
    obtain ⟨hv, ho⟩ := h t (by simp)
    rw [List.foldl_cons]
    unfold clauseI
    rw [List.find?_cons]
    cases hp : (t.path == p.path) with
    | false =>
      have e1 : clStep p opnI t = opnI := by unfold clStep; simp [hp]
      have e2 : hitB p t = false := by unfold hitB; simp [hp]
      rw [e1, e2]
      exact ih
    | true =>
      have e1 : clStep p opnI t = specIv t p.desc := by unfold clStep; simp [hp]
      rw [e1]
      cases hs : saysB t with
      | true =>
        have e2 : hitB p t = false := by unfold hitB; simp [hs]
        rw [e2, specIv_says t _ hs]
        exact ih
      | false =>
        have e2 : hitB p t = true := by unfold hitB; simp [hp, hs]
        rw [e2, specIv_eq t _ hv]
        simp only
        exact fold_closed p r _ (implIv_closed t _ hv ho hs)
end Go.Xd
/- The interval of a clause: spec's l07Clause and impl's, run. -/
set_option linter.unusedSimpArgs false
set_option linter.unusedVariables false
namespace Go.Xd
open Go.Ev Go.Proofs Go.Pu
set_option maxRecDepth 100000
set_option maxHeartbeats 16000000
abbrev ivlS (i : Ivl) : List SV := [.t (.str i.low), .t (.str i.high), .t (.bool i.opn)]
def trmS (t : Trm) : List SV := [.t (.int .i64 t.op), .t (.str t.path), .t (.int .i64 t.v.k), .t (.int .i64 t.v.n), .t (.str t.v.t)]
def termsOK (c : List Trm) : Prop := ∀ t ∈ c, okP 5 t.v = true ∧ opOK t.op t.v = true ∧ t.path.length < 4294967296
theorem specClause (c : List Trm) (p : Prt) (hl : c.length < 4294967296) (h : termsOK c) : run E (.call 275 [.t (clsT c), .t (prtT p)]) = some (.res [ivlX (clauseI p c)] []) := by
  rw [run_call E 275 _ rfl Tryz.func275 rfl rfl rfl (by simp)]
  have lp := fun (R : Ivl) (hR : R = c.foldl (clStep p) opnI) => sk (fun s o q hI => loop_for (c := loopAt Tryz.f275 0) (N := 40)
    (fun i s o q => ∃ cur : Ivl, s 2 = .ptr 0 0 ∧ s 3 = .ptr 1 0 ∧ s 4 = .ptr 2 0 ∧ s 5 = .ptr 3 0 ∧ s 6 = .t (.int .i64 i) ∧ o 0 = .box 236 [.t (.list (c.map trmT))] ∧ o 1 = .box 133 [.t (.str p.path), .t (.bool p.desc)] ∧ o 2 = .box 112 (ivlS ⟨[], [], false⟩) ∧ o 3 = .box 112 (ivlS cur) ∧ 3 < q ∧ R = (c.drop i).foldl (clStep p) cur)
    (fun e s' o' q' => e = .exit 0 ∧ s' 4 = .ptr 2 0 ∧ s' 5 = .ptr 3 0 ∧ o' 2 = .box 112 (ivlS ⟨[], [], false⟩) ∧ o' 3 = .box 112 (ivlS R)) c.length
    (by
      rintro i s o q hi ⟨cur, h2, h3, h4, h5, h6, o0, o1, o2, o3, hq, hp⟩
      have hi' : (i : Int) < (c.length : Int) := by omega
      have hwi := wrap_succ (n := i) (by omega)
      have hxi : c[i]? = some c[i] := List.getElem?_eq_getElem hi
      have g0 : ¬ 0 = q := by omega
      have g1 : ¬ 1 = q := by omega
      have g2 : ¬ 2 = q := by omega
      have g3 : ¬ 3 = q := by omega
      have g4 : 3 < q + 1 := by omega
      obtain ⟨hv, ho, hpl⟩ := h c[i] (List.getElem_mem hi)
      have hr := okP_range hv
      have hsp := specTermIv c[i] p.desc hv (by omega)
      rw [List.drop_eq_getElem_cons hi, List.foldl_cons] at hp
      obtain ⟨cl, ch, co⟩ := cur
      cases hpe : (c[i].path == p.path) with
      | false =>
        have e1 : clStep p ⟨cl, ch, co⟩ c[i] = ⟨cl, ch, co⟩ := by unfold clStep; simp [hpe]
        rw [e1] at hp
        simp [loopAt, loopsOf, Tryz.f275, h2, h3, h4, h5, h6, o0, o1, o2, o3, hi, hi', hwi, hxi, hpe, g0, g1, g2, g3, g4]
        exact ⟨⟨cl, ch, co⟩, ⟨rfl, rfl, rfl⟩, hp⟩
      | true =>
        cases co with
        | false =>
          have e1 : clStep p ⟨cl, ch, false⟩ c[i] = ⟨cl, ch, false⟩ := by unfold clStep; simp
          rw [e1] at hp
          simp [loopAt, loopsOf, Tryz.f275, h2, h3, h4, h5, h6, o0, o1, o2, o3, hi, hi', hwi, hxi, hpe, g0, g1, g2, g3, g4]
          exact ⟨⟨cl, ch, false⟩, ⟨rfl, rfl, rfl⟩, hp⟩
        | true =>
          cases hle : (cl == []) with
          | false =>
            have e1 : clStep p ⟨cl, ch, true⟩ c[i] = ⟨cl, ch, true⟩ := by unfold clStep; simp [hle]
            rw [e1] at hp
            simp [loopAt, loopsOf, Tryz.f275, h2, h3, h4, h5, h6, o0, o1, o2, o3, hi, hi', hwi, hxi, hpe, hle, g0, g1, g2, g3, g4]
            exact ⟨⟨cl, ch, true⟩, ⟨rfl, rfl, rfl⟩, hp⟩
          | true =>
            have e1 : clStep p ⟨cl, ch, true⟩ c[i] = specIv c[i] p.desc := by unfold clStep; simp [hle, hpe]
            rw [e1] at hp
            generalize specIv c[i] p.desc = iv at *
            obtain ⟨il, ih, io⟩ := iv
            simp [loopAt, loopsOf, Tryz.f275, h2, h3, h4, h5, h6, o0, o1, o2, o3, hi, hi', hwi, hxi, hpe, hle, hsp, g0, g1, g2, g3, g4]
            exact ⟨⟨il, ih, io⟩, ⟨rfl, rfl, rfl⟩, hp⟩)
    (by
      rintro s o q ⟨cur, h2, h3, h4, h5, h6, o0, o1, o2, o3, hq, hp⟩
      simp at hp
      subst hp
      simp [loopAt, loopsOf, Tryz.f275, h2, h3, h4, h5, h6, o0, o1, o2, o3])
    c.length 0 s o q (by omega) hI)
  simp only [loopAt, loopsOf, Tryz.f275] at lp
  obtain ⟨X, A, B, C, hl⟩ := lp _ rfl
  have hl' := fun s o q a0 a1 a2 a3 a4 a5 a6 a7 a8 a9 => hl s o q ⟨opnI, a0, a1, a2, a3, a4, a5, a6, a7, a8, a9, rfl⟩
  clear hl lp
  rw [clause_eq p c (fun t ht => ⟨(h t ht).1, (h t ht).2.1⟩)] at hl'
  generalize clauseI p c = R at *
  obtain ⟨rl, rh, ro⟩ := R
  simp at hl'
  simp [hl']
theorem implClause (c : List Trm) (p : Prt) (hl : c.length < 4294967296) (h : termsOK c) : run E (.call 273 [.t (clsT c), .t (prtT p)]) = some (.res [ivlX (clauseI p c)] []) := by
  rw [run_call E 273 _ rfl Tryz.func273 rfl rfl rfl (by simp)]
  have lp := fun (R : Option Trm) (hR : R = c.find? (hitB p)) => sk (fun s o q hI => loop_for (c := loopAt Tryz.f273 0) (N := 30)
    (fun i s o q => s 2 = .ptr 0 0 ∧ s 3 = .ptr 1 0 ∧ s 4 = .ptr 2 0 ∧ s 8 = .t (.list (c.map trmT)) ∧ s 9 = .t (.int .i64 c.length) ∧ s 10 = .t (.int .i64 i) ∧ o 1 = .box 133 [.t (.str p.path), .t (.bool p.desc)] ∧ o 2 = .box 112 (ivlS ⟨[], [], false⟩) ∧ 2 < q ∧ R = (c.drop i).find? (hitB p))
    (fun e s' o' q' => e = (if R.isSome then .ret else .exit 0) ∧ s' 4 = .ptr 2 0 ∧ o' 2 = .box 112 (ivlS (match R with
      | some t => implIv t p.desc
      | none => ⟨[], [], false⟩))) c.length
    (by
      rintro i s o q hi ⟨h2, h3, h4, h8, h9, h10, o1, o2, hq, hp⟩
      have hi' : (i : Int) < (c.length : Int) := by omega
      have hwi := wrap_succ (n := i) (by omega)
      have hxi : c[i]? = some c[i] := List.getElem?_eq_getElem hi
      have g1 : ¬ 1 = q := by omega
      have g2 : ¬ 2 = q := by omega
      have g4 : 2 < q + 1 := by omega
      obtain ⟨hv, ho, hpl⟩ := h c[i] (List.getElem_mem hi)
      have hr := okP_range hv
      have hsp := implTermIv c[i] p.desc hv (by omega)
      have hsa := saysAll c[i]
      have e0 : (decide (c[i].op = 2) || decide (c[i].op = 7) || decide (c[i].op = 8) || decide (c[i].op = 10)) = saysB c[i] := rfl
      rw [e0] at hsa
      clear e0
      rw [List.drop_eq_getElem_cons hi, List.find?_cons] at hp
      cases hpe : (c[i].path == p.path) with
      | false =>
        have e1 : hitB p c[i] = false := by unfold hitB; simp [hpe]
        rw [e1] at hp
        simp [loopAt, loopsOf, Tryz.f273, h2, h3, h4, h8, h9, h10, o1, o2, hi, hi', hwi, hxi, hpe, g1, g2, g4]
        exact hp
      | true =>
        cases hs : saysB c[i] with
        | true =>
          rw [hs] at hsa
          have e1 : hitB p c[i] = false := by unfold hitB; simp [hs]
          rw [e1] at hp
          simp [loopAt, loopsOf, Tryz.f273, h2, h3, h4, h8, h9, h10, o1, o2, hi, hi', hwi, hxi, hpe, hsa, g1, g2, g4]
          exact hp
        | false =>
          rw [hs] at hsa
          have e1 : hitB p c[i] = true := by unfold hitB; simp [hs, hpe]
          rw [e1] at hp
          simp only at hp
          rw [hp]
          simp [loopAt, loopsOf, Tryz.f273, h2, h3, h4, h8, h9, h10, o1, o2, hi, hi', hwi, hxi, hpe, hsa, hsp, g1, g2, g4])
    (by
      rintro s o q ⟨h2, h3, h4, h8, h9, h10, o1, o2, hq, hp⟩
      simp at hp
      subst hp
      simp [loopAt, loopsOf, Tryz.f273, h2, h3, h4, h8, h9, h10, o1, o2])
    c.length 0 s o q (by omega) hI)
  simp only [loopAt, loopsOf, Tryz.f273] at lp
  unfold clauseI
  cases hf : c.find? (hitB p) with
  | none =>
    obtain ⟨X, A, B, C, hx⟩ := lp none hf.symm
    have hx' := fun s o q a0 a1 a2 a3 a4 a5 a6 a7 a8 => hx s o q ⟨a0, a1, a2, a3, a4, a5, a6, a7, a8, hf.symm⟩
    simp at hx'
    simp [hx']
  | some t =>
    obtain ⟨X, A, B, C, hx⟩ := lp (some t) hf.symm
    have hx' := fun s o q a0 a1 a2 a3 a4 a5 a6 a7 a8 => hx s o q ⟨a0, a1, a2, a3, a4, a5, a6, a7, a8, hf.symm⟩
    simp at hx'
    simp [hx']
end Go.Xd
/- The interval of a filter: spec's l07Filter and impl's; FilterInterval of both. -/
set_option linter.unusedSimpArgs false
set_option linter.unusedVariables false
namespace Go.Xd
open Go.Ev Go.Proofs Go.Pu
set_option maxRecDepth 100000
set_option maxHeartbeats 16000000
def flStep (p : Prt) (out : Ivl) (c : List Trm) : Ivl := ⟨minS out.low (clauseI p c).low, maxS out.high (clauseI p c).high, out.opn || (clauseI p c).opn⟩
def closeI (i : Ivl) : Ivl := if i.opn then ⟨i.low, [], true⟩ else i
def filterI (p : Prt) : List (List Trm) → Ivl
  | [] => opnI
  | c :: r => closeI (r.foldl (flStep p) (clauseI p c))
def clausesOK (f : List (List Trm)) : Prop := ∀ c ∈ f, c.length < 4294967296 ∧ termsOK c
theorem minS_nf (x y : Bytes) : minS x y = if Op.bytesLess x y = true ∨ x = y then x else y := by unfold minS; simp
theorem maxS_nf (x y : Bytes) : maxS x y = if Op.bytesLess x y = false then x else y := by unfold maxS; simp
theorem specFilter (f : List (List Trm)) (p : Prt) (hl : f.length < 4294967296) (h0 : 0 < f.length) (h : clausesOK f) : run E (.call 171 [.t (filT f), .t (prtT p)]) = some (.res [ivlX (filterI p f)] []) := by
  rw [run_call E 171 _ rfl Tryz.func171 rfl rfl rfl (by simp)]
  have d1 := d171_1
  simp [regionOf, findR, pick, Tryz.f171] at d1
  have dd1 := fun st => run_region_draw E st 1 _ d1
  clear d1
  have d5 := d171_5
  simp [regionOf, findR, pick, Tryz.f171] at d5
  have dd5 := fun st => run_region_draw E st 5 _ d5
  clear d5
  have lp := fun (R : Ivl) => sk (fun s o q hI => loop_for (c := loopAt Tryz.f171 0) (N := 51)
    (fun i s o q => ∃ cur : Ivl, 1 ≤ i ∧ s 2 = .ptr 0 0 ∧ s 3 = .ptr 1 0 ∧ s 4 = .ptr 2 0 ∧ s 5 = .ptr 3 0 ∧ s 6 = .t (.int .i64 i) ∧ o 0 = .box 33 [.t (.list (f.map clsT))] ∧ o 1 = .box 133 [.t (.str p.path), .t (.bool p.desc)] ∧ o 2 = .box 112 (ivlS ⟨[], [], false⟩) ∧ o 3 = .box 112 (ivlS cur) ∧ 3 < q ∧ R = (f.drop i).foldl (flStep p) cur)
    (fun e s' o' q' => e = .exit 0 ∧ s' 4 = .ptr 2 0 ∧ s' 5 = .ptr 3 0 ∧ o' 2 = .box 112 (ivlS ⟨[], [], false⟩) ∧ o' 3 = .box 112 (ivlS R)) f.length
    (by
      rintro i s o q hi ⟨cur, hi1, h2, h3, h4, h5, h6, o0, o1, o2, o3, hq, hp⟩
      have hi' : (i : Int) < (f.length : Int) := by omega
      have hwi := wrap_succ (n := i) (by omega)
      have hxi : f[i]? = some f[i] := List.getElem?_eq_getElem hi
      have g0 : ¬ 0 = q := by omega
      have g1 : ¬ 1 = q := by omega
      have g2 : ¬ 2 = q := by omega
      have g3 : ¬ 3 = q := by omega
      have g4 : 3 < q + 1 := by omega
      have g5 : ¬ q = 3 := by omega
      obtain ⟨hcl, hco⟩ := h f[i] (List.getElem_mem hi)
      have hsp := specClause f[i] p hcl hco
      rw [List.drop_eq_getElem_cons hi, List.foldl_cons] at hp
      obtain ⟨cl, ch, co⟩ := cur
      cases co <;> simp [loopAt, loopsOf, Tryz.f171, dd5, h2, h3, h4, h5, h6, o0, o1, o2, o3, hi, hi', hwi, hxi, hsp, g0, g1, g2, g3, g4, g5]
      · exact ⟨flStep p ⟨cl, ch, false⟩ f[i], ⟨by simp [flStep, minS_nf], by simp [flStep, maxS_nf], by simp [flStep]⟩, hp⟩
      · exact ⟨flStep p ⟨cl, ch, true⟩ f[i], ⟨by simp [flStep, minS_nf], by simp [flStep, maxS_nf], by simp [flStep]⟩, hp⟩)
    (by
      rintro s o q ⟨cur, hi1, h2, h3, h4, h5, h6, o0, o1, o2, o3, hq, hp⟩
      simp at hp
      subst hp
      simp [loopAt, loopsOf, Tryz.f171, h2, h3, h4, h5, h6, o0, o1, o2, o3])
    (f.length - 1) 1 s o q (by omega) hI)
  simp only [loopAt, loopsOf, Tryz.f171] at lp
  cases f with
  | nil => simp at h0
  | cons c r =>
    obtain ⟨hcl, hco⟩ := h c (by simp)
    have hsp := specClause c p hcl hco
    unfold filterI
    obtain ⟨iv, hiv⟩ : ∃ iv, iv = clauseI p c := ⟨_, rfl⟩
    obtain ⟨R, hR⟩ : ∃ R, R = r.foldl (flStep p) iv := ⟨_, rfl⟩
    simp only [← hiv, ← hR] at hsp ⊢
    obtain ⟨X, A, B, C, hl'⟩ := lp R
    have hx' := fun s o q a0 a1 a2 a3 a4 a5 a6 a7 a8 a9 => hl' s o q ⟨iv, Nat.le_refl _, a0, a1, a2, a3, a4, a5, a6, a7, a8, a9, by simpa using hR⟩
    clear hl' lp hR hiv
    obtain ⟨rl, rh, ro⟩ := R
    obtain ⟨il, ih, io⟩ := iv
    simp at hx'
    cases ro <;> simp [closeI, hx', dd1, hsp]
end Go.Xd
/- The interval of a filter: impl's; FilterInterval of both. -/
set_option linter.unusedSimpArgs false
set_option linter.unusedVariables false
namespace Go.Xd
open Go.Ev Go.Proofs Go.Pu
set_option maxRecDepth 100000
set_option maxHeartbeats 16000000
theorem implFilter (f : List (List Trm)) (p : Prt) (hl : f.length < 4294967296) (h0 : 0 < f.length) (h : clausesOK f) : run E (.call 169 [.t (filT f), .t (prtT p)]) = some (.res [ivlX (filterI p f)] []) := by
  rw [run_call E 169 _ rfl Tryz.func169 rfl rfl rfl (by simp)]
  have d1 := d169_1
  simp [regionOf, findR, pick, Tryz.f169] at d1
  have dd1 := fun st => run_region_draw E st 1 _ d1
  clear d1
  have n6 := n169_6
  have s6 := s169_6
  simp [regionOf, findR, pick, Tryz.f169] at n6 s6
  have dd6 := fun st => run_region_drawS E st 6 _ n6 s6
  clear n6 s6
  cases f with
  | nil => simp at h0
  | cons c r =>
  have lp := fun (R : Ivl) => sk (fun s o q hI => loop_for (c := loopAt Tryz.f169 0) (N := 50)
    (fun i s o q => ∃ cur : Ivl, s 3 = .ptr 1 0 ∧ s 4 = .ptr 2 0 ∧ s 5 = .ptr 3 0 ∧ s 17 = .t (.list (r.map clsT)) ∧ s 18 = .t (.int .i64 r.length) ∧ s 19 = .t (.int .i64 i) ∧ o 1 = .box 133 [.t (.str p.path), .t (.bool p.desc)] ∧ o 2 = .box 112 (ivlS ⟨[], [], false⟩) ∧ o 3 = .box 112 (ivlS cur) ∧ 3 < q ∧ R = (r.drop i).foldl (flStep p) cur)
    (fun e s' o' q' => e = .exit 0 ∧ s' 4 = .ptr 2 0 ∧ s' 5 = .ptr 3 0 ∧ o' 2 = .box 112 (ivlS ⟨[], [], false⟩) ∧ o' 3 = .box 112 (ivlS R)) r.length
    (by
      rintro i s o q hi ⟨cur, h3, h4, h5, h17, h18, h19, o1, o2, o3, hq, hp⟩
      have hlr : r.length < 4294967296 := by simp at hl; omega
      have hi' : (i : Int) < (r.length : Int) := by omega
      have hwi := wrap_succ (n := i) (by omega)
      have hxi : r[i]? = some r[i] := List.getElem?_eq_getElem hi
      have g1 : ¬ 1 = q := by omega
      have g2 : ¬ 2 = q := by omega
      have g3 : ¬ 3 = q := by omega
      have g4 : 3 < q + 1 + 1 := by omega
      have g5 : ¬ 1 = q + 1 := by omega
      have g6 : ¬ 2 = q + 1 := by omega
      have g7 : ¬ 3 = q + 1 := by omega
      have g8 : ¬ q + 1 = 3 := by omega
      have g9 : ¬ q = 2 := by omega
      have g10 : ¬ q = 0 := by omega
      obtain ⟨hcl, hco⟩ := h r[i] (by simp)
      have hsp := implClause r[i] p hcl hco
      rw [List.drop_eq_getElem_cons hi, List.foldl_cons] at hp
      obtain ⟨cl, ch, co⟩ := cur
      cases co <;> simp [loopAt, loopsOf, Tryz.f169, dd6, h3, h4, h5, h17, h18, h19, o1, o2, o3, hi, hi', hwi, hxi, hsp, g1, g2, g3, g4, g5, g6, g7, g8, g9, g10]
      · exact ⟨flStep p ⟨cl, ch, false⟩ r[i], ⟨by simp [flStep, minS_nf], by simp [flStep, maxS_nf], by simp [flStep]⟩, hp⟩
      · exact ⟨flStep p ⟨cl, ch, true⟩ r[i], ⟨by simp [flStep, minS_nf], by simp [flStep, maxS_nf], by simp [flStep]⟩, hp⟩)
    (by
      rintro s o q ⟨cur, h3, h4, h5, h17, h18, h19, o1, o2, o3, hq, hp⟩
      simp at hp
      subst hp
      simp [loopAt, loopsOf, Tryz.f169, h3, h4, h5, h17, h18, h19, o1, o2, o3])
    r.length 0 s o q (by omega) hI)
  simp only [loopAt, loopsOf, Tryz.f169] at lp
  obtain ⟨hcl, hco⟩ := h c (by simp)
  have hsp := implClause c p hcl hco
  unfold filterI
  obtain ⟨iv, hiv⟩ : ∃ iv, iv = clauseI p c := ⟨_, rfl⟩
  obtain ⟨R, hR⟩ : ∃ R, R = r.foldl (flStep p) iv := ⟨_, rfl⟩
  simp only [← hiv, ← hR] at hsp ⊢
  obtain ⟨X, A, B, C, hl'⟩ := lp R
  have hx' := fun s o q a0 a1 a2 a3 a4 a5 a6 a7 a8 a9 => hl' s o q ⟨iv, a0, a1, a2, a3, a4, a5, a6, a7, a8, a9, by simpa using hR⟩
  clear hl' lp hR hiv
  obtain ⟨rl, rh, ro⟩ := R
  obtain ⟨il, ih, io⟩ := iv
  simp at hx'
  have htk : (r.map clsT).take r.length = r.map clsT := List.take_of_length_le (by simp)
  cases ro <;> simp [closeI, hx', dd1, hsp, htk]
theorem terms_ok {f : List (List Trm)} (h : filterOK f = true) (hs : filterSm f) : clausesOK f := by
  intro c hc
  have hcs := hs.2 c hc
  unfold filterOK at h
  simp only [Bool.and_eq_true] at h
  have hco := List.all_eq_true.1 h.2 c hc
  unfold clauseOK at hco
  simp only [Bool.and_eq_true] at hco
  refine ⟨hcs.1, fun t ht => ?_⟩
  have hto := List.all_eq_true.1 hco.2 t ht
  unfold termOK at hto
  simp only [Bool.and_eq_true] at hto
  exact ⟨hto.1.2, hto.2, (hcs.2 t ht).1⟩
/-- What FilterInterval answers. -/
def fivOut (f : List (List Trm)) (p : Prt) : Ivl × Int := if filterOK f && pathOK p.path then (filterI p f, 0) else (⟨[], [], false⟩, 1)
theorem specFilterInterval (f : List (List Trm)) (p : Prt) (hs : filterSm f) (hp : p.path.length < 4294967296) : run E (.call 67 [.t (filT f), .t (prtT p)]) = some (.res [ivlX (fivOut f p).1, xI (fivOut f p).2] []) := by
  rw [run_call E 67 _ rfl Tryz.func67 rfl rfl rfl (by simp)]
  have h1 := specFilterOK f hs
  have h2 := specPathOK p.path hp
  unfold fivOut
  cases hf : filterOK f with
  | false => rw [hf] at h1; simp [h1]
  | true =>
    rw [hf] at h1
    cases hq : pathOK p.path with
    | false => rw [hq] at h2; simp [h1, h2]
    | true =>
      rw [hq] at h2
      have hf' := hf
      unfold filterOK at hf'
      simp at hf'
      have h3 := specFilter f p hs.1 (by omega) (terms_ok hf hs)
      simp [h1, h2, h3]
theorem implFilterInterval (f : List (List Trm)) (p : Prt) (hs : filterSm f) (hp : p.path.length < 4294967296) : run E (.call 66 [.t (filT f), .t (prtT p)]) = some (.res [ivlX (fivOut f p).1, xI (fivOut f p).2] []) := by
  rw [run_call E 66 _ rfl Tryz.func66 rfl rfl rfl (by simp)]
  have h1 := implFilterOK f hs
  have h2 := partOK p hp
  unfold fivOut
  cases hf : filterOK f with
  | false => rw [hf] at h1; simp [h1]
  | true =>
    rw [hf] at h1
    cases hq : pathOK p.path with
    | false => rw [hq] at h2; simp [h1, h2]
    | true =>
      rw [hq] at h2
      have hf' := hf
      unfold filterOK at hf'
      simp at hf'
      have h3 := implFilter f p hs.1 (by omega) (terms_ok hf hs)
      simp [h1, h2, h3]
end Go.Xd
/- A filter's text: spec's side. -/
set_option linter.unusedSimpArgs false
set_option linter.unusedVariables false
namespace Go.Xd
open Go.Ev Go.Proofs Go.Pu
set_option maxRecDepth 100000
set_option maxHeartbeats 16000000
def wordsF : List Bytes := [[101, 113], [110, 101], [108, 116], [108, 116, 101], [103, 116], [103, 116, 101], [105, 110], [101, 120, 105, 115, 116, 115], [116, 121, 112, 101], [115, 105, 122, 101]]
def wordF (op : Int) : Bytes := wordsF.getD (op - 1).toNat []
def txtT (t : Trm) : Bytes := t.path ++ [32] ++ wordF t.op ++ [32] ++ txtD 5 t.v
def andB : Bytes := [32, 97, 110, 100, 32]
def orB : Bytes := [32, 111, 114, 32]
def txtC (c : List Trm) : Bytes := Lib.join (c.map txtT) andB
def txtF (f : List (List Trm)) : Bytes := Lib.join (f.map txtC) orB
theorem word_len (op : Int) : (wordF op).length ≤ 6 := by
  unfold wordF
  rw [List.getD_eq_getElem?_getD]
  cases h : wordsF[(op - 1).toNat]? with
  | none => simp
  | some w =>
    have hm := List.mem_of_getElem? h
    have : ∀ x ∈ wordsF, x.length ≤ 6 := by decide
    exact this w hm
/-- A right term: its parts' sizes. -/
def trmFit (t : Trm) : Prop := okP 5 t.v = true ∧ 1 ≤ t.op ∧ t.op ≤ 10 ∧ t.path.length ≤ 1000
theorem txtT_len (t : Trm) (h : trmFit t) : (txtT t).length ≤ 20000 := by
  have h1 := txtD_len 5 t.v h.1
  have h2 := okP_size h.1
  have h3 := word_len t.op
  have h4 := h.2.2.2
  unfold txtT
  simp only [List.length_append, List.length_cons, List.length_nil]
  omega
theorem sum_bound {α : Type} (g : α → Nat) (K : Nat) : ∀ (l : List α), (∀ x ∈ l, g x ≤ K) → sumL g l ≤ l.length * K
  | [], _ => by simp [sumL]
  | x :: r, h => by
    have h1 := h x (by simp)
    have h2 := sum_bound g K r (fun y hy => h y (by simp [hy]))
    simp only [sumL, List.length_cons, Nat.succ_mul]
    omega
theorem txtC_len (c : List Trm) (h : ∀ t ∈ c, trmFit t) (hl : c.length ≤ 100) : (txtC c).length ≤ 2001000 := by
  have h1 := join_len andB (c.map txtT)
  rw [sum_map] at h1
  have h2 := sum_bound (fun t => (txtT t).length + andB.length) 20005 c (fun t ht => by
    have := txtT_len t (h t ht)
    have e : andB.length = 5 := rfl
    omega)
  have h3 := Nat.mul_le_mul_right 20005 hl
  unfold txtC
  omega
theorem txtF_len (f : List (List Trm)) (h : ∀ c ∈ f, c.length ≤ 100 ∧ ∀ t ∈ c, trmFit t) (hl : f.length ≤ 100) : (txtF f).length ≤ 300000000 := by
  have h1 := join_len orB (f.map txtC)
  rw [sum_map] at h1
  have h2 := sum_bound (fun c => (txtC c).length + orB.length) 2002000 f (fun c hc => by
    have := txtC_len c (h c hc).2 (h c hc).1
    have e : orB.length = 4 := rfl
    omega)
  have h3 := Nat.mul_le_mul_right 2002000 hl
  unfold txtF
  omega
theorem specWords : run E (.call 278 []) = some (.res [.row 9 (([] :: wordsF).map strT)] []) := by
  rw [run_call E 278 _ rfl Tryz.func278 rfl rfl rfl (by simp)]
  have hr : List.range 11 = [0, 1, 2, 3, 4, 5, 6, 7, 8, 9, 10] := rfl
  simp [hr, wordsF]
theorem word_get (op : Int) (h1 : 1 ≤ op) (h10 : op ≤ 10) : (strT [] :: wordsF.map strT)[op.toNat]? = some (.str (wordF op)) := by
  obtain ⟨n, rfl, hn⟩ : ∃ n : Nat, op = (n : Int) + 1 ∧ n < 10 := ⟨(op - 1).toNat, by omega, by omega⟩
  have e : ((n : Int) + 1).toNat = n + 1 := by omega
  have e2 : ((n : Int) + 1 - 1).toNat = n := by omega
  rw [e, List.getElem?_cons_succ, List.getElem?_map]
  unfold wordF
  rw [e2, List.getD_eq_getElem?_getD]
  have hl : n < wordsF.length := by rw [show wordsF.length = 10 from rfl]; exact hn
  rw [List.getElem?_eq_getElem hl]
  rfl
abbrev filB (f : List (List Trm)) : Ob := .box 33 [.t (.list (f.map clsT))]
theorem specTerms (f : List (List Trm)) (i : Nat) (hi : i < f.length) (hf : ∀ t ∈ f[i], trmFit t) (hl : f.length ≤ 100) (hc : f[i].length ≤ 100) (m0 w0 : Nat) (cs : List T) : ∀ s o q, (s 1 = .ptr 0 0 ∧ s 3 = .row m0 ∧ s 4 = .t (.int .i64 i) ∧ s 5 = .row w0 ∧ s 6 = .t (.int .i64 0) ∧ o 0 = filB f ∧ o m0 = .row 9 cs true ∧ o w0 = .row 9 [] true ∧ 0 < m0 ∧ m0 < w0 ∧ w0 < q) →
    ∃ e s' o' q', run E (.code (.loop (loopAt Tryz.f174 1)) ⟨s, o, q, 61⟩) = some (.st e ⟨s', o', q', 61⟩) ∧ ∃ r, e = .exit 2 ∧ s' 1 = .ptr 0 0 ∧ s' 3 = .row m0 ∧ s' 4 = .t (.int .i64 i) ∧ s' 5 = .row r ∧ o' 0 = filB f ∧ o' m0 = .row 9 cs true ∧ o' r = .row 9 ((f[i].map txtT).map strT) true ∧ m0 < r ∧ r < q' := by
  intro s o q hI
  have d10 := d174_10
  simp [regionOf, findR, pick, Tryz.f174] at d10
  have dd := fun st => run_region_draw E st 10 _ d10
  clear d10
  have hG : ∀ t : Trm, t.path ++ 32 :: (wordF t.op ++ 32 :: txtD 5 t.v) = txtT t := by intro t; simp [txtT]
  refine loop_for (c := loopAt Tryz.f174 1) (N := 61)
    (fun j s o q => ∃ r acc, s 1 = .ptr 0 0 ∧ s 3 = .row m0 ∧ s 4 = .t (.int .i64 i) ∧ s 5 = .row r ∧ s 6 = .t (.int .i64 j) ∧ o 0 = filB f ∧ o m0 = .row 9 cs true ∧ o r = .row 9 (acc.map strT) true ∧ 0 < m0 ∧ m0 < r ∧ r < q ∧ acc.length = j ∧ f[i].map txtT = acc ++ (f[i].drop j).map txtT)
    (fun e s' o' q' => ∃ r, e = .exit 2 ∧ s' 1 = .ptr 0 0 ∧ s' 3 = .row m0 ∧ s' 4 = .t (.int .i64 i) ∧ s' 5 = .row r ∧ o' 0 = filB f ∧ o' m0 = .row 9 cs true ∧ o' r = .row 9 ((f[i].map txtT).map strT) true ∧ m0 < r ∧ r < q') f[i].length ?_ ?_
    f[i].length 0 s o q (by omega) (by
      obtain ⟨h1, h3, h4, h5, h6, o0, om, ow, p1, p2, p3⟩ := hI
      exact ⟨w0, [], h1, h3, h4, h5, h6, o0, om, ow, p1, p2, p3, rfl, by simp⟩)
  · rintro j s o q hj ⟨r, acc, h1, h3, h4, h5, h6, o0, om, hor, p1, p2, p3, hac, hp⟩
    have hfi : f[i]? = some f[i] := List.getElem?_eq_getElem hi
    have hii : (i : Int) < (f.length : Int) := by omega
    have hj' : (j : Int) < (f[i].length : Int) := by omega
    have hwj := wrap_succ (n := j) (by omega)
    have hxj : f[i][j]? = some f[i][j] := List.getElem?_eq_getElem hj
    have ht := hf _ (List.getElem_mem hj)
    have hk := specText 5 f[i][j].v ht.1 (by have := okP_size ht.1; omega)
    have hw := specWords
    have hg := word_get f[i][j].op ht.2.1 ht.2.2.1
    have htl := txtT_len f[i][j] ht
    have hop0 : (0 : Int) ≤ f[i][j].op := by have := ht.2.1; omega
    have hop1 : f[i][j].op < 11 := by have := ht.2.2.1; omega
    have hgx := hG f[i][j]
    have hlen := congrArg List.length hgx
    simp only [List.length_append, List.length_cons] at hlen
    have hr0 : r ≠ 0 := by omega
    have h0r : 0 ≠ r := by omega
    have hm0 : m0 ≠ 0 := by omega
    have h0m : 0 ≠ m0 := by omega
    have hrm : r ≠ m0 := by omega
    have hmr : m0 ≠ r := by omega
    have q0 : q ≠ 0 := by omega
    have n0 : 0 ≠ q := by omega
    have rq : r ≠ q := by omega
    have rq1 : r ≠ q + 1 := by omega
    have rq2 : r ≠ q + 2 := by omega
    have rq3 : r ≠ q + 3 := by omega
    have mq : m0 ≠ q := by omega
    have mq1 : m0 ≠ q + 1 := by omega
    have mq2 : m0 ≠ q + 2 := by omega
    have mq3 : m0 ≠ q + 3 := by omega
    have qr : q ≠ r := by omega
    have qm : q ≠ m0 := by omega
    have hcat : acc.length + 1 ≤ 140737488355328 := by omega
    have hcat2 : (acc.length + 1) * 16 ≤ 140737488355328 := by omega
    rw [List.drop_eq_getElem_cons hj, List.map_cons] at hp
    have l0 : f[i][j].path.length ≤ 140737488355327 := by omega
    have l1 : f[i][j].path.length + 1 ≤ 140737488355328 := by omega
    have l2 : f[i][j].path.length + 1 + (wordF f[i][j].op).length ≤ 140737488355328 := by omega
    have l3 : f[i][j].path.length + 1 + (wordF f[i][j].op).length + 1 ≤ 140737488355328 := by omega
    have l4 : f[i][j].path.length + 1 + (wordF f[i][j].op).length + 1 + (txtD 5 f[i][j].v).length ≤ 140737488355328 := by omega
    have l5 : f[i][j].path.length + (1 + (wordF f[i][j].op).length) ≤ 140737488355328 := by omega
    have l6 : f[i][j].path.length + ((wordF f[i][j].op).length + 1) ≤ 140737488355328 := by omega
    have l7 : f[i][j].path.length + ((wordF f[i][j].op).length + 1) ≤ 140737488355327 := by omega
    have l8 : f[i][j].path.length + ((wordF f[i][j].op).length + 1 + 1) ≤ 140737488355328 := by omega
    have l9 : f[i][j].path.length + ((wordF f[i][j].op).length + ((txtD 5 f[i][j].v).length + 1) + 1) ≤ 140737488355328 := by omega
    have l10 : f[i][j].path.length + ((wordF f[i][j].op).length + 1 + 1) + (txtD 5 f[i][j].v).length ≤ 140737488355328 := by omega
    simp [loopAt, loopsOf, Tryz.f174, dd, h1, h3, h4, h5, h6, o0, om, hor, hfi, hii, hj, hj', hwj, hxj, hk, hw, hg, hop0, hop1, hr0, h0r, hm0, h0m, hrm, hmr, q0, n0, rq, rq1, rq2, rq3, mq, mq1, mq2, mq3, qr, qm, hcat, hcat2, l0, l1, l2, l3, l4, l5, l6, l7, l8, l9, l10, hgx]
    exact ⟨acc ++ [txtT f[i][j]], by simp, by omega, by omega, by simp [hac], by rw [← List.map_drop]; simpa using hp⟩
  · rintro s o q ⟨r, acc, h1, h3, h4, h5, h6, o0, om, hor, p1, p2, p3, hac, hp⟩
    have hfi : f[i]? = some f[i] := List.getElem?_eq_getElem hi
    have hii : (i : Int) < (f.length : Int) := by omega
    simp at hp
    simp [loopAt, loopsOf, Tryz.f174, h1, h3, h4, h5, h6, o0, om, hor, hfi, hii, hp, p2, p3]
end Go.Xd
/- A filter's text: spec's side. -/
set_option linter.unusedSimpArgs false
set_option linter.unusedVariables false
namespace Go.Xd
open Go.Ev Go.Proofs Go.Pu
set_option maxRecDepth 100000
set_option maxHeartbeats 16000000
theorem specTerms2 (f : List (List Trm)) (i : Nat) (hi : i < f.length) (hf : ∀ t ∈ f[i], trmFit t) (hl : f.length ≤ 100) (hc : f[i].length ≤ 100) (m0 w0 : Nat) (cs : List T) : ∀ s o q, (s 1 = .ptr 0 0 ∧ s 3 = .row m0 ∧ s 4 = .t (.int .i64 i) ∧ s 5 = .row w0 ∧ s 6 = .t (.int .i64 0) ∧ o 0 = filB f ∧ o m0 = .row 9 cs true ∧ o w0 = .row 9 [] true ∧ 0 < m0 ∧ m0 < w0 ∧ w0 < q) →
    ∃ e s' o' q', run E (.code (.loop (loopAt Tryz.f174 1)) ⟨s, o, q, 61⟩) = some (.st e ⟨s', o', q', 61⟩) ∧ ∃ r, e = .exit 2 ∧ s' 1 = .ptr 0 0 ∧ s' 3 = .row m0 ∧ s' 4 = .t (.int .i64 i) ∧ s' 5 = .row r ∧ o' 0 = filB f ∧ o' m0 = .row 9 cs true ∧ o' r = .row 9 ((f[i].map txtT).map strT) true ∧ m0 < r ∧ r < q' ∧ m0 ≠ q' ∧ r ≠ q' ∧ m0 ≠ r ∧ q' ≠ 0 ∧ 0 ≠ q' ∧ m0 < q' + 1 ∧ m0 ≠ q' + 1 ∧ 0 < q' ∧ 0 ≠ r ∧ q' ≠ m0 ∧ q' ≠ r := by
  intro s o q hI
  obtain ⟨e, s', o', q', hr, r, he, a1, a3, a4, a5, a6, a7, a8, p1, p2⟩ := specTerms f i hi hf hl hc m0 w0 cs s o q hI
  have p0 := hI.2.2.2.2.2.2.2.2.1
  exact ⟨e, s', o', q', hr, r, he, a1, a3, a4, a5, a6, a7, a8, p1, p2, by omega, by omega, by omega, by omega, by omega, by omega, by omega, by omega, by omega, by omega, by omega⟩
theorem specText_loop (f : List (List Trm)) (hf : ∀ c ∈ f, c.length ≤ 100 ∧ ∀ t ∈ c, trmFit t) (hl : f.length ≤ 100) : ∀ s o q, (s 1 = .ptr 0 0 ∧ s 3 = .row 1 ∧ s 4 = .t (.int .i64 0) ∧ o 0 = filB f ∧ o 1 = .row 9 [] true ∧ 1 < q) →
    ∃ e s' o' q', run E (.code (.loop (loopAt Tryz.f174 0)) ⟨s, o, q, 61⟩) = some (.st e ⟨s', o', q', 61⟩) ∧ ∃ r, e = .exit 0 ∧ s' 3 = .row r ∧ o' r = .row 9 ((f.map txtC).map strT) true := by
  intro s o q hI
  refine loop_for (c := loopAt Tryz.f174 0) (N := 61)
    (fun i s o q => ∃ r acc, s 1 = .ptr 0 0 ∧ s 3 = .row r ∧ s 4 = .t (.int .i64 i) ∧ o 0 = filB f ∧ o r = .row 9 (acc.map strT) true ∧ 0 < r ∧ r < q ∧ acc.length = i ∧ f.map txtC = acc ++ (f.drop i).map txtC)
    (fun e s' o' q' => ∃ r, e = .exit 0 ∧ s' 3 = .row r ∧ o' r = .row 9 ((f.map txtC).map strT) true) f.length ?_ ?_
    f.length 0 s o q (by omega) (by
      obtain ⟨h1, h3, h4, o0, o1, hq⟩ := hI
      exact ⟨1, [], h1, h3, h4, o0, o1, by omega, hq, rfl, by simp⟩)
  · rintro i s o q hi ⟨r, acc, h1, h3, h4, o0, hor, p1, p2, hac, hp⟩
    have hi' : (i : Int) < (f.length : Int) := by omega
    have hwi := wrap_succ (n := i) (by omega)
    obtain ⟨hc1, hc2⟩ := hf _ (List.getElem_mem hi)
    obtain ⟨X, A, B, C, M, hx⟩ := sk1 (specTerms2 f i hi hc2 hl hc1 r q (acc.map strT))
    simp only [loopAt, loopsOf, Tryz.f174] at hx
    simp at hx
    have hlen := txtC_len f[i] hc2 hc1
    have hj := l00Join (f[i].map txtT) andB (by simp; omega) (by unfold txtC at hlen; omega)
    have hgx : Lib.join (f[i].map txtT) andB = txtC f[i] := rfl
    rw [hgx] at hj
    have hr0 : r ≠ 0 := by omega
    have h0r : 0 ≠ r := by omega
    have q0 : q ≠ 0 := by omega
    have n0 : 0 ≠ q := by omega
    have rq : r ≠ q := by omega
    have qr : q ≠ r := by omega
    have hcat : acc.length + 1 ≤ 140737488355328 := by omega
    have hcat2 : (acc.length + 1) * 16 ≤ 140737488355328 := by omega
    rw [List.drop_eq_getElem_cons hi, List.map_cons] at hp
    simp only [andB, List.map_map] at hj
    simp (maxDischargeDepth := 6) [loopAt, loopsOf, Tryz.f174, h1, h3, h4, o0, hor, hi', hwi, hr0, h0r, q0, n0, rq, qr, hcat, hcat2, p1, p2, hj, hx]
    exact ⟨acc ++ [txtC f[i]], by simp, by simp [hac], by rw [← List.map_drop]; simpa using hp⟩
  · rintro s o q ⟨r, acc, h1, h3, h4, o0, hor, p1, p2, hac, hp⟩
    simp at hp
    simp [loopAt, loopsOf, Tryz.f174, h1, h3, h4, o0, hor, hp]
theorem specFText (f : List (List Trm)) (hf : ∀ c ∈ f, c.length ≤ 100 ∧ ∀ t ∈ c, trmFit t) (hl : f.length ≤ 100) : run E (.call 174 [.t (filT f)]) = some (.res [xS (txtF f)] []) := by
  rw [run_call E 174 _ rfl Tryz.func174 rfl rfl rfl (by simp)]
  have hlen := txtF_len f hf hl
  have hj := l00Join (f.map txtC) orB (by simp; omega) (by unfold txtF at hlen; omega)
  have hgx : Lib.join (f.map txtC) orB = txtF f := rfl
  rw [hgx] at hj
  simp only [orB, List.map_map] at hj
  have lp := specText_loop f hf hl
  simp only [loopAt, loopsOf, Tryz.f174] at lp
  obtain ⟨X, A, B, C, M, hx⟩ := sk1 lp
  simp at hx
  simp (maxDischargeDepth := 6) [hx, hj]
theorem pathOK_le {p : Bytes} (h : pathOK p = true) : p.length ≤ 50 := by
  unfold pathOK at h
  simp at h
  exact h.1.1
theorem opOK_rng {op : Int} {v : Val} (h : opOK op v = true) : 1 ≤ op ∧ op ≤ 10 := by
  unfold opOK at h
  split at h
  · omega
  · split at h
    · omega
    · split at h
      · omega
      · split at h
        · omega
        · simp at h; omega
theorem fil_txt {f : List (List Trm)} (h : filterOK f = true) (hs : filterSm f) : f.length ≤ 100 ∧ ∀ c ∈ f, c.length ≤ 100 ∧ ∀ t ∈ c, trmFit t := by
  have hc := terms_ok h hs
  unfold filterOK at h
  simp only [Bool.and_eq_true, decide_eq_true_eq] at h
  refine ⟨by have := h.1; omega, fun c hcm => ?_⟩
  have hck := List.all_eq_true.1 h.2 c hcm
  unfold clauseOK at hck
  simp only [Bool.and_eq_true, decide_eq_true_eq] at hck
  refine ⟨by have := hck.1; omega, fun t ht => ?_⟩
  obtain ⟨h1, h2, _⟩ := (hc c hcm).2 t ht
  have ht := List.all_eq_true.1 hck.2 t ht
  unfold termOK at ht
  simp only [Bool.and_eq_true] at ht
  have := pathOK_le ht.1.1
  have hr := opOK_rng h2
  exact ⟨h1, by omega, by omega, by omega⟩
def textOut (f : List (List Trm)) : Bytes × Int := if filterOK f then (txtF f, 0) else ([], 1)
theorem specFilterText (f : List (List Trm)) (hs : filterSm f) : run E (.call 70 [.t (filT f)]) = some (.res [xS (textOut f).1, xI (textOut f).2] []) := by
  rw [run_call E 70 _ rfl Tryz.func70 rfl rfl rfl (by simp)]
  have h1 := specFilterOK f hs
  unfold textOut
  cases hf : filterOK f with
  | false => simp [h1, hf]
  | true =>
    obtain ⟨a1, a2⟩ := fil_txt hf hs
    have h2 := specFText f a2 a1
    simp [h1, hf, h2]
end Go.Xd
/- A filter's text: impl's side. -/
set_option linter.unusedSimpArgs false
set_option linter.unusedVariables false
namespace Go.Xd
open Go.Ev Go.Proofs Go.Pu
set_option maxRecDepth 100000
set_option maxHeartbeats 16000000
theorem word_at (op : Int) (h1 : 1 ≤ op) (h10 : op ≤ 10) : globAt E 237 0 (.t (.int .i64 (op - 1))) = some (.dptr [.str (wordF op)]) := by
  obtain ⟨n, rfl, hn⟩ : ∃ n : Nat, op = (n : Int) + 1 ∧ n < 10 := ⟨(op - 1).toNat, by omega, by omega⟩
  have e2 : ((n : Int) + 1 - 1) = (n : Int) := by omega
  have e3 : ((n : Int) + 1 - 1).toNat = n := by omega
  have hl : n < wordsF.length := by rw [show wordsF.length = 10 from rfl]; exact hn
  have hgl : E.glob 0 = wordsF.map T.str := rfl
  have hg : (E.glob 0)[n]? = some (.str (wordF ((n : Int) + 1))) := by
    rw [hgl, List.getElem?_map]
    unfold wordF
    rw [e3, List.getD_eq_getElem?_getD, List.getElem?_eq_getElem hl]
    rfl
  unfold globAt
  rw [E_arr237, e2]
  have ha : asNat (.t (.int .i64 (n : Int))) = some n := by simp [asNat]
  simp only [ha, hg, hn, if_true]
  simp [T.one, T.flat]
theorem implTerms (f : List (List Trm)) (c : List Trm) (i m0 w0 : Nat) (hf : ∀ t ∈ c, trmFit t) (hc : c.length ≤ 100) (cs : List T) : ∀ s o q, (s 4 = .row m0 ∧ s 7 = .row w0 ∧ s 15 = .t (.list (f.map clsT)) ∧ s 16 = .t (.int .i64 f.length) ∧ s 17 = .t (.int .i64 i) ∧ s 23 = .t (.list (c.map trmT)) ∧ s 24 = .t (.int .i64 c.length) ∧ s 25 = .t (.int .i64 0) ∧ o m0 = .row 9 cs true ∧ o w0 = .row 9 [] true ∧ 0 < m0 ∧ m0 < w0 ∧ w0 < q) →
    ∃ e s' o' q', run E (.code (.loop (loopAt Tryz.f71 1)) ⟨s, o, q, 55⟩) = some (.st e ⟨s', o', q', 55⟩) ∧ ∃ r, e = .exit 2 ∧ s' 4 = .row m0 ∧ s' 7 = .row r ∧ s' 15 = .t (.list (f.map clsT)) ∧ s' 16 = .t (.int .i64 f.length) ∧ s' 17 = .t (.int .i64 i) ∧ o' m0 = .row 9 cs true ∧ o' r = .row 9 ((c.map txtT).map strT) true ∧ m0 < r ∧ r < q' := by
  intro s o q hI
  have d11 := d71_11
  simp [regionOf, findR, pick, Tryz.f71] at d11
  have dd := fun st => run_region_draw E st 11 _ d11
  clear d11
  have hG : ∀ t : Trm, t.path ++ 32 :: (wordF t.op ++ 32 :: txtD 5 t.v) = txtT t := by intro t; simp [txtT]
  refine loop_for (c := loopAt Tryz.f71 1) (N := 55)
    (fun j s o q => ∃ r acc, s 4 = .row m0 ∧ s 7 = .row r ∧ s 15 = .t (.list (f.map clsT)) ∧ s 16 = .t (.int .i64 f.length) ∧ s 17 = .t (.int .i64 i) ∧ s 23 = .t (.list (c.map trmT)) ∧ s 24 = .t (.int .i64 c.length) ∧ s 25 = .t (.int .i64 j) ∧ o m0 = .row 9 cs true ∧ o r = .row 9 (acc.map strT) true ∧ 0 < m0 ∧ m0 < r ∧ r < q ∧ acc.length = j ∧ c.map txtT = acc ++ (c.drop j).map txtT)
    (fun e s' o' q' => ∃ r, e = .exit 2 ∧ s' 4 = .row m0 ∧ s' 7 = .row r ∧ s' 15 = .t (.list (f.map clsT)) ∧ s' 16 = .t (.int .i64 f.length) ∧ s' 17 = .t (.int .i64 i) ∧ o' m0 = .row 9 cs true ∧ o' r = .row 9 ((c.map txtT).map strT) true ∧ m0 < r ∧ r < q') c.length ?_ ?_
    c.length 0 s o q (by omega) (by
      obtain ⟨h4, h7, h15, h16, h17, h23, h24, h25, om, ow, p1, p2, p3⟩ := hI
      exact ⟨w0, [], h4, h7, h15, h16, h17, h23, h24, h25, om, ow, p1, p2, p3, rfl, by simp⟩)
  · rintro j s o q hj ⟨r, acc, h4, h7, h15, h16, h17, h23, h24, h25, om, hor, p1, p2, p3, hac, hp⟩
    have hj' : (j : Int) < (c.length : Int) := by omega
    have hwj := wrap_succ (n := j) (by omega)
    have hxj : c[j]? = some c[j] := List.getElem?_eq_getElem hj
    have ht := hf _ (List.getElem_mem hj)
    have hk := implText 5 c[j].v ht.1 (by have := okP_size ht.1; omega)
    have hg := word_at c[j].op ht.2.1 ht.2.2.1
    have hwo := wrap_of (n := c[j].op - 1) (by have := ht.2.1; omega) (by have := ht.2.2.1; omega)
    have htl := txtT_len c[j] ht
    have hgx := hG c[j]
    have hlen := congrArg List.length hgx
    simp only [List.length_append, List.length_cons] at hlen
    have hm0 : m0 ≠ 0 := by omega
    have h0m : 0 ≠ m0 := by omega
    have hrm : r ≠ m0 := by omega
    have hmr : m0 ≠ r := by omega
    have q0 : q ≠ 0 := by omega
    have n0 : 0 ≠ q := by omega
    have rq : r ≠ q := by omega
    have rq1 : r ≠ q + 1 := by omega
    have rq2 : r ≠ q + 2 := by omega
    have rq3 : r ≠ q + 3 := by omega
    have mq : m0 ≠ q := by omega
    have mq1 : m0 ≠ q + 1 := by omega
    have mq2 : m0 ≠ q + 2 := by omega
    have mq3 : m0 ≠ q + 3 := by omega
    have qr : q ≠ r := by omega
    have qm : q ≠ m0 := by omega
    have hcat : acc.length + 1 ≤ 140737488355328 := by omega
    have hcat2 : (acc.length + 1) * 16 ≤ 140737488355328 := by omega
    rw [List.drop_eq_getElem_cons hj, List.map_cons] at hp
    have l0 : c[j].path.length ≤ 140737488355327 := by omega
    have l1 : c[j].path.length + 1 ≤ 140737488355328 := by omega
    have l2 : c[j].path.length + 1 + (wordF c[j].op).length ≤ 140737488355328 := by omega
    have l3 : c[j].path.length + 1 + (wordF c[j].op).length + 1 ≤ 140737488355328 := by omega
    have l4 : c[j].path.length + 1 + (wordF c[j].op).length + 1 + (txtD 5 c[j].v).length ≤ 140737488355328 := by omega
    have l5 : c[j].path.length + (1 + (wordF c[j].op).length) ≤ 140737488355328 := by omega
    have l6 : c[j].path.length + ((wordF c[j].op).length + 1) ≤ 140737488355328 := by omega
    have l7 : c[j].path.length + ((wordF c[j].op).length + 1) ≤ 140737488355327 := by omega
    have l8 : c[j].path.length + ((wordF c[j].op).length + 1 + 1) ≤ 140737488355328 := by omega
    have l9 : c[j].path.length + ((wordF c[j].op).length + ((txtD 5 c[j].v).length + 1) + 1) ≤ 140737488355328 := by omega
    have l10 : c[j].path.length + ((wordF c[j].op).length + 1 + 1) + (txtD 5 c[j].v).length ≤ 140737488355328 := by omega
    simp [loopAt, loopsOf, Tryz.f71, dd, h4, h7, h15, h16, h17, h23, h24, h25, om, hor, hj, hj', hwj, hxj, hk, hg, hwo, -globAt, hm0, h0m, hrm, hmr, q0, n0, rq, rq1, rq2, rq3, mq, mq1, mq2, mq3, qr, qm, hcat, hcat2, l0, l1, l2, l3, l4, l5, l6, l7, l8, l9, l10, hgx]
    exact ⟨acc ++ [txtT c[j]], by simp, by omega, by omega, by simp [hac], by rw [← List.map_drop]; simpa using hp⟩
  · rintro s o q ⟨r, acc, h4, h7, h15, h16, h17, h23, h24, h25, om, hor, p1, p2, p3, hac, hp⟩
    simp at hp
    simp [loopAt, loopsOf, Tryz.f71, h4, h7, h15, h16, h17, h23, h24, h25, om, hor, hp, p2, p3]
theorem implTerms2 (f : List (List Trm)) (c : List Trm) (i m0 w0 : Nat) (hf : ∀ t ∈ c, trmFit t) (hc : c.length ≤ 100) (cs : List T) : ∀ s o q, (s 4 = .row m0 ∧ s 7 = .row w0 ∧ s 15 = .t (.list (f.map clsT)) ∧ s 16 = .t (.int .i64 f.length) ∧ s 17 = .t (.int .i64 i) ∧ s 23 = .t (.list (c.map trmT)) ∧ s 24 = .t (.int .i64 c.length) ∧ s 25 = .t (.int .i64 0) ∧ o m0 = .row 9 cs true ∧ o w0 = .row 9 [] true ∧ 0 < m0 ∧ m0 < w0 ∧ w0 < q) →
    ∃ e s' o' q', run E (.code (.loop (loopAt Tryz.f71 1)) ⟨s, o, q, 55⟩) = some (.st e ⟨s', o', q', 55⟩) ∧ ∃ r, e = .exit 2 ∧ s' 4 = .row m0 ∧ s' 7 = .row r ∧ s' 15 = .t (.list (f.map clsT)) ∧ s' 16 = .t (.int .i64 f.length) ∧ s' 17 = .t (.int .i64 i) ∧ o' m0 = .row 9 cs true ∧ o' r = .row 9 ((c.map txtT).map strT) true ∧ m0 < r ∧ r < q' ∧ m0 ≠ q' ∧ r ≠ q' ∧ m0 ≠ r ∧ q' ≠ 0 ∧ 0 ≠ q' ∧ m0 < q' + 1 ∧ m0 ≠ q' + 1 ∧ 0 < q' ∧ 0 ≠ r ∧ q' ≠ m0 ∧ q' ≠ r := by
  intro s o q hI
  obtain ⟨e, s', o', q', hr, r, he, a1, a2, a3, a4, a5, a6, a7, p1, p2⟩ := implTerms f c i m0 w0 hf hc cs s o q hI
  have p0 := hI.2.2.2.2.2.2.2.2.2.2.1
  exact ⟨e, s', o', q', hr, r, he, a1, a2, a3, a4, a5, a6, a7, p1, p2, by omega, by omega, by omega, by omega, by omega, by omega, by omega, by omega, by omega, by omega, by omega⟩
theorem implFText_loop (f : List (List Trm)) (hf : ∀ c ∈ f, c.length ≤ 100 ∧ ∀ t ∈ c, trmFit t) (hl : f.length ≤ 100) : ∀ s o q, (s 4 = .row 1 ∧ s 15 = .t (.list (f.map clsT)) ∧ s 16 = .t (.int .i64 f.length) ∧ s 17 = .t (.int .i64 0) ∧ o 1 = .row 9 [] true ∧ 1 < q) →
    ∃ e s' o' q', run E (.code (.loop (loopAt Tryz.f71 0)) ⟨s, o, q, 55⟩) = some (.st e ⟨s', o', q', 55⟩) ∧ ∃ r, e = .exit 0 ∧ s' 4 = .row r ∧ o' r = .row 9 ((f.map txtC).map strT) true := by
  intro s o q hI
  refine loop_for (c := loopAt Tryz.f71 0) (N := 55)
    (fun i s o q => ∃ r acc, s 4 = .row r ∧ s 15 = .t (.list (f.map clsT)) ∧ s 16 = .t (.int .i64 f.length) ∧ s 17 = .t (.int .i64 i) ∧ o r = .row 9 (acc.map strT) true ∧ 0 < r ∧ r < q ∧ acc.length = i ∧ f.map txtC = acc ++ (f.drop i).map txtC)
    (fun e s' o' q' => ∃ r, e = .exit 0 ∧ s' 4 = .row r ∧ o' r = .row 9 ((f.map txtC).map strT) true) f.length ?_ ?_
    f.length 0 s o q (by omega) (by
      obtain ⟨h4, h15, h16, h17, o1, hq⟩ := hI
      exact ⟨1, [], h4, h15, h16, h17, o1, by omega, hq, rfl, by simp⟩)
  · rintro i s o q hi ⟨r, acc, h4, h15, h16, h17, hor, p1, p2, hac, hp⟩
    have hi' : (i : Int) < (f.length : Int) := by omega
    have hwi := wrap_succ (n := i) (by omega)
    have hfi : f[i]? = some f[i] := List.getElem?_eq_getElem hi
    obtain ⟨hc1, hc2⟩ := hf _ (List.getElem_mem hi)
    obtain ⟨X, A, B, C, M, hx⟩ := sk1 (implTerms2 f f[i] i r (q + 1) hc2 hc1 (acc.map strT))
    simp only [loopAt, loopsOf, Tryz.f71] at hx
    simp at hx
    have hlen := txtC_len f[i] hc2 hc1
    have hcl : f[i].length ≤ 140737488355328 := by omega
    have hcl2 : (txtC f[i]).length ≤ 140737488355328 := by omega
    have q0 : q ≠ 0 := by omega
    have n0 : 0 ≠ q := by omega
    have rq : r ≠ q := by omega
    have rq1 : r ≠ q + 1 := by omega
    have rq2 : r < q + 1 := by omega
    have qr : q ≠ r := by omega
    have hcat : acc.length + 1 ≤ 140737488355328 := by omega
    have hcat2 : (acc.length + 1) * 16 ≤ 140737488355328 := by omega
    rw [List.drop_eq_getElem_cons hi, List.map_cons] at hp
    have hj := goJoin (f[i].map txtT) andB (by simp; omega) (by unfold txtC at hlen; omega)
    rw [show Lib.join (f[i].map txtT) andB = txtC f[i] from rfl] at hj
    simp only [andB, List.map_map] at hj
    simp (maxDischargeDepth := 6) [loopAt, loopsOf, Tryz.f71, h4, h15, h16, h17, hor, hfi, hi, hi', hwi, q0, n0, rq, rq1, rq2, qr, hcat, hcat2, p1, p2, hj, hx]
    exact ⟨acc ++ [txtC f[i]], by simp, by simp [hac], by rw [← List.map_drop]; simpa using hp⟩
  · rintro s o q ⟨r, acc, h4, h15, h16, h17, hor, p1, p2, hac, hp⟩
    simp at hp
    simp [loopAt, loopsOf, Tryz.f71, h4, h15, h16, h17, hor, hp]
theorem implFilterText (f : List (List Trm)) (hs : filterSm f) : run E (.call 71 [.t (filT f)]) = some (.res [xS (textOut f).1, xI (textOut f).2] []) := by
  rw [run_call E 71 _ rfl Tryz.func71 rfl rfl rfl (by simp)]
  have h1 := implFilterOK f hs
  unfold textOut
  cases hf : filterOK f with
  | false => simp [h1, hf]
  | true =>
    obtain ⟨a1, a2⟩ := fil_txt hf hs
    have hlen := txtF_len f a2 a1
    have hj := goJoin (f.map txtC) orB (by simp; omega) (by unfold txtF at hlen; omega)
    rw [show Lib.join (f.map txtC) orB = txtF f from rfl] at hj
    simp only [orB, List.map_map] at hj
    have lp := implFText_loop f a2 a1
    simp only [loopAt, loopsOf, Tryz.f71] at lp
    obtain ⟨X, A, B, C, M, hx⟩ := sk1 lp
    simp at hx
    simp (maxDischargeDepth := 6) [h1, hf, hx, hj]
end Go.Xd
/- The law FnExactFilterText over plain data. -/
set_option linter.unusedSimpArgs false
set_option linter.unusedVariables false
namespace Go.Xd
open Go.Ev Go.Proofs Go.Pu
set_option maxRecDepth 100000
set_option maxHeartbeats 16000000
theorem lawFilterText (f : List (List Trm)) (hf : filWd f) : run E (.call 12 [.t (filT f)]) = some (.res [xB true] []) := by
  rw [run_call E 12 _ rfl Tryz.func12 rfl rfl rfl (by simp)]
  have h1 := szFilter f hf 1048576 (by omega) (by omega)
  by_cases hn : szFil f 1048576 < 0
  · simp [h1, hn]
  · have hs := szFil_sm (by omega) (by omega) hn
    have t1 := toFilter f hs.1 (fun c hc => (hs.2 c hc).1)
    have t3 := specFilterText f hs
    have t4 := implFilterText f hs
    have t5 := eqFilter f hs.1 (fun c hc => (hs.2 c hc).1)
    have d10 := d12_10
    simp [regionOf, findR, pick, Tryz.f12] at d10
    have dd10 := fun st => run_region_draw E st 10 _ d10
    clear d10
    generalize textOut f = R at *
    obtain ⟨b, c⟩ := R
    simp [h1, hn, t1, t3, t4, t5, dd10]
end Go.Xd
/- A row's tables, as they lie in memory. -/
set_option linter.unusedSimpArgs false
set_option linter.unusedVariables false
namespace Go.Ev
open Go.RowKit
/-- A table of texts, as a row lists it. -/
def strData {H : Type} (zs : List (List UInt8)) : DataW H := .agg (zs.map fun z => .lit (.string z))
theorem cells_of_strs {H : Type} {enc : TypeId × Value → H} {P : Program} {w : World} {base : Nat} {sp : Nat → Bool} {held : Bool} {fuel : Nat} {t e : TypeId} {n : Nat} {cs : List Value} {zs : List (List UInt8)} {p : List MemPlace}
    (ht : P.underlying t = some (.array n e)) (he : P.underlying e = some .string) (hce : P.cellsOf e = 1) (hct : P.cellsOf t = n)
    (h : DataW.trod enc P w base sp held fuel t cs = some (strData zs, p)) : cs = zs.map fun z => Value.string ⟨⟨z⟩⟩ := by
  cases fuel with
  | zero => simp [DataW.trod] at h
  | succ fuel =>
    simp only [DataW.trod, ht, hce, hct, Nat.mul_one] at h
    split at h
    · rename_i hl
      obtain ⟨xs, hm, hx⟩ := Option.map_eq_some_iff.1 h
      have hxs : xs.map (·.1) = zs.map fun z => (DataW.lit (.string z) : DataW H) := by
        have := congrArg Prod.fst hx
        simpa [strData] using this
      have hxl : xs.length = n := by simpa using Lib.mapM_length hm
      have hzl : zs.length = n := by
        have := congrArg List.length hxs
        simp at this
        omega
      apply List.ext_getElem?
      intro i
      by_cases hi : i < n
      · obtain ⟨b, hb, hf⟩ := Lib.mapM_at hm i i (by simp [hi])
        obtain ⟨z, hc, rfl, _⟩ := DataW.trod_string he hf
        have h1 : cs[i]? = some (.string z) := by
          have := congrArg (·[0]?) hc
          simpa [List.getElem?_take, List.getElem?_drop] using this
        have h2 : (xs.map (·.1))[i]? = some (DataW.lit (.string z.data.toList) : DataW H) := by simp [hb]
        rw [hxs] at h2
        simp only [List.getElem?_map, Option.map_eq_some_iff, DataW.lit.injEq, Lit.string.injEq] at h2
        obtain ⟨z', hz', rfl⟩ := h2
        simp [h1, hz']
      · rw [List.getElem?_eq_none (by omega), List.getElem?_eq_none (by simp; omega)]
    · cases h
theorem laid_mem {P : Program} {W : World} {name : String} {d : DataW Unit} : ∀ {l : List (String × DataW Unit)}, laidMet P l W → (name, d) ∈ l →
    ∃ r, laidMet P ((name, d) :: r) W
  | x :: r, h, hm => by
    rcases List.mem_cons.1 hm with rfl | hm
    · exact ⟨r, h⟩
    · exact laid_mem h.tail hm
theorem heap_of_var {P : Program} {W : World} {name : String} {g : Nat} {cs : Array Value} (hg : P.globalNamed name = some g) (h : W.var? P name = some cs) : ∃ a b, W.heap[g]? = some (.cells cs a b) := by
  unfold World.var? at h
  rw [hg, Option.bind_some] at h
  split at h
  · rename_i cs' a b hh
    obtain rfl := Option.some.inj h
    exact ⟨a, b, hh⟩
  · cases h
/-- A table of integers lies there. -/
theorem laid_ints {P : Program} {W : World} {l : List (String × DataW Unit)} {name : String} {k : IntKind} {zs : List Int} {g : Nat} {t e : TypeId} {n : Nat} (h : laidMet P l W) (hm : (name, Lib.tabData k zs) ∈ l)
    (hg : P.globalNamed name = some g) (hty : (P.globals[g]?).map (·.type) = some t) (ht : P.underlying t = some (.array n e)) (he : P.underlying e = some (.int k)) (hce : P.cellsOf e = 1) (hct : P.cellsOf t = n) :
    ∃ a b, W.heap[g]? = some (.cells ((zs.map (T.int k)).map vOf).toArray a b) := by
  obtain ⟨r, hr⟩ := laid_mem h hm
  have := Lib.tabIs_of_head hg hty ht he hce hct hr
  obtain ⟨a, b, hh⟩ := heap_of_var hg this
  exact ⟨a, b, by rw [hh, List.map_map]; rfl⟩
theorem laid_strs {P : Program} {W : World} {l : List (String × DataW Unit)} {name : String} {zs : List (List UInt8)} {g : Nat} {t e : TypeId} {n : Nat} (h : laidMet P l W) (hm : (name, strData zs) ∈ l)
    (hg : P.globalNamed name = some g) (hty : (P.globals[g]?).map (·.type) = some t) (ht : P.underlying t = some (.array n e)) (he : P.underlying e = some .string) (hce : P.cellsOf e = 1) (hct : P.cellsOf t = n) :
    ∃ a b, W.heap[g]? = some (.cells ((zs.map T.str).map vOf).toArray a b) := by
  obtain ⟨r, ps, ⟨g', t', cs, fuel, p, q, hg', ht', hvar, hd, _, _⟩, _⟩ := laid_mem h hm
  obtain rfl := Option.some.inj (hg.symm.trans hg')
  obtain rfl := Option.some.inj (hty.symm.trans ht')
  obtain ⟨a, b, hh⟩ := heap_of_var hg hvar
  refine ⟨a, b, ?_⟩
  have hc := cells_of_strs ht he hce hct hd
  rw [hh, show cs = cs.toList.toArray by simp, hc, List.map_map]
  rfl
end Go.Ev
/- A row's variables: they read behind the call as they did ahead of it. -/
set_option linter.unusedSimpArgs false
set_option linter.unusedVariables false
namespace Go.Ev
open Go.RowKit Go.ChangeShapes Go.WideShapes
variable {H : Type} {enc : TypeId × Value → H} {P : Program} {w w' : World}
theorem var?_below {n : String} {cs : Array Value} (h : w.var? P n = some cs) (hb : Below w.heap.size w w') : w'.var? P n = some cs := by
  unfold World.var? at h ⊢
  cases hg : P.globalNamed n with
  | none => rw [hg] at h; cases h
  | some g =>
    rw [hg] at h
    simp only [Option.bind_some] at h ⊢
    have hlt : g < w.heap.size := by
      by_cases hlt : g < w.heap.size
      · exact hlt
      · rw [Array.getElem?_eq_none (by omega)] at h; cases h
    rw [hb.block g hlt]
    exact h
theorem trodVars_back (hl : laidOutB P = true) : ∀ {ns : List String} {ds : List (DataW H)} {ps : List MemPlace}, (∀ n ∈ ns, ∀ g t, P.globalNamed n = some g → (P.globals[g]?).map (·.type) = some t → P.readableRec t = true ∧ t < P.types.size) →
    DataW.TrodVars enc P w (fun _ => true) ns ds ps → Below w.heap.size w w' → DataW.TrodVars enc P w' (fun b => decide (b < w.heap.size)) ns ds ps
  | [], ds, ps, hr, h, hb => by
    cases ds <;> simp [DataW.TrodVars] at h ⊢
    exact h
  | n :: ns, [], ps, hr, h, hb => by simp [DataW.TrodVars] at h
  | n :: ns, d :: ds, ps, hr, ⟨g, t, cs, fuel, p, q, h1, h2, h3, h4, hs, e⟩, hb => by
    obtain ⟨r1, r2⟩ := hr n (by simp) g t h1 h2
    have hlt : ∀ x ∈ p, x.block < w.heap.size := DataW.trod_lt fuel _ _ _ h4
    exact ⟨g, t, cs, fuel, p, q, h1, h2, var?_below h3 hb, DataW.trod_stays (kids_book hl r1) (book_sized r1) (fun h => by cases h) ⟨r2, book_self t⟩ h4 (fun x hx => hb.same (hlt x hx)) (fun x hx => by simpa using hlt x hx), trodVars_back hl (fun m hm => hr m (by simp [hm])) hs hb, e⟩
end Go.Ev
