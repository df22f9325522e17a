/- The law FnExactVersionsOf, run over plain data: it answers true. -/
import Derived.Test.YtjbnpbcihofmgaaGreatDoorLawCollOK
set_option linter.unusedSimpArgs false
set_option linter.unusedVariables false
namespace Go.Zd
open Go.Ev Go.Proofs Go.Pu
set_option maxRecDepth 100000
set_option maxHeartbeats 16000000
def sumGo : Int → List Chn → Int
  | n, [] => n
  | n, c :: r => sumGo (IntKind.i64.wrap (n + (c.vs.length : Int))) r
theorem specVersionsOf (c : Col) (h : c.Sm) : run E (.call 32 [.t (colT c)]) = some (.res [xI (if collOK c then sumGo 0 c.chains else 0), xI (if collOK c then 0 else 1)] []) := by
  rw [run_call E 32 _ rfl Tryz.func32 rfl rfl rfl (by simp)]
  have h1 := specCollOK c h
  cases hok : collOK c with
  | false => rw [hok] at h1; simp [h1]
  | true =>
    rw [hok] at h1
    obtain ⟨m, hm⟩ : ∃ m, m = sumGo 0 c.chains := ⟨_, rfl⟩
    have lp := sk (fun s o q hI => loop_for (c := loopAt Tryz.f32 0) (N := 26)
      (fun i s o q => ∃ k : Int, s 1 = .ptr 0 0 ∧ s 4 = .t (.int .i64 k) ∧ s 5 = .t (.int .i64 i) ∧ o 0 = colBox c ∧ m = sumGo k (c.chains.drop i))
      (fun e s' o' q' => e = .exit 0 ∧ s' 4 = .t (.int .i64 m)) c.chains.length
      (by
        rintro i s o q hi ⟨k, g1, g4, g5, ho, hp⟩
        have hi' : (i : Int) < (c.chains.length : Int) := by omega
        have hwi := wrap_succ (n := i) (by have := h.chains.1; omega)
        have hxi : c.chains[i]? = some c.chains[i] := List.getElem?_eq_getElem hi
        rw [List.drop_eq_getElem_cons hi, sumGo] at hp
        simp [loopAt, loopsOf, Tryz.f32, g1, g4, g5, hi', hxi, hwi, ho]
        exact hp)
      (by
        rintro s o q ⟨k, g1, g4, g5, ho, hp⟩
        simp [sumGo] at hp
        simp [loopAt, loopsOf, Tryz.f32, g1, g4, g5, ho, hp])
      c.chains.length 0 s o q (by omega) hI)
    simp only [loopAt, loopsOf, Tryz.f32] at lp
    obtain ⟨X, A, B, C, hx⟩ := lp
    have hx' := fun s o q a1 a4 a5 ao => hx s o q ⟨0, a1, a4, a5, ao, by simpa using hm⟩
    clear hx
    simp at hx'
    simp [h1, hx', ← hm]
theorem implVersions (c : Col) (h : c.Sm) : run E (.call 98 [.t (colT c)]) = some (.res [xI (sumGo 0 c.chains)] []) := by
  rw [run_call E 98 _ rfl Tryz.func98 rfl rfl rfl (by simp)]
  obtain ⟨m, hm⟩ : ∃ m, m = sumGo 0 c.chains := ⟨_, rfl⟩
  have lp := sk (fun s o q hI => loop_for (c := loopAt Tryz.f98 0) (N := 20)
    (fun i s o q => ∃ k : Int, s 7 = .t (.list (c.chains.map chnT)) ∧ s 8 = .t (.int .i64 c.chains.length) ∧ s 9 = .t (.int .i64 i) ∧ s 3 = .t (.int .i64 k) ∧ m = sumGo k (c.chains.drop i))
    (fun e s' o' q' => e = .exit 0 ∧ s' 3 = .t (.int .i64 m)) c.chains.length
    (by
      rintro i s o q hi ⟨k, g7, g8, g9, g3, hp⟩
      have hi' : (i : Int) < (c.chains.length : Int) := by omega
      have hwi := wrap_succ (n := i) (by have := h.chains.1; omega)
      have hxi : c.chains[i]? = some c.chains[i] := List.getElem?_eq_getElem hi
      rw [List.drop_eq_getElem_cons hi, sumGo] at hp
      simp [loopAt, loopsOf, Tryz.f98, g7, g8, g9, g3, hi', hxi, hwi]
      exact hp)
    (by
      rintro s o q ⟨k, g7, g8, g9, g3, hp⟩
      simp [sumGo] at hp
      simp [loopAt, loopsOf, Tryz.f98, g7, g8, g9, g3, hp])
    c.chains.length 0 s o q (by omega) hI)
  simp only [loopAt, loopsOf, Tryz.f98] at lp
  obtain ⟨X, A, B, C, hx⟩ := lp
  have hx' := fun s o q a1 a4 a5 a3 => hx s o q ⟨0, a1, a4, a5, a3, by simpa using hm⟩
  clear hx
  simp at hx'
  simp [hx', ← hm]
theorem implVersionsOf (c : Col) (h : c.Sm) : run E (.call 33 [.t (colT c)]) = some (.res [xI (if collOK c then sumGo 0 c.chains else 0), xI (if collOK c then 0 else 1)] []) := by
  rw [run_call E 33 _ rfl Tryz.func33 rfl rfl rfl (by simp)]
  have h1 := implCollOK c h
  have h2 := implVersions c h
  cases hok : collOK c <;> rw [hok] at h1 <;> simp [h1, h2]
theorem lawVersionsOf (c : Col) (h : c.Wd) : run E (.call 7 [.t (colT c)]) = some (.res [xB true] []) := by
  rw [run_call E 7 _ rfl Tryz.func7 rfl rfl rfl (by simp)]
  have h1 := szColl c h 1048576 (by omega) (by omega)
  by_cases hn : szCol c 1048576 < 0
  · simp [h1, hn]
  · have hs := szCol_sm (by omega) (by omega) hn
    have h2 := toColl c hs
    have h3 := specVersionsOf c hs
    have h4 := implVersionsOf c hs
    have h5 := eqColl c hs
    have d10 := d7_10
    simp [regionOf, findR, pick, Tryz.f7] at d10
    have dd := fun st => run_region_draw E st 10 _ d10
    clear d10
    generalize (if collOK c = true then sumGo 0 c.chains else 0) = a at *
    generalize (if collOK c = true then (0 : Int) else 1) = b at *
    simp [h1, hn, h2, h3, h4, h5, dd]
end Go.Zd
