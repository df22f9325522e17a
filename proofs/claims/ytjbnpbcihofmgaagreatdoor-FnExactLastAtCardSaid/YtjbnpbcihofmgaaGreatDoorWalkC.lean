/- spec's l01OK, ValueOK. -/
import Derived.Test.YtjbnpbcihofmgaaGreatDoorWalkB
set_option linter.unusedSimpArgs false
set_option linter.unusedVariables false
namespace Go.Zd
open Go.Ev Go.Proofs Go.Pu
set_option maxRecDepth 100000
set_option maxHeartbeats 16000000
theorem items_small : ∀ {xs : List Val} {t : Bytes}, itemsP t = some xs → xs.length ≤ t.length ∧ ∀ x ∈ xs, x.t.length < t.length
  | [], t, h => by simp
  | x :: xs, t, h => by
    rcases items_cases h with ⟨_, e⟩ | ⟨v, r, ys, h1, h2, e⟩
    · cases e
    · cases e
      have := nextP_len h1
      obtain ⟨i1, i2⟩ := items_small h2
      refine ⟨by simp; omega, fun y hy => ?_⟩
      rcases List.mem_cons.1 hy with rfl | hy
      · omega
      · have := i2 y hy; omega
theorem fields_small {xs : List Fld} : ∀ {t : Bytes}, fieldsP t = some xs → xs.length ≤ t.length ∧ ∀ x ∈ xs, x.v.t.length < t.length ∧ x.name.length ≤ t.length := by
  induction xs with
  | nil => intro t h; simp
  | cons x xs ih =>
    intro t h
    rcases fields_cases h with ⟨_, e⟩ | ⟨b, q, v, r, ys, rfl, hl, h1, h2, e⟩
    · cases e
    · cases e
      have := nextP_len h1
      simp only [List.length_drop] at this
      obtain ⟨i1, i2⟩ := ih h2
      refine ⟨by simp; omega, fun y hy => ?_⟩
      rcases List.mem_cons.1 hy with rfl | hy
      · simp; omega
      · have := i2 y hy; simp; omega
/-- Fields, one after another. -/
def docGo (d : Nat) : Option Bytes → List Fld → Bool
  | _, [] => true
  | p, f :: r => nameP f.name && (match p with
      | none => true
      | some q => Op.bytesLess q f.name) && okP d f.v && docGo d (some f.name) r
theorem docGo_eq (d : Nat) : ∀ (fs : List Fld), docGo d none fs = (rising fs && fs.all (fun f => nameP f.name && okP d f.v))
  | [] => rfl
  | [f] => by simp [docGo, rising]
  | f :: g :: r => by
    have ih := docGo_eq d (g :: r)
    simp only [docGo, rising, List.all_cons, Bool.and_true] at ih ⊢
    generalize hX : (nameP f.name && okP d f.v) = X at *
    have e1 : ∀ (a b c e q : Bool), (a && b && (c && e && q)) = (e && (a && b) && (c && q)) := by decide
    generalize docGo d (some g.name) r = D at *
    cases h1 : nameP f.name <;> cases h2 : okP d f.v <;> cases h3 : Op.bytesLess f.name g.name <;> simp_all
theorem zcase (n m : Int) : ∃ z : Bool, (n == m) = z ∧ (n != m) = (!z) ∧ decide (n = m) = z := ⟨n == m, rfl, rfl, by rw [Bool.eq_iff_iff]; simp⟩
theorem l01OK : ∀ (d : Nat) (v : Val), d ≤ 1000 → v.t.length < 4294967296 → run E (.call 107 [xV v, xI d]) = some (.res [xB (okP d v)] []) := by
  intro d
  induction d with
  | zero =>
    intro v _ hv
    rw [run_call E 107 _ rfl Tryz.func107 rfl rfl rfl (by simp)]
    have hi := l01Items v.t hv
    have hf := l01Fields v.t hv
    have h300 : ((v.t.length : Int) ≤ 300) = (v.t.length ≤ 300) := by simp; omega
    have h300' : ((300 : Int) < (v.t.length : Int)) = (300 < v.t.length) := by simp; omega
    have he : (v.t == []) = v.t.isEmpty := by cases v.t <;> rfl
    obtain ⟨z, z1, z2, z3⟩ := zcase v.n 0
    unfold okP
    by_cases h0 : v.k = 0
    · cases z <;> simp [h0, z1, z2, z3, he]
    · by_cases h1 : v.k = 1
      · by_cases hn : 0 ≤ v.n <;> by_cases hn' : v.n ≤ 1 <;> simp [h1, hn, hn', l01In, he]
      · by_cases h2 : v.k = 2
        · by_cases hn : -1000000000000 ≤ v.n <;> by_cases hn' : v.n ≤ 1000000000000 <;> simp [h2, hn, hn', l01In, he]
        · by_cases h3 : v.k = 3
          · cases z <;> simp [h3, z1, z2, z3, h300]
          · by_cases h4 : v.k = 4
            · cases hit : itemsP v.t with
              | none => rw [hit] at hi; simp only [itemsX] at hi; cases z <;> simp [h4, hi, z1, z2, z3]
              | some xs => rw [hit] at hi; simp only [itemsX] at hi; cases z <;> by_cases hl : 300 < v.t.length <;> simp [h4, hi, z1, z2, z3, h300', hl]
            · by_cases h5 : v.k = 5
              · cases hit : fieldsP v.t with
                | none => rw [hit] at hf; simp only [fieldsX] at hf; cases z <;> simp [h5, hf, z1, z2, z3]
                | some xs => rw [hit] at hf; simp only [fieldsX] at hf; cases z <;> by_cases hl : 300 < v.t.length <;> simp [h5, hf, z1, z2, z3, h300', hl]
              · simp [h0, h1, h2, h3, h4, h5]
  | succ d ih =>
    intro v hd hv
    rw [run_call E 107 _ rfl Tryz.func107 rfl rfl rfl (by simp)]
    have hi := l01Items v.t hv
    have hf := l01Fields v.t hv
    have h300 : ((v.t.length : Int) ≤ 300) = (v.t.length ≤ 300) := by simp; omega
    have h300' : ((300 : Int) < (v.t.length : Int)) = (300 < v.t.length) := by simp; omega
    have he : (v.t == []) = v.t.isEmpty := by cases v.t <;> rfl
    have hdz : ((d : Int) + 1 == 0) = false := by simp; omega
    have hwd2 := wrap_nat (n := d) (by omega)
    have hwd : IntKind.i64.wrap ((d : Int) + 1 - 1) = (d : Int) := by rw [wrap_of (by omega) (by omega)]; omega
    obtain ⟨z, z1, z2, z3⟩ := zcase v.n 0
    unfold okP
    by_cases h0 : v.k = 0
    · cases z <;> simp [h0, z1, z2, z3, he]
    · by_cases h1 : v.k = 1
      · by_cases hn : 0 ≤ v.n <;> by_cases hn' : v.n ≤ 1 <;> simp [h1, hn, hn', l01In, he]
      · by_cases h2 : v.k = 2
        · by_cases hn : -1000000000000 ≤ v.n <;> by_cases hn' : v.n ≤ 1000000000000 <;> simp [h2, hn, hn', l01In, he]
        · by_cases h3 : v.k = 3
          · cases z <;> simp [h3, z1, z2, z3, h300]
          · by_cases h4 : v.k = 4
            · cases hit : itemsP v.t with
              | none => rw [hit] at hi; simp only [itemsX] at hi; cases z <;> simp [h4, hi, z1, z2, z3]
              | some xs =>
                rw [hit] at hi
                simp only [itemsX] at hi
                obtain ⟨hs1, hs2⟩ := items_small hit
                by_cases hl : 300 < v.t.length
                · have hl' : ¬ v.t.length ≤ 300 := by omega
                  cases z <;> simp [h4, hi, z1, z2, z3, h300', hl, hl']
                · have hl' : v.t.length ≤ 300 := by omega
                  cases z with
                  | false => simp [h4, hi, z1, z2, z3]
                  | true =>
                    have lp := fun b (hb : b = xs.all (okP d)) => sk (fun s o q hI => loop_for (c := loopAt Tryz.f107 0) (N := 160)
                      (fun i s o q => s 1 = .t (.int .i64 ((d : Int) + 1)) ∧ s 5 = .row 1 ∧ s 7 = .t (.int .i64 i) ∧ o 1 = .row 25 (xs.map valT) true ∧ b = (xs.drop i).all (okP d))
                      (fun e s' o' q' => e = (if b then .exit 1 else .ret) ∧ (b = false → s' 4 = .t (.bool false))) xs.length
                      (by
                        rintro i s o q hi ⟨h1, h5, h7, ho, hp⟩
                        have hdr : xs.drop i = xs[i] :: xs.drop (i + 1) := by rw [List.drop_eq_getElem_cons hi]
                        have hi' : (i : Int) < (xs.length : Int) := by omega
                        have hw := wrap_succ (n := i) (by omega)
                        have hx := ih xs[i] (by omega) (by have := hs2 _ (List.getElem_mem hi); omega)
                        rw [hdr, List.all_cons] at hp
                        cases hok : okP d xs[i] <;> simp [hok] at hp hx <;> simp [loopAt, loopsOf, Tryz.f107, h1, h5, h7, ho, hi, hi', hwd, hwd2, hx, hw, hp])
                      (by
                        rintro s o q ⟨h1, h5, h7, ho, hp⟩
                        simp at hp
                        simp [loopAt, loopsOf, Tryz.f107, h1, h5, h7, ho, hp])
                      xs.length 0 s o q (by omega) hI)
                    simp only [loopAt, loopsOf, Tryz.f107] at lp
                    cases hb : xs.all (okP d) with
                    | true =>
                      obtain ⟨X, A, B, C, hx⟩ := lp true hb.symm
                      simp [hb, -List.all_eq_true] at hx
                      simp [h4, hi, z1, z2, z3, h300', hl, hl', hdz, hx, hb, -List.all_eq_true]
                    | false =>
                      obtain ⟨X, A, B, C, hx⟩ := lp false hb.symm
                      simp [hb, -List.all_eq_true, -List.all_eq_false] at hx
                      simp [h4, hi, z1, z2, z3, h300', hl, hl', hdz, hx, hb, -List.all_eq_true, -List.all_eq_false]
            · by_cases h5 : v.k = 5
              · cases hit : fieldsP v.t with
                | none => rw [hit] at hf; simp only [fieldsX] at hf; cases z <;> simp [h5, hf, z1, z2, z3]
                | some xs =>
                  rw [hit] at hf
                  simp only [fieldsX] at hf
                  obtain ⟨hs1, hs2⟩ := fields_small hit
                  by_cases hl : 300 < v.t.length
                  · have hl' : ¬ v.t.length ≤ 300 := by omega
                    cases z <;> simp [h5, hf, z1, z2, z3, h300', hl, hl']
                  · have hl' : v.t.length ≤ 300 := by omega
                    cases z with
                    | false => simp [h5, hf, z1, z2, z3]
                    | true =>
                      have d27 := d107_27
                      simp [regionOf, findR, pick, Tryz.f107] at d27
                      have dd := fun st => run_region_draw E st 27 _ d27
                      clear d27
                      have lp := fun b (hb : b = docGo d none xs) => sk (fun s o q hI => loop_for (c := loopAt Tryz.f107 1) (N := 160)
                        (fun i s o q => s 1 = .t (.int .i64 ((d : Int) + 1)) ∧ s 8 = .row 1 ∧ s 10 = .t (.int .i64 i) ∧ o 1 = .row 198 (xs.map fldT) true ∧ b = docGo d (match i with | 0 => none | j + 1 => (xs[j]?).map (·.name)) (xs.drop i))
                        (fun e s' o' q' => e = (if b then .exit 3 else .ret) ∧ (b = false → s' 4 = .t (.bool false))) xs.length
                        (by
                          rintro i s o q hi ⟨h1, h8, h10, ho, hp⟩
                          have hdr : xs.drop i = xs[i] :: xs.drop (i + 1) := by rw [List.drop_eq_getElem_cons hi]
                          have hi' : (i : Int) < (xs.length : Int) := by omega
                          have hw := wrap_succ (n := i) (by omega)
                          have hsm := hs2 _ (List.getElem_mem hi)
                          have hx := ih xs[i].v (by omega) (by omega)
                          have hnm := l01Name xs[i].name (by omega)
                          have hxi : xs[i]? = some xs[i] := List.getElem?_eq_getElem hi
                          rw [hdr] at hp
                          cases i with
                          | zero =>
                            simp only [docGo] at hp
                            cases hok : okP d xs[0].v <;> cases hn : nameP xs[0].name <;> simp [hok, hn] at hp hx hnm <;> simp [loopAt, loopsOf, Tryz.f107, dd, h1, h8, h10, ho, hi, hi', hwd, hwd2, hx, hnm, hw, hp, hxi]
                          | succ j =>
                            have hj : j < xs.length := by omega
                            have hxj : xs[j]? = some xs[j] := List.getElem?_eq_getElem hj
                            have hpos : (0 : Int) < (j : Int) + 1 := by omega
                            have hnn : (0 : Int) ≤ (j : Int) + 1 := by omega
                            have hwj2 := wrap_nat (n := j) (by omega)
                            have hwj : IntKind.i64.wrap ((j : Int) + 1 - 1) = (j : Int) := by rw [wrap_of (by omega) (by omega)]; omega
                            simp only [hxj, Option.map_some, docGo] at hp
                            simp at h10 hi' hw
                            cases hok : okP d xs[j + 1].v <;> cases hn : nameP xs[j + 1].name <;> cases hbl : Op.bytesLess xs[j].name xs[j + 1].name <;> simp [hok, hn, hbl] at hp hx hnm <;> simp [loopAt, loopsOf, Tryz.f107, dd, h1, h8, h10, ho, hi, hi', hwd, hwd2, hx, hnm, hw, hp, hxi, hxj, hpos, hnn, hwj, hwj2, hj, hbl])
                        (by
                          rintro s o q ⟨h1, h8, h10, ho, hp⟩
                          simp [docGo] at hp
                          simp [loopAt, loopsOf, Tryz.f107, h1, h8, h10, ho, hp])
                        xs.length 0 s o q (by omega) hI)
                      simp only [loopAt, loopsOf, Tryz.f107] at lp
                      have heq := docGo_eq d xs
                      cases hb : docGo d none xs with
                      | true =>
                        obtain ⟨X, A, B, C, hx⟩ := lp true hb.symm
                        simp [hb] at hx
                        rw [hb] at heq
                        simp [h5, hf, z1, z2, z3, h300', hl, hl', hdz, hx, ← heq, -List.all_eq_true]
                      | false =>
                        obtain ⟨X, A, B, C, hx⟩ := lp false hb.symm
                        simp [hb] at hx
                        rw [hb] at heq
                        simp [h5, hf, z1, z2, z3, h300', hl, hl', hdz, hx, ← heq, -List.all_eq_true, -List.all_eq_false]
              · simp [h0, h1, h2, h3, h4, h5]
end Go.Zd
