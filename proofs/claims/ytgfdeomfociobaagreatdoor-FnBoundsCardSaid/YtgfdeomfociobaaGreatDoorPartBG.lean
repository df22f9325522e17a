/- The laws' own functions over lists: sizes, copies, equality. -/
import Derived.Test.YtgfdeomfociobaaGreatDoorPartBF
import Derived.Shelf.Small.Strs
import Derived.Shelf.Strings.Repeat
import Derived.Test.YtgfdeomfociobaaGreatDoorProg
import Derived.Test.YtgfdeomfociobaaGreatDoorPartBE
import Derived.Below
set_option linter.unusedSimpArgs false
set_option linter.unusedVariables false
namespace Go.Yd
open Go.Ev Go.Proofs Go.Pu
set_option maxRecDepth 100000
set_option maxHeartbeats 16000000
def szB (n : Nat) (l : Int) : Int := if l - n < 0 then -1 else l - n
def goSz {α : Type} (f : α → Int → Int) : List α → Int → Int
  | [], l => l
  | x :: r, l => if f x l < 0 then -1 else goSz f r (f x l)
def lstSz {α : Type} (f : α → Int → Int) (xs : List α) (l : Int) : Int := if szB xs.length l < 0 then -1 else goSz f xs (szB xs.length l)
def thenSz (f g : Int → Int) (l : Int) : Int := if f l < 0 then -1 else g (f l)
theorem szB_le {n : Nat} {l : Int} (h : 0 ≤ l) : szB n l ≤ l := by unfold szB; split <;> omega
theorem szB_bound {n : Nat} {l : Int} (h : ¬ szB n l < 0) : (n : Int) ≤ l := by unfold szB at h; split at h <;> omega
theorem goSz_le {α : Type} {f : α → Int → Int} : ∀ {xs : List α} {l : Int}, 0 ≤ l → (∀ x ∈ xs, ∀ k, 0 ≤ k → f x k ≤ k) → goSz f xs l ≤ l
  | [], l, _, _ => Int.le_refl _
  | x :: r, l, h0, h => by
    unfold goSz
    have hx := h x (by simp) l h0
    split
    · omega
    · have := goSz_le (xs := r) (l := f x l) (by omega) (fun y hy => h y (by simp [hy]))
      omega
theorem lstSz_le {α : Type} {f : α → Int → Int} {xs : List α} {l : Int} (h0 : 0 ≤ l) (h : ∀ x ∈ xs, ∀ k, 0 ≤ k → f x k ≤ k) : lstSz f xs l ≤ l := by
  unfold lstSz
  have := szB_le (n := xs.length) h0
  split
  · omega
  · have := goSz_le (f := f) (xs := xs) (l := szB xs.length l) (by omega) h
    omega
theorem thenSz_le {f g : Int → Int} {l : Int} (h0 : 0 ≤ l) (hf : ∀ k, 0 ≤ k → f k ≤ k) (hg : ∀ k, 0 ≤ k → g k ≤ k) : thenSz f g l ≤ l := by
  unfold thenSz
  have := hf l h0
  split
  · omega
  · have := hg (f l) (by omega); omega
theorem goSz_all {α : Type} {f : α → Int → Int} {P : α → Prop} {m : Int} : ∀ {xs : List α} {l : Int}, 0 ≤ l → l ≤ m → (∀ x ∈ xs, ∀ k, 0 ≤ k → f x k ≤ k) → (∀ x ∈ xs, ∀ k, 0 ≤ k → k ≤ m → ¬ f x k < 0 → P x) → ¬ goSz f xs l < 0 → ∀ x ∈ xs, P x
  | [], _, _, _, _, _, _, x, hx => by simp at hx
  | y :: r, l, h0, hm, hle, hp, h, x, hx => by
    unfold goSz at h
    split at h
    · omega
    · rename_i hf
      have hy := hle y (by simp) l h0
      rcases List.mem_cons.1 hx with rfl | hx
      · exact hp _ (by simp) l h0 hm hf
      · exact goSz_all (by omega) (by omega) (fun z hz => hle z (by simp [hz])) (fun z hz => hp z (by simp [hz])) h x hx
theorem lstSz_all {α : Type} {f : α → Int → Int} {P : α → Prop} {m : Int} {xs : List α} {l : Int} (h0 : 0 ≤ l) (hm : l ≤ m) (hle : ∀ x ∈ xs, ∀ k, 0 ≤ k → f x k ≤ k) (hp : ∀ x ∈ xs, ∀ k, 0 ≤ k → k ≤ m → ¬ f x k < 0 → P x) (h : ¬ lstSz f xs l < 0) : (xs.length : Int) ≤ m ∧ ∀ x ∈ xs, P x := by
  unfold lstSz at h
  split at h
  · omega
  · rename_i hb
    have h1 := szB_bound hb
    have h2 := szB_le (n := xs.length) h0
    exact ⟨by omega, goSz_all (m := m) (by omega) (by omega) hle hp h⟩
theorem mid_get {α : Type} (ys : List α) (z : α) (i n : Nat) (hi : i < n) (hy : i ≤ ys.length) : (ys.take i ++ List.replicate (n - i) z)[i]? = some z := by
  rw [List.getElem?_append_right (by simp; omega)]
  have h : min i ys.length = i := by omega
  have hp : 0 < n - i := by omega
  simp only [List.length_take, h, Nat.sub_self, List.getElem?_replicate, hp, if_true]
theorem mid_set {α : Type} (ys : List α) (z x : α) (i n : Nat) (hi : i < n) (hx : ys[i]? = some x) : (ys.take i ++ List.replicate (n - i) z).set i x = ys.take (i + 1) ++ List.replicate (n - (i + 1)) z := by
  have hy : i < ys.length := by
    by_cases h : i < ys.length
    · exact h
    · rw [List.getElem?_eq_none (by omega)] at hx; cases hx
  have hl : (ys.take i).length = i := by simp; omega
  have e : n - i = (n - (i + 1)) + 1 := by omega
  have h1 := set_mid (ys.take i) x z (n - (i + 1))
  rw [hl] at h1
  rw [e, h1, List.take_add_one, hx]
  rfl
theorem sz_223 (xs : List Trm) (f : Trm → Int → Int) (hl : xs.length < 9223372036854775807) (hf : ∀ x ∈ xs, ∀ l, 0 ≤ l → l ≤ 1048576 → run E (.call 354 [.t (trmT x), xI l]) = some (.res [xI (f x l)] [])) (hle : ∀ x ∈ xs, ∀ k, 0 ≤ k → f x k ≤ k) (l : Int) (h0 : 0 ≤ l) (hm : l ≤ 1048576) :
    run E (.call 288 [.t (.list (xs.map trmT)), xI l]) = some (.res [xI (lstSz f xs l)] []) := by
  rw [run_call E 288 _ rfl Tryz.func288 rfl rfl rfl (by simp)]
  have hw : IntKind.i64.wrap (l - (xs.length : Int)) = l - xs.length := wrap_of (by omega) (by omega)
  unfold lstSz szB
  by_cases hb : l - (xs.length : Int) < 0
  · simp [hw, hb]
  · have hb0 : ¬ l < (xs.length : Int) := by omega
    have lp := fun (r : Int) (hr : r = goSz f xs (l - xs.length)) => sk (fun s o q hI => loop_for (c := loopAt Tryz.f288 0) (N := 27)
      (fun i s o q => ∃ k : Int, s 0 = .t (.list (xs.map trmT)) ∧ s 1 = .t (.int .i64 k) ∧ s 5 = .t (.int .i64 i) ∧ 0 ≤ k ∧ k ≤ 1048576 ∧ r = goSz f (xs.drop i) k)
      (fun e s' o' q' => e = (if r < 0 then .ret else .exit 0) ∧ (r < 0 → s' 4 = .t (.int .i64 r)) ∧ (0 ≤ r → s' 1 = .t (.int .i64 r))) xs.length
      (by
        rintro i s o q hi ⟨k, g0, g1, g5, hk0, hkm, hp⟩
        have hi' : (i : Int) < (xs.length : Int) := by omega
        have hwi := wrap_succ (n := i) (by omega)
        have hxi : xs[i]? = some xs[i] := List.getElem?_eq_getElem hi
        have hx := hf _ (List.getElem_mem hi) k hk0 hkm
        have hxl := hle _ (List.getElem_mem hi) k hk0
        rw [List.drop_eq_getElem_cons hi, goSz] at hp
        by_cases hn : f xs[i] k < 0
        · simp [hn] at hp
          simp [loopAt, loopsOf, Tryz.f288, g0, g1, g5, hi', hxi, hwi, hx, hn, hp]
        · simp [hn] at hp
          simp [loopAt, loopsOf, Tryz.f288, g0, g1, g5, hi', hxi, hwi, hx, hn]
          exact ⟨by omega, by omega, hp⟩)
      (by
        rintro s o q ⟨k, g0, g1, g5, hk0, hkm, hp⟩
        simp [goSz] at hp
        have hn : ¬ r < 0 := by omega
        have hn' : 0 ≤ r := by omega
        have hk1 : ¬ k < 0 := by omega
        simp [loopAt, loopsOf, Tryz.f288, g0, g1, g5, hp, hk1]
        try omega)
      xs.length 0 s o q (by omega) hI)
    simp only [loopAt, loopsOf, Tryz.f288] at lp
    obtain ⟨r, hr⟩ : ∃ r, r = goSz f xs (l - xs.length) := ⟨_, rfl⟩
    obtain ⟨X, A, B, C, hx⟩ := lp r hr
    have hx' := fun s o q a0 a1 a5 => hx s o q ⟨l - xs.length, a0, a1, a5, by omega, by omega, by simpa using hr⟩
    clear hx
    by_cases hn : r < 0
    · have hn' : ¬ 0 ≤ r := by omega
      simp [hn, hn'] at hx'
      simp [hw, hb, hb0, hx', hn, ← hr]
    · have hn' : 0 ≤ r := by omega
      simp [hn, hn'] at hx'
      simp [hw, hb, hb0, hx', hn, ← hr]
theorem sz_112 (xs : List (List Trm)) (f : (List Trm) → Int → Int) (hl : xs.length < 9223372036854775807) (hf : ∀ x ∈ xs, ∀ l, 0 ≤ l → l ≤ 1048576 → run E (.call 177 [.t (clsT x), xI l]) = some (.res [xI (f x l)] [])) (hle : ∀ x ∈ xs, ∀ k, 0 ≤ k → f x k ≤ k) (l : Int) (h0 : 0 ≤ l) (hm : l ≤ 1048576) :
    run E (.call 72 [.t (.list (xs.map clsT)), xI l]) = some (.res [xI (lstSz f xs l)] []) := by
  rw [run_call E 72 _ rfl Tryz.func72 rfl rfl rfl (by simp)]
  have hw : IntKind.i64.wrap (l - (xs.length : Int)) = l - xs.length := wrap_of (by omega) (by omega)
  unfold lstSz szB
  by_cases hb : l - (xs.length : Int) < 0
  · simp [hw, hb]
  · have hb0 : ¬ l < (xs.length : Int) := by omega
    have lp := fun (r : Int) (hr : r = goSz f xs (l - xs.length)) => sk (fun s o q hI => loop_for (c := loopAt Tryz.f72 0) (N := 27)
      (fun i s o q => ∃ k : Int, s 0 = .t (.list (xs.map clsT)) ∧ s 1 = .t (.int .i64 k) ∧ s 5 = .t (.int .i64 i) ∧ 0 ≤ k ∧ k ≤ 1048576 ∧ r = goSz f (xs.drop i) k)
      (fun e s' o' q' => e = (if r < 0 then .ret else .exit 0) ∧ (r < 0 → s' 4 = .t (.int .i64 r)) ∧ (0 ≤ r → s' 1 = .t (.int .i64 r))) xs.length
      (by
        rintro i s o q hi ⟨k, g0, g1, g5, hk0, hkm, hp⟩
        have hi' : (i : Int) < (xs.length : Int) := by omega
        have hwi := wrap_succ (n := i) (by omega)
        have hxi : xs[i]? = some xs[i] := List.getElem?_eq_getElem hi
        have hx := hf _ (List.getElem_mem hi) k hk0 hkm
        have hxl := hle _ (List.getElem_mem hi) k hk0
        rw [List.drop_eq_getElem_cons hi, goSz] at hp
        by_cases hn : f xs[i] k < 0
        · simp [hn] at hp
          simp [loopAt, loopsOf, Tryz.f72, g0, g1, g5, hi', hxi, hwi, hx, hn, hp]
        · simp [hn] at hp
          simp [loopAt, loopsOf, Tryz.f72, g0, g1, g5, hi', hxi, hwi, hx, hn]
          exact ⟨by omega, by omega, hp⟩)
      (by
        rintro s o q ⟨k, g0, g1, g5, hk0, hkm, hp⟩
        simp [goSz] at hp
        have hn : ¬ r < 0 := by omega
        have hn' : 0 ≤ r := by omega
        have hk1 : ¬ k < 0 := by omega
        simp [loopAt, loopsOf, Tryz.f72, g0, g1, g5, hp, hk1]
        try omega)
      xs.length 0 s o q (by omega) hI)
    simp only [loopAt, loopsOf, Tryz.f72] at lp
    obtain ⟨r, hr⟩ : ∃ r, r = goSz f xs (l - xs.length) := ⟨_, rfl⟩
    obtain ⟨X, A, B, C, hx⟩ := lp r hr
    have hx' := fun s o q a0 a1 a5 => hx s o q ⟨l - xs.length, a0, a1, a5, by omega, by omega, by simpa using hr⟩
    clear hx
    by_cases hn : r < 0
    · have hn' : ¬ 0 ≤ r := by omega
      simp [hn, hn'] at hx'
      simp [hw, hb, hb0, hx', hn, ← hr]
    · have hn' : 0 ≤ r := by omega
      simp [hn, hn'] at hx'
      simp [hw, hb, hb0, hx', hn, ← hr]
theorem sz_68 (xs : List Prt) (f : Prt → Int → Int) (hl : xs.length < 9223372036854775807) (hf : ∀ x ∈ xs, ∀ l, 0 ≤ l → l ≤ 1048576 → run E (.call 299 [.t (prtT x), xI l]) = some (.res [xI (f x l)] [])) (hle : ∀ x ∈ xs, ∀ k, 0 ≤ k → f x k ≤ k) (l : Int) (h0 : 0 ≤ l) (hm : l ≤ 1048576) :
    run E (.call 208 [.t (.list (xs.map prtT)), xI l]) = some (.res [xI (lstSz f xs l)] []) := by
  rw [run_call E 208 _ rfl Tryz.func208 rfl rfl rfl (by simp)]
  have hw : IntKind.i64.wrap (l - (xs.length : Int)) = l - xs.length := wrap_of (by omega) (by omega)
  unfold lstSz szB
  by_cases hb : l - (xs.length : Int) < 0
  · simp [hw, hb]
  · have hb0 : ¬ l < (xs.length : Int) := by omega
    have lp := fun (r : Int) (hr : r = goSz f xs (l - xs.length)) => sk (fun s o q hI => loop_for (c := loopAt Tryz.f208 0) (N := 27)
      (fun i s o q => ∃ k : Int, s 0 = .t (.list (xs.map prtT)) ∧ s 1 = .t (.int .i64 k) ∧ s 5 = .t (.int .i64 i) ∧ 0 ≤ k ∧ k ≤ 1048576 ∧ r = goSz f (xs.drop i) k)
      (fun e s' o' q' => e = (if r < 0 then .ret else .exit 0) ∧ (r < 0 → s' 4 = .t (.int .i64 r)) ∧ (0 ≤ r → s' 1 = .t (.int .i64 r))) xs.length
      (by
        rintro i s o q hi ⟨k, g0, g1, g5, hk0, hkm, hp⟩
        have hi' : (i : Int) < (xs.length : Int) := by omega
        have hwi := wrap_succ (n := i) (by omega)
        have hxi : xs[i]? = some xs[i] := List.getElem?_eq_getElem hi
        have hx := hf _ (List.getElem_mem hi) k hk0 hkm
        have hxl := hle _ (List.getElem_mem hi) k hk0
        rw [List.drop_eq_getElem_cons hi, goSz] at hp
        by_cases hn : f xs[i] k < 0
        · simp [hn] at hp
          simp [loopAt, loopsOf, Tryz.f208, g0, g1, g5, hi', hxi, hwi, hx, hn, hp]
        · simp [hn] at hp
          simp [loopAt, loopsOf, Tryz.f208, g0, g1, g5, hi', hxi, hwi, hx, hn]
          exact ⟨by omega, by omega, hp⟩)
      (by
        rintro s o q ⟨k, g0, g1, g5, hk0, hkm, hp⟩
        simp [goSz] at hp
        have hn : ¬ r < 0 := by omega
        have hn' : 0 ≤ r := by omega
        have hk1 : ¬ k < 0 := by omega
        simp [loopAt, loopsOf, Tryz.f208, g0, g1, g5, hp, hk1]
        try omega)
      xs.length 0 s o q (by omega) hI)
    simp only [loopAt, loopsOf, Tryz.f208] at lp
    obtain ⟨r, hr⟩ : ∃ r, r = goSz f xs (l - xs.length) := ⟨_, rfl⟩
    obtain ⟨X, A, B, C, hx⟩ := lp r hr
    have hx' := fun s o q a0 a1 a5 => hx s o q ⟨l - xs.length, a0, a1, a5, by omega, by omega, by simpa using hr⟩
    clear hx
    by_cases hn : r < 0
    · have hn' : ¬ 0 ≤ r := by omega
      simp [hn, hn'] at hx'
      simp [hw, hb, hb0, hx', hn, ← hr]
    · have hn' : 0 ≤ r := by omega
      simp [hn, hn'] at hx'
      simp [hw, hb, hb0, hx', hn, ← hr]
theorem to_225 (xs : List Trm) (hl : xs.length < 4294967296) (hf : ∀ x ∈ xs, run E (.call 357 [.t (trmT x)]) = some (.res [trmX x] [])) :
    run E (.call 290 [.t (.list (xs.map trmT))]) = some (.res [.row 120 (xs.map trmT)] []) := by
  rw [run_call E 290 _ rfl Tryz.func290 rfl rfl rfl (by simp)]
  have lp := sk (fun s o q hI => loop_for (c := loopAt Tryz.f290 0) (N := 23)
    (fun i s o q => s 0 = .t (.list (xs.map trmT)) ∧ s 3 = .row 0 ∧ s 4 = .t (.int .i64 i) ∧ 0 < q ∧ o 0 = .row 120 ((xs.map trmT).take i ++ List.replicate (xs.length - i) (.agg [.int .i64 0, .str [], .int .i64 0, .int .i64 0, .str []])) true)
    (fun e s' o' q' => e = .exit 0 ∧ s' 3 = .row 0 ∧ o' 0 = .row 120 (xs.map trmT) true) xs.length
    (by
      rintro i s o q hi ⟨g0, g3, g4, hq, ho⟩
      have hi' : (i : Int) < (xs.length : Int) := by omega
      have hwi := wrap_succ (n := i) (by omega)
      have hxi : xs[i]? = some xs[i] := List.getElem?_eq_getElem hi
      have hx := hf _ (List.getElem_mem hi)
      have hq0 : q ≠ 0 := by omega
      have h0q : 0 ≠ q := by omega
      have hget := mid_get (xs.map trmT) (.agg [.int .i64 0, .str [], .int .i64 0, .int .i64 0, .str []]) i xs.length hi (by simp; omega)
      have hset := mid_set (xs.map trmT) (.agg [.int .i64 0, .str [], .int .i64 0, .int .i64 0, .str []]) (trmT xs[i]) i xs.length hi (by simp [hxi])
      simp [loopAt, loopsOf, Tryz.f290, g0, g3, g4, hi', hxi, hwi, hx, ho, hget, hset, hq0, h0q]
      try omega)
    (by
      rintro s o q ⟨g0, g3, g4, hq, ho⟩
      have hfull : (xs.map trmT).take xs.length = xs.map trmT := List.take_of_length_le (by simp)
      simp [hfull] at ho
      simp [loopAt, loopsOf, Tryz.f290, g0, g3, g4, ho])
    xs.length 0 s o q (by omega) hI)
  simp only [loopAt, loopsOf, Tryz.f290] at lp
  obtain ⟨X, A, B, C, hx⟩ := lp
  simp at hx
  have h1 : xs.length ≤ 140737488355328 := by omega
  have h2 : xs.length * 56 ≤ 140737488355328 := by omega
  simp [h1, h2, hx]
theorem to_114 (xs : List (List Trm)) (hl : xs.length < 4294967296) (hf : ∀ x ∈ xs, run E (.call 179 [.t (clsT x)]) = some (.res [.agg [.row 120 (x.map trmT)]] [])) :
    run E (.call 76 [.t (.list (xs.map clsT))]) = some (.res [.row 236 (xs.map clsT)] []) := by
  rw [run_call E 76 _ rfl Tryz.func76 rfl rfl rfl (by simp)]
  have lp := sk (fun s o q hI => loop_for (c := loopAt Tryz.f76 0) (N := 23)
    (fun i s o q => s 0 = .t (.list (xs.map clsT)) ∧ s 3 = .row 0 ∧ s 4 = .t (.int .i64 i) ∧ 0 < q ∧ o 0 = .row 236 ((xs.map clsT).take i ++ List.replicate (xs.length - i) (.agg [.list []])) true)
    (fun e s' o' q' => e = .exit 0 ∧ s' 3 = .row 0 ∧ o' 0 = .row 236 (xs.map clsT) true) xs.length
    (by
      rintro i s o q hi ⟨g0, g3, g4, hq, ho⟩
      have hi' : (i : Int) < (xs.length : Int) := by omega
      have hwi := wrap_succ (n := i) (by omega)
      have hxi : xs[i]? = some xs[i] := List.getElem?_eq_getElem hi
      have hx := hf _ (List.getElem_mem hi)
      have hq0 : q ≠ 0 := by omega
      have h0q : 0 ≠ q := by omega
      have hget := mid_get (xs.map clsT) (.agg [.list []]) i xs.length hi (by simp; omega)
      have hset := mid_set (xs.map clsT) (.agg [.list []]) (clsT xs[i]) i xs.length hi (by simp [hxi])
      simp [loopAt, loopsOf, Tryz.f76, g0, g3, g4, hi', hxi, hwi, hx, ho, hget, hset, hq0, h0q]
      try omega)
    (by
      rintro s o q ⟨g0, g3, g4, hq, ho⟩
      have hfull : (xs.map clsT).take xs.length = xs.map clsT := List.take_of_length_le (by simp)
      simp [hfull] at ho
      simp [loopAt, loopsOf, Tryz.f76, g0, g3, g4, ho])
    xs.length 0 s o q (by omega) hI)
  simp only [loopAt, loopsOf, Tryz.f76] at lp
  obtain ⟨X, A, B, C, hx⟩ := lp
  simp at hx
  have h1 : xs.length ≤ 140737488355328 := by omega
  have h2 : xs.length * 24 ≤ 140737488355328 := by omega
  simp [h1, h2, hx]
theorem to_74 (xs : List Prt) (hl : xs.length < 4294967296) (hf : ∀ x ∈ xs, run E (.call 301 [.t (prtT x)]) = some (.res [prtX x] [])) :
    run E (.call 213 [.t (.list (xs.map prtT))]) = some (.res [.row 133 (xs.map prtT)] []) := by
  rw [run_call E 213 _ rfl Tryz.func213 rfl rfl rfl (by simp)]
  have lp := sk (fun s o q hI => loop_for (c := loopAt Tryz.f213 0) (N := 23)
    (fun i s o q => s 0 = .t (.list (xs.map prtT)) ∧ s 3 = .row 0 ∧ s 4 = .t (.int .i64 i) ∧ 0 < q ∧ o 0 = .row 133 ((xs.map prtT).take i ++ List.replicate (xs.length - i) (.agg [.str [], .bool false])) true)
    (fun e s' o' q' => e = .exit 0 ∧ s' 3 = .row 0 ∧ o' 0 = .row 133 (xs.map prtT) true) xs.length
    (by
      rintro i s o q hi ⟨g0, g3, g4, hq, ho⟩
      have hi' : (i : Int) < (xs.length : Int) := by omega
      have hwi := wrap_succ (n := i) (by omega)
      have hxi : xs[i]? = some xs[i] := List.getElem?_eq_getElem hi
      have hx := hf _ (List.getElem_mem hi)
      have hq0 : q ≠ 0 := by omega
      have h0q : 0 ≠ q := by omega
      have hget := mid_get (xs.map prtT) (.agg [.str [], .bool false]) i xs.length hi (by simp; omega)
      have hset := mid_set (xs.map prtT) (.agg [.str [], .bool false]) (prtT xs[i]) i xs.length hi (by simp [hxi])
      simp [loopAt, loopsOf, Tryz.f213, g0, g3, g4, hi', hxi, hwi, hx, ho, hget, hset, hq0, h0q]
      try omega)
    (by
      rintro s o q ⟨g0, g3, g4, hq, ho⟩
      have hfull : (xs.map prtT).take xs.length = xs.map prtT := List.take_of_length_le (by simp)
      simp [hfull] at ho
      simp [loopAt, loopsOf, Tryz.f213, g0, g3, g4, ho])
    xs.length 0 s o q (by omega) hI)
  simp only [loopAt, loopsOf, Tryz.f213] at lp
  obtain ⟨X, A, B, C, hx⟩ := lp
  simp at hx
  have h1 : xs.length ≤ 140737488355328 := by omega
  have h2 : xs.length * 24 ≤ 140737488355328 := by omega
  simp [h1, h2, hx]
theorem eq_228 (xs : List Trm) (hl : xs.length < 9223372036854775807) (hf : ∀ x ∈ xs, run E (.call 358 [.t (trmT x), .t (trmT x)]) = some (.res [xB true] [])) :
    run E (.call 293 [.t (.list (xs.map trmT)), .t (.list (xs.map trmT))]) = some (.res [xB true] []) := by
  rw [run_call E 293 _ rfl Tryz.func293 rfl rfl rfl (by simp)]
  have d6 := d293_6
  simp [regionOf, findR, pick, Tryz.f293] at d6
  have dd := fun st => run_region_draw E st 6 _ d6
  clear d6
  have lp := sk (fun s o q hI => loop_for (c := loopAt Tryz.f293 0) (N := 27)
    (fun i s o q => s 0 = .t (.list (xs.map trmT)) ∧ s 1 = .t (.list (xs.map trmT)) ∧ s 5 = .t (.int .i64 i))
    (fun e s' o' q' => e = .exit 0) xs.length
    (by
      rintro i s o q hi ⟨g0, g1, g5⟩
      have hi' : (i : Int) < (xs.length : Int) := by omega
      have hwi := wrap_succ (n := i) (by omega)
      have hxi : xs[i]? = some xs[i] := List.getElem?_eq_getElem hi
      have hx := hf _ (List.getElem_mem hi)
      simp [loopAt, loopsOf, Tryz.f293, dd, g0, g1, g5, hi', hxi, hwi, hx])
    (by
      rintro s o q ⟨g0, g1, g5⟩
      simp [loopAt, loopsOf, Tryz.f293, g0, g1, g5])
    xs.length 0 s o q (by omega) hI)
  simp only [loopAt, loopsOf, Tryz.f293] at lp
  obtain ⟨X, A, B, C, hx⟩ := lp
  simp at hx
  simp [hx]
theorem eq_117 (xs : List (List Trm)) (hl : xs.length < 9223372036854775807) (hf : ∀ x ∈ xs, run E (.call 186 [.t (clsT x), .t (clsT x)]) = some (.res [xB true] [])) :
    run E (.call 80 [.t (.list (xs.map clsT)), .t (.list (xs.map clsT))]) = some (.res [xB true] []) := by
  rw [run_call E 80 _ rfl Tryz.func80 rfl rfl rfl (by simp)]
  have d6 := d80_6
  simp [regionOf, findR, pick, Tryz.f80] at d6
  have dd := fun st => run_region_draw E st 6 _ d6
  clear d6
  have lp := sk (fun s o q hI => loop_for (c := loopAt Tryz.f80 0) (N := 27)
    (fun i s o q => s 0 = .t (.list (xs.map clsT)) ∧ s 1 = .t (.list (xs.map clsT)) ∧ s 5 = .t (.int .i64 i))
    (fun e s' o' q' => e = .exit 0) xs.length
    (by
      rintro i s o q hi ⟨g0, g1, g5⟩
      have hi' : (i : Int) < (xs.length : Int) := by omega
      have hwi := wrap_succ (n := i) (by omega)
      have hxi : xs[i]? = some xs[i] := List.getElem?_eq_getElem hi
      have hx := hf _ (List.getElem_mem hi)
      simp [loopAt, loopsOf, Tryz.f80, dd, g0, g1, g5, hi', hxi, hwi, hx])
    (by
      rintro s o q ⟨g0, g1, g5⟩
      simp [loopAt, loopsOf, Tryz.f80, g0, g1, g5])
    xs.length 0 s o q (by omega) hI)
  simp only [loopAt, loopsOf, Tryz.f80] at lp
  obtain ⟨X, A, B, C, hx⟩ := lp
  simp at hx
  simp [hx]
theorem eq_81 (xs : List Prt) (hl : xs.length < 9223372036854775807) (hf : ∀ x ∈ xs, run E (.call 308 [.t (prtT x), .t (prtT x)]) = some (.res [xB true] [])) :
    run E (.call 224 [.t (.list (xs.map prtT)), .t (.list (xs.map prtT))]) = some (.res [xB true] []) := by
  rw [run_call E 224 _ rfl Tryz.func224 rfl rfl rfl (by simp)]
  have d6 := d224_6
  simp [regionOf, findR, pick, Tryz.f224] at d6
  have dd := fun st => run_region_draw E st 6 _ d6
  clear d6
  have lp := sk (fun s o q hI => loop_for (c := loopAt Tryz.f224 0) (N := 27)
    (fun i s o q => s 0 = .t (.list (xs.map prtT)) ∧ s 1 = .t (.list (xs.map prtT)) ∧ s 5 = .t (.int .i64 i))
    (fun e s' o' q' => e = .exit 0) xs.length
    (by
      rintro i s o q hi ⟨g0, g1, g5⟩
      have hi' : (i : Int) < (xs.length : Int) := by omega
      have hwi := wrap_succ (n := i) (by omega)
      have hxi : xs[i]? = some xs[i] := List.getElem?_eq_getElem hi
      have hx := hf _ (List.getElem_mem hi)
      simp [loopAt, loopsOf, Tryz.f224, dd, g0, g1, g5, hi', hxi, hwi, hx])
    (by
      rintro s o q ⟨g0, g1, g5⟩
      simp [loopAt, loopsOf, Tryz.f224, g0, g1, g5])
    xs.length 0 s o q (by omega) hI)
  simp only [loopAt, loopsOf, Tryz.f224] at lp
  obtain ⟨X, A, B, C, hx⟩ := lp
  simp at hx
  simp [hx]
end Go.Yd
/- The laws' own functions: values, terms, clauses, filters, parts, texts. -/
set_option linter.unusedSimpArgs false
set_option linter.unusedVariables false
namespace Go.Yd
open Go.Ev Go.Proofs Go.Pu
set_option maxRecDepth 100000
set_option maxHeartbeats 16000000
def szVal (v : Val) (l : Int) : Int := szB v.t.length l
def szTrm (t : Trm) (l : Int) : Int := thenSz (szB t.path.length) (thenSz (szVal t.v) (fun k => k)) l
def szPrt (p : Prt) (l : Int) : Int := szB p.path.length l
def szCls (c : List Trm) (l : Int) : Int := thenSz (lstSz szTrm c) (fun k => k) l
def szFil (f : List (List Trm)) (l : Int) : Int := thenSz (lstSz szCls f) (fun k => k) l
def szTxt (t : Bytes) (l : Int) : Int := szB t.length l
theorem szVal_le (v : Val) (k : Int) (h : 0 ≤ k) : szVal v k ≤ k := szB_le h
theorem szTrm_le (t : Trm) (k : Int) (h : 0 ≤ k) : szTrm t k ≤ k := thenSz_le h (fun k hk => szB_le hk) (fun k hk => thenSz_le hk (fun k hk => szB_le hk) (fun k _ => Int.le_refl k))
theorem szPrt_le (p : Prt) (k : Int) (h : 0 ≤ k) : szPrt p k ≤ k := szB_le h
theorem szCls_le (c : List Trm) (k : Int) (h : 0 ≤ k) : szCls c k ≤ k := thenSz_le h (fun k hk => lstSz_le hk (fun x _ k hk => szTrm_le x k hk)) (fun k _ => Int.le_refl k)
theorem szFil_le (c : List (List Trm)) (k : Int) (h : 0 ≤ k) : szFil c k ≤ k := thenSz_le h (fun k hk => lstSz_le hk (fun x _ k hk => szCls_le x k hk)) (fun k _ => Int.le_refl k)
/-- No longer than what memory holds. -/
def W (n : Nat) : Prop := n < 4611686018427387904
def Trm.wd (t : Trm) : Prop := W t.path.length ∧ W t.v.t.length
def clsWd (c : List Trm) : Prop := W c.length ∧ ∀ t ∈ c, t.wd
def filWd (f : List (List Trm)) : Prop := W f.length ∧ ∀ c ∈ f, clsWd c
def prtsWd (l : List Prt) : Prop := W l.length ∧ ∀ p ∈ l, W p.path.length
def txtsWd (l : List Bytes) : Prop := W l.length ∧ ∀ p ∈ l, W p.length
theorem wrap_sz {n : Nat} {l : Int} (h : W n) (h0 : 0 ≤ l) (hm : l ≤ 1048576) : IntKind.i64.wrap (l - (n : Int)) = l - n := by unfold W at h; exact wrap_of (by omega) (by omega)
theorem szValue (v : Val) (h : W v.t.length) (l : Int) (h0 : 0 ≤ l) (hm : l ≤ 1048576) : run E (.call 14 [xV v, xI l]) = some (.res [xI (szVal v l)] []) := by
  rw [run_call E 14 _ rfl Tryz.func14 rfl rfl rfl (by simp)]
  have hw := wrap_sz h h0 hm
  unfold szVal szB
  by_cases hb : l - (v.t.length : Int) < 0 <;> simp [hw, hb]
theorem szPart (p : Prt) (h : W p.path.length) (l : Int) (h0 : 0 ≤ l) (hm : l ≤ 1048576) : run E (.call 299 [.t (prtT p), xI l]) = some (.res [xI (szPrt p l)] []) := by
  rw [run_call E 299 _ rfl Tryz.func299 rfl rfl rfl (by simp)]
  have hw := wrap_sz h h0 hm
  unfold szPrt szB
  by_cases hb : l - (p.path.length : Int) < 0 <;> simp [hw, hb]
theorem szTerm (t : Trm) (h : t.wd) (l : Int) (h0 : 0 ≤ l) (hm : l ≤ 1048576) : run E (.call 354 [.t (trmT t), xI l]) = some (.res [xI (szTrm t l)] []) := by
  rw [run_call E 354 _ rfl Tryz.func354 rfl rfl rfl (by simp)]
  have hw := wrap_sz h.1 h0 hm
  unfold szTrm thenSz
  by_cases hb : l - (t.path.length : Int) < 0
  · simp [hw, hb, szB]
  · have hv := szValue t.v h.2 (l - t.path.length) (by omega) (by omega)
    have e : szB t.path.length l = l - t.path.length := by simp [szB, hb]
    by_cases hn : szVal t.v (l - t.path.length) < 0 <;> simp [hw, hb, e, hv, hn]
theorem szTermS (c : List Trm) (h : clsWd c) (l : Int) (h0 : 0 ≤ l) (hm : l ≤ 1048576) : run E (.call 288 [.t (.list (c.map trmT)), xI l]) = some (.res [xI (lstSz szTrm c l)] []) :=
  sz_223 c szTrm (by have := h.1; unfold W at this; omega) (fun x hx l h0 hm => szTerm x (h.2 x hx) l h0 hm) (fun x _ k hk => szTrm_le x k hk) l h0 hm
theorem szClause (c : List Trm) (h : clsWd c) (l : Int) (h0 : 0 ≤ l) (hm : l ≤ 1048576) : run E (.call 177 [.t (clsT c), xI l]) = some (.res [xI (szCls c l)] []) := by
  rw [run_call E 177 _ rfl Tryz.func177 rfl rfl rfl (by simp)]
  have hs := szTermS c h l h0 hm
  unfold szCls thenSz
  by_cases hn : lstSz szTrm c l < 0 <;> simp [hs, hn]
theorem szFilter (f : List (List Trm)) (h : filWd f) (l : Int) (h0 : 0 ≤ l) (hm : l ≤ 1048576) : run E (.call 13 [.t (filT f), xI l]) = some (.res [xI (szFil f l)] []) := by
  rw [run_call E 13 _ rfl Tryz.func13 rfl rfl rfl (by simp)]
  have hs := sz_112 f szCls (by have := h.1; unfold W at this; omega) (fun x hx l h0 hm => szClause x (h.2 x hx) l h0 hm) (fun x _ k hk => szCls_le x k hk) l h0 hm
  unfold szFil thenSz
  by_cases hn : lstSz szCls f l < 0 <;> simp [hs, hn]
theorem szPartS (c : List Prt) (h : prtsWd c) (l : Int) (h0 : 0 ≤ l) (hm : l ≤ 1048576) : run E (.call 208 [.t (.list (c.map prtT)), xI l]) = some (.res [xI (lstSz szPrt c l)] []) :=
  sz_68 c szPrt (by have := h.1; unfold W at this; omega) (fun x hx l h0 hm => szPart x (h.2 x hx) l h0 hm) (fun x _ k hk => szPrt_le x k hk) l h0 hm
theorem szStringS (xs : List Bytes) (h : txtsWd xs) (l : Int) (h0 : 0 ≤ l) (hm : l ≤ 1048576) : run E (.call 209 [.t (.list (xs.map strT)), xI l]) = some (.res [xI (lstSz szTxt xs l)] []) := by
  rw [run_call E 209 _ rfl Tryz.func209 rfl rfl rfl (by simp)]
  have hl : W xs.length := h.1
  have hw := wrap_sz hl h0 hm
  unfold lstSz szB
  by_cases hb : l - (xs.length : Int) < 0
  · simp [hw, hb]
  · have hb0 : ¬ l < (xs.length : Int) := by omega
    have lp := fun (r : Int) (hr : r = goSz szTxt xs (l - xs.length)) => sk (fun s o q hI => loop_for (c := loopAt Tryz.f209 0) (N := 28)
      (fun i s o q => ∃ k : Int, s 0 = .t (.list (xs.map strT)) ∧ s 1 = .t (.int .i64 k) ∧ s 5 = .t (.int .i64 i) ∧ 0 ≤ k ∧ k ≤ 1048576 ∧ r = goSz szTxt (xs.drop i) k)
      (fun e s' o' q' => e = (if r < 0 then .ret else .exit 0) ∧ (r < 0 → s' 4 = .t (.int .i64 r)) ∧ (0 ≤ r → s' 1 = .t (.int .i64 r))) xs.length
      (by
        rintro i s o q hi ⟨k, g0, g1, g5, hk0, hkm, hp⟩
        have hi' : (i : Int) < (xs.length : Int) := by omega
        have hwi := wrap_succ (n := i) (by unfold W at hl; omega)
        have hxi : xs[i]? = some xs[i] := List.getElem?_eq_getElem hi
        have hx := wrap_sz (h.2 _ (List.getElem_mem hi)) hk0 hkm
        rw [List.drop_eq_getElem_cons hi, goSz] at hp
        by_cases hn : k - (xs[i].length : Int) < 0
        · simp [szTxt, szB, hn] at hp
          simp [loopAt, loopsOf, Tryz.f209, g0, g1, g5, hi', hxi, hwi, hx, hn, hp]
        · have e : szTxt xs[i] k = k - xs[i].length := by simp [szTxt, szB, hn]
          rw [e, if_neg hn] at hp
          simp [loopAt, loopsOf, Tryz.f209, g0, g1, g5, hi', hxi, hwi, hx, hn]
          exact ⟨by omega, by omega, hp⟩)
      (by
        rintro s o q ⟨k, g0, g1, g5, hk0, hkm, hp⟩
        simp [goSz] at hp
        have hk1 : ¬ k < 0 := by omega
        simp [loopAt, loopsOf, Tryz.f209, g0, g1, g5, hp, hk1]
        try omega)
      xs.length 0 s o q (by omega) hI)
    simp only [loopAt, loopsOf, Tryz.f209] at lp
    obtain ⟨r, hr⟩ : ∃ r, r = goSz szTxt xs (l - xs.length) := ⟨_, rfl⟩
    obtain ⟨X, A, B, C, hx⟩ := lp r hr
    have hx' := fun s o q a0 a1 a5 => hx s o q ⟨l - xs.length, a0, a1, a5, by omega, by omega, by simpa using hr⟩
    clear hx
    by_cases hn : r < 0
    · have hn' : ¬ 0 ≤ r := by omega
      simp [hn, hn'] at hx'
      simp [hw, hb, hb0, hx', hn, ← hr]
    · have hn' : 0 ≤ r := by omega
      simp [hn, hn'] at hx'
      simp [hw, hb, hb0, hx', hn, ← hr]
/-! Copies. -/
theorem toValue (v : Val) : run E (.call 17 [xV v]) = some (.res [valX v] []) := by
  rw [run_call E 17 _ rfl Tryz.func17 rfl rfl rfl (by simp)]
  simp
theorem toTerm (t : Trm) : run E (.call 357 [.t (trmT t)]) = some (.res [trmX t] []) := by
  rw [run_call E 357 _ rfl Tryz.func357 rfl rfl rfl (by simp)]
  simp [toValue t.v]
theorem toPart (p : Prt) : run E (.call 301 [.t (prtT p)]) = some (.res [prtX p] []) := by
  rw [run_call E 301 _ rfl Tryz.func301 rfl rfl rfl (by simp)]
  simp
theorem toClause (c : List Trm) (h : c.length < 4294967296) : run E (.call 179 [.t (clsT c)]) = some (.res [.agg [.row 120 (c.map trmT)]] []) := by
  rw [run_call E 179 _ rfl Tryz.func179 rfl rfl rfl (by simp)]
  have hs := to_225 c h (fun x _ => toTerm x)
  simp [hs]
theorem toFilter (f : List (List Trm)) (h : f.length < 4294967296) (hc : ∀ c ∈ f, c.length < 4294967296) : run E (.call 16 [.t (filT f)]) = some (.res [.agg [.row 236 (f.map clsT)]] []) := by
  rw [run_call E 16 _ rfl Tryz.func16 rfl rfl rfl (by simp)]
  have hs := to_114 f h (fun x hx => toClause x (hc x hx))
  simp [hs]
theorem toPartS (l : List Prt) (h : l.length < 4294967296) : run E (.call 213 [.t (.list (l.map prtT))]) = some (.res [.row 133 (l.map prtT)] []) := to_74 l h (fun x _ => toPart x)
theorem toStringS (xs : List Bytes) (hl : xs.length < 4294967296) : run E (.call 214 [.t (.list (xs.map strT))]) = some (.res [.row 9 (xs.map strT)] []) := by
  rw [run_call E 214 _ rfl Tryz.func214 rfl rfl rfl (by simp)]
  have lp := sk (fun s o q hI => loop_for (c := loopAt Tryz.f214 0) (N := 22)
    (fun i s o q => s 0 = .t (.list (xs.map strT)) ∧ s 3 = .row 0 ∧ s 4 = .t (.int .i64 i) ∧ o 0 = .row 9 ((xs.map strT).take i ++ List.replicate (xs.length - i) (.str [])) true)
    (fun e s' o' q' => e = .exit 0 ∧ s' 3 = .row 0 ∧ o' 0 = .row 9 (xs.map strT) true) xs.length
    (by
      rintro i s o q hi ⟨g0, g3, g4, ho⟩
      have hi' : (i : Int) < (xs.length : Int) := by omega
      have hwi := wrap_succ (n := i) (by omega)
      have hxi : xs[i]? = some xs[i] := List.getElem?_eq_getElem hi
      have hget := mid_get (xs.map strT) (T.str []) i xs.length hi (by simp; omega)
      have hset := mid_set (xs.map strT) (T.str []) (strT xs[i]) i xs.length hi (by simp [hxi])
      simp [loopAt, loopsOf, Tryz.f214, g0, g3, g4, hi', hxi, hwi, ho, hget, hset])
    (by
      rintro s o q ⟨g0, g3, g4, ho⟩
      have hfull : (xs.map strT).take xs.length = xs.map strT := List.take_of_length_le (by simp)
      simp [hfull] at ho
      simp [loopAt, loopsOf, Tryz.f214, g0, g3, g4, ho])
    xs.length 0 s o q (by omega) hI)
  simp only [loopAt, loopsOf, Tryz.f214] at lp
  obtain ⟨X, A, B, C, hx⟩ := lp
  simp at hx
  have h1 : xs.length ≤ 140737488355328 := by omega
  have h2 : xs.length * 16 ≤ 140737488355328 := by omega
  simp [h1, h2, hx]
/-! Equality: of what is alike. -/
theorem eqValue (v : Val) : run E (.call 119 [xV v, xV v]) = some (.res [xB true] []) := by
  rw [run_call E 119 _ rfl Tryz.func119 rfl rfl rfl (by simp)]
  simp
theorem eqTerm (t : Trm) : run E (.call 358 [.t (trmT t), .t (trmT t)]) = some (.res [xB true] []) := by
  rw [run_call E 358 _ rfl Tryz.func358 rfl rfl rfl (by simp)]
  simp [eqValue t.v]
theorem eqPart (p : Prt) : run E (.call 308 [.t (prtT p), .t (prtT p)]) = some (.res [xB true] []) := by
  rw [run_call E 308 _ rfl Tryz.func308 rfl rfl rfl (by simp)]
  simp
theorem eqClause (c : List Trm) (h : c.length < 4294967296) : run E (.call 186 [.t (clsT c), .t (clsT c)]) = some (.res [xB true] []) := by
  rw [run_call E 186 _ rfl Tryz.func186 rfl rfl rfl (by simp)]
  have hs := eq_228 c (by omega) (fun x _ => eqTerm x)
  simp [hs]
theorem eqFilter (f : List (List Trm)) (h : f.length < 4294967296) (hc : ∀ c ∈ f, c.length < 4294967296) : run E (.call 19 [.t (filT f), .t (filT f)]) = some (.res [xB true] []) := by
  rw [run_call E 19 _ rfl Tryz.func19 rfl rfl rfl (by simp)]
  have hs := eq_117 f (by omega) (fun x hx => eqClause x (hc x hx))
  simp [hs]
theorem eqPartS (l : List Prt) (h : l.length < 4294967296) : run E (.call 224 [.t (.list (l.map prtT)), .t (.list (l.map prtT))]) = some (.res [xB true] []) := eq_81 l (by omega) (fun x _ => eqPart x)
theorem eqStringS (xs : List Bytes) (hl : xs.length < 4294967296) : run E (.call 225 [.t (.list (xs.map strT)), .t (.list (xs.map strT))]) = some (.res [xB true] []) := by
  rw [run_call E 225 _ rfl Tryz.func225 rfl rfl rfl (by simp)]
  have d6 := d225_6
  simp [regionOf, findR, pick, Tryz.f225] at d6
  have dd := fun st => run_region_draw E st 6 _ d6
  clear d6
  have lp := sk (fun s o q hI => loop_for (c := loopAt Tryz.f225 0) (N := 26)
    (fun i s o q => s 0 = .t (.list (xs.map strT)) ∧ s 1 = .t (.list (xs.map strT)) ∧ s 5 = .t (.int .i64 i))
    (fun e s' o' q' => e = .exit 0) xs.length
    (by
      rintro i s o q hi ⟨g0, g1, g5⟩
      have hi' : (i : Int) < (xs.length : Int) := by omega
      have hwi := wrap_succ (n := i) (by omega)
      have hxi : xs[i]? = some xs[i] := List.getElem?_eq_getElem hi
      simp [loopAt, loopsOf, Tryz.f225, dd, g0, g1, g5, hi', hxi, hwi])
    (by
      rintro s o q ⟨g0, g1, g5⟩
      simp [loopAt, loopsOf, Tryz.f225, g0, g1, g5])
    xs.length 0 s o q (by omega) hI)
  simp only [loopAt, loopsOf, Tryz.f225] at lp
  obtain ⟨X, A, B, C, hx⟩ := lp
  simp at hx
  simp [hx]
end Go.Yd
/- The law FnExactQueryOK, run over plain data: it answers true. -/
set_option linter.unusedSimpArgs false
set_option linter.unusedVariables false
namespace Go.Yd
open Go.Ev Go.Proofs Go.Pu
set_option maxRecDepth 100000
set_option maxHeartbeats 16000000
structure Qry.Wd (q : Qry) : Prop where
  filter : filWd q.filter
  sort : prtsWd q.sort
  keep : txtsWd q.keep
  hint : W q.hint.length
def szQry (q : Qry) (l : Int) : Int := thenSz (szFil q.filter) (thenSz (lstSz szPrt q.sort) (thenSz (lstSz szTxt q.keep) (thenSz (szB q.hint.length) (fun k => k)))) l
theorem szTxt_le (t : Bytes) (k : Int) (h : 0 ≤ k) : szTxt t k ≤ k := szB_le h
theorem lstPrt_le (l : List Prt) (k : Int) (h : 0 ≤ k) : lstSz szPrt l k ≤ k := lstSz_le h (fun x _ k hk => szPrt_le x k hk)
theorem lstTxt_le (l : List Bytes) (k : Int) (h : 0 ≤ k) : lstSz szTxt l k ≤ k := lstSz_le h (fun x _ k hk => szTxt_le x k hk)
theorem szQuery (q : Qry) (h : q.Wd) (l : Int) (h0 : 0 ≤ l) (hm : l ≤ 1048576) : run E (.call 105 [.t (qryT q), xI l]) = some (.res [xI (szQry q l)] []) := by
  rw [run_call E 105 _ rfl Tryz.func105 rfl rfl rfl (by simp)]
  have h1 := szFilter q.filter h.filter l h0 hm
  have l1 := szFil_le q.filter l h0
  unfold szQry thenSz
  by_cases n1 : szFil q.filter l < 0
  · simp [h1, n1]
  · have h2 := szPartS q.sort h.sort (szFil q.filter l) (by omega) (by omega)
    have l2 := lstPrt_le q.sort (szFil q.filter l) (by omega)
    by_cases n2 : lstSz szPrt q.sort (szFil q.filter l) < 0
    · simp [h1, n1, h2, n2]
    · have h3 := szStringS q.keep h.keep (lstSz szPrt q.sort (szFil q.filter l)) (by omega) (by omega)
      have l3 := lstTxt_le q.keep (lstSz szPrt q.sort (szFil q.filter l)) (by omega)
      by_cases n3 : lstSz szTxt q.keep (lstSz szPrt q.sort (szFil q.filter l)) < 0
      · simp [h1, n1, h2, n2, h3, n3]
      · have hw := wrap_sz (n := q.hint.length) (l := lstSz szTxt q.keep (lstSz szPrt q.sort (szFil q.filter l))) h.hint (by omega) (by omega)
        generalize lstSz szTxt q.keep (lstSz szPrt q.sort (szFil q.filter l)) = k at *
        by_cases hb : k - (q.hint.length : Int) < 0
        · have e : szB q.hint.length k = -1 := by simp [szB, hb]
          simp [h1, n1, h2, n2, h3, n3, hw, hb, e]
        · have e : szB q.hint.length k = k - q.hint.length := by simp [szB, hb]
          simp [h1, n1, h2, n2, h3, n3, hw, hb, e]
theorem thenSz_neg {f g : Int → Int} {l : Int} (h : ¬ thenSz f g l < 0) : ¬ f l < 0 ∧ ¬ g (f l) < 0 := by
  unfold thenSz at h
  split at h
  · omega
  · rename_i hf; exact ⟨hf, h⟩
theorem szTrm_sm {t : Trm} {k : Int} (h0 : 0 ≤ k) (hm : k ≤ 1048576) (h : ¬ szTrm t k < 0) : t.sm := by
  obtain ⟨h1, h2⟩ := thenSz_neg h
  obtain ⟨h3, _⟩ := thenSz_neg h2
  have b1 := szB_bound h1
  have b2 := szB_bound h3
  have := szB_le (n := t.path.length) h0
  exact ⟨by omega, by omega⟩
theorem szCls_sm {c : List Trm} {k : Int} (h0 : 0 ≤ k) (hm : k ≤ 1048576) (h : ¬ szCls c k < 0) : clauseSm c := by
  obtain ⟨h1, h2⟩ := thenSz_neg h
  obtain ⟨b1, b2⟩ := lstSz_all (P := Trm.sm) (m := 1048576) h0 hm (fun x _ k hk => szTrm_le x k hk) (fun x _ k hk hm h => szTrm_sm hk hm h) h1
  exact ⟨by omega, b2⟩
theorem szFil_sm {c : List (List Trm)} {k : Int} (h0 : 0 ≤ k) (hm : k ≤ 1048576) (h : ¬ szFil c k < 0) : filterSm c := by
  obtain ⟨h1, h2⟩ := thenSz_neg h
  obtain ⟨b1, b2⟩ := lstSz_all (P := clauseSm) (m := 1048576) h0 hm (fun x _ k hk => szCls_le x k hk) (fun x _ k hk hm h => szCls_sm hk hm h) h1
  exact ⟨by omega, b2⟩
theorem lstPrt_sm {c : List Prt} {k : Int} (h0 : 0 ≤ k) (hm : k ≤ 1048576) (h : ¬ lstSz szPrt c k < 0) : partsSm c := by
  obtain ⟨b1, b2⟩ := lstSz_all (P := fun p => p.path.length < 4294967296) (m := 1048576) h0 hm (fun x _ k hk => szPrt_le x k hk) (fun x _ k hk hm h => by have := szB_bound h; omega) h
  exact ⟨by omega, b2⟩
theorem lstTxt_sm {c : List Bytes} {k : Int} (h0 : 0 ≤ k) (hm : k ≤ 1048576) (h : ¬ lstSz szTxt c k < 0) : textsSm c := by
  obtain ⟨b1, b2⟩ := lstSz_all (P := fun p => p.length < 4294967296) (m := 1048576) h0 hm (fun x _ k hk => szTxt_le x k hk) (fun x _ k hk hm h => by have := szB_bound h; omega) h
  exact ⟨by omega, b2⟩
theorem szQry_sm {q : Qry} (h : ¬ szQry q 1048576 < 0) : q.Sm := by
  obtain ⟨h1, h2⟩ := thenSz_neg h
  obtain ⟨h3, h4⟩ := thenSz_neg h2
  obtain ⟨h5, h6⟩ := thenSz_neg h4
  obtain ⟨h7, _⟩ := thenSz_neg h6
  have l1 := szFil_le q.filter 1048576 (by omega)
  have l2 := lstPrt_le q.sort (szFil q.filter 1048576) (by omega)
  have l3 := lstTxt_le q.keep (lstSz szPrt q.sort (szFil q.filter 1048576)) (by omega)
  have b := szB_bound h7
  exact ⟨szFil_sm (by omega) (by omega) h1, lstPrt_sm (by omega) (by omega) h3, lstTxt_sm (by omega) (by omega) h5, by omega⟩
theorem toQuery (q : Qry) (h : q.Sm) : run E (.call 112 [.t (qryT q)]) = some (.res [.agg [.row 236 (q.filter.map clsT), .row 133 (q.sort.map prtT), xI q.skip, xI q.limit, .row 9 (q.keep.map strT), xS q.hint]] []) := by
  rw [run_call E 112 _ rfl Tryz.func112 rfl rfl rfl (by simp)]
  have h1 := toFilter q.filter h.filter.1 (fun c hc => (h.filter.2 c hc).1)
  have h2 := toPartS q.sort h.sort.1
  have h3 := toStringS q.keep h.keep.1
  simp [h1, h2, h3]
theorem eqQuery (q : Qry) (h : q.Sm) : run E (.call 120 [.t (qryT q), .t (qryT q)]) = some (.res [xB true] []) := by
  rw [run_call E 120 _ rfl Tryz.func120 rfl rfl rfl (by simp)]
  have h1 := eqFilter q.filter h.filter.1 (fun c hc => (h.filter.2 c hc).1)
  have h2 := eqPartS q.sort h.sort.1
  have h3 := eqStringS q.keep h.keep.1
  simp [h1, h2, h3]
end Go.Yd
/-
  DERIVED: THE SHELF's CONTRACTS AT THIS DUMP, IN PLAIN WORDS (tools/lay-plain.mjs out of 'TryzShelf.lean', which tools/lay-shelf.mjs wrote): THE SAME DECLARATIONS UNDER THE SAME NAMES: 'import', 'namespace', 'open', 'def', 'theorem' AND NOTHING ELSE: no command of the shelf's: FOR A HAND-IN. Each laying: the table of numbers ('.._ren') and one theorem, a field a fact of the dump's own or the kernel's comparison; each contract: ONE APPLICATION.
-/
namespace Go.Proofs
open Go.Shelf
def Tryz.lays213_ren : Go.Shelf.Ren := ⟨fun | 213 => 296 | 265 => 361 | n => n, fun | 9 => 9 | 3 => 3 | n => n, fun | n => n⟩
theorem Tryz.lays213 : Go.Proofs.Lays.n213 Tryz.prog Tryz.lays213_ren := {
  mixed := by kernel_rfl
  f213 := Tryz.func296.trans (congrArg some (by kernel_rfl))
  f265 := Tryz.func361.trans (congrArg some (by kernel_rfl))
  t3 := Tryz.underlying3
  a3 := Tryz.isAgg3
  z3 := Tryz.sizeOf3
  v3 := Tryz.zeroValue3
  t9 := Tryz.underlying9
  a9 := Tryz.isAgg9
  z9 := Tryz.sizeOf9
  v9 := Tryz.zeroValue9 }
open Go.RowKit in
/-- internal/bytealg.CompareString (what strings.Compare calls): IT RETURNS 'Lib.compareBytes a b'; the world is as it was. (LAID: no walk: one application.) -/
theorem Tryz.bytealg_CompareString (a b : ByteArray) (w : World) :
    Calls Tryz.prog 296 #[.string a, .string b] w fun e w' => e = .returned (.int .i64 (Lib.compareBytes a.data.toList b.data.toList)) ∧ w' = w := Any.bytealg_CompareString Tryz.lays213 a b w
def Tryz.lays105_ren : Go.Shelf.Ren := ⟨fun | 105 => 378 | 212 => 396 | 99 => 397 | 165 => 285 | 166 => 286 | 170 => 398 | 169 => 287 | 263 => 412 | 264 => 413 | 206 => 414 | 240 => 352 | 241 => 353 | 276 => 380 | 277 => 381 | n => n, fun | 9 => 9 | 3 => 3 | 4 => 4 | 20 => 20 | 0 => 0 | 46 => 375 | 109 => 428 | 5 => 5 | 72 => 336 | 76 => 340 | 51 => 441 | 146 => 444 | 53 => 423 | 148 => 446 | 70 => 334 | 37 => 110 | 75 => 339 | 127 => 390 | 164 => 415 | 80 => 305 | n => n, fun | n => n⟩
theorem Tryz.lays105 : Go.Proofs.Lays.n105 Tryz.prog Tryz.lays105_ren := {
  mixed := by kernel_rfl
  f99 := Tryz.func397.trans (congrArg some (by kernel_rfl))
  f105 := Tryz.func378.trans (congrArg some (by kernel_rfl))
  f165 := Tryz.func285.trans (congrArg some (by kernel_rfl))
  f166 := Tryz.func286.trans (congrArg some (by kernel_rfl))
  f169 := Tryz.func287.trans (congrArg some (by kernel_rfl))
  f170 := Tryz.func398.trans (congrArg some (by kernel_rfl))
  f206 := Tryz.func414.trans (congrArg some (by kernel_rfl))
  f212 := Tryz.func396.trans (congrArg some (by kernel_rfl))
  f240 := Tryz.func352.trans (congrArg some (by kernel_rfl))
  f241 := Tryz.func353.trans (congrArg some (by kernel_rfl))
  f263 := Tryz.func412.trans (congrArg some (by kernel_rfl))
  f264 := Tryz.func413.trans (congrArg some (by kernel_rfl))
  f276 := Tryz.func380.trans (congrArg some (by kernel_rfl))
  f277 := Tryz.func381.trans (congrArg some (by kernel_rfl))
  t0 := Tryz.underlying0
  a0 := Tryz.isAgg0
  z0 := Tryz.sizeOf0
  v0 := Tryz.zeroValue0
  t3 := Tryz.underlying3
  a3 := Tryz.isAgg3
  z3 := Tryz.sizeOf3
  v3 := Tryz.zeroValue3
  t4 := Tryz.underlying4
  a4 := Tryz.isAgg4
  z4 := Tryz.sizeOf4
  v4 := Tryz.zeroValue4
  t5 := Tryz.underlying5
  a5 := Tryz.isAgg5
  z5 := Tryz.sizeOf5
  v5 := Tryz.zeroValue5
  t9 := Tryz.underlying9
  a9 := Tryz.isAgg9
  z9 := Tryz.sizeOf9
  v9 := Tryz.zeroValue9
  t20 := Tryz.underlying20
  a20 := Tryz.isAgg20
  z20 := Tryz.sizeOf20
  v20 := Tryz.zeroValue20
  t37 := Tryz.underlying110
  a37 := Tryz.isAgg110
  z37 := Tryz.sizeOf110
  v37 := Tryz.zeroValue110
  t46 := Tryz.underlying375
  a46 := Tryz.isAgg375
  z46 := Tryz.sizeOf375
  v46 := Tryz.zeroValue375
  t51 := Tryz.underlying441
  a51 := Tryz.isAgg441
  z51 := Tryz.sizeOf441
  v51 := Tryz.zeroValue441
  t53 := Tryz.underlying423
  a53 := Tryz.isAgg423
  z53 := Tryz.sizeOf423
  v53 := Tryz.zeroValue423
  t70 := Tryz.underlying334
  a70 := Tryz.isAgg334
  z70 := Tryz.sizeOf334
  v70 := Tryz.zeroValue334
  t72 := Tryz.underlying336
  a72 := Tryz.isAgg336
  z72 := Tryz.sizeOf336
  v72 := Tryz.zeroValue336
  t75 := Tryz.underlying339
  a75 := Tryz.isAgg339
  z75 := Tryz.sizeOf339
  v75 := Tryz.zeroValue339
  t76 := Tryz.underlying340
  a76 := Tryz.isAgg340
  z76 := Tryz.sizeOf340
  v76 := Tryz.zeroValue340
  t109 := Tryz.underlying428
  a109 := Tryz.isAgg428
  z109 := Tryz.sizeOf428
  v109 := Tryz.zeroValue428
  t127 := Tryz.underlying390
  a127 := Tryz.isAgg390
  z127 := Tryz.sizeOf390
  v127 := Tryz.zeroValue390
  t146 := Tryz.underlying444
  a146 := Tryz.isAgg444
  z146 := Tryz.sizeOf444
  v146 := Tryz.zeroValue444
  t148 := Tryz.underlying446
  a148 := Tryz.isAgg446
  z148 := Tryz.sizeOf446
  v148 := Tryz.zeroValue446
  t164 := Tryz.underlying415
  a164 := Tryz.isAgg415
  z164 := Tryz.sizeOf415
  v164 := Tryz.zeroValue415 }
theorem Tryz.Builder_Extra_105 : Builder.Extra Tryz.prog Tryz.lays105_ren := {
  sizeBuilder := by kernel_rfl
  liesBuilder := by kernel_rfl
  t5 := Tryz.underlying5
  a5 := Tryz.isAgg5
  z5 := Tryz.sizeOf5
  v5 := Tryz.zeroValue5
  infoByte := by kernel_rfl
  cellsByte := by kernel_rfl
  sizeByte := by kernel_rfl
  neB5 := by decide }
open Go.RowKit Go.Lib in
/-- **strings.Repeat: count ≥ 0, the result within one allocation: count copies of s.** (LAID: no walk: one application.) -/
theorem Tryz.strings_Repeat (s : ByteArray) (c : Nat) (w : World) (hc : c ≤ 9223372036854775807) (hlen : s.size * c ≤ 140737488355328) :
    Calls Tryz.prog 378 #[.string s, .int .i64 c] w fun e w' => e = .returned (.string ⟨(Lib.repeatL s.data.toList c).toArray⟩) ∧ Below w.heap.size w w' := Any.strings_Repeat Tryz.lays105 Tryz.Builder_Extra_105 s c w hc hlen
end Go.Proofs
/- The library's functions that are met by their contracts. -/
set_option linter.unusedSimpArgs false
set_option linter.unusedVariables false
namespace Go.Yd
open Go.Ev Go.Proofs Go.RowKit
theorem same_of_below {w w' : World} (h : Below w.heap.size w w') : Same w w' (fun _ => False) := ⟨h.size, fun k hk _ => h.block k hk, h.tape, h.os, h.output⟩
theorem callOK_flat {E : Env} {P : Program} {f : Nat} {args : List X} {r : T} (hr : r.flat = true) (h1 : r.one = true) (hm : E.md f = [])
    (h : ∀ (F : Nat → Prop) (w : World) (vals : Array Value) (bl : List Nat), XVs E F w args vals.toList bl → (∀ k, F k → k < w.heap.size) → Laid E F w → ∃ v, RD F w r v ∧ ((callFunc f vals).run P w = .ok (.value v) w ∨ ((callFunc f vals).run P w = .ok (.enter f vals) w ∧ Calls P f vals w (fun e w' => e = .returned v ∧ Below w.heap.size w w')))) :
    CallOK E P f args [.t r] [] := by
  refine ⟨fun _ => ⟨by simp [X.flats, X.flat, hr], rfl, rfl⟩, fun F w vals bl hx hn hb hF hL => ?_⟩
  obtain ⟨v, hv, hc⟩ := h F w vals bl hx hF hL
  have key : ∀ w', Below w.heap.size w w' → Go.Ev.Leaves E F w bl (muts (E.md f) vals.toList) [.t r] [] [v] w' := by
    intro w' hw
    refine ⟨F, [], [], (same_of_below hw).mono (fun _ _ h => h.elim), fun _ h => h, fun _ h => .inl h, fun k hk => Nat.lt_of_lt_of_le (hF k hk) hw.size, .cons (b := []) (.t (hv.flat hr)) .nil, ?_, by simp, by simp⟩
    rw [hm, show muts [] vals.toList = [] from muts_nil _]
    exact .nil
  rcases hc with hc | ⟨hc, hC⟩
  · exact .inr ⟨v, w, hc, [v], rfl, key w (Below.refl _ _)⟩
  · refine .inl ⟨hc, hC.mono ?_⟩
    rintro e w' ⟨rfl, hw⟩
    exact ⟨[v], rfl, key w' hw⟩
theorem xvs_two {E : Env} {F : Nat → Prop} {w : World} {a b : T} {vs : List Value} {bl : List Nat} (h : XVs E F w [.t a, .t b] vs bl) : ∃ u v, vs = [u, v] ∧ RD F w a u ∧ RD F w b v := by
  cases h with
  | cons h r =>
    cases r with
    | cons h' r' =>
      cases r' with
      | nil =>
        cases h with
        | t h => cases h' with
          | t h' => exact ⟨_, _, rfl, h, h'⟩
theorem arr_two {vals : Array Value} {u v : Value} (h : vals.toList = [u, v]) : vals = #[u, v] := by
  cases vals; simpa using h
theorem ext_ok : ∀ f g args rs bs, extOf f = some g → g args = some (rs, bs) → CallOK E Tryz.prog f args rs bs := by
  intro f g args rs bs hx hg
  unfold extOf at hx
  split at hx
  · obtain rfl := Option.some.inj hx
    dsimp only at hg
    split at hg
    · rename_i a b
      obtain ⟨rfl, rfl⟩ := Prod.mk.inj (Option.some.inj hg)
      refine callOK_flat rfl rfl rfl (fun F w vals bl h _ _ => ?_)
      obtain ⟨u, v, hv, hu, hv'⟩ := xvs_two h
      obtain rfl := arr_two hv
      cases hu; cases hv'
      refine ⟨_, .int _ _, .inr ⟨Go.Proofs.enters_of Tryz.func296 (by kernel_rfl) rfl _ _, (Tryz.bytealg_CompareString ⟨⟨a⟩⟩ ⟨⟨b⟩⟩ w).mono ?_⟩⟩
      rintro e w' ⟨rfl, rfl⟩
      exact ⟨rfl, Below.refl _ _⟩
    · cases hg
  · obtain rfl := Option.some.inj hx
    dsimp only at hg
    split at hg
    · rename_i a n
      split at hg
      · rename_i hn
        obtain ⟨rfl, rfl⟩ := Prod.mk.inj (Option.some.inj hg)
        refine callOK_flat rfl rfl rfl (fun F w vals bl h _ _ => ?_)
        obtain ⟨u, v, hv, hu, hv'⟩ := xvs_two h
        obtain rfl := arr_two hv
        cases hu; cases hv'
        obtain ⟨h0, h1, h2⟩ := hn
        have hc := Tryz.strings_Repeat ⟨⟨a⟩⟩ n.toNat w (by omega) (by simpa [ByteArray.size] using h2)
        rw [Int.toNat_of_nonneg h0] at hc
        refine ⟨_, .str _, .inr ⟨Go.Proofs.enters_of Tryz.func378 (by kernel_rfl) rfl _ _, hc⟩⟩
      · cases hg
    · cases hg
  · obtain rfl := Option.some.inj hx
    dsimp only at hg
    split at hg
    · rename_i a c
      obtain ⟨rfl, rfl⟩ := Prod.mk.inj (Option.some.inj hg)
      refine callOK_flat rfl rfl rfl (fun F w vals bl h _ _ => ?_)
      obtain ⟨u, v, hv, hu, hv'⟩ := xvs_two h
      obtain rfl := arr_two hv
      cases hu; cases hv'
      refine ⟨_, .int _ _, .inl ?_⟩
      rw [run_callFunc_extern Tryz.func405 (by kernel_rfl) (by kernel_rfl) (by kernel_rfl) (e := Extern.BytealgCount.count) (by kernel_rfl), Lib.run_countString]
      rfl
    · cases hg
  · obtain rfl := Option.some.inj hx
    dsimp only at hg
    split at hg
    · rename_i a c
      obtain ⟨rfl, rfl⟩ := Prod.mk.inj (Option.some.inj hg)
      refine callOK_flat rfl rfl rfl (fun F w vals bl h _ _ => ?_)
      obtain ⟨u, v, hv, hu, hv'⟩ := xvs_two h
      obtain rfl := arr_two hv
      cases hu; cases hv'
      refine ⟨_, .int _ _, .inl ?_⟩
      rw [run_callFunc_extern Tryz.func422 (by kernel_rfl) (by kernel_rfl) (by kernel_rfl) (e := Extern.BytealgIndexByte.indexByte) (by kernel_rfl), Lib.run_indexByteString]
      rfl
    · cases hg
  · cases hx
theorem E_sok : SOK E Tryz.prog := envD_sok mixed names_ok ext_ok
end Go.Yd
/- What comes in, as plain data: the parameters' types read off. -/
set_option linter.unusedSimpArgs false
set_option linter.unusedVariables false
namespace Go.Yd
open Go.Ev Go.Proofs Go.Pu
set_option maxRecDepth 100000
set_option maxHeartbeats 4000000
theorem list_choose {α β : Type} {enc : α → β} {P : α → Prop} : ∀ {xs : List β}, (∀ x ∈ xs, ∃ a, x = enc a ∧ P a) → ∃ l : List α, xs = l.map enc ∧ ∀ a ∈ l, P a
  | [], _ => ⟨[], rfl, by simp⟩
  | x :: xs, h => by
    obtain ⟨a, h1, h2⟩ := h x (by simp)
    obtain ⟨l, h3, h4⟩ := list_choose (fun y hy => h y (List.mem_cons_of_mem _ hy))
    refine ⟨a :: l, by simp [h1, h3], fun b hb => ?_⟩
    rcases List.mem_cons.1 hb with rfl | hb
    · exact h2
    · exact h4 b hb
theorem typed_int {n : Nat} {ts : List T} (h : typed E (n + 1) 3 ts) : ∃ m, ts = [.int .i64 m] := by
  unfold typed at h
  rw [E_ty3] at h
  simp only at h
  split at h <;> first | exact h.elim | skip
  all_goals rename_i hk
  all_goals first | cases hk | skip
  all_goals first | (obtain ⟨rfl, _⟩ := h; exact ⟨_, rfl⟩) | skip
theorem typed_str {n : Nat} {ts : List T} (h : typed E (n + 1) 9 ts) : ∃ s, ts = [.str s] ∧ W s.length := by
  unfold typed at h
  rw [E_ty9] at h
  simp only at h
  split at h <;> first | exact h.elim | skip
  all_goals rename_i hk
  all_goals first | cases hk | skip
  all_goals first | exact ⟨_, rfl, by unfold W; omega⟩ | skip
theorem typed_bool {n : Nat} {ts : List T} (h : typed E (n + 1) 4 ts) : ∃ b, ts = [.bool b] := by
  unfold typed at h
  rw [E_ty4] at h
  simp only at h
  split at h <;> first | exact h.elim | skip
  all_goals rename_i hk
  all_goals first | cases hk | skip
  all_goals first | exact ⟨_, rfl⟩ | skip
theorem typed_slice {n t : Nat} {ts : List T} (hk : (E.ty t).k = .slice) (hb : 1 ≤ (E.ty (E.ty t).elem).bytes) (h : typed E (n + 1) t ts) : ∃ xs, ts = [.list xs] ∧ W xs.length ∧ ∀ x ∈ xs, ∃ cs, x = (if (E.ty (E.ty t).elem).agg then T.agg cs else (cs.headD (.bool false))) ∧ cs.length = (E.ty (E.ty t).elem).size ∧ typed E n (E.ty t).elem cs := by
  unfold typed at h
  rw [hk] at h
  try simp only at h
  split at h <;> first | exact h.elim | skip
  all_goals rename_i hk'
  all_goals first | cases hk' | skip
  rename_i xs
  refine ⟨xs, rfl, ?_, h.2⟩
  have := Nat.le_mul_of_pos_right xs.length hb
  unfold W
  have := h.1
  omega
theorem typed_struct {n t : Nat} {ts : List T} (hk : (E.ty t).k = .struct) (h : typed E (n + 1) t ts) : ts.length = (E.ty t).size ∧ ∀ p ∈ (E.ty t).fields, typed E n p.2 ((ts.drop p.1).take (E.ty p.2).size) := by
  unfold typed at h
  rw [hk] at h
  exact h
theorem dec26 {n : Nat} {ts : List T} (h : typed E (n + 2) 26 ts) : ∃ v : Val, ts = [.int .i64 v.k, .int .i64 v.n, .str v.t] ∧ W v.t.length := by
  obtain ⟨h1, h2⟩ := typed_struct (by simp) h
  simp at h1 h2
  obtain ⟨g1, g2, g3⟩ := h2
  match ts, h1 with
  | [a, b, c], _ =>
    obtain ⟨x, hx⟩ := typed_int g1
    obtain ⟨y, hy⟩ := typed_int g2
    obtain ⟨z, hz, hz2⟩ := typed_str g3
    simp at hx hy hz
    exact ⟨⟨x, y, z⟩, by simp [hx, hy, hz], hz2⟩
theorem dec392 {n : Nat} {ts : List T} (h : typed E (n + 3) 392 ts) : ∃ t : Trm, T.agg ts = trmT t ∧ t.wd := by
  obtain ⟨h1, h2⟩ := typed_struct (by simp) h
  simp at h1 h2
  obtain ⟨g1, g2, g3⟩ := h2
  match ts, h1 with
  | [a, b, c, d, e], _ =>
    obtain ⟨x, hx⟩ := typed_int g1
    obtain ⟨y, hy, hy2⟩ := typed_str g2
    obtain ⟨v, hv, hv2⟩ := dec26 g3
    simp at hx hy hv
    exact ⟨⟨x, y, v⟩, by simp [hx, hy, hv], hy2, hv2⟩
theorem dec241 {n : Nat} {ts : List T} (h : typed E (n + 4) 241 ts) : ∃ c : List Trm, ts = [.list (c.map trmT)] ∧ clsWd c := by
  obtain ⟨xs, rfl, h1, h2⟩ := typed_slice (by simp) (by simp) h
  obtain ⟨l, rfl, h4⟩ := list_choose (enc := trmT) (P := Trm.wd) (fun x hx => by
    obtain ⟨cs, e, _, h⟩ := h2 x hx
    simp at e h
    obtain ⟨t, h3, h4⟩ := dec392 h
    exact ⟨t, e.trans h3, h4⟩)
  exact ⟨l, rfl, by simpa using h1, h4⟩
theorem dec243 {n : Nat} {ts : List T} (h : typed E (n + 5) 243 ts) : ∃ c : List Trm, T.agg ts = clsT c ∧ clsWd c := by
  obtain ⟨h1, h2⟩ := typed_struct (by simp) h
  simp at h1 h2
  match ts, h1 with
  | [a], _ =>
    obtain ⟨c, hc, hw⟩ := dec241 h2
    simp at hc
    exact ⟨c, by simp [hc], hw⟩
theorem dec22 {n : Nat} {ts : List T} (h : typed E (n + 6) 22 ts) : ∃ f : List (List Trm), ts = [.list (f.map clsT)] ∧ filWd f := by
  obtain ⟨xs, rfl, h1, h2⟩ := typed_slice (by simp) (by simp) h
  obtain ⟨l, rfl, h4⟩ := list_choose (enc := clsT) (P := clsWd) (fun x hx => by
    obtain ⟨cs, e, _, h⟩ := h2 x hx
    simp at e h
    obtain ⟨t, h3, h4⟩ := dec243 h
    exact ⟨t, e.trans h3, h4⟩)
  exact ⟨l, rfl, by simpa using h1, h4⟩
theorem dec24 {n : Nat} {ts : List T} (h : typed E (n + 7) 24 ts) : ∃ f : List (List Trm), ts = [.list (f.map clsT)] ∧ filWd f := by
  obtain ⟨h1, h2⟩ := typed_struct (by simp) h
  simp at h1 h2
  match ts, h1 with
  | [a], _ => simpa using dec22 h2
theorem dec351 {n : Nat} {ts : List T} (h : typed E (n + 2) 351 ts) : ∃ p : Prt, T.agg ts = prtT p ∧ W p.path.length := by
  obtain ⟨h1, h2⟩ := typed_struct (by simp) h
  simp at h1 h2
  obtain ⟨g1, g2⟩ := h2
  match ts, h1 with
  | [a, b], _ =>
    obtain ⟨x, hx, hx2⟩ := typed_str g1
    obtain ⟨y, hy⟩ := typed_bool g2
    simp at hx hy
    exact ⟨⟨x, y⟩, by simp [hx, hy], hx2⟩
theorem dec63 {n : Nat} {ts : List T} (h : typed E (n + 3) 63 ts) : ∃ c : List Prt, ts = [.list (c.map prtT)] ∧ prtsWd c := by
  obtain ⟨xs, rfl, h1, h2⟩ := typed_slice (by simp) (by simp) h
  obtain ⟨l, rfl, h4⟩ := list_choose (enc := prtT) (P := fun p => W p.path.length) (fun x hx => by
    obtain ⟨cs, e, _, h⟩ := h2 x hx
    simp at e h
    obtain ⟨t, h3, h4⟩ := dec351 h
    exact ⟨t, e.trans h3, h4⟩)
  exact ⟨l, rfl, by simpa using h1, h4⟩
theorem dec64 {n : Nat} {ts : List T} (h : typed E (n + 2) 64 ts) : ∃ c : List Bytes, ts = [.list (c.map strT)] ∧ txtsWd c := by
  obtain ⟨xs, rfl, h1, h2⟩ := typed_slice (by simp) (by simp) h
  obtain ⟨l, rfl, h4⟩ := list_choose (enc := strT) (P := fun p => W p.length) (fun x hx => by
    obtain ⟨cs, e, _, h⟩ := h2 x hx
    simp at e h
    obtain ⟨t, h3, h4⟩ := typed_str h
    subst h3
    exact ⟨t, by simpa using e, h4⟩)
  exact ⟨l, rfl, by simpa using h1, h4⟩
theorem dec66 {n : Nat} {ts : List T} (h : typed E (n + 8) 66 ts) : ∃ q : Qry, T.agg ts = qryT q ∧ q.Wd := by
  obtain ⟨h1, h2⟩ := typed_struct (by simp) h
  simp at h1 h2
  obtain ⟨g1, g2, g3, g4, g5, g6⟩ := h2
  match ts, h1 with
  | [a, b, c, d, e, f], _ =>
    obtain ⟨fl, e1, w1⟩ := dec24 g1
    obtain ⟨so, e2, w2⟩ := dec63 g2
    obtain ⟨sk, e3⟩ := typed_int g3
    obtain ⟨li, e4⟩ := typed_int g4
    obtain ⟨ke, e5, w5⟩ := dec64 g5
    obtain ⟨hi, e6, w6⟩ := typed_str g6
    simp at e1 e2 e3 e4 e5 e6
    exact ⟨⟨fl, so, sk, li, ke, hi⟩, by simp [e1, e2, e3, e4, e5, e6], w1, w2, w5, w6⟩
end Go.Yd
/- A parameter that is a row of bytes. -/
set_option linter.unusedSimpArgs false
set_option linter.unusedVariables false
namespace Go.Yd
open Go.Ev Go.Proofs Go.Pu
set_option maxRecDepth 100000
theorem typed_u8 {n : Nat} {ts : List T} (h : typed E (n + 1) 5 ts) : ∃ b : UInt8, ts = [byteT b] := by
  unfold typed at h
  rw [E_ty5] at h
  simp only at h
  split at h <;> first | exact h.elim | skip
  all_goals rename_i hk
  all_goals first | cases hk | skip
  obtain ⟨rfl, hw⟩ := h
  rename_i m
  simp [Lit.wf] at hw
  have h0 : IntKind.u8.min = 0 := by decide
  have h1 : IntKind.u8.max = 255 := by decide
  rw [h0, h1] at hw
  refine ⟨UInt8.ofNat m.toNat, ?_⟩
  have : ((UInt8.ofNat m.toNat).toNat : Int) = m := by
    simp
    omega
  simp only [byteT, this]
theorem dec110 {n : Nat} {ts : List T} (h : typed E (n + 2) 110 ts) : ∃ c : Bytes, ts = [.list (c.map byteT)] ∧ W c.length := by
  obtain ⟨xs, rfl, h1, h2⟩ := typed_slice (by simp) (by simp) h
  obtain ⟨l, rfl, h4⟩ := list_choose (enc := byteT) (P := fun _ => True) (fun x hx => by
    obtain ⟨cs, e, _, h⟩ := h2 x hx
    simp at e h
    obtain ⟨t, h3⟩ := typed_u8 h
    subst h3
    exact ⟨t, by simpa using e, trivial⟩)
  exact ⟨l, rfl, by simpa using h1⟩
end Go.Yd
/- Fields by name: spec's l02Field; impl's findField, field; ids. -/
set_option linter.unusedSimpArgs false
set_option linter.unusedVariables false
namespace Go.Yd
open Go.Ev Go.Proofs Go.Pu
set_option maxRecDepth 100000
set_option maxHeartbeats 16000000
theorem compareBytes_lt : ∀ (a b : Bytes), (Lib.compareBytes a b < 0) = (Op.bytesLess a b = true)
  | [], [] => by simp [Lib.compareBytes, Op.bytesLess]
  | [], _ :: _ => by simp [Lib.compareBytes, Op.bytesLess]
  | _ :: _, [] => by simp [Lib.compareBytes, Op.bytesLess]
  | x :: a, y :: b => by
    have ih := compareBytes_lt a b
    unfold Lib.compareBytes Op.bytesLess
    by_cases h1 : x < y
    · simp [h1]
    · by_cases h2 : y < x
      · have : ¬ x = y := fun e => by subst e; exact h1 h2
        simp [h1, h2, this]
      · have e : x = y := UInt8.le_antisymm (UInt8.not_lt.1 h2) (UInt8.not_lt.1 h1)
        subst e
        simp [h1, ih]
theorem compareBytes_eq : ∀ (a b : Bytes), (Lib.compareBytes a b = 0) = (a = b)
  | [], [] => by simp [Lib.compareBytes]
  | [], _ :: _ => by simp [Lib.compareBytes]
  | _ :: _, [] => by simp [Lib.compareBytes]
  | x :: a, y :: b => by
    have ih := compareBytes_eq a b
    unfold Lib.compareBytes
    by_cases h1 : x < y
    · have : ¬ x = y := fun e => by subst e; exact absurd h1 (UInt8.lt_irrefl x)
      simp [h1, this]
    · by_cases h2 : y < x
      · have : ¬ x = y := fun e => by subst e; exact h1 h2
        simp [h1, h2, this]
      · have e : x = y := UInt8.le_antisymm (UInt8.not_lt.1 h2) (UInt8.not_lt.1 h1)
        subst e
        simp [h1, ih]
theorem compare (a b : Bytes) : run E (.call 194 [xS a, xS b]) = some (.res [xI (Lib.compareBytes a b)] []) := by
  have h : run E (.call 296 [xS a, xS b]) = some (.res [xI (Lib.compareBytes a b)] []) := by
    rw [run_ext E 296 _ (g := _) rfl]
    simp
  rw [run_call E 194 _ rfl Tryz.func194 rfl rfl rfl (by simp)]
  simp [h]
theorem findClosure (f : Fld) (name : Bytes) : run E (.call 261 [.t (fldT f), xS name]) = some (.res [xI (Lib.compareBytes f.name name)] []) := by
  rw [run_call E 261 _ rfl Tryz.func261 rfl rfl rfl (by simp)]
  simp [compare f.name name]
/-- Where a search by halves ends. -/
def seekI (fs : List Fld) (name : Bytes) : Nat := halves (fun k => match fs[k]? with
  | some f => Op.bytesLess f.name name
  | none => false) (fs.length + 1) 0 fs.length
def thereI (fs : List Fld) (name : Bytes) : Bool := match fs[seekI fs name]? with
  | some f => f.name == name
  | none => false
theorem wrap_u64 {n : Nat} (h : n < 18446744073709551616) : IntKind.u64.wrap (n : Int) = n := by
  simp [IntKind.wrap, IntKind.bits, IntKind.signed]
  omega
theorem pow_u64 : (2 : Int) ^ min 1 IntKind.u64.bits = 2 := by rfl
theorem binarySearch (fs : List Fld) (name : Bytes) (hl : fs.length < 4294967296) : run E (.call 260 [.t (.list (fs.map fldT)), xS name, .fn 261 []]) = some (.res [xI (seekI fs name : Nat), xB (thereI fs name)] []) := by
  rw [run_call E 260 _ rfl Tryz.func260 rfl rfl rfl (by simp)]
  have lp := sk (fun s o q hI => loop_wf (c := loopAt Tryz.f260 0) (N := 49)
    (fun k s o q => ∃ i j : Nat, s 0 = .t (.list (fs.map fldT)) ∧ s 1 = .t (.str name) ∧ s 2 = .fn 261 [] ∧ s 8 = .t (.int .i64 fs.length) ∧ s 9 = .t (.int .i64 i) ∧ s 10 = .t (.int .i64 j) ∧ j ≤ fs.length ∧ i ≤ j ∧ k = j - i ∧ ∃ n, k < n ∧ halves (fun k => match fs[k]? with
        | some f => Op.bytesLess f.name name
        | none => false) n i j = seekI fs name)
    (fun e s' o' q' => e = .exit 0 ∧ s' 0 = .t (.list (fs.map fldT)) ∧ s' 1 = .t (.str name) ∧ s' 2 = .fn 261 [] ∧ s' 8 = .t (.int .i64 fs.length) ∧ s' 9 = .t (.int .i64 (seekI fs name : Nat)))
    (by
      rintro k s o q ⟨i, j, h0, h1, h2, h8, h9, h10, hj, hij, hk, n, hn, hh⟩
      cases n with
      | zero => omega
      | succ n =>
        unfold halves at hh
        by_cases hlt : i < j
        · have hlt' : (i : Int) < (j : Int) := by omega
          have hw1 : IntKind.i64.wrap ((i : Int) + (j : Int)) = ((i + j : Nat) : Int) := by rw [wrap_of (by omega) (by omega)]; omega
          have hw2 := wrap_u64 (n := i + j) (by omega)
          obtain ⟨m, hme⟩ : ∃ m, m = (i + j) / 2 := ⟨_, rfl⟩
          have hm : m < fs.length := by omega
          have hw3 := wrap_nat (n := m) (by omega)
          have hw4 := wrap_succ (n := m) (by omega)
          have hfd : ((i : Int) + (j : Int)).fdiv 2 = (m : Int) := by rw [Int.fdiv_eq_ediv_of_nonneg _ (by omega)]; omega
          have hed : ((i : Int) + (j : Int)) / 2 = (m : Int) := by omega
          have hx : fs[m]? = some fs[m] := List.getElem?_eq_getElem hm
          have hc := findClosure fs[m] name
          rw [if_pos hlt, ← hme] at hh
          simp only [hx] at hh
          simp only [Int.natCast_add] at hw1 hw2
          cases hb : Op.bytesLess fs[m].name name with
          | true =>
            have hcl : Lib.compareBytes fs[m].name name < 0 := by rw [compareBytes_lt]; exact hb
            simp [hb] at hh
            simp [loopAt, loopsOf, Tryz.f260, h0, h1, h2, h8, h9, h10, hlt', pow_u64, hw1, hw2, hfd, hed, hw3, hw4, hx, hc, hcl, hm]
            exact ⟨j - (m + 1), by omega, m + 1, by simp, j, rfl, hj, by omega, rfl, n, by omega, hh⟩
          | false =>
            have hcl : ¬ Lib.compareBytes fs[m].name name < 0 := by rw [compareBytes_lt]; simp [hb]
            simp [hb] at hh
            simp [loopAt, loopsOf, Tryz.f260, h0, h1, h2, h8, h9, h10, hlt', pow_u64, hw1, hw2, hfd, hed, hw3, hw4, hx, hc, hcl, hm]
            exact ⟨m - i, by omega, i, rfl, m, rfl, by omega, by omega, rfl, n, by omega, hh⟩
        · have hlt' : ¬ (i : Int) < (j : Int) := by omega
          rw [if_neg hlt] at hh
          simp [loopAt, loopsOf, Tryz.f260, h0, h1, h2, h8, h9, h10, hlt', ← hh])
    fs.length s o q hI)
  simp only [loopAt, loopsOf, Tryz.f260] at lp
  obtain ⟨X, A, B, C, hx⟩ := lp
  have hx' := fun s o q a0 a1 a2 a8 a9 a10 => hx s o q ⟨0, fs.length, a0, a1, a2, a8, a9, a10, Nat.le_refl _, Nat.zero_le _, by omega, fs.length + 1, by omega, rfl⟩
  clear hx
  simp at hx'
  unfold thereI
  by_cases hs : seekI fs name < fs.length
  · have hs' : (seekI fs name : Int) < (fs.length : Int) := by omega
    have hg : fs[seekI fs name]? = some fs[seekI fs name] := List.getElem?_eq_getElem hs
    have hc := findClosure fs[seekI fs name] name
    have heq : (Lib.compareBytes fs[seekI fs name].name name == 0) = (fs[seekI fs name].name == name) := by
      rw [Bool.eq_iff_iff]; simp [compareBytes_eq]
    simp [hx', hs, hs', hg, hc, heq]
  · have hs' : ¬ (seekI fs name : Int) < (fs.length : Int) := by omega
    have hg : fs[seekI fs name]? = none := List.getElem?_eq_none (by omega)
    simp [hx', hs, hs', hg]
theorem findField (fs : List Fld) (name : Bytes) (hl : fs.length < 4294967296) : run E (.call 157 [.t (.list (fs.map fldT)), xS name]) = some (.res [xI (seekI fs name : Nat), xB (thereI fs name)] []) := by
  rw [run_call E 157 _ rfl Tryz.func157 rfl rfl rfl (by simp)]
  simp [binarySearch fs name hl]
def fieldI (v : Val) (name : Bytes) : Option Val := match (fieldsI v.t).1[seekI (fieldsI v.t).1 name]? with
  | some f => if f.name == name then some f.v else none
  | none => none
def optX : Option Val → List X
  | some v => [valX v, xB true]
  | none => [valX ⟨0, 0, []⟩, xB false]
theorem implField (v : Val) (name : Bytes) (hv : v.t.length < 4294967296) : run E (.call 360 [xV v, xS name]) = some (.res (optX (fieldI v name)) []) := by
  rw [run_call E 360 _ rfl Tryz.func360 rfl rfl rfl (by simp)]
  have h1 := implFields v hv
  obtain ⟨hs1, hs2⟩ := fieldsI_small v.t
  have h2 := findField (fieldsI v.t).1 name (by omega)
  unfold fieldI
  generalize (fieldsI v.t).1 = fs at *
  unfold thereI at h2
  cases hg : fs[seekI fs name]? with
  | none => simp [hg] at h2; simp [h1, h2, optX]
  | some f =>
    cases hn : f.name == name with
    | false => simp [hg, hn] at h2; simp [h1, h2, hn, optX]
    | true => simp [hg, hn] at h2; simp [h1, h2, hn, hg, optX]
theorem specField (v : Val) (name : Bytes) (hv : v.t.length < 4294967296) : run E (.call 359 [xV v, xS name]) = some (.res (optX (fieldP v name)) []) := by
  rw [run_call E 359 _ rfl Tryz.func359 rfl rfl rfl (by simp)]
  have h1 := l01Fields v.t hv
  have hfx : ∃ b, fieldsX (fieldsP v.t) = [.row 125 ((fieldsL v.t).map fldT), xB b] ∧ (fieldsL v.t).length ≤ v.t.length := by
    unfold fieldsL
    cases h : fieldsP v.t with
    | none => exact ⟨false, rfl, by simp⟩
    | some fs => exact ⟨true, rfl, by have := (fields_small h).1; simpa using this⟩
  obtain ⟨b, hfx, hl⟩ := hfx
  rw [hfx] at h1
  unfold fieldP
  generalize fieldsL v.t = fs at *
  have lp := fun (r : Option Fld) (hr : fs.find? (fun f => f.name == name) = r) => sk (fun s o q hI => loop_for (c := loopAt Tryz.f359 0) (N := 34)
    (fun i s o q => s 1 = .t (.str name) ∧ s 6 = .row 2 ∧ s 8 = .t (.int .i64 i) ∧ s 4 = .ptr 1 0 ∧ o 1 = .box 35 [.t (.int .i64 0), .t (.int .i64 0), .t (.str [])] ∧ o 2 = .row 125 (fs.map fldT) true ∧ (fs.drop i).find? (fun f => f.name == name) = r)
    (fun e s' o' q' => match (generalizing := false) r with
      | some f => e = .ret ∧ s' 4 = .ptr 1 0 ∧ s' 5 = .t (.bool true) ∧ o' 1 = .box 35 [.t (.int .i64 f.v.k), .t (.int .i64 f.v.n), .t (.str f.v.t)]
      | none => e = .exit 0 ∧ s' 4 = .ptr 1 0 ∧ o' 1 = .box 35 [.t (.int .i64 0), .t (.int .i64 0), .t (.str [])]) fs.length
    (by
      rintro i s o q hi ⟨g1, g6, g8, g4, ho1, ho2, hp⟩
      have hi' : (i : Int) < (fs.length : Int) := by omega
      have hw := wrap_succ (n := i) (by omega)
      have hxi : fs[i]? = some fs[i] := List.getElem?_eq_getElem hi
      rw [List.drop_eq_getElem_cons hi, List.find?_cons] at hp
      cases hn : fs[i].name == name with
      | true =>
        simp only [hn] at hp
        subst hp
        simp [loopAt, loopsOf, Tryz.f359, g1, g6, g8, g4, ho1, ho2, hi', hxi, hw, hn]
      | false =>
        simp only [hn] at hp
        simp [loopAt, loopsOf, Tryz.f359, g1, g6, g8, g4, ho1, ho2, hi', hxi, hw, hn, hp])
    (by
      rintro s o q ⟨g1, g6, g8, g4, ho1, ho2, hp⟩
      simp at hp
      subst hp
      simp [loopAt, loopsOf, Tryz.f359, g1, g6, g8, g4, ho1, ho2])
    fs.length 0 s o q (by omega) hI)
  simp only [loopAt, loopsOf, Tryz.f359] at lp
  cases hr : fs.find? (fun f => f.name == name) with
  | some f =>
    obtain ⟨X, A, B, C, hx⟩ := lp _ hr
    simp [hr, -List.find?_eq_none] at hx
    simp [h1, hx, optX]
  | none =>
    obtain ⟨X, A, B, C, hx⟩ := lp _ hr
    simp [hr, -List.find?_eq_none] at hx
    simp [h1, hx, optX]
end Go.Yd
/- Ids of documents; versions' documents. -/
set_option linter.unusedSimpArgs false
set_option linter.unusedVariables false
namespace Go.Yd
open Go.Ev Go.Proofs Go.Pu
set_option maxRecDepth 100000
set_option maxHeartbeats 16000000
abbrev idB : Bytes := [105, 100]
theorem fieldI_eq {v : Val} {fs : List Fld} (name : Bytes) (hf : fieldsP v.t = some fs) (hr : rising fs = true) : fieldI v name = fieldP v name := by
  have hs : seekI fs name = placeP fs name := by
    unfold seekI
    refine halves_ok (p := placeP fs name) (m := fs.length) ?_ ?_ _ _ _ (Nat.zero_le _) (place_le fs name) (Nat.le_refl _) (by omega)
    · intro k hk
      have hlt : k < fs.length := Nat.lt_of_lt_of_le hk (place_le fs name)
      have hg : fs[k]? = some fs[k] := List.getElem?_eq_getElem hlt
      simp only [hg]
      exact (rising_place name hr k _ hg).2 hk
    · intro k hk hkl
      have hg : fs[k]? = some fs[k] := List.getElem?_eq_getElem hkl
      simp only [hg]
      cases hb : Op.bytesLess fs[k].name name with
      | false => rfl
      | true =>
        have := (rising_place name hr k _ hg).1 hb
        omega
  unfold fieldI
  rw [fieldsI_some hf]
  simp only [hs]
  rw [field_place name hf hr]
  cases fs[placeP fs name]? with
  | none => rfl
  | some f => simp
def okId (x : Val) : Bool := decide (x.k = 2) && (decide (0 ≤ x.n) && decide (x.n ≤ 99))
def idI (v : Val) : Int × Bool := match fieldI v idB with
  | some x => (x.n, okId x)
  | none => (0, false)
def specId (v : Val) : Int := match fieldP v idB with
  | some x => if okId x then x.n else -1
  | none => -1
def isDocP (v : Val) : Bool := valueOK v && decide (v.k = 5)
def nullB (v : Val) : Bool := (v.k == 0) && ((v.n == 0) && (v.t == []))
theorem implIdOf (v : Val) (hv : v.t.length < 4294967296) : run E (.call 295 [xV v]) = some (.res [xI (idI v).1, xB (idI v).2] []) := by
  rw [run_call E 295 _ rfl Tryz.func295 rfl rfl rfl (by simp)]
  have h := implField v idB hv
  have d2 := d295_2
  simp [regionOf, findR, pick, Tryz.f295] at d2
  have dd := fun st => run_region_draw E st 2 _ d2
  clear d2
  unfold idI
  cases hf : fieldI v idB with
  | none => rw [hf] at h; simp only [optX] at h; simp [h, dd]
  | some x =>
    rw [hf] at h
    simp only [optX] at h
    have hr := inRange x.n 0 99
    obtain ⟨z, z1, z2, z3⟩ := zcase x.k 2
    unfold okId
    cases z <;> simp [h, dd, z1, z2, z3, hr]
theorem specIdOf (v : Val) (hv : v.t.length < 4294967296) : run E (.call 294 [xV v]) = some (.res [xI (specId v)] []) := by
  rw [run_call E 294 _ rfl Tryz.func294 rfl rfl rfl (by simp)]
  have h := specField v idB hv
  unfold specId
  cases hf : fieldP v idB with
  | none => rw [hf] at h; simp only [optX] at h; simp [h]
  | some x =>
    rw [hf] at h
    simp only [optX] at h
    have hr := l01In x.n 0 99
    obtain ⟨z, z1, z2, z3⟩ := zcase x.k 2
    unfold okId
    cases z with
    | false => simp [h, z1, z2, z3]
    | true =>
      cases hb : (decide (0 ≤ x.n) && decide (x.n ≤ 99)) with
      | false => rw [hb] at hr; simp at hb; simp [h, z1, z2, z3, hr]; intro a b; have := hb a; omega
      | true => rw [hb] at hr; simp at hb; simp [h, z1, z2, z3, hr]; intro a; have := a hb.1; omega
theorem isDoc (v : Val) (hv : v.t.length < 4294967296) : run E (.call 78 [xV v]) = some (.res [xB (isDocP v)] []) := by
  rw [run_call E 78 _ rfl Tryz.func78 rfl rfl rfl (by simp)]
  have h := implValueOK v hv
  obtain ⟨z, z1, z2, z3⟩ := zcase v.k 5
  unfold isDocP
  cases z <;> simp [h, z1, z2, z3]
theorem l03Doc (v : Val) (hv : v.t.length < 4294967296) : run E (.call 74 [xV v]) = some (.res [xB (isDocP v)] []) := by
  rw [run_call E 74 _ rfl Tryz.func74 rfl rfl rfl (by simp)]
  have h := specValueOK v hv
  unfold isDocP
  cases hb : valueOK v with
  | false => rw [hb] at h; simp [h]
  | true => rw [hb] at h; simp [h, beqd]
def verDoc (id : Int) (gone : Bool) (v : Val) : Bool := if gone then nullB v else isDocP v && (specId v == id)
def verDocI (gone : Bool) (v : Val) (id : Int) : Bool := if gone then nullB v else isDocP v && (idI v).2 && ((idI v).1 == id)
theorem verDocI_eq (gone : Bool) (v : Val) (id : Int) (h0 : 0 ≤ id) : verDocI gone v id = verDoc id gone v := by
  unfold verDocI verDoc
  cases gone with
  | true => rfl
  | false =>
    simp only [Bool.false_eq_true, if_false]
    cases hd : isDocP v with
    | false => rfl
    | true =>
      have hok : okP 5 v = true ∧ v.k = 5 := by simpa [isDocP, valueOK] using hd
      obtain ⟨e, fs, _, _, hf, hr, _⟩ := okP_doc hok.1 hok.2
      simp only [Bool.true_and]
      unfold idI specId
      rw [fieldI_eq idB hf hr]
      cases fieldP v idB with
      | none =>
        have : ((-1 : Int) == id) = false := by simp; omega
        simp [this]
      | some x =>
        cases hx : okId x with
        | false =>
          have : ((-1 : Int) == id) = false := by simp; omega
          simp [hx, this]
        | true => simp [hx]
theorem implDocOK (gone : Bool) (v : Val) (id : Int) (hv : v.t.length < 4294967296) : run E (.call 192 [xB gone, xV v, xI id]) = some (.res [xB (verDocI gone v id)] []) := by
  rw [run_call E 192 _ rfl Tryz.func192 rfl rfl rfl (by simp)]
  have h1 := implIdOf v hv
  have h2 := isDoc v hv
  unfold verDocI nullB
  cases gone with
  | true => simp
  | false =>
    cases hd : isDocP v with
    | false => rw [hd] at h2; simp [h1, h2]
    | true =>
      rw [hd] at h2
      cases hi : (idI v).2 with
      | false => rw [hi] at h1; simp [h1, h2]
      | true => rw [hi] at h1; simp [h1, h2]
theorem specDocOK (id : Int) (gone : Bool) (v : Val) (hv : v.t.length < 4294967296) : run E (.call 189 [xI id, xB gone, xV v]) = some (.res [xB (verDoc id gone v)] []) := by
  rw [run_call E 189 _ rfl Tryz.func189 rfl rfl rfl (by simp)]
  have h1 := specIdOf v hv
  have h2 := l03Doc v hv
  unfold verDoc nullB
  cases gone with
  | true => simp
  | false =>
    cases hd : isDocP v with
    | false => rw [hd] at h2; simp [h1, h2]
    | true => rw [hd] at h2; simp [h1, h2]
end Go.Yd
/- Keys: texts with their ends marked, turned bytes; spec's functions. -/
set_option linter.unusedSimpArgs false
set_option linter.unusedVariables false
namespace Go.Yd
open Go.Ev Go.Proofs Go.Pu
set_option maxRecDepth 100000
set_option maxHeartbeats 16000000
/-- A text's bytes with its zeros marked. -/
def escGo : Bytes → Bytes
  | [] => []
  | b :: r => (if b = 0 then [b, 255] else [b]) ++ escGo r
def escP (t : Bytes) : Bytes := escGo t ++ [0, 0]
def turnB (b : UInt8) : UInt8 := 255 - b
def turnP (t : Bytes) : Bytes := t.map turnB
theorem escGo_len : ∀ (t : Bytes), (escGo t).length ≤ 2 * t.length
  | [] => by simp [escGo]
  | b :: r => by
    have := escGo_len r
    unfold escGo
    split <;> simp <;> omega
theorem turn_wrap (b : UInt8) : IntKind.u8.wrap (255 - (b.toNat : Int)) = ((turnB b).toNat : Int) := by
  have hb : b.toNat < 256 := b.toNat_lt
  have h : (255 - b).toNat = 255 - b.toNat := by
    rw [UInt8.toNat_sub]
    simp
    omega
  unfold turnB
  rw [h]
  simp [IntKind.wrap, IntKind.bits, IntKind.signed]
  omega
theorem toBytes_app (l : Bytes) (m : List T) : toBytes (l.map byteT ++ m) = (toBytes m).map (l ++ ·) := by
  induction l with
  | nil => simp [toBytes]
  | cons b r ih =>
    simp only [List.map_cons, List.cons_append, toBytes, ih]
    cases toBytes m <;> simp
theorem toBytes_map (l : Bytes) : toBytes (l.map byteT) = some l := by
  have := toBytes_app l []
  simpa [toBytes] using this
theorem l04Turn (t : Bytes) (ht : t.length < 4294967296) : run E (.call 256 [xS t]) = some (.res [xS (turnP t)] []) := by
  rw [run_call E 256 _ rfl Tryz.func256 rfl rfl rfl (by simp)]
  have lp := sk1 (fun s o q hI => loop_for (c := loopAt Tryz.f256 0) (N := 21)
    (fun i s o q => ∃ r, s 0 = .t (.str t) ∧ s 3 = .row r ∧ s 4 = .t (.int .i64 i) ∧ o r = .row 5 ((turnP (t.take i)).map byteT) true ∧ r < q)
    (fun e s' o' q' => ∃ r, e = .exit 0 ∧ s' 3 = .row r ∧ o' r = .row 5 ((turnP t).map byteT) true) t.length
    (by
      rintro i s o q hi ⟨r, h0, h3, h4, ho, hrq⟩
      have hi' : (i : Int) < (t.length : Int) := by omega
      have hw := wrap_succ (n := i) (by omega)
      have hrn : r ≠ q := by omega
      have hrn2 : r ≠ q + 1 := by omega
      have hqn : q ≠ r := by omega
      have hl : (turnP (t.take i)).length = i := by simp [turnP]; omega
      have htw := turn_wrap t[i]
      have htk : (turnP (t.take (i + 1))).map byteT = (turnP (t.take i)).map byteT ++ [byteT (turnB t[i])] := by
        have e : t.take (i + 1) = t.take i ++ [t[i]] := by rw [List.take_add_one, List.getElem?_eq_getElem hi]; rfl
        rw [e]; simp only [turnP, List.map_append, List.map_cons, List.map_nil]
      have hpl : i + 1 ≤ 140737488355328 := by omega
      rw [htk]
      generalize turnP (t.take i) = l at *
      simp [loopAt, loopsOf, Tryz.f256, h0, h3, h4, hi, hi', hw, ho, hrn, hrn2, hqn, htw, hl, hpl]
      try omega)
    (by
      rintro s o q ⟨r, h0, h3, h4, ho, hrq⟩
      simp at ho
      simp [loopAt, loopsOf, Tryz.f256, h0, h3, h4, ho])
    t.length 0 s o q (by omega) hI)
  simp only [loopAt, loopsOf, Tryz.f256] at lp
  obtain ⟨X, A, B, C, M, hx⟩ := lp
  have hx' := fun s o q r a0 a3 a4 a5 a6 => hx s o q ⟨r, a0, a3, a4, a5, a6⟩
  clear hx
  simp [turnP] at hx'
  have hb := toBytes_map (turnP t)
  simp [turnP] at hb
  simp [hx', turnP, hb]
theorem l04Escape (t : Bytes) (ht : t.length < 4294967296) : run E (.call 333 [xS t]) = some (.res [xS (escP t)] []) := by
  rw [run_call E 333 _ rfl Tryz.func333 rfl rfl rfl (by simp)]
  have lp := sk1 (fun s o q hI => loop_for (c := loopAt Tryz.f333 0) (N := 29)
    (fun i s o q => ∃ r, s 0 = .t (.str t) ∧ s 3 = .row r ∧ s 4 = .t (.int .i64 i) ∧ o r = .row 5 ((escGo (t.take i)).map byteT) true ∧ r < q)
    (fun e s' o' q' => ∃ r, e = .exit 0 ∧ s' 3 = .row r ∧ o' r = .row 5 ((escGo t).map byteT) true ∧ ¬ r = q' ∧ ¬ r = q' + 1 ∧ ¬ q' = r) t.length
    (by
      rintro i s o q hi ⟨r, h0, h3, h4, ho, hrq⟩
      have hi' : (i : Int) < (t.length : Int) := by omega
      have hw := wrap_succ (n := i) (by omega)
      have hrn : r ≠ q := by omega
      have hrn2 : r ≠ q + 1 := by omega
      have hqn : q ≠ r := by omega
      have hl : (escGo (t.take i)).length ≤ 2 * i := by have := escGo_len (t.take i); simp at this; omega
      have hsnoc : ∀ (a : Bytes) (b : UInt8), escGo (a ++ [b]) = escGo a ++ (if b = 0 then [b, 255] else [b]) := by
        intro a b
        induction a with
        | nil => simp [escGo]
        | cons c a ih => simp [escGo, ih]
      have htk : escGo (t.take (i + 1)) = escGo (t.take i) ++ (if t[i] = 0 then [t[i], 255] else [t[i]]) := by
        have e : t.take (i + 1) = t.take i ++ [t[i]] := by rw [List.take_add_one, List.getElem?_eq_getElem hi]; rfl
        rw [e]; exact hsnoc _ _
      have hpl : (escGo (t.take i)).length + 1 ≤ 140737488355328 := by omega
      have hpl2 : (escGo (t.take i)).length + 1 + 1 ≤ 140737488355328 := by omega
      rw [htk]
      generalize escGo (t.take i) = l at *
      by_cases hz : t[i] = 0
      · simp [hz]
        simp [loopAt, loopsOf, Tryz.f333, h0, h3, h4, hi, hi', hw, ho, hrn, hrn2, hqn, hz, hpl, hpl2]
        try omega
      · have hzn : ¬ ((t[i].toNat : Int) = 0) := by
          intro h; exact hz (UInt8.toNat_inj.1 (by simp; omega))
        simp [hz]
        simp [loopAt, loopsOf, Tryz.f333, h0, h3, h4, hi, hi', hw, ho, hrn, hrn2, hqn, hz, hzn, hpl, hpl2]
        try omega)
    (by
      rintro s o q ⟨r, h0, h3, h4, ho, hrq⟩
      simp at ho
      have hrn : r ≠ q := by omega
      have hrn2 : r ≠ q + 1 := by omega
      have hqn : q ≠ r := by omega
      simp [loopAt, loopsOf, Tryz.f333, h0, h3, h4, ho, hrn, hrn2, hqn])
    t.length 0 s o q (by omega) hI)
  simp only [loopAt, loopsOf, Tryz.f333] at lp
  obtain ⟨X, A, B, C, M, hx⟩ := lp
  have hx' := fun s o q r a0 a3 a4 a5 a6 => hx s o q ⟨r, a0, a3, a4, a5, a6⟩
  clear hx
  simp [escGo] at hx'
  have hl : (escGo t).length + 2 ≤ 140737488355328 := by have := escGo_len t; omega
  have hb := toBytes_app (escGo t) [.int .u8 0, .int .u8 0]
  simp [toBytes] at hb
  have hr2 : List.range 2 = [0, 1] := rfl
  simp [hx', escP, hb, hl, hr2]
end Go.Yd
/- Keys: numbers' bytes (spec's l01Number), spec's l04Raw, l04Key. -/
set_option linter.unusedSimpArgs false
set_option linter.unusedVariables false
namespace Go.Yd
open Go.Ev Go.Proofs Go.Pu
set_option maxRecDepth 100000
set_option maxHeartbeats 16000000
/-- A number's byte at a place. -/
def byteAt (n : Int) (j : Nat) : UInt8 := UInt8.ofNat (IntKind.u8.wrap (n.fdiv (2 ^ (8 * j)))).toNat
theorem byteAt_wrap (n : Int) (j : Nat) : IntKind.u8.wrap (n.fdiv (2 ^ (8 * j))) = ((byteAt n j).toNat : Int) := by
  unfold byteAt
  have h : 0 ≤ IntKind.u8.wrap (n.fdiv (2 ^ (8 * j))) ∧ IntKind.u8.wrap (n.fdiv (2 ^ (8 * j))) < 256 := by
    simp [IntKind.wrap, IntKind.bits, IntKind.signed]
    omega
  generalize IntKind.u8.wrap (n.fdiv (2 ^ (8 * j))) = m at *
  rw [UInt8.toNat_ofNat']
  omega
/-- A number's bytes from the place k - 1 downwards. -/
def numP (n : Int) : Nat → Bytes
  | 0 => []
  | k + 1 => byteAt n k :: numP n k
theorem numP_len (n : Int) : ∀ k, (numP n k).length = k
  | 0 => rfl
  | k + 1 => by simp [numP, numP_len n k]
theorem l01Number (n : Int) (k : Nat) (hk : k ≤ 8) : run E (.call 272 [xI n, xI k]) = some (.res [xS (numP n k)] []) := by
  rw [run_call E 272 _ rfl Tryz.func272 rfl rfl rfl (by simp)]
  have lp := sk1 (fun s o q hI => loop_for (c := loopAt Tryz.f272 0) (N := 25)
    (fun i s o q => ∃ r l, s 0 = .t (.int .i64 n) ∧ s 5 = .row r ∧ s 6 = .t (.int .i64 ((k : Int) - 1 - i)) ∧ o r = .row 5 (l.map byteT) true ∧ r < q ∧ l.length = i ∧ numP n k = l ++ numP n (k - i))
    (fun e s' o' q' => ∃ r, e = .exit 0 ∧ s' 5 = .row r ∧ o' r = .row 5 ((numP n k).map byteT) true) k
    (by
      rintro i s o q hi ⟨r, l, h0, h5, h6, ho, hrq, hl, hp⟩
      have hge : (0 : Int) ≤ (k : Int) - 1 - i := by omega
      obtain ⟨j, hj⟩ : ∃ j : Nat, k = j + 1 + i := ⟨k - 1 - i, by omega⟩
      have hjj : (k : Int) - 1 - i = j := by omega
      have hki : k - i = j + 1 := by omega
      have hki2 : k - (i + 1) = j := by omega
      rw [hki, numP] at hp
      rw [hjj] at h6
      have hw : IntKind.i64.wrap ((j : Int) - 1) = (k : Int) - 1 - ((i + 1 : Nat) : Int) := by rw [wrap_of (by omega) (by omega)]; omega
      have hw8 : IntKind.i64.wrap (8 * (j : Int)) = ((8 * j : Nat) : Int) := by rw [wrap_of (by omega) (by omega)]; omega
      have hwu := wrap_u64 (n := 8 * j) (by omega)
      have hmin : min (8 * j) IntKind.i64.bits = 8 * j := by simp [IntKind.bits]; omega
      have hj0 : (0 : Int) ≤ (j : Int) := by omega
      have hrn : r ≠ q := by omega
      have hrn2 : r ≠ q + 1 := by omega
      have hqn : q ≠ r := by omega
      have hpl : l.length + 1 ≤ 140737488355328 := by omega
      have hb := byteAt_wrap n j
      have hneg : ¬ (8 * (j : Int) < 0) := by omega
      have hnat : (8 * (j : Int)).toNat = 8 * j := by omega
      simp at hw hw8 hwu
      simp [loopAt, loopsOf, Tryz.f272, h0, h5, h6, ho, hrn, hrn2, hqn, hw, hw8, hwu, hmin, hb, hpl, hneg, hnat]
      exact ⟨l ++ [byteAt n j], by simp, by simp [hl], by rw [hp, hki2]; simp⟩)
    (by
      rintro s o q ⟨r, l, h0, h5, h6, ho, hrq, hl, hp⟩
      have h6' : s 6 = .t (.int .i64 (-1)) := by rw [h6]; congr 2; omega
      simp [numP] at hp
      simp [loopAt, loopsOf, Tryz.f272, h0, h5, h6', ho, hp])
    k 0 s o q (by omega) hI)
  simp only [loopAt, loopsOf, Tryz.f272] at lp
  obtain ⟨X, A, B, C, M, hx⟩ := lp
  have hx' := fun s o q r a0 a5 a6 a7 a8 => hx s o q ⟨r, [], a0, a5, a6, a7, a8, rfl, by simp⟩
  clear hx
  simp at hx'
  have hb := toBytes_map (numP n k)
  have hw : IntKind.i64.wrap ((k : Int) - 1) = (k : Int) - 1 := wrap_of (by omega) (by omega)
  simp [hx', hb, hw]
end Go.Yd
/- Keys of values: what they are, how long, spec's l04Raw and l04Key. -/
set_option linter.unusedSimpArgs false
set_option linter.unusedVariables false
namespace Go.Yd
open Go.Ev Go.Proofs Go.Pu
set_option maxRecDepth 100000
set_option maxHeartbeats 16000000
def headK (v : Val) : Bytes := numP (v.k + 1) 1
/-- A value's key. -/
def keyD : Nat → Val → Bytes
  | d, v =>
    if v.k = 0 then headK v
    else if v.k = 1 then headK v ++ numP v.n 1
    else if v.k = 2 then headK v ++ numP (v.n + 4611686018427387904) 8
    else if v.k = 3 then headK v ++ escP v.t
    else match d with
      | 0 => []
      | d + 1 =>
        if v.k = 4 then headK v ++ (itemsL v.t).flatMap (keyD d) ++ [0]
        else headK v ++ (fieldsL v.t).flatMap (fun f => [1] ++ escP f.name ++ keyD d f.v) ++ [0]
theorem escP_len (t : Bytes) : (escP t).length ≤ 2 * t.length + 2 := by
  have := escGo_len t
  simp [escP]; omega
def sumL {α : Type} (f : α → Nat) : List α → Nat
  | [] => 0
  | x :: r => f x + sumL f r
theorem flat_len {α : Type} {f : α → Bytes} {g : α → Nat} : ∀ {l : List α}, (∀ x ∈ l, (f x).length ≤ 11 * g x) → (l.flatMap f).length ≤ 11 * sumL g l
  | [], _ => by simp
  | x :: r, h => by
    have h1 := h x (by simp)
    have h2 := flat_len (f := f) (g := g) (l := r) (fun y hy => h y (by simp [hy]))
    simp [sumL]; simp at h2; omega
theorem items_sum : ∀ {xs : List Val} {t : Bytes}, itemsP t = some xs → sumL (fun x => x.t.length + 1) xs ≤ t.length
  | xs, t, h => by
    rcases items_cases h with ⟨rfl, rfl⟩ | ⟨v, r, ys, h1, h2, rfl⟩
    · simp [sumL]
    · have := nextP_len h1
      have := items_sum h2
      simp [sumL]; omega
  termination_by xs => xs.length
  decreasing_by simp_all
theorem fields_sum : ∀ {xs : List Fld} {t : Bytes}, fieldsP t = some xs → sumL (fun f => f.name.length + f.v.t.length + 2) xs ≤ t.length
  | xs, t, h => by
    rcases fields_cases h with ⟨rfl, rfl⟩ | ⟨b, q, v, r, ys, rfl, h0, h1, h2, rfl⟩
    · simp [sumL]
    · have := nextP_len h1
      have := fields_sum h2
      simp at *
      simp [sumL]; omega
  termination_by xs => xs.length
  decreasing_by simp_all
theorem keyD_len : ∀ (d : Nat) (v : Val), okP d v = true → (keyD d v).length ≤ 11 * (v.t.length + 1) := by
  intro d
  induction d with
  | zero =>
    intro v h
    unfold keyD headK
    have := escP_len v.t
    split
    · simp [numP_len]; omega
    · split
      · simp [numP_len]; omega
      · split
        · simp [numP_len]; omega
        · split
          · simp [numP_len]; omega
          · simp
  | succ d ih =>
    intro v h
    have he := escP_len v.t
    by_cases h0 : v.k = 0
    · simp [keyD, headK, h0, numP_len]; omega
    by_cases h1 : v.k = 1
    · simp [keyD, headK, h1, numP_len]; omega
    by_cases h2 : v.k = 2
    · simp [keyD, headK, h2, numP_len]; omega
    by_cases h3 : v.k = 3
    · simp [keyD, headK, h3, numP_len]; omega
    by_cases h4 : v.k = 4
    · obtain ⟨e, xs, hd, _, hi, hx⟩ := okP_list h h4
      obtain rfl : d = e := by omega
      have hf := flat_len (f := keyD d) (g := fun x => x.t.length + 1) (l := xs) (fun x hm => ih x (hx x hm))
      have hs := items_sum hi
      have e : itemsL v.t = xs := by simp [itemsL, hi]
      simp [keyD, headK, h4, e, numP_len]
      simp at hf
      omega
    · have h5 : v.k = 5 := by
        unfold okP at h
        simp [h0, h1, h2, h3, h4] at h
        exact h.1
      obtain ⟨e, fs, hd, _, hi, _, hx⟩ := okP_doc h h5
      obtain rfl : d = e := by omega
      have hf := flat_len (f := fun f : Fld => [1] ++ escP f.name ++ keyD d f.v) (g := fun f => f.name.length + f.v.t.length + 2) (l := fs) (fun f hm => by
        have h1 := ih f.v (hx f hm).2
        have h2 := escP_len f.name
        simp; omega)
      have hs := fields_sum hi
      have e : fieldsL v.t = fs := by simp [fieldsL, hi]
      simp [keyD, headK, h5, e, numP_len]
      simp at hf
      omega
end Go.Yd
/- Keys of values: spec's l04Raw and l04Key. -/
set_option linter.unusedSimpArgs false
set_option linter.unusedVariables false
namespace Go.Yd
open Go.Ev Go.Proofs Go.Pu
set_option maxRecDepth 100000
set_option maxHeartbeats 16000000
theorem flat_drop {α : Type} (f : α → Bytes) (l : List α) (i : Nat) (hi : i < l.length) : (l.drop i).flatMap f = f l[i] ++ (l.drop (i + 1)).flatMap f := by
  rw [List.drop_eq_getElem_cons hi, List.flatMap_cons]
theorem l04Raw_small (d : Nat) (v : Val) (h : okP d v = true) (hv : v.t.length < 1048576) (hk : v.k = 0 ∨ v.k = 1 ∨ v.k = 2 ∨ v.k = 3) : run E (.call 257 [xV v]) = some (.res [xS (keyD d v)] []) := by
  rw [run_call E 257 _ rfl Tryz.func257 rfl rfl rfl (by simp)]
  unfold keyD headK
  have hw : IntKind.i64.wrap (v.k + 1) = v.k + 1 := wrap_of (by omega) (by omega)
  have hn := l01Number (v.k + 1) 1 (by omega)
  have hm := l01Number v.n 1 (by omega)
  simp at hn hm
  have hl1 := numP_len (v.k + 1) 1
  have hl2 := numP_len v.n 1
  rcases hk with hk | hk | hk | hk
  · have e0 : (v.k = 0) = True := by rw [hk]; simp
    have e1 : (v.k = 1) = False := by rw [hk]; simp
    have e2 : (v.k = 2) = False := by rw [hk]; simp
    have e3 : (v.k = 3) = False := by rw [hk]; simp
    have e4 : (v.k = 4) = False := by rw [hk]; simp
    have e5 : (v.k = 5) = False := by rw [hk]; simp
    clear hk
    simp [e0, e1, e2, e3, e4, e5, hw, hn]
  · have e0 : (v.k = 0) = False := by rw [hk]; simp
    have e1 : (v.k = 1) = True := by rw [hk]; simp
    have e2 : (v.k = 2) = False := by rw [hk]; simp
    have e3 : (v.k = 3) = False := by rw [hk]; simp
    have e4 : (v.k = 4) = False := by rw [hk]; simp
    have e5 : (v.k = 5) = False := by rw [hk]; simp
    clear hk
    simp [e0, e1, e2, e3, e4, e5, hw, hn, hm, hl1, hl2]
  · have hb : -1000000000000 ≤ v.n ∧ v.n ≤ 1000000000000 := by unfold okP at h; simp [hk] at h; exact h.1
    have hw2 : IntKind.i64.wrap (v.n + 4611686018427387904) = v.n + 4611686018427387904 := wrap_of (by omega) (by omega)
    have hm8 := l01Number (v.n + 4611686018427387904) 8 (by omega)
    have hl8 := numP_len (v.n + 4611686018427387904) 8
    simp at hm8
    have e0 : (v.k = 0) = False := by rw [hk]; simp
    have e1 : (v.k = 1) = False := by rw [hk]; simp
    have e2 : (v.k = 2) = True := by rw [hk]; simp
    have e3 : (v.k = 3) = False := by rw [hk]; simp
    have e4 : (v.k = 4) = False := by rw [hk]; simp
    have e5 : (v.k = 5) = False := by rw [hk]; simp
    clear hk
    simp [e0, e1, e2, e3, e4, e5, hw, hw2, hn, hm8, hl1, hl8]
  · have he := l04Escape v.t (by omega)
    have hel := escP_len v.t
    have hle : 1 + (escP v.t).length ≤ 140737488355328 := by omega
    have e0 : (v.k = 0) = False := by rw [hk]; simp
    have e1 : (v.k = 1) = False := by rw [hk]; simp
    have e2 : (v.k = 2) = False := by rw [hk]; simp
    have e3 : (v.k = 3) = True := by rw [hk]; simp
    have e4 : (v.k = 4) = False := by rw [hk]; simp
    have e5 : (v.k = 5) = False := by rw [hk]; simp
    clear hk
    simp [e0, e1, e2, e3, e4, e5, hw, hn, he, hl1, hle]
theorem l04Raw : ∀ (d : Nat) (v : Val), okP d v = true → v.t.length < 1048576 → run E (.call 257 [xV v]) = some (.res [xS (keyD d v)] []) := by
  intro d
  induction d with
  | zero =>
    intro v h hv
    refine l04Raw_small 0 v h hv ?_
    unfold okP at h
    by_cases h0 : v.k = 0; · omega
    by_cases h1 : v.k = 1; · omega
    by_cases h2 : v.k = 2; · omega
    by_cases h3 : v.k = 3; · omega
    simp [h0, h1, h2, h3] at h
  | succ d ih =>
    intro v h hv
    by_cases hs : v.k = 0 ∨ v.k = 1 ∨ v.k = 2 ∨ v.k = 3
    · exact l04Raw_small (d + 1) v h hv hs
    have e0 : (v.k = 0) = False := by simp; omega
    have e1 : (v.k = 1) = False := by simp; omega
    have e2 : (v.k = 2) = False := by simp; omega
    have e3 : (v.k = 3) = False := by simp; omega
    have hlen := keyD_len (d + 1) v h
    have hn := l01Number (v.k + 1) 1 (by omega)
    simp at hn
    have hl1 := numP_len (v.k + 1) 1
    rw [run_call E 257 _ rfl Tryz.func257 rfl rfl rfl (by simp)]
    by_cases hk : v.k = 4
    · obtain ⟨e, xs, hd, _, hit, hx⟩ := okP_list h hk
      obtain rfl : d = e := by omega
      have hw : IntKind.i64.wrap (v.k + 1) = v.k + 1 := wrap_of (by omega) (by omega)
      have hi := l01Items v.t (by omega)
      rw [hit] at hi
      simp only [itemsX] at hi
      obtain ⟨hs1, hs2⟩ := items_small hit
      have e4 : (v.k = 4) = True := eq_true hk
      have eL : itemsL v.t = xs := by simp [itemsL, hit]
      clear hk
      have ekey : keyD (d + 1) v = headK v ++ xs.flatMap (keyD d) ++ [0] := by simp [keyD, e0, e1, e2, e3, e4, eL]
      rw [ekey] at hlen ⊢
      have hhead : headK v = numP (v.k + 1) 1 := rfl
      generalize hW : headK v = W at *
      have lp := fun (R : Bytes) (hR : R = W ++ xs.flatMap (keyD d)) => sk (fun s o q hI => loop_for (c := loopAt Tryz.f257 0) (N := 94)
        (fun i s o q => ∃ acc, s 3 = .t (.str acc) ∧ s 4 = .row 1 ∧ s 6 = .t (.int .i64 i) ∧ o 1 = .row 35 (xs.map valT) true ∧ R = acc ++ (xs.drop i).flatMap (keyD d))
        (fun e s' o' q' => e = .exit 1 ∧ s' 3 = .t (.str R)) xs.length
        (by
          rintro i s o q hi ⟨acc, h3, h4, h6, ho, hp⟩
          have hi' : (i : Int) < (xs.length : Int) := by omega
          have hwi := wrap_succ (n := i) (by omega)
          have hxi : xs[i]? = some xs[i] := List.getElem?_eq_getElem hi
          have hr := ih xs[i] (hx _ (List.getElem_mem hi)) (by have := hs2 _ (List.getElem_mem hi); omega)
          rw [flat_drop _ _ _ hi, ← List.append_assoc] at hp
          have hcat : acc.length + (keyD d xs[i]).length ≤ 140737488355328 := by
            have h1 := congrArg List.length hp
            have h2 := congrArg List.length hR
            simp at h1 h2 hlen
            omega
          simp [loopAt, loopsOf, Tryz.f257, h3, h4, h6, ho, hi, hi', hwi, hr, hcat, hxi]
          rw [hp, List.append_assoc])
        (by
          rintro s o q ⟨acc, h3, h4, h6, ho, hp⟩
          simp at hp
          simp [loopAt, loopsOf, Tryz.f257, h3, h4, h6, ho, hp])
        xs.length 0 s o q (by omega) hI)
      simp only [loopAt, loopsOf, Tryz.f257] at lp
      obtain ⟨X, A, B, C, hl⟩ := lp _ rfl
      have hl' := fun s o q a3 a4 a6 a0 => hl s o q ⟨W, a3, a4, a6, a0, by simp⟩
      clear hl lp
      simp at hl' hlen
      have hcat : W.length + ((xs.flatMap (keyD d)).length + 1) ≤ 140737488355328 := by simp; omega
      simp [e0, e1, e2, e3, e4, hw, hn, ← hhead, hi, hl', hcat]
      try (intro hcon; exfalso; omega)
    · have h5 : v.k = 5 := by
        unfold okP at h
        simp [e0, e1, e2, e3, hk] at h
        exact h.1
      obtain ⟨e, xs, hd, _, hit, _, hx⟩ := okP_doc h h5
      obtain rfl : d = e := by omega
      have hw : IntKind.i64.wrap (v.k + 1) = v.k + 1 := wrap_of (by omega) (by omega)
      have hi := l01Fields v.t (by omega)
      rw [hit] at hi
      simp only [fieldsX] at hi
      obtain ⟨hs1, hs2⟩ := fields_small hit
      have e4 : (v.k = 4) = False := eq_false hk
      have eL : fieldsL v.t = xs := by simp [fieldsL, hit]
      clear hk h5
      have ekey : keyD (d + 1) v = headK v ++ xs.flatMap (fun f => [1] ++ escP f.name ++ keyD d f.v) ++ [0] := by simp [keyD, e0, e1, e2, e3, e4, eL]
      rw [ekey] at hlen ⊢
      have hhead : headK v = numP (v.k + 1) 1 := rfl
      generalize hW : headK v = W at *
      have d22 := d257_22
      simp [regionOf, findR, pick, Tryz.f257] at d22
      have dd := fun st => run_region_draw E st 22 _ d22
      clear d22
      obtain ⟨F, hF⟩ : ∃ F : Fld → Bytes, F = (fun f => [1] ++ escP f.name ++ keyD d f.v) := ⟨_, rfl⟩
      have hFx : ∀ f, [1] ++ (escP f.name ++ keyD d f.v) = F f := by intro f; rw [hF]; simp
      have hFl : ∀ f, (F f).length = 1 + (escP f.name).length + (keyD d f.v).length := by intro f; rw [hF]; simp; omega
      rw [← hF] at hlen ⊢
      clear hF
      have lp := fun (R : Bytes) (hR : R = W ++ xs.flatMap F) => sk (fun s o q hI => loop_for (c := loopAt Tryz.f257 1) (N := 94)
        (fun i s o q => ∃ acc, s 3 = .t (.str acc) ∧ s 7 = .row 1 ∧ s 9 = .t (.int .i64 i) ∧ o 1 = .row 125 (xs.map fldT) true ∧ R = acc ++ (xs.drop i).flatMap F)
        (fun e s' o' q' => e = .exit 3 ∧ s' 3 = .t (.str R)) xs.length
        (by
          rintro i s o q hi ⟨acc, h3, h7, h9, ho, hp⟩
          have hi' : (i : Int) < (xs.length : Int) := by omega
          have hwi := wrap_succ (n := i) (by omega)
          have hxi : xs[i]? = some xs[i] := List.getElem?_eq_getElem hi
          have hsm := hs2 _ (List.getElem_mem hi)
          have hr := ih xs[i].v (hx _ (List.getElem_mem hi)).2 (by omega)
          have hen := l04Escape xs[i].name (by omega)
          rw [flat_drop _ _ _ hi, ← List.append_assoc] at hp
          have hcat : acc.length + (1 + (escP xs[i].name).length + (keyD d xs[i].v).length) ≤ 140737488355328 := by
            have h1 := congrArg List.length hp
            have h2 := congrArg List.length hR
            simp [hFl] at h1 h2 hlen
            omega
          have hcat1 : 1 + (escP xs[i].name).length ≤ 140737488355328 := by omega
          have hcat2 : 1 + (escP xs[i].name).length + (keyD d xs[i].v).length ≤ 140737488355328 := by omega
          have hF1 := hFx xs[i]
          simp at hF1
          simp [loopAt, loopsOf, Tryz.f257, dd, h3, h7, h9, ho, hi, hi', hwi, hr, hen, hcat, hcat1, hcat2, hxi]
          rw [if_pos (by omega), if_pos (by omega), hp, ← hF1]
          simp)
        (by
          rintro s o q ⟨acc, h3, h7, h9, ho, hp⟩
          simp at hp
          simp [loopAt, loopsOf, Tryz.f257, h3, h7, h9, ho, hp])
        xs.length 0 s o q (by omega) hI)
      simp only [loopAt, loopsOf, Tryz.f257] at lp
      obtain ⟨X, A, B, C, hl⟩ := lp _ rfl
      have hl' := fun s o q a3 a4 a6 a0 => hl s o q ⟨W, a3, a4, a6, a0, by simp⟩
      clear hl lp
      simp at hl' hlen
      have hcat : W.length + ((xs.flatMap F).length + 1) ≤ 140737488355328 := by simp; omega
      simp [e0, e1, e2, e3, e4, hw, hn, ← hhead, hi, hl', hcat]
      try (intro hcon; exfalso; omega)
theorem l04Key (d : Nat) (v : Val) (f : Bool) (h : okP d v = true) (hv : v.t.length < 1048576) : run E (.call 152 [xV v, xB f]) = some (.res [xS (if f then turnP (keyD d v) else keyD d v)] []) := by
  rw [run_call E 152 _ rfl Tryz.func152 rfl rfl rfl (by simp)]
  have h1 := l04Raw d v h hv
  have hl := keyD_len d v h
  have h2 := l04Turn (keyD d v) (by omega)
  cases f <;> simp [h1, h2]
end Go.Yd
/- Keys: impl's putText, eight, fallen. -/
set_option linter.unusedSimpArgs false
set_option linter.unusedVariables false
namespace Go.Yd
open Go.Ev Go.Proofs Go.Pu
set_option maxRecDepth 100000
set_option maxHeartbeats 16000000
theorem escGo_snoc (a : Bytes) (b : UInt8) : escGo (a ++ [b]) = escGo a ++ (if b = 0 then [b, 255] else [b]) := by
  induction a with
  | nil => simp [escGo]
  | cons c a ih => simp [escGo, ih]
theorem putText (acc t : Bytes) (ht : t.length < 4294967296) (ha : acc.length ≤ 70368744177664) : run E (.call 330 [.row 5 (acc.map byteT), xS t]) = some (.res [.row 5 ((acc ++ escP t).map byteT)] [none]) := by
  rw [run_call E 330 _ rfl Tryz.func330 rfl rfl rfl (by simp)]
  have lp := sk1 (fun s o q hI => loop_for (c := loopAt Tryz.f330 0) (N := 28)
    (fun i s o q => ∃ r, s 0 = .row r ∧ s 1 = .t (.str t) ∧ s 7 = .t (.int .i64 t.length) ∧ s 8 = .t (.int .i64 i) ∧ o r = .row 5 ((acc ++ escGo (t.take i)).map byteT) true ∧ r < q ∧ (r = 0 ∨ o 0 = .dead))
    (fun e s' o' q' => ∃ r, e = .exit 0 ∧ s' 0 = .row r ∧ o' r = .row 5 ((acc ++ escGo t).map byteT) true ∧ ¬ r = q' ∧ ¬ r = q' + 1 ∧ ¬ q' = r ∧ ¬ q' = 0 ∧ ¬ 0 = q' ∧ (if 0 = r then Ob.dead else o' 0) = .dead) t.length
    (by
      rintro i s o q hi ⟨r, h0, h1, h7, h8, ho, hrq, hdd⟩
      have hq0 : ¬ q = 0 := by omega
      have hq1 : ¬ 0 = q := by omega
      have hi' : (i : Int) < (t.length : Int) := by omega
      have hw := wrap_succ (n := i) (by omega)
      have hrn : r ≠ q := by omega
      have hrn2 : r ≠ q + 1 := by omega
      have hqn : q ≠ r := by omega
      have hl : (escGo (t.take i)).length ≤ 2 * i := by have := escGo_len (t.take i); simp at this; omega
      have htk : escGo (t.take (i + 1)) = escGo (t.take i) ++ (if t[i] = 0 then [t[i], 255] else [t[i]]) := by
        have e : t.take (i + 1) = t.take i ++ [t[i]] := by rw [List.take_add_one, List.getElem?_eq_getElem hi]; rfl
        rw [e]; exact escGo_snoc _ _
      have hlen : (acc ++ escGo (t.take i)).length + 2 ≤ 140737488355328 := by simp; omega
      rw [htk, ← List.append_assoc]
      generalize acc ++ escGo (t.take i) = l at *
      have hpl : l.length + 1 ≤ 140737488355328 := by omega
      have hpl2 : l.length + 1 + 1 ≤ 140737488355328 := by omega
      by_cases hz : t[i] = 0
      · simp [hz]
        rcases hdd with rfl | hdd
        · simp [loopAt, loopsOf, Tryz.f330, h0, h1, h7, h8, hi, hi', hw, ho, hrn, hrn2, hqn, hz, hpl, hpl2, hq0, hq1]
          try omega
        · by_cases hr0 : r = 0
          · subst hr0; rw [hdd] at ho; cases ho
          · have hr1 : ¬ 0 = r := fun h => hr0 h.symm
            simp [loopAt, loopsOf, Tryz.f330, h0, h1, h7, h8, hi, hi', hw, ho, hrn, hrn2, hqn, hz, hpl, hpl2, hq0, hq1, hdd, hr0, hr1]
            try omega
      · have hzn : ¬ ((t[i].toNat : Int) = 0) := by
          intro h; exact hz (UInt8.toNat_inj.1 (by simp; omega))
        simp [hz]
        rcases hdd with rfl | hdd
        · simp [loopAt, loopsOf, Tryz.f330, h0, h1, h7, h8, hi, hi', hw, ho, hrn, hrn2, hqn, hz, hzn, hpl, hpl2, hq0, hq1]
          try omega
        · by_cases hr0 : r = 0
          · subst hr0; rw [hdd] at ho; cases ho
          · have hr1 : ¬ 0 = r := fun h => hr0 h.symm
            simp [loopAt, loopsOf, Tryz.f330, h0, h1, h7, h8, hi, hi', hw, ho, hrn, hrn2, hqn, hz, hzn, hpl, hpl2, hq0, hq1, hdd, hr0, hr1]
            try omega)
    (by
      rintro s o q ⟨r, h0, h1, h7, h8, ho, hrq, hdd⟩
      have hq0 : ¬ q = 0 := by omega
      have hq1 : ¬ 0 = q := by omega
      simp only [List.take_length] at ho
      have hrn : r ≠ q := by omega
      have hrn2 : r ≠ q + 1 := by omega
      have hqn : q ≠ r := by omega
      generalize acc ++ escGo t = l at *
      simp [loopAt, loopsOf, Tryz.f330, h0, h1, h7, h8, ho, hrn, hrn2, hqn, hq0, hq1]
      rcases hdd with rfl | hdd
      · simp
      · simp [hdd])
    t.length 0 s o q (by omega) hI)
  simp only [loopAt, loopsOf, Tryz.f330] at lp
  obtain ⟨X, A, B, C, M, hx⟩ := lp
  have hx' := fun s o q r a0 a1 a7 a8 a9 a6 a5 => hx s o q ⟨r, a0, a1, a7, a8, by simpa [escGo] using a9, a6, a5⟩
  clear hx
  have hlen : (acc ++ escGo t).length + 2 ≤ 140737488355328 := by have := escGo_len t; simp; omega
  have hfin : (acc ++ escP t).map byteT = (acc ++ escGo t).map byteT ++ [.int .u8 0, .int .u8 0] := by simp [escP]
  rw [hfin]
  generalize acc ++ escGo t = l at *
  have hr2 : List.range 2 = [0, 1] := rfl
  simp [-ite_eq_left_iff] at hx'
  simp [hx', hlen, hr2]
end Go.Yd
/- Keys: impl's eight, fallen. -/
set_option linter.unusedSimpArgs false
set_option linter.unusedVariables false
namespace Go.Yd
open Go.Ev Go.Proofs Go.Pu
set_option maxRecDepth 100000
set_option maxHeartbeats 16000000
theorem numP_get (n : Int) : ∀ (k i : Nat), i < k → (numP n k)[i]? = some (byteAt n (k - 1 - i))
  | 0, i, h => by omega
  | k + 1, 0, h => by simp [numP]
  | k + 1, i + 1, h => by
    have := numP_get n k i (by omega)
    simp [numP, this]
    congr 1; omega
theorem eight (n : Int) : run E (.call 329 [xI n]) = some (.res [.row 5 ((numP n 8).map byteT)] []) := by
  rw [run_call E 329 _ rfl Tryz.func329 rfl rfl rfl (by simp)]
  obtain ⟨L, hL⟩ : ∃ L, L = (numP n 8).map byteT := ⟨_, rfl⟩
  have hLl : L.length = 8 := by rw [hL]; simp [numP_len]
  have lp := sk (fun s o q hI => loop_for (c := loopAt Tryz.f329 0) (N := 20)
    (fun i s o q => s 0 = .t (.int .i64 n) ∧ s 3 = .row 0 ∧ s 6 = .t (.int .i64 i) ∧ o 0 = .row 5 (L.take i ++ List.replicate (8 - i) (.int .u8 0)) true)
    (fun e s' o' q' => e = .exit 0 ∧ s' 3 = .row 0 ∧ o' 0 = .row 5 L true) 8
    (by
      rintro i s o q hi ⟨h0, h3, h6, ho⟩
      have hi' : (i : Int) < 8 := by omega
      have hw := wrap_succ (n := i) (by omega)
      obtain ⟨j, hj⟩ : ∃ j : Nat, j = 7 - i := ⟨_, rfl⟩
      have hw8 : IntKind.i64.wrap (8 * (i : Int)) = 8 * (i : Int) := wrap_of (by omega) (by omega)
      have hw56 : IntKind.i64.wrap (56 - 8 * (i : Int)) = 8 * (j : Int) := by rw [wrap_of (by omega) (by omega)]; omega
      have hneg : ¬ (8 * (j : Int) < 0) := by omega
      have hnat : (8 * (j : Int)).toNat = 8 * j := by omega
      have hmin : min (8 * j) IntKind.i64.bits = 8 * j := by simp [IntKind.bits]; omega
      have hb := byteAt_wrap n j
      have hx : L[i]? = some (byteT (byteAt n j)) := by
        rw [hL, List.getElem?_map, numP_get n 8 i hi, hj]; rfl
      have hget := mid_get L (T.int .u8 0) i 8 hi (by omega)
      have hset := mid_set L (T.int .u8 0) (byteT (byteAt n j)) i 8 hi hx
      have hge : (0 : Int) ≤ (i : Int) := by omega
      simp [loopAt, loopsOf, Tryz.f329, h0, h3, h6, hi', hw, ho, hw8, hw56, hneg, hnat, hmin, hb, hget, hset])
    (by
      rintro s o q ⟨h0, h3, h6, ho⟩
      have hfull : L.take 8 = L := List.take_of_length_le (by omega)
      simp [hfull] at ho
      simp [loopAt, loopsOf, Tryz.f329, h0, h3, h6, ho])
    8 0 s o q (by omega) hI)
  simp only [loopAt, loopsOf, Tryz.f329] at lp
  obtain ⟨X, A, B, C, hx⟩ := lp
  simp at hx
  rw [← hL]
  simp [hx]
theorem flats_bytes : ∀ (l : Bytes), T.flats (l.map byteT) = true
  | [] => rfl
  | b :: r => by simp [T.flats, T.flat, flats_bytes r]
theorem fallen (l : Bytes) (f : Bool) (hl : l.length < 4294967296) : run E (.call 253 [.row 5 (l.map byteT), xB f]) = some (.res [xS (if f then turnP l else l)] [some (.row 5 ((if f then turnP l else l).map byteT))]) := by
  rw [run_call E 253 _ rfl Tryz.func253 rfl rfl rfl (by simp)]
  cases f with
  | false =>
    have hb := toBytes_map l
    simp [hb, flats_bytes]
  | true =>
    have lp := sk (fun s o q hI => loop_for (c := loopAt Tryz.f253 0) (N := 23)
      (fun i s o q => s 0 = .row 0 ∧ s 8 = .row 0 ∧ s 9 = .t (.int .i64 l.length) ∧ s 10 = .t (.int .i64 i) ∧ o 0 = .row 5 ((turnP (l.take i) ++ l.drop i).map byteT) true)
      (fun e s' o' q' => e = .exit 0 ∧ s' 0 = .row 0 ∧ o' 0 = .row 5 ((turnP l).map byteT) true) l.length
      (by
        rintro i s o q hi ⟨h0, h8, h9, h10, ho⟩
        have hi' : (i : Int) < (l.length : Int) := by omega
        have hw := wrap_succ (n := i) (by omega)
        have htw := turn_wrap l[i]
        have e : l.take (i + 1) = l.take i ++ [l[i]] := by rw [List.take_add_one, List.getElem?_eq_getElem hi]; rfl
        have hli : (turnP (l.take i)).length = i := by simp [turnP]; omega
        have hget : ((turnP (l.take i) ++ l.drop i).map byteT)[i]? = some (byteT l[i]) := by
          rw [List.getElem?_map, List.getElem?_append_right (by omega), hli]
          simp [List.getElem?_eq_getElem hi]
        have hset : ((turnP (l.take i) ++ l.drop i).map byteT).set i (byteT (turnB l[i])) = (turnP (l.take (i + 1)) ++ l.drop (i + 1)).map byteT := by
          have et : turnP (l.take (i + 1)) = turnP (l.take i) ++ [turnB l[i]] := by rw [e]; simp only [turnP, List.map_append, List.map_cons, List.map_nil]
          rw [et, List.drop_eq_getElem_cons hi, List.map_append, List.set_append_right _ _ (by simp; omega)]
          have hd : (l[i] :: l.drop (i + 1)).map byteT = byteT l[i] :: (l.drop (i + 1)).map byteT := rfl
          have hz : i - ((turnP (l.take i)).map byteT).length = 0 := by simp; omega
          rw [hd, hz, List.set_cons_zero, List.map_append, List.map_append, List.map_cons, List.map_nil, List.append_assoc]
          rfl
        generalize (turnP (l.take i) ++ l.drop i).map byteT = m at *
        generalize (turnP (l.take (i + 1)) ++ l.drop (i + 1)).map byteT = m' at *
        simp [loopAt, loopsOf, Tryz.f253, h0, h8, h9, h10, hi', hw, ho, htw, hget, hset])
      (by
        rintro s o q ⟨h0, h8, h9, h10, ho⟩
        simp only [List.take_length, List.drop_length, List.append_nil] at ho
        simp [loopAt, loopsOf, Tryz.f253, h0, h8, h9, h10, ho])
      l.length 0 s o q (by omega) hI)
    simp only [loopAt, loopsOf, Tryz.f253] at lp
    obtain ⟨X, A, B, C, hx⟩ := lp
    have hb := toBytes_map (turnP l)
    have hf := flats_bytes (turnP l)
    simp only [turnP] at hf
    simp [turnP] at hx hb hf
    simp [hx, hb, turnP, hf]
end Go.Yd
/- Keys of values: impl's putKey and keyOf. -/
set_option linter.unusedSimpArgs false
set_option linter.unusedVariables false
namespace Go.Yd
open Go.Ev Go.Proofs Go.Pu
set_option maxRecDepth 100000
set_option maxHeartbeats 16000000
theorem u8_wrap (n : Int) : IntKind.u8.wrap n = ((byteAt n 0).toNat : Int) := by
  have := byteAt_wrap n 0
  simpa using this
theorem numP_1 (n : Int) : numP n 1 = [byteAt n 0] := rfl
theorem putKey_small_row (d : Nat) (v : Val) (acc : Bytes) (h : okP d v = true) (ha : acc.length + 4096 ≤ 70368744177664) (hv : v.t.length < 1048576) (hk : v.k = 0 ∨ v.k = 1 ∨ v.k = 2 ∨ v.k = 3) : run E (.call 254 [.row 5 (acc.map byteT), xV v]) = some (.res [.row 5 ((acc ++ keyD d v).map byteT)] [none]) := by
  rw [run_call E 254 _ rfl Tryz.func254 rfl rfl rfl (by simp)]
  have hsz := okP_range h
  unfold keyD headK
  have hw : IntKind.i64.wrap (v.k + 1) = v.k + 1 := wrap_of (by omega) (by omega)
  have hu := u8_wrap (v.k + 1)
  have hu2 := u8_wrap v.n
  have hr1 : List.range 1 = [0] := rfl
  have hl1 : acc.length + 1 ≤ 140737488355328 := by omega
  have hl2 : acc.length + 1 + 1 ≤ 140737488355328 := by omega
  have hl8 : acc.length + 1 + 8 ≤ 140737488355328 := by omega
  rcases hk with hk | hk | hk | hk
  · have e0 : (v.k = 0) = True := by rw [hk]; simp
    have e1 : (v.k = 1) = False := by rw [hk]; simp
    have e2 : (v.k = 2) = False := by rw [hk]; simp
    have e3 : (v.k = 3) = False := by rw [hk]; simp
    have e4 : (v.k = 4) = False := by rw [hk]; simp
    have e5 : (v.k = 5) = False := by rw [hk]; simp
    clear hk
    simp [e0, e1, e2, e3, e4, e5, hw, hu, hr1, hl1, numP_1]
  · have e0 : (v.k = 0) = False := by rw [hk]; simp
    have e1 : (v.k = 1) = True := by rw [hk]; simp
    have e2 : (v.k = 2) = False := by rw [hk]; simp
    have e3 : (v.k = 3) = False := by rw [hk]; simp
    have e4 : (v.k = 4) = False := by rw [hk]; simp
    have e5 : (v.k = 5) = False := by rw [hk]; simp
    clear hk
    simp [e0, e1, e2, e3, e4, e5, hw, hu, hu2, hr1, hl1, hl2, numP_1]
  · have hw2 : IntKind.i64.wrap (v.n + 4611686018427387904) = v.n + 4611686018427387904 := wrap_of (by omega) (by omega)
    have he := eight (v.n + 4611686018427387904)
    have hlen := numP_len (v.n + 4611686018427387904) 8
    have e0 : (v.k = 0) = False := by rw [hk]; simp
    have e1 : (v.k = 1) = False := by rw [hk]; simp
    have e2 : (v.k = 2) = True := by rw [hk]; simp
    have e3 : (v.k = 3) = False := by rw [hk]; simp
    have e4 : (v.k = 4) = False := by rw [hk]; simp
    have e5 : (v.k = 5) = False := by rw [hk]; simp
    clear hk
    generalize numP (v.n + 4611686018427387904) 8 = w at *
    simp [e0, e1, e2, e3, e4, e5, hw, hw2, hu, he, hlen, hr1, hl1, hl8, numP_1]
  · have he := putText (acc ++ [byteAt (v.k + 1) 0]) v.t (by omega) (by simp <;> omega)
    simp at he
    have e0 : (v.k = 0) = False := by rw [hk]; simp
    have e1 : (v.k = 1) = False := by rw [hk]; simp
    have e2 : (v.k = 2) = False := by rw [hk]; simp
    have e3 : (v.k = 3) = True := by rw [hk]; simp
    have e4 : (v.k = 4) = False := by rw [hk]; simp
    have e5 : (v.k = 5) = False := by rw [hk]; simp
    clear hk
    simp [e0, e1, e2, e3, e4, e5, hw, hu, he, hr1, hl1, numP_1]
theorem putKey_small_nil (d : Nat) (v : Val)  (h : okP d v = true) (ha : ([] : Bytes).length + 4096 ≤ 70368744177664) (hv : v.t.length < 1048576) (hk : v.k = 0 ∨ v.k = 1 ∨ v.k = 2 ∨ v.k = 3) : run E (.call 254 [.nil, xV v]) = some (.res [.row 5 ((([] : Bytes) ++ keyD d v).map byteT)] [some .nil]) := by
  rw [run_call E 254 _ rfl Tryz.func254 rfl rfl rfl (by simp)]
  have hsz := okP_range h
  unfold keyD headK
  have hw : IntKind.i64.wrap (v.k + 1) = v.k + 1 := wrap_of (by omega) (by omega)
  have hu := u8_wrap (v.k + 1)
  have hu2 := u8_wrap v.n
  have hr1 : List.range 1 = [0] := rfl
  have hl1 : ([] : Bytes).length + 1 ≤ 140737488355328 := by omega
  have hl2 : ([] : Bytes).length + 1 + 1 ≤ 140737488355328 := by omega
  have hl8 : ([] : Bytes).length + 1 + 8 ≤ 140737488355328 := by omega
  rcases hk with hk | hk | hk | hk
  · have e0 : (v.k = 0) = True := by rw [hk]; simp
    have e1 : (v.k = 1) = False := by rw [hk]; simp
    have e2 : (v.k = 2) = False := by rw [hk]; simp
    have e3 : (v.k = 3) = False := by rw [hk]; simp
    have e4 : (v.k = 4) = False := by rw [hk]; simp
    have e5 : (v.k = 5) = False := by rw [hk]; simp
    clear hk
    simp [e0, e1, e2, e3, e4, e5, hw, hu, hr1, hl1, numP_1]
  · have e0 : (v.k = 0) = False := by rw [hk]; simp
    have e1 : (v.k = 1) = True := by rw [hk]; simp
    have e2 : (v.k = 2) = False := by rw [hk]; simp
    have e3 : (v.k = 3) = False := by rw [hk]; simp
    have e4 : (v.k = 4) = False := by rw [hk]; simp
    have e5 : (v.k = 5) = False := by rw [hk]; simp
    clear hk
    simp [e0, e1, e2, e3, e4, e5, hw, hu, hu2, hr1, hl1, hl2, numP_1]
  · have hw2 : IntKind.i64.wrap (v.n + 4611686018427387904) = v.n + 4611686018427387904 := wrap_of (by omega) (by omega)
    have he := eight (v.n + 4611686018427387904)
    have hlen := numP_len (v.n + 4611686018427387904) 8
    have e0 : (v.k = 0) = False := by rw [hk]; simp
    have e1 : (v.k = 1) = False := by rw [hk]; simp
    have e2 : (v.k = 2) = True := by rw [hk]; simp
    have e3 : (v.k = 3) = False := by rw [hk]; simp
    have e4 : (v.k = 4) = False := by rw [hk]; simp
    have e5 : (v.k = 5) = False := by rw [hk]; simp
    clear hk
    generalize numP (v.n + 4611686018427387904) 8 = w at *
    simp [e0, e1, e2, e3, e4, e5, hw, hw2, hu, he, hlen, hr1, hl1, hl8, numP_1]
  · have he := putText (([] : Bytes) ++ [byteAt (v.k + 1) 0]) v.t (by omega) (by simp <;> omega)
    simp at he
    have e0 : (v.k = 0) = False := by rw [hk]; simp
    have e1 : (v.k = 1) = False := by rw [hk]; simp
    have e2 : (v.k = 2) = False := by rw [hk]; simp
    have e3 : (v.k = 3) = True := by rw [hk]; simp
    have e4 : (v.k = 4) = False := by rw [hk]; simp
    have e5 : (v.k = 5) = False := by rw [hk]; simp
    clear hk
    simp [e0, e1, e2, e3, e4, e5, hw, hu, he, hr1, hl1, numP_1]
end Go.Yd
/- Keys of values: impl's putKey and keyOf. -/
set_option linter.unusedSimpArgs false
set_option linter.unusedVariables false
namespace Go.Yd
open Go.Ev Go.Proofs Go.Pu
set_option maxRecDepth 100000
set_option maxHeartbeats 16000000
theorem putKey_items_row (d : Nat) (ih : ∀ (v : Val) (acc : Bytes), okP d v = true → acc.length + (keyD d v).length + 4096 ≤ 70368744177664 → v.t.length < 1048576 → run E (.call 254 [.row 5 (acc.map byteT), xV v]) = some (.res [.row 5 ((acc ++ keyD d v).map byteT)] [none]))
    (v : Val) (acc : Bytes) (h : okP (d + 1) v = true) (ha : acc.length + (keyD (d + 1) v).length + 4096 ≤ 70368744177664) (hv : v.t.length < 1048576) (hk : v.k = 4) : run E (.call 254 [.row 5 (acc.map byteT), xV v]) = some (.res [.row 5 ((acc ++ keyD (d + 1) v).map byteT)] [none]) := by
  rw [run_call E 254 _ rfl Tryz.func254 rfl rfl rfl (by simp)]
  obtain ⟨e, xs, hd, _, hit, hx⟩ := okP_list h hk
  obtain rfl : d = e := by omega
  have hi := implItems v (by omega)
  rw [itemsI_some hit] at hi
  simp at hi
  obtain ⟨hs1, hs2⟩ := items_small hit
  have hw : IntKind.i64.wrap (v.k + 1) = v.k + 1 := wrap_of (by omega) (by omega)
  have hu := u8_wrap (v.k + 1)
  have hr1 : List.range 1 = [0] := rfl
  have e0 : (v.k = 0) = False := by rw [hk]; simp
  have e1 : (v.k = 1) = False := by rw [hk]; simp
  have e2 : (v.k = 2) = False := by rw [hk]; simp
  have e3 : (v.k = 3) = False := by rw [hk]; simp
  have e4 : (v.k = 4) = True := by rw [hk]; simp
  have eL : itemsL v.t = xs := by simp [itemsL, hit]
  have ekey : keyD (d + 1) v = byteAt (v.k + 1) 0 :: (xs.flatMap (keyD d) ++ [0]) := by simp [keyD, e0, e1, e2, e3, e4, eL, headK, numP_1]
  rw [ekey] at ha ⊢
  clear hk
  have lp := fun (ri : Nat) (hri0 : 0 < ri) (R : Bytes) (hR : R = acc ++ [byteAt (v.k + 1) 0] ++ xs.flatMap (keyD d)) => sk1 (fun s o q hI => loop_for (c := loopAt Tryz.f254 0) (N := 91)
    (fun i s o q => ∃ r acc', s 0 = .row r ∧ o r = .row 5 (acc'.map byteT) true ∧ r < q ∧ s 51 = .row ri ∧ o ri = .row 35 (xs.map valT) true ∧ ri < q ∧ ri ≠ r ∧ 0 < r ∧ s 52 = .t (.int .i64 xs.length) ∧ s 53 = .t (.int .i64 i) ∧ o 0 = .dead ∧ R = acc' ++ (xs.drop i).flatMap (keyD d))
    (fun e s' o' q' => ∃ r, e = .exit 1 ∧ s' 0 = .row r ∧ o' r = .row 5 (R.map byteT) true ∧ ¬ r = q' ∧ ¬ q' = r ∧ ¬ r = q' + 1 ∧ ¬ q' = 0 ∧ ¬ 0 = q' ∧ ¬ r = 0 ∧ ¬ 0 = r ∧ o' 0 = .dead) xs.length
    (by
      rintro i s o q hi ⟨r, acc', h0, hor, hrq, h51, hori, hriq, hne, hr0, h52, h53, hdd, hp⟩
      have hi' : (i : Int) < (xs.length : Int) := by omega
      have hwi := wrap_succ (n := i) (by omega)
      have hxi : xs[i]? = some xs[i] := List.getElem?_eq_getElem hi
      rw [flat_drop _ _ _ hi, ← List.append_assoc] at hp
      have hlen : acc'.length + (keyD d xs[i]).length + 4096 ≤ 70368744177664 := by
        have h1 := congrArg List.length hp
        have h2 := congrArg List.length hR
        simp at h1 h2 ha
        omega
      have hr := ih xs[i] acc' (hx _ (List.getElem_mem hi)) hlen (by have := hs2 _ (List.getElem_mem hi); omega)
      have g1 : ¬ r = q := by omega
      have g2 : ¬ q = r := by omega
      have g3 : ¬ ri = q := by omega
      have g4 : ¬ q = ri := by omega
      have g5 : ¬ r = q + 1 := by omega
      have g6 : ¬ ri = q + 1 := by omega
      have g7 : ¬ q = 0 := by omega
      have g8 : ¬ 0 = q := by omega
      have g9 : ¬ r = ri := fun h => hne h.symm
      have g10 : ¬ 0 = r := by omega
      have g11 : ¬ r = 0 := by omega
      have g12 : ¬ ri = 0 := by omega
      have g13 : ¬ q + 1 = ri := by omega
      simp [loopAt, loopsOf, Tryz.f254, h0, hor, h51, hori, h52, h53, hi, hi', hwi, hxi, hr, g1, g2, g3, g4, g5, g6, g7, g8, g9, g10, g11, g12, g13, hne, hdd]
      exact ⟨acc' ++ keyD d xs[i], by simp, by omega, hp⟩)
    (by
      rintro s o q ⟨r, acc', h0, hor, hrq, h51, hori, hriq, hne, hr0, h52, h53, hdd, hp⟩
      simp at hp
      subst hp
      have g1 : ¬ r = q := by omega
      have g2 : ¬ q = r := by omega
      have g5 : ¬ r = q + 1 := by omega
      have g7 : ¬ q = 0 := by omega
      have g8 : ¬ 0 = q := by omega
      have g10 : ¬ 0 = r := by omega
      have g11 : ¬ r = 0 := by omega
      simp [loopAt, loopsOf, Tryz.f254, h0, hor, h51, hori, h52, h53, g1, g2, g5, g7, g8, g10, g11, hdd])
    xs.length 0 s o q (by omega) hI)
  simp only [loopAt, loopsOf, Tryz.f254] at lp
  obtain ⟨R, hR⟩ : ∃ R, R = acc ++ [byteAt (v.k + 1) 0] ++ xs.flatMap (keyD d) := ⟨_, rfl⟩
  obtain ⟨X, A, B, C, M, hl⟩ := lp 4 (by omega) R hR
  have hl' := fun s o q r a0 a1 a2 a3 a4 a5 a6 a7 a8 a9 a10 => hl s o q ⟨r, acc ++ [byteAt (v.k + 1) 0], a0, a1, a2, a3, a4, a5, a6, a7, a8, a9, a10, by simpa using hR⟩
  clear hl lp
  have hlR : R.length + 1 ≤ 140737488355328 := by
    have h2 := congrArg List.length hR
    simp at h2 ha
    omega
  have hl1 : acc.length + 1 ≤ 140737488355328 := by simp at ha ⊢ <;> omega
  have hfin : acc ++ byteAt (v.k + 1) 0 :: (xs.flatMap (keyD d) ++ [0]) = R ++ [0] := by rw [hR]; simp
  rw [hfin]
  clear hfin hR ekey
  simp at hl'
  simp [e0, e1, e2, e3, e4, hw, hu, hi, hl', hlR, hr1, hl1]
theorem putKey_items_nil (d : Nat) (ih : ∀ (v : Val) (acc : Bytes), okP d v = true → acc.length + (keyD d v).length + 4096 ≤ 70368744177664 → v.t.length < 1048576 → run E (.call 254 [.row 5 (acc.map byteT), xV v]) = some (.res [.row 5 ((acc ++ keyD d v).map byteT)] [none]))
    (v : Val)  (h : okP (d + 1) v = true) (ha : ([] : Bytes).length + (keyD (d + 1) v).length + 4096 ≤ 70368744177664) (hv : v.t.length < 1048576) (hk : v.k = 4) : run E (.call 254 [.nil, xV v]) = some (.res [.row 5 ((([] : Bytes) ++ keyD (d + 1) v).map byteT)] [some .nil]) := by
  rw [run_call E 254 _ rfl Tryz.func254 rfl rfl rfl (by simp)]
  obtain ⟨e, xs, hd, _, hit, hx⟩ := okP_list h hk
  obtain rfl : d = e := by omega
  have hi := implItems v (by omega)
  rw [itemsI_some hit] at hi
  simp at hi
  obtain ⟨hs1, hs2⟩ := items_small hit
  have hw : IntKind.i64.wrap (v.k + 1) = v.k + 1 := wrap_of (by omega) (by omega)
  have hu := u8_wrap (v.k + 1)
  have hr1 : List.range 1 = [0] := rfl
  have e0 : (v.k = 0) = False := by rw [hk]; simp
  have e1 : (v.k = 1) = False := by rw [hk]; simp
  have e2 : (v.k = 2) = False := by rw [hk]; simp
  have e3 : (v.k = 3) = False := by rw [hk]; simp
  have e4 : (v.k = 4) = True := by rw [hk]; simp
  have eL : itemsL v.t = xs := by simp [itemsL, hit]
  have ekey : keyD (d + 1) v = byteAt (v.k + 1) 0 :: (xs.flatMap (keyD d) ++ [0]) := by simp [keyD, e0, e1, e2, e3, e4, eL, headK, numP_1]
  rw [ekey] at ha ⊢
  clear hk
  have lp := fun (ri : Nat) (hri0 : 0 < ri) (R : Bytes) (hR : R = ([] : Bytes) ++ [byteAt (v.k + 1) 0] ++ xs.flatMap (keyD d)) => sk1 (fun s o q hI => loop_for (c := loopAt Tryz.f254 0) (N := 91)
    (fun i s o q => ∃ r acc', s 0 = .row r ∧ o r = .row 5 (acc'.map byteT) true ∧ r < q ∧ s 51 = .row ri ∧ o ri = .row 35 (xs.map valT) true ∧ ri < q ∧ ri ≠ r ∧ 0 < r ∧ s 52 = .t (.int .i64 xs.length) ∧ s 53 = .t (.int .i64 i) ∧ True ∧ R = acc' ++ (xs.drop i).flatMap (keyD d))
    (fun e s' o' q' => ∃ r, e = .exit 1 ∧ s' 0 = .row r ∧ o' r = .row 5 (R.map byteT) true ∧ ¬ r = q' ∧ ¬ q' = r ∧ ¬ r = q' + 1 ∧ ¬ q' = 0 ∧ ¬ 0 = q' ∧ ¬ r = 0 ∧ ¬ 0 = r ∧ True) xs.length
    (by
      rintro i s o q hi ⟨r, acc', h0, hor, hrq, h51, hori, hriq, hne, hr0, h52, h53, hdd, hp⟩
      have hi' : (i : Int) < (xs.length : Int) := by omega
      have hwi := wrap_succ (n := i) (by omega)
      have hxi : xs[i]? = some xs[i] := List.getElem?_eq_getElem hi
      rw [flat_drop _ _ _ hi, ← List.append_assoc] at hp
      have hlen : acc'.length + (keyD d xs[i]).length + 4096 ≤ 70368744177664 := by
        have h1 := congrArg List.length hp
        have h2 := congrArg List.length hR
        simp at h1 h2 ha
        omega
      have hr := ih xs[i] acc' (hx _ (List.getElem_mem hi)) hlen (by have := hs2 _ (List.getElem_mem hi); omega)
      have g1 : ¬ r = q := by omega
      have g2 : ¬ q = r := by omega
      have g3 : ¬ ri = q := by omega
      have g4 : ¬ q = ri := by omega
      have g5 : ¬ r = q + 1 := by omega
      have g6 : ¬ ri = q + 1 := by omega
      have g7 : ¬ q = 0 := by omega
      have g8 : ¬ 0 = q := by omega
      have g9 : ¬ r = ri := fun h => hne h.symm
      have g10 : ¬ 0 = r := by omega
      have g11 : ¬ r = 0 := by omega
      have g12 : ¬ ri = 0 := by omega
      have g13 : ¬ q + 1 = ri := by omega
      simp [loopAt, loopsOf, Tryz.f254, h0, hor, h51, hori, h52, h53, hi, hi', hwi, hxi, hr, g1, g2, g3, g4, g5, g6, g7, g8, g9, g10, g11, g12, g13, hne, hdd]
      exact ⟨acc' ++ keyD d xs[i], by simp, by omega, hp⟩)
    (by
      rintro s o q ⟨r, acc', h0, hor, hrq, h51, hori, hriq, hne, hr0, h52, h53, hdd, hp⟩
      simp at hp
      subst hp
      have g1 : ¬ r = q := by omega
      have g2 : ¬ q = r := by omega
      have g5 : ¬ r = q + 1 := by omega
      have g7 : ¬ q = 0 := by omega
      have g8 : ¬ 0 = q := by omega
      have g10 : ¬ 0 = r := by omega
      have g11 : ¬ r = 0 := by omega
      simp [loopAt, loopsOf, Tryz.f254, h0, hor, h51, hori, h52, h53, g1, g2, g5, g7, g8, g10, g11, hdd])
    xs.length 0 s o q (by omega) hI)
  simp only [loopAt, loopsOf, Tryz.f254] at lp
  obtain ⟨R, hR⟩ : ∃ R, R = ([] : Bytes) ++ [byteAt (v.k + 1) 0] ++ xs.flatMap (keyD d) := ⟨_, rfl⟩
  obtain ⟨X, A, B, C, M, hl⟩ := lp 3 (by omega) R hR
  have hl' := fun s o q r a0 a1 a2 a3 a4 a5 a6 a7 a8 a9 a10 => hl s o q ⟨r, ([] : Bytes) ++ [byteAt (v.k + 1) 0], a0, a1, a2, a3, a4, a5, a6, a7, a8, a9, a10, by simpa using hR⟩
  clear hl lp
  have hlR : R.length + 1 ≤ 140737488355328 := by
    have h2 := congrArg List.length hR
    simp at h2 ha
    omega
  have hl1 : ([] : Bytes).length + 1 ≤ 140737488355328 := by simp at ha ⊢ <;> omega
  have hfin : ([] : Bytes) ++ byteAt (v.k + 1) 0 :: (xs.flatMap (keyD d) ++ [0]) = R ++ [0] := by rw [hR]; simp
  rw [hfin]
  clear hfin hR ekey
  simp at hl'
  simp [e0, e1, e2, e3, e4, hw, hu, hi, hl', hlR, hr1, hl1]
end Go.Yd
/- Keys of values: impl's putKey and keyOf. -/
set_option linter.unusedSimpArgs false
set_option linter.unusedVariables false
namespace Go.Yd
open Go.Ev Go.Proofs Go.Pu
set_option maxRecDepth 100000
set_option maxHeartbeats 16000000
theorem putKey_fields_row (d : Nat) (ih : ∀ (v : Val) (acc : Bytes), okP d v = true → acc.length + (keyD d v).length + 4096 ≤ 70368744177664 → v.t.length < 1048576 → run E (.call 254 [.row 5 (acc.map byteT), xV v]) = some (.res [.row 5 ((acc ++ keyD d v).map byteT)] [none]))
    (v : Val) (acc : Bytes) (h : okP (d + 1) v = true) (ha : acc.length + (keyD (d + 1) v).length + 4096 ≤ 70368744177664) (hv : v.t.length < 1048576) (hk : v.k = 5) : run E (.call 254 [.row 5 (acc.map byteT), xV v]) = some (.res [.row 5 ((acc ++ keyD (d + 1) v).map byteT)] [none]) := by
  rw [run_call E 254 _ rfl Tryz.func254 rfl rfl rfl (by simp)]
  obtain ⟨e, xs, hd, _, hit, _, hx⟩ := okP_doc h hk
  obtain rfl : d = e := by omega
  have hi := implFields v (by omega)
  rw [fieldsI_some hit] at hi
  simp at hi
  obtain ⟨hs1, hs2⟩ := fields_small hit
  have hw : IntKind.i64.wrap (v.k + 1) = v.k + 1 := wrap_of (by omega) (by omega)
  have hu := u8_wrap (v.k + 1)
  have hr1 : List.range 1 = [0] := rfl
  have e0 : (v.k = 0) = False := by rw [hk]; simp
  have e1 : (v.k = 1) = False := by rw [hk]; simp
  have e2 : (v.k = 2) = False := by rw [hk]; simp
  have e3 : (v.k = 3) = False := by rw [hk]; simp
  have e4 : (v.k = 4) = False := by rw [hk]; simp
  have e5 : (v.k = 5) = True := by rw [hk]; simp
  have eL : fieldsL v.t = xs := by simp [fieldsL, hit]
  obtain ⟨F, hF⟩ : ∃ F : Fld → Bytes, F = (fun f => [1] ++ escP f.name ++ keyD d f.v) := ⟨_, rfl⟩
  have hFx : ∀ f, F f = 1 :: (escP f.name ++ keyD d f.v) := by intro f; rw [hF]; simp
  have hFl : ∀ f, (F f).length = 1 + (escP f.name).length + (keyD d f.v).length := by intro f; rw [hF]; simp; omega
  have ekey : keyD (d + 1) v = byteAt (v.k + 1) 0 :: (xs.flatMap F ++ [0]) := by rw [hF]; simp [keyD, e0, e1, e2, e3, e4, eL, headK, numP_1]
  clear hF
  have n22 := n254_22
  have s22 := s254_22
  simp [regionOf, findR, pick, Tryz.f254] at n22 s22
  have dd := fun st => run_region_drawS E st 22 _ n22 s22
  clear n22 s22
  rw [ekey] at ha ⊢
  clear hk
  have lp := fun (ri : Nat) (hri0 : 0 < ri) (R : Bytes) (hR : R = acc ++ [byteAt (v.k + 1) 0] ++ xs.flatMap F) => sk1 (fun s o q hI => loop_for (c := loopAt Tryz.f254 1) (N := 91)
    (fun i s o q => ∃ r acc', s 0 = .row r ∧ o r = .row 5 (acc'.map byteT) true ∧ r < q ∧ s 71 = .row ri ∧ o ri = .row 125 (xs.map fldT) true ∧ ri < q ∧ ri ≠ r ∧ 0 < r ∧ s 72 = .t (.int .i64 xs.length) ∧ s 73 = .t (.int .i64 i) ∧ o 0 = .dead ∧ R = acc' ++ (xs.drop i).flatMap F)
    (fun e s' o' q' => ∃ r, e = .exit 3 ∧ s' 0 = .row r ∧ o' r = .row 5 (R.map byteT) true ∧ ¬ r = q' ∧ ¬ q' = r ∧ ¬ r = q' + 1 ∧ ¬ q' = 0 ∧ ¬ 0 = q' ∧ ¬ r = 0 ∧ ¬ 0 = r ∧ o' 0 = .dead) xs.length
    (by
      rintro i s o q hi ⟨r, acc', h0, hor, hrq, h51, hori, hriq, hne, hr0, h52, h53, hdd, hp⟩
      have hi' : (i : Int) < (xs.length : Int) := by omega
      have hwi := wrap_succ (n := i) (by omega)
      have hxi : xs[i]? = some xs[i] := List.getElem?_eq_getElem hi
      rw [flat_drop _ _ _ hi, ← List.append_assoc] at hp
      have hlen : acc'.length + (F xs[i]).length + 4096 ≤ 70368744177664 := by
        have h1 := congrArg List.length hp
        have h2 := congrArg List.length hR
        simp at h1 h2 ha
        omega
      have hsm := hs2 _ (List.getElem_mem hi)
      have hFi := hFx xs[i]
      have hFk := hFl xs[i]
      have hpt := putText (acc' ++ [1]) xs[i].name (by omega) (by simp; omega)
      have hr := ih xs[i].v (acc' ++ [1] ++ escP xs[i].name) (hx _ (List.getElem_mem hi)).2 (by simp; omega) (by omega)
      have hb1 : acc'.length + 1 ≤ 140737488355328 := by omega
      have hb1' : byteT 1 = T.int IntKind.u8 1 := rfl
      simp [hb1'] at hpt hr
      rw [hFi] at hp
      have g1 : ¬ r = q := by omega
      have g2 : ¬ q = r := by omega
      have g3 : ¬ ri = q := by omega
      have g4 : ¬ q = ri := by omega
      have g5 : ¬ r = q + 1 := by omega
      have g6 : ¬ ri = q + 1 := by omega
      have g7 : ¬ q = 0 := by omega
      have g8 : ¬ 0 = q := by omega
      have g9 : ¬ r = ri := fun h => hne h.symm
      have g10 : ¬ 0 = r := by omega
      have g11 : ¬ r = 0 := by omega
      have g12 : ¬ ri = 0 := by omega
      have g13 : ¬ q + 1 = ri := by omega
      have g14 : ¬ q + 1 + 1 = ri := by omega
      have g15 : ¬ q + 1 + 1 + 1 = ri := by omega
      have g16 : ¬ ri = q + 1 + 1 := by omega
      have g17 : ¬ ri = q + 1 + 1 + 1 := by omega
      have g18 : ¬ q = q + 1 + 1 := by omega
      simp [loopAt, loopsOf, Tryz.f254, h0, hor, h51, hori, h52, h53, hi, hi', hwi, hxi, hr, hpt, hb1, hr1, dd, g1, g2, g3, g4, g5, g6, g7, g8, g9, g10, g11, g12, g13, g14, g15, g16, g17, g18, hne, hdd]
      exact ⟨acc' ++ 1 :: (escP xs[i].name ++ keyD d xs[i].v), by simp [hb1'], by omega, hp⟩)
    (by
      rintro s o q ⟨r, acc', h0, hor, hrq, h51, hori, hriq, hne, hr0, h52, h53, hdd, hp⟩
      simp at hp
      subst hp
      have g1 : ¬ r = q := by omega
      have g2 : ¬ q = r := by omega
      have g5 : ¬ r = q + 1 := by omega
      have g7 : ¬ q = 0 := by omega
      have g8 : ¬ 0 = q := by omega
      have g10 : ¬ 0 = r := by omega
      have g11 : ¬ r = 0 := by omega
      simp [loopAt, loopsOf, Tryz.f254, h0, hor, h51, hori, h52, h53, g1, g2, g5, g7, g8, g10, g11, hdd])
    xs.length 0 s o q (by omega) hI)
  simp only [loopAt, loopsOf, Tryz.f254] at lp
  obtain ⟨R, hR⟩ : ∃ R, R = acc ++ [byteAt (v.k + 1) 0] ++ xs.flatMap F := ⟨_, rfl⟩
  obtain ⟨X, A, B, C, M, hl⟩ := lp 4 (by omega) R hR
  have hl' := fun s o q r a0 a1 a2 a3 a4 a5 a6 a7 a8 a9 a10 => hl s o q ⟨r, acc ++ [byteAt (v.k + 1) 0], a0, a1, a2, a3, a4, a5, a6, a7, a8, a9, a10, by simpa using hR⟩
  clear hl lp
  have hlR : R.length + 1 ≤ 140737488355328 := by
    have h2 := congrArg List.length hR
    simp at h2 ha
    omega
  have hl1 : acc.length + 1 ≤ 140737488355328 := by simp at ha ⊢ <;> omega
  have hfin : acc ++ byteAt (v.k + 1) 0 :: (xs.flatMap F ++ [0]) = R ++ [0] := by rw [hR]; simp
  rw [hfin]
  clear hfin hR ekey
  simp at hl'
  simp [e0, e1, e2, e3, e4, e5, hw, hu, hi, hl', hlR, hr1, hl1]
theorem putKey_fields_nil (d : Nat) (ih : ∀ (v : Val) (acc : Bytes), okP d v = true → acc.length + (keyD d v).length + 4096 ≤ 70368744177664 → v.t.length < 1048576 → run E (.call 254 [.row 5 (acc.map byteT), xV v]) = some (.res [.row 5 ((acc ++ keyD d v).map byteT)] [none]))
    (v : Val)  (h : okP (d + 1) v = true) (ha : ([] : Bytes).length + (keyD (d + 1) v).length + 4096 ≤ 70368744177664) (hv : v.t.length < 1048576) (hk : v.k = 5) : run E (.call 254 [.nil, xV v]) = some (.res [.row 5 ((([] : Bytes) ++ keyD (d + 1) v).map byteT)] [some .nil]) := by
  rw [run_call E 254 _ rfl Tryz.func254 rfl rfl rfl (by simp)]
  obtain ⟨e, xs, hd, _, hit, _, hx⟩ := okP_doc h hk
  obtain rfl : d = e := by omega
  have hi := implFields v (by omega)
  rw [fieldsI_some hit] at hi
  simp at hi
  obtain ⟨hs1, hs2⟩ := fields_small hit
  have hw : IntKind.i64.wrap (v.k + 1) = v.k + 1 := wrap_of (by omega) (by omega)
  have hu := u8_wrap (v.k + 1)
  have hr1 : List.range 1 = [0] := rfl
  have e0 : (v.k = 0) = False := by rw [hk]; simp
  have e1 : (v.k = 1) = False := by rw [hk]; simp
  have e2 : (v.k = 2) = False := by rw [hk]; simp
  have e3 : (v.k = 3) = False := by rw [hk]; simp
  have e4 : (v.k = 4) = False := by rw [hk]; simp
  have e5 : (v.k = 5) = True := by rw [hk]; simp
  have eL : fieldsL v.t = xs := by simp [fieldsL, hit]
  obtain ⟨F, hF⟩ : ∃ F : Fld → Bytes, F = (fun f => [1] ++ escP f.name ++ keyD d f.v) := ⟨_, rfl⟩
  have hFx : ∀ f, F f = 1 :: (escP f.name ++ keyD d f.v) := by intro f; rw [hF]; simp
  have hFl : ∀ f, (F f).length = 1 + (escP f.name).length + (keyD d f.v).length := by intro f; rw [hF]; simp; omega
  have ekey : keyD (d + 1) v = byteAt (v.k + 1) 0 :: (xs.flatMap F ++ [0]) := by rw [hF]; simp [keyD, e0, e1, e2, e3, e4, eL, headK, numP_1]
  clear hF
  have n22 := n254_22
  have s22 := s254_22
  simp [regionOf, findR, pick, Tryz.f254] at n22 s22
  have dd := fun st => run_region_drawS E st 22 _ n22 s22
  clear n22 s22
  rw [ekey] at ha ⊢
  clear hk
  have lp := fun (ri : Nat) (hri0 : 0 < ri) (R : Bytes) (hR : R = ([] : Bytes) ++ [byteAt (v.k + 1) 0] ++ xs.flatMap F) => sk1 (fun s o q hI => loop_for (c := loopAt Tryz.f254 1) (N := 91)
    (fun i s o q => ∃ r acc', s 0 = .row r ∧ o r = .row 5 (acc'.map byteT) true ∧ r < q ∧ s 71 = .row ri ∧ o ri = .row 125 (xs.map fldT) true ∧ ri < q ∧ ri ≠ r ∧ 0 < r ∧ s 72 = .t (.int .i64 xs.length) ∧ s 73 = .t (.int .i64 i) ∧ True ∧ R = acc' ++ (xs.drop i).flatMap F)
    (fun e s' o' q' => ∃ r, e = .exit 3 ∧ s' 0 = .row r ∧ o' r = .row 5 (R.map byteT) true ∧ ¬ r = q' ∧ ¬ q' = r ∧ ¬ r = q' + 1 ∧ ¬ q' = 0 ∧ ¬ 0 = q' ∧ ¬ r = 0 ∧ ¬ 0 = r ∧ True) xs.length
    (by
      rintro i s o q hi ⟨r, acc', h0, hor, hrq, h51, hori, hriq, hne, hr0, h52, h53, hdd, hp⟩
      have hi' : (i : Int) < (xs.length : Int) := by omega
      have hwi := wrap_succ (n := i) (by omega)
      have hxi : xs[i]? = some xs[i] := List.getElem?_eq_getElem hi
      rw [flat_drop _ _ _ hi, ← List.append_assoc] at hp
      have hlen : acc'.length + (F xs[i]).length + 4096 ≤ 70368744177664 := by
        have h1 := congrArg List.length hp
        have h2 := congrArg List.length hR
        simp at h1 h2 ha
        omega
      have hsm := hs2 _ (List.getElem_mem hi)
      have hFi := hFx xs[i]
      have hFk := hFl xs[i]
      have hpt := putText (acc' ++ [1]) xs[i].name (by omega) (by simp; omega)
      have hr := ih xs[i].v (acc' ++ [1] ++ escP xs[i].name) (hx _ (List.getElem_mem hi)).2 (by simp; omega) (by omega)
      have hb1 : acc'.length + 1 ≤ 140737488355328 := by omega
      have hb1' : byteT 1 = T.int IntKind.u8 1 := rfl
      simp [hb1'] at hpt hr
      rw [hFi] at hp
      have g1 : ¬ r = q := by omega
      have g2 : ¬ q = r := by omega
      have g3 : ¬ ri = q := by omega
      have g4 : ¬ q = ri := by omega
      have g5 : ¬ r = q + 1 := by omega
      have g6 : ¬ ri = q + 1 := by omega
      have g7 : ¬ q = 0 := by omega
      have g8 : ¬ 0 = q := by omega
      have g9 : ¬ r = ri := fun h => hne h.symm
      have g10 : ¬ 0 = r := by omega
      have g11 : ¬ r = 0 := by omega
      have g12 : ¬ ri = 0 := by omega
      have g13 : ¬ q + 1 = ri := by omega
      have g14 : ¬ q + 1 + 1 = ri := by omega
      have g15 : ¬ q + 1 + 1 + 1 = ri := by omega
      have g16 : ¬ ri = q + 1 + 1 := by omega
      have g17 : ¬ ri = q + 1 + 1 + 1 := by omega
      have g18 : ¬ q = q + 1 + 1 := by omega
      simp [loopAt, loopsOf, Tryz.f254, h0, hor, h51, hori, h52, h53, hi, hi', hwi, hxi, hr, hpt, hb1, hr1, dd, g1, g2, g3, g4, g5, g6, g7, g8, g9, g10, g11, g12, g13, g14, g15, g16, g17, g18, hne, hdd]
      exact ⟨acc' ++ 1 :: (escP xs[i].name ++ keyD d xs[i].v), by simp [hb1'], by omega, hp⟩)
    (by
      rintro s o q ⟨r, acc', h0, hor, hrq, h51, hori, hriq, hne, hr0, h52, h53, hdd, hp⟩
      simp at hp
      subst hp
      have g1 : ¬ r = q := by omega
      have g2 : ¬ q = r := by omega
      have g5 : ¬ r = q + 1 := by omega
      have g7 : ¬ q = 0 := by omega
      have g8 : ¬ 0 = q := by omega
      have g10 : ¬ 0 = r := by omega
      have g11 : ¬ r = 0 := by omega
      simp [loopAt, loopsOf, Tryz.f254, h0, hor, h51, hori, h52, h53, g1, g2, g5, g7, g8, g10, g11, hdd])
    xs.length 0 s o q (by omega) hI)
  simp only [loopAt, loopsOf, Tryz.f254] at lp
  obtain ⟨R, hR⟩ : ∃ R, R = ([] : Bytes) ++ [byteAt (v.k + 1) 0] ++ xs.flatMap F := ⟨_, rfl⟩
  obtain ⟨X, A, B, C, M, hl⟩ := lp 3 (by omega) R hR
  have hl' := fun s o q r a0 a1 a2 a3 a4 a5 a6 a7 a8 a9 a10 => hl s o q ⟨r, ([] : Bytes) ++ [byteAt (v.k + 1) 0], a0, a1, a2, a3, a4, a5, a6, a7, a8, a9, a10, by simpa using hR⟩
  clear hl lp
  have hlR : R.length + 1 ≤ 140737488355328 := by
    have h2 := congrArg List.length hR
    simp at h2 ha
    omega
  have hl1 : ([] : Bytes).length + 1 ≤ 140737488355328 := by simp at ha ⊢ <;> omega
  have hfin : ([] : Bytes) ++ byteAt (v.k + 1) 0 :: (xs.flatMap F ++ [0]) = R ++ [0] := by rw [hR]; simp
  rw [hfin]
  clear hfin hR ekey
  simp at hl'
  simp [e0, e1, e2, e3, e4, e5, hw, hu, hi, hl', hlR, hr1, hl1]
end Go.Yd
/- Keys of values: impl's putKey and keyOf. -/
set_option linter.unusedSimpArgs false
set_option linter.unusedVariables false
namespace Go.Yd
open Go.Ev Go.Proofs Go.Pu
set_option maxRecDepth 100000
set_option maxHeartbeats 16000000
theorem putKey : ∀ (d : Nat) (v : Val) (acc : Bytes), okP d v = true → acc.length + (keyD d v).length + 4096 ≤ 70368744177664 → v.t.length < 1048576 → run E (.call 254 [.row 5 (acc.map byteT), xV v]) = some (.res [.row 5 ((acc ++ keyD d v).map byteT)] [none]) := by
  intro d
  induction d with
  | zero =>
    intro v acc h ha hv
    refine putKey_small_row 0 v acc h (by omega) hv ?_
    unfold okP at h
    by_cases h0 : v.k = 0; · omega
    by_cases h1 : v.k = 1; · omega
    by_cases h2 : v.k = 2; · omega
    by_cases h3 : v.k = 3; · omega
    simp [h0, h1, h2, h3] at h
  | succ d ih =>
    intro v acc h ha hv
    have hr := okP_range h
    by_cases h4 : v.k = 4
    · exact putKey_items_row d (fun v acc h1 h2 h3 => ih v acc h1 h2 h3) v acc h ha hv h4
    · by_cases h5 : v.k = 5
      · exact putKey_fields_row d (fun v acc h1 h2 h3 => ih v acc h1 h2 h3) v acc h ha hv h5
      · exact putKey_small_row (d + 1) v acc h (by omega) hv (by omega)
theorem putKeyNil (d : Nat) (v : Val) (h : okP d v = true) (hv : v.t.length < 1048576) : run E (.call 254 [.nil, xV v]) = some (.res [.row 5 ((keyD d v).map byteT)] [some .nil]) := by
  have hr := okP_range h
  have hl := keyD_len d v h
  cases d with
  | zero =>
    refine putKey_small_nil 0 v h (by simp) hv ?_
    unfold okP at h
    by_cases h0 : v.k = 0; · omega
    by_cases h1 : v.k = 1; · omega
    by_cases h2 : v.k = 2; · omega
    by_cases h3 : v.k = 3; · omega
    simp [h0, h1, h2, h3] at h
  | succ d =>
    by_cases h4 : v.k = 4
    · exact putKey_items_nil d (fun v acc h1 h2 h3 => putKey d v acc h1 h2 h3) v h (by simp; omega) hv h4
    · by_cases h5 : v.k = 5
      · exact putKey_fields_nil d (fun v acc h1 h2 h3 => putKey d v acc h1 h2 h3) v h (by simp; omega) hv h5
      · exact putKey_small_nil (d + 1) v h (by simp) hv (by omega)
theorem keyOf (d : Nat) (v : Val) (f : Bool) (h : okP d v = true) (hv : v.t.length < 1048576) : run E (.call 150 [xV v, xB f]) = some (.res [xS (if f then turnP (keyD d v) else keyD d v)] []) := by
  rw [run_call E 150 _ rfl Tryz.func150 rfl rfl rfl (by simp)]
  have h1 := putKeyNil d v h hv
  have hl := keyD_len d v h
  have h2 := fallen (keyD d v) f (by omega)
  cases f <;> simp at h2 <;> simp [h1, h2]
end Go.Yd
