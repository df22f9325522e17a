/- The laws' own functions over lists: sizes, copies, equality. -/
import Derived.Test.YtgfdeomfociobaaGreatDoorPartXB
import Derived.Shelf.Small.Strs
import Derived.Shelf.Strings.Repeat
import Derived.Shelf.Strings.OnBuilder
import Derived.Shelf.Strconv.Itoa3
import Derived.Shelf.LaysM
import Derived.Test.YtgfdeomfociobaaGreatDoorProg
import Derived.Test.YtgfdeomfociobaaGreatDoorPartA
import Derived.Test.YtgfdeomfociobaaGreatDoorPartXA
import Derived.Below
import Derived.Lib.AppendIntMem
set_option linter.unusedSimpArgs false
set_option linter.unusedVariables false
namespace Go.Xd
open Go.Ev Go.Proofs Go.Pu
set_option maxRecDepth 100000
set_option maxHeartbeats 16000000
def szB (n : Nat) (l : Int) : Int := if l - n < 0 then -1 else l - n
def goSz {α : Type} (f : α → Int → Int) : List α → Int → Int
  | [], l => l
  | x :: r, l => if f x l < 0 then -1 else goSz f r (f x l)
def lstSz {α : Type} (f : α → Int → Int) (xs : List α) (l : Int) : Int := if szB xs.length l < 0 then -1 else goSz f xs (szB xs.length l)
def thenSz (f g : Int → Int) (l : Int) : Int := if f l < 0 then -1 else g (f l)
theorem szB_le {n : Nat} {l : Int} (h : 0 ≤ l) : szB n l ≤ l := by unfold szB; split <;> omega
theorem szB_bound {n : Nat} {l : Int} (h : ¬ szB n l < 0) : (n : Int) ≤ l := by unfold szB at h; split at h <;> omega
theorem goSz_le {α : Type} {f : α → Int → Int} : ∀ {xs : List α} {l : Int}, 0 ≤ l → (∀ x ∈ xs, ∀ k, 0 ≤ k → f x k ≤ k) → goSz f xs l ≤ l
  | [], l, _, _ => Int.le_refl _
  | x :: r, l, h0, h => by
    unfold goSz
    have hx := h x (by simp) l h0
    split
    · omega
    · have := goSz_le (xs := r) (l := f x l) (by omega) (fun y hy => h y (by simp [hy]))
      omega
theorem lstSz_le {α : Type} {f : α → Int → Int} {xs : List α} {l : Int} (h0 : 0 ≤ l) (h : ∀ x ∈ xs, ∀ k, 0 ≤ k → f x k ≤ k) : lstSz f xs l ≤ l := by
  unfold lstSz
  have := szB_le (n := xs.length) h0
  split
  · omega
  · have := goSz_le (f := f) (xs := xs) (l := szB xs.length l) (by omega) h
    omega
theorem thenSz_le {f g : Int → Int} {l : Int} (h0 : 0 ≤ l) (hf : ∀ k, 0 ≤ k → f k ≤ k) (hg : ∀ k, 0 ≤ k → g k ≤ k) : thenSz f g l ≤ l := by
  unfold thenSz
  have := hf l h0
  split
  · omega
  · have := hg (f l) (by omega); omega
theorem goSz_all {α : Type} {f : α → Int → Int} {P : α → Prop} {m : Int} : ∀ {xs : List α} {l : Int}, 0 ≤ l → l ≤ m → (∀ x ∈ xs, ∀ k, 0 ≤ k → f x k ≤ k) → (∀ x ∈ xs, ∀ k, 0 ≤ k → k ≤ m → ¬ f x k < 0 → P x) → ¬ goSz f xs l < 0 → ∀ x ∈ xs, P x
  | [], _, _, _, _, _, _, x, hx => by simp at hx
  | y :: r, l, h0, hm, hle, hp, h, x, hx => by
    unfold goSz at h
    split at h
    · omega
    · rename_i hf
      have hy := hle y (by simp) l h0
      rcases List.mem_cons.1 hx with rfl | hx
      · exact hp _ (by simp) l h0 hm hf
      · exact goSz_all (by omega) (by omega) (fun z hz => hle z (by simp [hz])) (fun z hz => hp z (by simp [hz])) h x hx
theorem lstSz_all {α : Type} {f : α → Int → Int} {P : α → Prop} {m : Int} {xs : List α} {l : Int} (h0 : 0 ≤ l) (hm : l ≤ m) (hle : ∀ x ∈ xs, ∀ k, 0 ≤ k → f x k ≤ k) (hp : ∀ x ∈ xs, ∀ k, 0 ≤ k → k ≤ m → ¬ f x k < 0 → P x) (h : ¬ lstSz f xs l < 0) : (xs.length : Int) ≤ m ∧ ∀ x ∈ xs, P x := by
  unfold lstSz at h
  split at h
  · omega
  · rename_i hb
    have h1 := szB_bound hb
    have h2 := szB_le (n := xs.length) h0
    exact ⟨by omega, goSz_all (m := m) (by omega) (by omega) hle hp h⟩
theorem mid_get {α : Type} (ys : List α) (z : α) (i n : Nat) (hi : i < n) (hy : i ≤ ys.length) : (ys.take i ++ List.replicate (n - i) z)[i]? = some z := by
  rw [List.getElem?_append_right (by simp; omega)]
  have h : min i ys.length = i := by omega
  have hp : 0 < n - i := by omega
  simp only [List.length_take, h, Nat.sub_self, List.getElem?_replicate, hp, if_true]
theorem mid_set {α : Type} (ys : List α) (z x : α) (i n : Nat) (hi : i < n) (hx : ys[i]? = some x) : (ys.take i ++ List.replicate (n - i) z).set i x = ys.take (i + 1) ++ List.replicate (n - (i + 1)) z := by
  have hy : i < ys.length := by
    by_cases h : i < ys.length
    · exact h
    · rw [List.getElem?_eq_none (by omega)] at hx; cases hx
  have hl : (ys.take i).length = i := by simp; omega
  have e : n - i = (n - (i + 1)) + 1 := by omega
  have h1 := set_mid (ys.take i) x z (n - (i + 1))
  rw [hl] at h1
  rw [e, h1, List.take_add_one, hx]
  rfl
theorem sz_223 (xs : List Trm) (f : Trm → Int → Int) (hl : xs.length < 9223372036854775807) (hf : ∀ x ∈ xs, ∀ l, 0 ≤ l → l ≤ 1048576 → run E (.call 354 [.t (trmT x), xI l]) = some (.res [xI (f x l)] [])) (hle : ∀ x ∈ xs, ∀ k, 0 ≤ k → f x k ≤ k) (l : Int) (h0 : 0 ≤ l) (hm : l ≤ 1048576) :
    run E (.call 288 [.t (.list (xs.map trmT)), xI l]) = some (.res [xI (lstSz f xs l)] []) := by
  rw [run_call E 288 _ rfl Tryz.func288 rfl rfl rfl (by simp)]
  have hw : IntKind.i64.wrap (l - (xs.length : Int)) = l - xs.length := wrap_of (by omega) (by omega)
  unfold lstSz szB
  by_cases hb : l - (xs.length : Int) < 0
  · simp [hw, hb]
  · have hb0 : ¬ l < (xs.length : Int) := by omega
    have lp := fun (r : Int) (hr : r = goSz f xs (l - xs.length)) => sk (fun s o q hI => loop_for (c := loopAt Tryz.f288 0) (N := 27)
      (fun i s o q => ∃ k : Int, s 0 = .t (.list (xs.map trmT)) ∧ s 1 = .t (.int .i64 k) ∧ s 5 = .t (.int .i64 i) ∧ 0 ≤ k ∧ k ≤ 1048576 ∧ r = goSz f (xs.drop i) k)
      (fun e s' o' q' => e = (if r < 0 then .ret else .exit 0) ∧ (r < 0 → s' 4 = .t (.int .i64 r)) ∧ (0 ≤ r → s' 1 = .t (.int .i64 r))) xs.length
      (by
        rintro i s o q hi ⟨k, g0, g1, g5, hk0, hkm, hp⟩
        have hi' : (i : Int) < (xs.length : Int) := by omega
        have hwi := wrap_succ (n := i) (by omega)
        have hxi : xs[i]? = some xs[i] := List.getElem?_eq_getElem hi
        have hx := hf _ (List.getElem_mem hi) k hk0 hkm
        have hxl := hle _ (List.getElem_mem hi) k hk0
        rw [List.drop_eq_getElem_cons hi, goSz] at hp
        by_cases hn : f xs[i] k < 0
        · simp [hn] at hp
          simp [loopAt, loopsOf, Tryz.f288, g0, g1, g5, hi', hxi, hwi, hx, hn, hp]
        · simp [hn] at hp
          simp [loopAt, loopsOf, Tryz.f288, g0, g1, g5, hi', hxi, hwi, hx, hn]
          exact ⟨by omega, by omega, hp⟩)
      (by
        rintro s o q ⟨k, g0, g1, g5, hk0, hkm, hp⟩
        simp [goSz] at hp
        have hn : ¬ r < 0 := by omega
        have hn' : 0 ≤ r := by omega
        have hk1 : ¬ k < 0 := by omega
        simp [loopAt, loopsOf, Tryz.f288, g0, g1, g5, hp, hk1]
        try omega)
      xs.length 0 s o q (by omega) hI)
    simp only [loopAt, loopsOf, Tryz.f288] at lp
    obtain ⟨r, hr⟩ : ∃ r, r = goSz f xs (l - xs.length) := ⟨_, rfl⟩
    obtain ⟨X, A, B, C, hx⟩ := lp r hr
    have hx' := fun s o q a0 a1 a5 => hx s o q ⟨l - xs.length, a0, a1, a5, by omega, by omega, by simpa using hr⟩
    clear hx
    by_cases hn : r < 0
    · have hn' : ¬ 0 ≤ r := by omega
      simp [hn, hn'] at hx'
      simp [hw, hb, hb0, hx', hn, ← hr]
    · have hn' : 0 ≤ r := by omega
      simp [hn, hn'] at hx'
      simp [hw, hb, hb0, hx', hn, ← hr]
theorem sz_112 (xs : List (List Trm)) (f : (List Trm) → Int → Int) (hl : xs.length < 9223372036854775807) (hf : ∀ x ∈ xs, ∀ l, 0 ≤ l → l ≤ 1048576 → run E (.call 177 [.t (clsT x), xI l]) = some (.res [xI (f x l)] [])) (hle : ∀ x ∈ xs, ∀ k, 0 ≤ k → f x k ≤ k) (l : Int) (h0 : 0 ≤ l) (hm : l ≤ 1048576) :
    run E (.call 72 [.t (.list (xs.map clsT)), xI l]) = some (.res [xI (lstSz f xs l)] []) := by
  rw [run_call E 72 _ rfl Tryz.func72 rfl rfl rfl (by simp)]
  have hw : IntKind.i64.wrap (l - (xs.length : Int)) = l - xs.length := wrap_of (by omega) (by omega)
  unfold lstSz szB
  by_cases hb : l - (xs.length : Int) < 0
  · simp [hw, hb]
  · have hb0 : ¬ l < (xs.length : Int) := by omega
    have lp := fun (r : Int) (hr : r = goSz f xs (l - xs.length)) => sk (fun s o q hI => loop_for (c := loopAt Tryz.f72 0) (N := 27)
      (fun i s o q => ∃ k : Int, s 0 = .t (.list (xs.map clsT)) ∧ s 1 = .t (.int .i64 k) ∧ s 5 = .t (.int .i64 i) ∧ 0 ≤ k ∧ k ≤ 1048576 ∧ r = goSz f (xs.drop i) k)
      (fun e s' o' q' => e = (if r < 0 then .ret else .exit 0) ∧ (r < 0 → s' 4 = .t (.int .i64 r)) ∧ (0 ≤ r → s' 1 = .t (.int .i64 r))) xs.length
      (by
        rintro i s o q hi ⟨k, g0, g1, g5, hk0, hkm, hp⟩
        have hi' : (i : Int) < (xs.length : Int) := by omega
        have hwi := wrap_succ (n := i) (by omega)
        have hxi : xs[i]? = some xs[i] := List.getElem?_eq_getElem hi
        have hx := hf _ (List.getElem_mem hi) k hk0 hkm
        have hxl := hle _ (List.getElem_mem hi) k hk0
        rw [List.drop_eq_getElem_cons hi, goSz] at hp
        by_cases hn : f xs[i] k < 0
        · simp [hn] at hp
          simp [loopAt, loopsOf, Tryz.f72, g0, g1, g5, hi', hxi, hwi, hx, hn, hp]
        · simp [hn] at hp
          simp [loopAt, loopsOf, Tryz.f72, g0, g1, g5, hi', hxi, hwi, hx, hn]
          exact ⟨by omega, by omega, hp⟩)
      (by
        rintro s o q ⟨k, g0, g1, g5, hk0, hkm, hp⟩
        simp [goSz] at hp
        have hn : ¬ r < 0 := by omega
        have hn' : 0 ≤ r := by omega
        have hk1 : ¬ k < 0 := by omega
        simp [loopAt, loopsOf, Tryz.f72, g0, g1, g5, hp, hk1]
        try omega)
      xs.length 0 s o q (by omega) hI)
    simp only [loopAt, loopsOf, Tryz.f72] at lp
    obtain ⟨r, hr⟩ : ∃ r, r = goSz f xs (l - xs.length) := ⟨_, rfl⟩
    obtain ⟨X, A, B, C, hx⟩ := lp r hr
    have hx' := fun s o q a0 a1 a5 => hx s o q ⟨l - xs.length, a0, a1, a5, by omega, by omega, by simpa using hr⟩
    clear hx
    by_cases hn : r < 0
    · have hn' : ¬ 0 ≤ r := by omega
      simp [hn, hn'] at hx'
      simp [hw, hb, hb0, hx', hn, ← hr]
    · have hn' : 0 ≤ r := by omega
      simp [hn, hn'] at hx'
      simp [hw, hb, hb0, hx', hn, ← hr]
theorem sz_68 (xs : List Prt) (f : Prt → Int → Int) (hl : xs.length < 9223372036854775807) (hf : ∀ x ∈ xs, ∀ l, 0 ≤ l → l ≤ 1048576 → run E (.call 299 [.t (prtT x), xI l]) = some (.res [xI (f x l)] [])) (hle : ∀ x ∈ xs, ∀ k, 0 ≤ k → f x k ≤ k) (l : Int) (h0 : 0 ≤ l) (hm : l ≤ 1048576) :
    run E (.call 208 [.t (.list (xs.map prtT)), xI l]) = some (.res [xI (lstSz f xs l)] []) := by
  rw [run_call E 208 _ rfl Tryz.func208 rfl rfl rfl (by simp)]
  have hw : IntKind.i64.wrap (l - (xs.length : Int)) = l - xs.length := wrap_of (by omega) (by omega)
  unfold lstSz szB
  by_cases hb : l - (xs.length : Int) < 0
  · simp [hw, hb]
  · have hb0 : ¬ l < (xs.length : Int) := by omega
    have lp := fun (r : Int) (hr : r = goSz f xs (l - xs.length)) => sk (fun s o q hI => loop_for (c := loopAt Tryz.f208 0) (N := 27)
      (fun i s o q => ∃ k : Int, s 0 = .t (.list (xs.map prtT)) ∧ s 1 = .t (.int .i64 k) ∧ s 5 = .t (.int .i64 i) ∧ 0 ≤ k ∧ k ≤ 1048576 ∧ r = goSz f (xs.drop i) k)
      (fun e s' o' q' => e = (if r < 0 then .ret else .exit 0) ∧ (r < 0 → s' 4 = .t (.int .i64 r)) ∧ (0 ≤ r → s' 1 = .t (.int .i64 r))) xs.length
      (by
        rintro i s o q hi ⟨k, g0, g1, g5, hk0, hkm, hp⟩
        have hi' : (i : Int) < (xs.length : Int) := by omega
        have hwi := wrap_succ (n := i) (by omega)
        have hxi : xs[i]? = some xs[i] := List.getElem?_eq_getElem hi
        have hx := hf _ (List.getElem_mem hi) k hk0 hkm
        have hxl := hle _ (List.getElem_mem hi) k hk0
        rw [List.drop_eq_getElem_cons hi, goSz] at hp
        by_cases hn : f xs[i] k < 0
        · simp [hn] at hp
          simp [loopAt, loopsOf, Tryz.f208, g0, g1, g5, hi', hxi, hwi, hx, hn, hp]
        · simp [hn] at hp
          simp [loopAt, loopsOf, Tryz.f208, g0, g1, g5, hi', hxi, hwi, hx, hn]
          exact ⟨by omega, by omega, hp⟩)
      (by
        rintro s o q ⟨k, g0, g1, g5, hk0, hkm, hp⟩
        simp [goSz] at hp
        have hn : ¬ r < 0 := by omega
        have hn' : 0 ≤ r := by omega
        have hk1 : ¬ k < 0 := by omega
        simp [loopAt, loopsOf, Tryz.f208, g0, g1, g5, hp, hk1]
        try omega)
      xs.length 0 s o q (by omega) hI)
    simp only [loopAt, loopsOf, Tryz.f208] at lp
    obtain ⟨r, hr⟩ : ∃ r, r = goSz f xs (l - xs.length) := ⟨_, rfl⟩
    obtain ⟨X, A, B, C, hx⟩ := lp r hr
    have hx' := fun s o q a0 a1 a5 => hx s o q ⟨l - xs.length, a0, a1, a5, by omega, by omega, by simpa using hr⟩
    clear hx
    by_cases hn : r < 0
    · have hn' : ¬ 0 ≤ r := by omega
      simp [hn, hn'] at hx'
      simp [hw, hb, hb0, hx', hn, ← hr]
    · have hn' : 0 ≤ r := by omega
      simp [hn, hn'] at hx'
      simp [hw, hb, hb0, hx', hn, ← hr]
theorem to_225 (xs : List Trm) (hl : xs.length < 4294967296) (hf : ∀ x ∈ xs, run E (.call 357 [.t (trmT x)]) = some (.res [trmX x] [])) :
    run E (.call 290 [.t (.list (xs.map trmT))]) = some (.res [.row 120 (xs.map trmT)] []) := by
  rw [run_call E 290 _ rfl Tryz.func290 rfl rfl rfl (by simp)]
  have lp := sk (fun s o q hI => loop_for (c := loopAt Tryz.f290 0) (N := 23)
    (fun i s o q => s 0 = .t (.list (xs.map trmT)) ∧ s 3 = .row 0 ∧ s 4 = .t (.int .i64 i) ∧ 0 < q ∧ o 0 = .row 120 ((xs.map trmT).take i ++ List.replicate (xs.length - i) (.agg [.int .i64 0, .str [], .int .i64 0, .int .i64 0, .str []])) true)
    (fun e s' o' q' => e = .exit 0 ∧ s' 3 = .row 0 ∧ o' 0 = .row 120 (xs.map trmT) true) xs.length
    (by
      rintro i s o q hi ⟨g0, g3, g4, hq, ho⟩
      have hi' : (i : Int) < (xs.length : Int) := by omega
      have hwi := wrap_succ (n := i) (by omega)
      have hxi : xs[i]? = some xs[i] := List.getElem?_eq_getElem hi
      have hx := hf _ (List.getElem_mem hi)
      have hq0 : q ≠ 0 := by omega
      have h0q : 0 ≠ q := by omega
      have hget := mid_get (xs.map trmT) (.agg [.int .i64 0, .str [], .int .i64 0, .int .i64 0, .str []]) i xs.length hi (by simp; omega)
      have hset := mid_set (xs.map trmT) (.agg [.int .i64 0, .str [], .int .i64 0, .int .i64 0, .str []]) (trmT xs[i]) i xs.length hi (by simp [hxi])
      simp [loopAt, loopsOf, Tryz.f290, g0, g3, g4, hi', hxi, hwi, hx, ho, hget, hset, hq0, h0q]
      try omega)
    (by
      rintro s o q ⟨g0, g3, g4, hq, ho⟩
      have hfull : (xs.map trmT).take xs.length = xs.map trmT := List.take_of_length_le (by simp)
      simp [hfull] at ho
      simp [loopAt, loopsOf, Tryz.f290, g0, g3, g4, ho])
    xs.length 0 s o q (by omega) hI)
  simp only [loopAt, loopsOf, Tryz.f290] at lp
  obtain ⟨X, A, B, C, hx⟩ := lp
  simp at hx
  have h1 : xs.length ≤ 140737488355328 := by omega
  have h2 : xs.length * 56 ≤ 140737488355328 := by omega
  simp [h1, h2, hx]
theorem to_114 (xs : List (List Trm)) (hl : xs.length < 4294967296) (hf : ∀ x ∈ xs, run E (.call 179 [.t (clsT x)]) = some (.res [.agg [.row 120 (x.map trmT)]] [])) :
    run E (.call 76 [.t (.list (xs.map clsT))]) = some (.res [.row 236 (xs.map clsT)] []) := by
  rw [run_call E 76 _ rfl Tryz.func76 rfl rfl rfl (by simp)]
  have lp := sk (fun s o q hI => loop_for (c := loopAt Tryz.f76 0) (N := 23)
    (fun i s o q => s 0 = .t (.list (xs.map clsT)) ∧ s 3 = .row 0 ∧ s 4 = .t (.int .i64 i) ∧ 0 < q ∧ o 0 = .row 236 ((xs.map clsT).take i ++ List.replicate (xs.length - i) (.agg [.list []])) true)
    (fun e s' o' q' => e = .exit 0 ∧ s' 3 = .row 0 ∧ o' 0 = .row 236 (xs.map clsT) true) xs.length
    (by
      rintro i s o q hi ⟨g0, g3, g4, hq, ho⟩
      have hi' : (i : Int) < (xs.length : Int) := by omega
      have hwi := wrap_succ (n := i) (by omega)
      have hxi : xs[i]? = some xs[i] := List.getElem?_eq_getElem hi
      have hx := hf _ (List.getElem_mem hi)
      have hq0 : q ≠ 0 := by omega
      have h0q : 0 ≠ q := by omega
      have hget := mid_get (xs.map clsT) (.agg [.list []]) i xs.length hi (by simp; omega)
      have hset := mid_set (xs.map clsT) (.agg [.list []]) (clsT xs[i]) i xs.length hi (by simp [hxi])
      simp [loopAt, loopsOf, Tryz.f76, g0, g3, g4, hi', hxi, hwi, hx, ho, hget, hset, hq0, h0q]
      try omega)
    (by
      rintro s o q ⟨g0, g3, g4, hq, ho⟩
      have hfull : (xs.map clsT).take xs.length = xs.map clsT := List.take_of_length_le (by simp)
      simp [hfull] at ho
      simp [loopAt, loopsOf, Tryz.f76, g0, g3, g4, ho])
    xs.length 0 s o q (by omega) hI)
  simp only [loopAt, loopsOf, Tryz.f76] at lp
  obtain ⟨X, A, B, C, hx⟩ := lp
  simp at hx
  have h1 : xs.length ≤ 140737488355328 := by omega
  have h2 : xs.length * 24 ≤ 140737488355328 := by omega
  simp [h1, h2, hx]
theorem to_74 (xs : List Prt) (hl : xs.length < 4294967296) (hf : ∀ x ∈ xs, run E (.call 301 [.t (prtT x)]) = some (.res [prtX x] [])) :
    run E (.call 213 [.t (.list (xs.map prtT))]) = some (.res [.row 133 (xs.map prtT)] []) := by
  rw [run_call E 213 _ rfl Tryz.func213 rfl rfl rfl (by simp)]
  have lp := sk (fun s o q hI => loop_for (c := loopAt Tryz.f213 0) (N := 23)
    (fun i s o q => s 0 = .t (.list (xs.map prtT)) ∧ s 3 = .row 0 ∧ s 4 = .t (.int .i64 i) ∧ 0 < q ∧ o 0 = .row 133 ((xs.map prtT).take i ++ List.replicate (xs.length - i) (.agg [.str [], .bool false])) true)
    (fun e s' o' q' => e = .exit 0 ∧ s' 3 = .row 0 ∧ o' 0 = .row 133 (xs.map prtT) true) xs.length
    (by
      rintro i s o q hi ⟨g0, g3, g4, hq, ho⟩
      have hi' : (i : Int) < (xs.length : Int) := by omega
      have hwi := wrap_succ (n := i) (by omega)
      have hxi : xs[i]? = some xs[i] := List.getElem?_eq_getElem hi
      have hx := hf _ (List.getElem_mem hi)
      have hq0 : q ≠ 0 := by omega
      have h0q : 0 ≠ q := by omega
      have hget := mid_get (xs.map prtT) (.agg [.str [], .bool false]) i xs.length hi (by simp; omega)
      have hset := mid_set (xs.map prtT) (.agg [.str [], .bool false]) (prtT xs[i]) i xs.length hi (by simp [hxi])
      simp [loopAt, loopsOf, Tryz.f213, g0, g3, g4, hi', hxi, hwi, hx, ho, hget, hset, hq0, h0q]
      try omega)
    (by
      rintro s o q ⟨g0, g3, g4, hq, ho⟩
      have hfull : (xs.map prtT).take xs.length = xs.map prtT := List.take_of_length_le (by simp)
      simp [hfull] at ho
      simp [loopAt, loopsOf, Tryz.f213, g0, g3, g4, ho])
    xs.length 0 s o q (by omega) hI)
  simp only [loopAt, loopsOf, Tryz.f213] at lp
  obtain ⟨X, A, B, C, hx⟩ := lp
  simp at hx
  have h1 : xs.length ≤ 140737488355328 := by omega
  have h2 : xs.length * 24 ≤ 140737488355328 := by omega
  simp [h1, h2, hx]
theorem eq_228 (xs : List Trm) (hl : xs.length < 9223372036854775807) (hf : ∀ x ∈ xs, run E (.call 358 [.t (trmT x), .t (trmT x)]) = some (.res [xB true] [])) :
    run E (.call 293 [.t (.list (xs.map trmT)), .t (.list (xs.map trmT))]) = some (.res [xB true] []) := by
  rw [run_call E 293 _ rfl Tryz.func293 rfl rfl rfl (by simp)]
  have d6 := d293_6
  simp [regionOf, findR, pick, Tryz.f293] at d6
  have dd := fun st => run_region_draw E st 6 _ d6
  clear d6
  have lp := sk (fun s o q hI => loop_for (c := loopAt Tryz.f293 0) (N := 27)
    (fun i s o q => s 0 = .t (.list (xs.map trmT)) ∧ s 1 = .t (.list (xs.map trmT)) ∧ s 5 = .t (.int .i64 i))
    (fun e s' o' q' => e = .exit 0) xs.length
    (by
      rintro i s o q hi ⟨g0, g1, g5⟩
      have hi' : (i : Int) < (xs.length : Int) := by omega
      have hwi := wrap_succ (n := i) (by omega)
      have hxi : xs[i]? = some xs[i] := List.getElem?_eq_getElem hi
      have hx := hf _ (List.getElem_mem hi)
      simp [loopAt, loopsOf, Tryz.f293, dd, g0, g1, g5, hi', hxi, hwi, hx])
    (by
      rintro s o q ⟨g0, g1, g5⟩
      simp [loopAt, loopsOf, Tryz.f293, g0, g1, g5])
    xs.length 0 s o q (by omega) hI)
  simp only [loopAt, loopsOf, Tryz.f293] at lp
  obtain ⟨X, A, B, C, hx⟩ := lp
  simp at hx
  simp [hx]
theorem eq_117 (xs : List (List Trm)) (hl : xs.length < 9223372036854775807) (hf : ∀ x ∈ xs, run E (.call 186 [.t (clsT x), .t (clsT x)]) = some (.res [xB true] [])) :
    run E (.call 80 [.t (.list (xs.map clsT)), .t (.list (xs.map clsT))]) = some (.res [xB true] []) := by
  rw [run_call E 80 _ rfl Tryz.func80 rfl rfl rfl (by simp)]
  have d6 := d80_6
  simp [regionOf, findR, pick, Tryz.f80] at d6
  have dd := fun st => run_region_draw E st 6 _ d6
  clear d6
  have lp := sk (fun s o q hI => loop_for (c := loopAt Tryz.f80 0) (N := 27)
    (fun i s o q => s 0 = .t (.list (xs.map clsT)) ∧ s 1 = .t (.list (xs.map clsT)) ∧ s 5 = .t (.int .i64 i))
    (fun e s' o' q' => e = .exit 0) xs.length
    (by
      rintro i s o q hi ⟨g0, g1, g5⟩
      have hi' : (i : Int) < (xs.length : Int) := by omega
      have hwi := wrap_succ (n := i) (by omega)
      have hxi : xs[i]? = some xs[i] := List.getElem?_eq_getElem hi
      have hx := hf _ (List.getElem_mem hi)
      simp [loopAt, loopsOf, Tryz.f80, dd, g0, g1, g5, hi', hxi, hwi, hx])
    (by
      rintro s o q ⟨g0, g1, g5⟩
      simp [loopAt, loopsOf, Tryz.f80, g0, g1, g5])
    xs.length 0 s o q (by omega) hI)
  simp only [loopAt, loopsOf, Tryz.f80] at lp
  obtain ⟨X, A, B, C, hx⟩ := lp
  simp at hx
  simp [hx]
theorem eq_81 (xs : List Prt) (hl : xs.length < 9223372036854775807) (hf : ∀ x ∈ xs, run E (.call 308 [.t (prtT x), .t (prtT x)]) = some (.res [xB true] [])) :
    run E (.call 224 [.t (.list (xs.map prtT)), .t (.list (xs.map prtT))]) = some (.res [xB true] []) := by
  rw [run_call E 224 _ rfl Tryz.func224 rfl rfl rfl (by simp)]
  have d6 := d224_6
  simp [regionOf, findR, pick, Tryz.f224] at d6
  have dd := fun st => run_region_draw E st 6 _ d6
  clear d6
  have lp := sk (fun s o q hI => loop_for (c := loopAt Tryz.f224 0) (N := 27)
    (fun i s o q => s 0 = .t (.list (xs.map prtT)) ∧ s 1 = .t (.list (xs.map prtT)) ∧ s 5 = .t (.int .i64 i))
    (fun e s' o' q' => e = .exit 0) xs.length
    (by
      rintro i s o q hi ⟨g0, g1, g5⟩
      have hi' : (i : Int) < (xs.length : Int) := by omega
      have hwi := wrap_succ (n := i) (by omega)
      have hxi : xs[i]? = some xs[i] := List.getElem?_eq_getElem hi
      have hx := hf _ (List.getElem_mem hi)
      simp [loopAt, loopsOf, Tryz.f224, dd, g0, g1, g5, hi', hxi, hwi, hx])
    (by
      rintro s o q ⟨g0, g1, g5⟩
      simp [loopAt, loopsOf, Tryz.f224, g0, g1, g5])
    xs.length 0 s o q (by omega) hI)
  simp only [loopAt, loopsOf, Tryz.f224] at lp
  obtain ⟨X, A, B, C, hx⟩ := lp
  simp at hx
  simp [hx]
end Go.Xd
/- The laws' own functions: values, terms, clauses, filters, parts, texts. -/
set_option linter.unusedSimpArgs false
set_option linter.unusedVariables false
namespace Go.Xd
open Go.Ev Go.Proofs Go.Pu
set_option maxRecDepth 100000
set_option maxHeartbeats 16000000
def szVal (v : Val) (l : Int) : Int := szB v.t.length l
def szTrm (t : Trm) (l : Int) : Int := thenSz (szB t.path.length) (thenSz (szVal t.v) (fun k => k)) l
def szPrt (p : Prt) (l : Int) : Int := szB p.path.length l
def szCls (c : List Trm) (l : Int) : Int := thenSz (lstSz szTrm c) (fun k => k) l
def szFil (f : List (List Trm)) (l : Int) : Int := thenSz (lstSz szCls f) (fun k => k) l
def szTxt (t : Bytes) (l : Int) : Int := szB t.length l
theorem szVal_le (v : Val) (k : Int) (h : 0 ≤ k) : szVal v k ≤ k := szB_le h
theorem szTrm_le (t : Trm) (k : Int) (h : 0 ≤ k) : szTrm t k ≤ k := thenSz_le h (fun k hk => szB_le hk) (fun k hk => thenSz_le hk (fun k hk => szB_le hk) (fun k _ => Int.le_refl k))
theorem szPrt_le (p : Prt) (k : Int) (h : 0 ≤ k) : szPrt p k ≤ k := szB_le h
theorem szCls_le (c : List Trm) (k : Int) (h : 0 ≤ k) : szCls c k ≤ k := thenSz_le h (fun k hk => lstSz_le hk (fun x _ k hk => szTrm_le x k hk)) (fun k _ => Int.le_refl k)
theorem szFil_le (c : List (List Trm)) (k : Int) (h : 0 ≤ k) : szFil c k ≤ k := thenSz_le h (fun k hk => lstSz_le hk (fun x _ k hk => szCls_le x k hk)) (fun k _ => Int.le_refl k)
/-- No longer than what memory holds. -/
def W (n : Nat) : Prop := n < 4611686018427387904
def Trm.wd (t : Trm) : Prop := W t.path.length ∧ W t.v.t.length
def clsWd (c : List Trm) : Prop := W c.length ∧ ∀ t ∈ c, t.wd
def filWd (f : List (List Trm)) : Prop := W f.length ∧ ∀ c ∈ f, clsWd c
def prtsWd (l : List Prt) : Prop := W l.length ∧ ∀ p ∈ l, W p.path.length
def txtsWd (l : List Bytes) : Prop := W l.length ∧ ∀ p ∈ l, W p.length
theorem wrap_sz {n : Nat} {l : Int} (h : W n) (h0 : 0 ≤ l) (hm : l ≤ 1048576) : IntKind.i64.wrap (l - (n : Int)) = l - n := by unfold W at h; exact wrap_of (by omega) (by omega)
theorem szValue (v : Val) (h : W v.t.length) (l : Int) (h0 : 0 ≤ l) (hm : l ≤ 1048576) : run E (.call 14 [xV v, xI l]) = some (.res [xI (szVal v l)] []) := by
  rw [run_call E 14 _ rfl Tryz.func14 rfl rfl rfl (by simp)]
  have hw := wrap_sz h h0 hm
  unfold szVal szB
  by_cases hb : l - (v.t.length : Int) < 0 <;> simp [hw, hb]
theorem szPart (p : Prt) (h : W p.path.length) (l : Int) (h0 : 0 ≤ l) (hm : l ≤ 1048576) : run E (.call 299 [.t (prtT p), xI l]) = some (.res [xI (szPrt p l)] []) := by
  rw [run_call E 299 _ rfl Tryz.func299 rfl rfl rfl (by simp)]
  have hw := wrap_sz h h0 hm
  unfold szPrt szB
  by_cases hb : l - (p.path.length : Int) < 0 <;> simp [hw, hb]
theorem szTerm (t : Trm) (h : t.wd) (l : Int) (h0 : 0 ≤ l) (hm : l ≤ 1048576) : run E (.call 354 [.t (trmT t), xI l]) = some (.res [xI (szTrm t l)] []) := by
  rw [run_call E 354 _ rfl Tryz.func354 rfl rfl rfl (by simp)]
  have hw := wrap_sz h.1 h0 hm
  unfold szTrm thenSz
  by_cases hb : l - (t.path.length : Int) < 0
  · simp [hw, hb, szB]
  · have hv := szValue t.v h.2 (l - t.path.length) (by omega) (by omega)
    have e : szB t.path.length l = l - t.path.length := by simp [szB, hb]
    by_cases hn : szVal t.v (l - t.path.length) < 0 <;> simp [hw, hb, e, hv, hn]
theorem szTermS (c : List Trm) (h : clsWd c) (l : Int) (h0 : 0 ≤ l) (hm : l ≤ 1048576) : run E (.call 288 [.t (.list (c.map trmT)), xI l]) = some (.res [xI (lstSz szTrm c l)] []) :=
  sz_223 c szTrm (by have := h.1; unfold W at this; omega) (fun x hx l h0 hm => szTerm x (h.2 x hx) l h0 hm) (fun x _ k hk => szTrm_le x k hk) l h0 hm
theorem szClause (c : List Trm) (h : clsWd c) (l : Int) (h0 : 0 ≤ l) (hm : l ≤ 1048576) : run E (.call 177 [.t (clsT c), xI l]) = some (.res [xI (szCls c l)] []) := by
  rw [run_call E 177 _ rfl Tryz.func177 rfl rfl rfl (by simp)]
  have hs := szTermS c h l h0 hm
  unfold szCls thenSz
  by_cases hn : lstSz szTrm c l < 0 <;> simp [hs, hn]
theorem szFilter (f : List (List Trm)) (h : filWd f) (l : Int) (h0 : 0 ≤ l) (hm : l ≤ 1048576) : run E (.call 13 [.t (filT f), xI l]) = some (.res [xI (szFil f l)] []) := by
  rw [run_call E 13 _ rfl Tryz.func13 rfl rfl rfl (by simp)]
  have hs := sz_112 f szCls (by have := h.1; unfold W at this; omega) (fun x hx l h0 hm => szClause x (h.2 x hx) l h0 hm) (fun x _ k hk => szCls_le x k hk) l h0 hm
  unfold szFil thenSz
  by_cases hn : lstSz szCls f l < 0 <;> simp [hs, hn]
theorem szPartS (c : List Prt) (h : prtsWd c) (l : Int) (h0 : 0 ≤ l) (hm : l ≤ 1048576) : run E (.call 208 [.t (.list (c.map prtT)), xI l]) = some (.res [xI (lstSz szPrt c l)] []) :=
  sz_68 c szPrt (by have := h.1; unfold W at this; omega) (fun x hx l h0 hm => szPart x (h.2 x hx) l h0 hm) (fun x _ k hk => szPrt_le x k hk) l h0 hm
theorem szStringS (xs : List Bytes) (h : txtsWd xs) (l : Int) (h0 : 0 ≤ l) (hm : l ≤ 1048576) : run E (.call 209 [.t (.list (xs.map strT)), xI l]) = some (.res [xI (lstSz szTxt xs l)] []) := by
  rw [run_call E 209 _ rfl Tryz.func209 rfl rfl rfl (by simp)]
  have hl : W xs.length := h.1
  have hw := wrap_sz hl h0 hm
  unfold lstSz szB
  by_cases hb : l - (xs.length : Int) < 0
  · simp [hw, hb]
  · have hb0 : ¬ l < (xs.length : Int) := by omega
    have lp := fun (r : Int) (hr : r = goSz szTxt xs (l - xs.length)) => sk (fun s o q hI => loop_for (c := loopAt Tryz.f209 0) (N := 28)
      (fun i s o q => ∃ k : Int, s 0 = .t (.list (xs.map strT)) ∧ s 1 = .t (.int .i64 k) ∧ s 5 = .t (.int .i64 i) ∧ 0 ≤ k ∧ k ≤ 1048576 ∧ r = goSz szTxt (xs.drop i) k)
      (fun e s' o' q' => e = (if r < 0 then .ret else .exit 0) ∧ (r < 0 → s' 4 = .t (.int .i64 r)) ∧ (0 ≤ r → s' 1 = .t (.int .i64 r))) xs.length
      (by
        rintro i s o q hi ⟨k, g0, g1, g5, hk0, hkm, hp⟩
        have hi' : (i : Int) < (xs.length : Int) := by omega
        have hwi := wrap_succ (n := i) (by unfold W at hl; omega)
        have hxi : xs[i]? = some xs[i] := List.getElem?_eq_getElem hi
        have hx := wrap_sz (h.2 _ (List.getElem_mem hi)) hk0 hkm
        rw [List.drop_eq_getElem_cons hi, goSz] at hp
        by_cases hn : k - (xs[i].length : Int) < 0
        · simp [szTxt, szB, hn] at hp
          simp [loopAt, loopsOf, Tryz.f209, g0, g1, g5, hi', hxi, hwi, hx, hn, hp]
        · have e : szTxt xs[i] k = k - xs[i].length := by simp [szTxt, szB, hn]
          rw [e, if_neg hn] at hp
          simp [loopAt, loopsOf, Tryz.f209, g0, g1, g5, hi', hxi, hwi, hx, hn]
          exact ⟨by omega, by omega, hp⟩)
      (by
        rintro s o q ⟨k, g0, g1, g5, hk0, hkm, hp⟩
        simp [goSz] at hp
        have hk1 : ¬ k < 0 := by omega
        simp [loopAt, loopsOf, Tryz.f209, g0, g1, g5, hp, hk1]
        try omega)
      xs.length 0 s o q (by omega) hI)
    simp only [loopAt, loopsOf, Tryz.f209] at lp
    obtain ⟨r, hr⟩ : ∃ r, r = goSz szTxt xs (l - xs.length) := ⟨_, rfl⟩
    obtain ⟨X, A, B, C, hx⟩ := lp r hr
    have hx' := fun s o q a0 a1 a5 => hx s o q ⟨l - xs.length, a0, a1, a5, by omega, by omega, by simpa using hr⟩
    clear hx
    by_cases hn : r < 0
    · have hn' : ¬ 0 ≤ r := by omega
      simp [hn, hn'] at hx'
      simp [hw, hb, hb0, hx', hn, ← hr]
    · have hn' : 0 ≤ r := by omega
      simp [hn, hn'] at hx'
      simp [hw, hb, hb0, hx', hn, ← hr]
/-! Copies. -/
theorem toValue (v : Val) : run E (.call 17 [xV v]) = some (.res [valX v] []) := by
  rw [run_call E 17 _ rfl Tryz.func17 rfl rfl rfl (by simp)]
  simp
theorem toTerm (t : Trm) : run E (.call 357 [.t (trmT t)]) = some (.res [trmX t] []) := by
  rw [run_call E 357 _ rfl Tryz.func357 rfl rfl rfl (by simp)]
  simp [toValue t.v]
theorem toPart (p : Prt) : run E (.call 301 [.t (prtT p)]) = some (.res [prtX p] []) := by
  rw [run_call E 301 _ rfl Tryz.func301 rfl rfl rfl (by simp)]
  simp
theorem toClause (c : List Trm) (h : c.length < 4294967296) : run E (.call 179 [.t (clsT c)]) = some (.res [.agg [.row 120 (c.map trmT)]] []) := by
  rw [run_call E 179 _ rfl Tryz.func179 rfl rfl rfl (by simp)]
  have hs := to_225 c h (fun x _ => toTerm x)
  simp [hs]
theorem toFilter (f : List (List Trm)) (h : f.length < 4294967296) (hc : ∀ c ∈ f, c.length < 4294967296) : run E (.call 16 [.t (filT f)]) = some (.res [.agg [.row 236 (f.map clsT)]] []) := by
  rw [run_call E 16 _ rfl Tryz.func16 rfl rfl rfl (by simp)]
  have hs := to_114 f h (fun x hx => toClause x (hc x hx))
  simp [hs]
theorem toPartS (l : List Prt) (h : l.length < 4294967296) : run E (.call 213 [.t (.list (l.map prtT))]) = some (.res [.row 133 (l.map prtT)] []) := to_74 l h (fun x _ => toPart x)
theorem toStringS (xs : List Bytes) (hl : xs.length < 4294967296) : run E (.call 214 [.t (.list (xs.map strT))]) = some (.res [.row 9 (xs.map strT)] []) := by
  rw [run_call E 214 _ rfl Tryz.func214 rfl rfl rfl (by simp)]
  have lp := sk (fun s o q hI => loop_for (c := loopAt Tryz.f214 0) (N := 22)
    (fun i s o q => s 0 = .t (.list (xs.map strT)) ∧ s 3 = .row 0 ∧ s 4 = .t (.int .i64 i) ∧ o 0 = .row 9 ((xs.map strT).take i ++ List.replicate (xs.length - i) (.str [])) true)
    (fun e s' o' q' => e = .exit 0 ∧ s' 3 = .row 0 ∧ o' 0 = .row 9 (xs.map strT) true) xs.length
    (by
      rintro i s o q hi ⟨g0, g3, g4, ho⟩
      have hi' : (i : Int) < (xs.length : Int) := by omega
      have hwi := wrap_succ (n := i) (by omega)
      have hxi : xs[i]? = some xs[i] := List.getElem?_eq_getElem hi
      have hget := mid_get (xs.map strT) (T.str []) i xs.length hi (by simp; omega)
      have hset := mid_set (xs.map strT) (T.str []) (strT xs[i]) i xs.length hi (by simp [hxi])
      simp [loopAt, loopsOf, Tryz.f214, g0, g3, g4, hi', hxi, hwi, ho, hget, hset])
    (by
      rintro s o q ⟨g0, g3, g4, ho⟩
      have hfull : (xs.map strT).take xs.length = xs.map strT := List.take_of_length_le (by simp)
      simp [hfull] at ho
      simp [loopAt, loopsOf, Tryz.f214, g0, g3, g4, ho])
    xs.length 0 s o q (by omega) hI)
  simp only [loopAt, loopsOf, Tryz.f214] at lp
  obtain ⟨X, A, B, C, hx⟩ := lp
  simp at hx
  have h1 : xs.length ≤ 140737488355328 := by omega
  have h2 : xs.length * 16 ≤ 140737488355328 := by omega
  simp [h1, h2, hx]
/-! Equality: of what is alike. -/
theorem eqValue (v : Val) : run E (.call 119 [xV v, xV v]) = some (.res [xB true] []) := by
  rw [run_call E 119 _ rfl Tryz.func119 rfl rfl rfl (by simp)]
  simp
theorem eqTerm (t : Trm) : run E (.call 358 [.t (trmT t), .t (trmT t)]) = some (.res [xB true] []) := by
  rw [run_call E 358 _ rfl Tryz.func358 rfl rfl rfl (by simp)]
  simp [eqValue t.v]
theorem eqPart (p : Prt) : run E (.call 308 [.t (prtT p), .t (prtT p)]) = some (.res [xB true] []) := by
  rw [run_call E 308 _ rfl Tryz.func308 rfl rfl rfl (by simp)]
  simp
theorem eqClause (c : List Trm) (h : c.length < 4294967296) : run E (.call 186 [.t (clsT c), .t (clsT c)]) = some (.res [xB true] []) := by
  rw [run_call E 186 _ rfl Tryz.func186 rfl rfl rfl (by simp)]
  have hs := eq_228 c (by omega) (fun x _ => eqTerm x)
  simp [hs]
theorem eqFilter (f : List (List Trm)) (h : f.length < 4294967296) (hc : ∀ c ∈ f, c.length < 4294967296) : run E (.call 19 [.t (filT f), .t (filT f)]) = some (.res [xB true] []) := by
  rw [run_call E 19 _ rfl Tryz.func19 rfl rfl rfl (by simp)]
  have hs := eq_117 f (by omega) (fun x hx => eqClause x (hc x hx))
  simp [hs]
theorem eqPartS (l : List Prt) (h : l.length < 4294967296) : run E (.call 224 [.t (.list (l.map prtT)), .t (.list (l.map prtT))]) = some (.res [xB true] []) := eq_81 l (by omega) (fun x _ => eqPart x)
theorem eqStringS (xs : List Bytes) (hl : xs.length < 4294967296) : run E (.call 225 [.t (.list (xs.map strT)), .t (.list (xs.map strT))]) = some (.res [xB true] []) := by
  rw [run_call E 225 _ rfl Tryz.func225 rfl rfl rfl (by simp)]
  have d6 := d225_6
  simp [regionOf, findR, pick, Tryz.f225] at d6
  have dd := fun st => run_region_draw E st 6 _ d6
  clear d6
  have lp := sk (fun s o q hI => loop_for (c := loopAt Tryz.f225 0) (N := 26)
    (fun i s o q => s 0 = .t (.list (xs.map strT)) ∧ s 1 = .t (.list (xs.map strT)) ∧ s 5 = .t (.int .i64 i))
    (fun e s' o' q' => e = .exit 0) xs.length
    (by
      rintro i s o q hi ⟨g0, g1, g5⟩
      have hi' : (i : Int) < (xs.length : Int) := by omega
      have hwi := wrap_succ (n := i) (by omega)
      have hxi : xs[i]? = some xs[i] := List.getElem?_eq_getElem hi
      simp [loopAt, loopsOf, Tryz.f225, dd, g0, g1, g5, hi', hxi, hwi])
    (by
      rintro s o q ⟨g0, g1, g5⟩
      simp [loopAt, loopsOf, Tryz.f225, g0, g1, g5])
    xs.length 0 s o q (by omega) hI)
  simp only [loopAt, loopsOf, Tryz.f225] at lp
  obtain ⟨X, A, B, C, hx⟩ := lp
  simp at hx
  simp [hx]
end Go.Xd
/- The law FnExactQueryOK, run over plain data: it answers true. -/
set_option linter.unusedSimpArgs false
set_option linter.unusedVariables false
namespace Go.Xd
open Go.Ev Go.Proofs Go.Pu
set_option maxRecDepth 100000
set_option maxHeartbeats 16000000
structure Qry.Wd (q : Qry) : Prop where
  filter : filWd q.filter
  sort : prtsWd q.sort
  keep : txtsWd q.keep
  hint : W q.hint.length
def szQry (q : Qry) (l : Int) : Int := thenSz (szFil q.filter) (thenSz (lstSz szPrt q.sort) (thenSz (lstSz szTxt q.keep) (thenSz (szB q.hint.length) (fun k => k)))) l
theorem szTxt_le (t : Bytes) (k : Int) (h : 0 ≤ k) : szTxt t k ≤ k := szB_le h
theorem lstPrt_le (l : List Prt) (k : Int) (h : 0 ≤ k) : lstSz szPrt l k ≤ k := lstSz_le h (fun x _ k hk => szPrt_le x k hk)
theorem lstTxt_le (l : List Bytes) (k : Int) (h : 0 ≤ k) : lstSz szTxt l k ≤ k := lstSz_le h (fun x _ k hk => szTxt_le x k hk)
theorem szQuery (q : Qry) (h : q.Wd) (l : Int) (h0 : 0 ≤ l) (hm : l ≤ 1048576) : run E (.call 105 [.t (qryT q), xI l]) = some (.res [xI (szQry q l)] []) := by
  rw [run_call E 105 _ rfl Tryz.func105 rfl rfl rfl (by simp)]
  have h1 := szFilter q.filter h.filter l h0 hm
  have l1 := szFil_le q.filter l h0
  unfold szQry thenSz
  by_cases n1 : szFil q.filter l < 0
  · simp [h1, n1]
  · have h2 := szPartS q.sort h.sort (szFil q.filter l) (by omega) (by omega)
    have l2 := lstPrt_le q.sort (szFil q.filter l) (by omega)
    by_cases n2 : lstSz szPrt q.sort (szFil q.filter l) < 0
    · simp [h1, n1, h2, n2]
    · have h3 := szStringS q.keep h.keep (lstSz szPrt q.sort (szFil q.filter l)) (by omega) (by omega)
      have l3 := lstTxt_le q.keep (lstSz szPrt q.sort (szFil q.filter l)) (by omega)
      by_cases n3 : lstSz szTxt q.keep (lstSz szPrt q.sort (szFil q.filter l)) < 0
      · simp [h1, n1, h2, n2, h3, n3]
      · have hw := wrap_sz (n := q.hint.length) (l := lstSz szTxt q.keep (lstSz szPrt q.sort (szFil q.filter l))) h.hint (by omega) (by omega)
        generalize lstSz szTxt q.keep (lstSz szPrt q.sort (szFil q.filter l)) = k at *
        by_cases hb : k - (q.hint.length : Int) < 0
        · have e : szB q.hint.length k = -1 := by simp [szB, hb]
          simp [h1, n1, h2, n2, h3, n3, hw, hb, e]
        · have e : szB q.hint.length k = k - q.hint.length := by simp [szB, hb]
          simp [h1, n1, h2, n2, h3, n3, hw, hb, e]
theorem thenSz_neg {f g : Int → Int} {l : Int} (h : ¬ thenSz f g l < 0) : ¬ f l < 0 ∧ ¬ g (f l) < 0 := by
  unfold thenSz at h
  split at h
  · omega
  · rename_i hf; exact ⟨hf, h⟩
theorem szTrm_sm {t : Trm} {k : Int} (h0 : 0 ≤ k) (hm : k ≤ 1048576) (h : ¬ szTrm t k < 0) : t.sm := by
  obtain ⟨h1, h2⟩ := thenSz_neg h
  obtain ⟨h3, _⟩ := thenSz_neg h2
  have b1 := szB_bound h1
  have b2 := szB_bound h3
  have := szB_le (n := t.path.length) h0
  exact ⟨by omega, by omega⟩
theorem szCls_sm {c : List Trm} {k : Int} (h0 : 0 ≤ k) (hm : k ≤ 1048576) (h : ¬ szCls c k < 0) : clauseSm c := by
  obtain ⟨h1, h2⟩ := thenSz_neg h
  obtain ⟨b1, b2⟩ := lstSz_all (P := Trm.sm) (m := 1048576) h0 hm (fun x _ k hk => szTrm_le x k hk) (fun x _ k hk hm h => szTrm_sm hk hm h) h1
  exact ⟨by omega, b2⟩
theorem szFil_sm {c : List (List Trm)} {k : Int} (h0 : 0 ≤ k) (hm : k ≤ 1048576) (h : ¬ szFil c k < 0) : filterSm c := by
  obtain ⟨h1, h2⟩ := thenSz_neg h
  obtain ⟨b1, b2⟩ := lstSz_all (P := clauseSm) (m := 1048576) h0 hm (fun x _ k hk => szCls_le x k hk) (fun x _ k hk hm h => szCls_sm hk hm h) h1
  exact ⟨by omega, b2⟩
theorem lstPrt_sm {c : List Prt} {k : Int} (h0 : 0 ≤ k) (hm : k ≤ 1048576) (h : ¬ lstSz szPrt c k < 0) : partsSm c := by
  obtain ⟨b1, b2⟩ := lstSz_all (P := fun p => p.path.length < 4294967296) (m := 1048576) h0 hm (fun x _ k hk => szPrt_le x k hk) (fun x _ k hk hm h => by have := szB_bound h; omega) h
  exact ⟨by omega, b2⟩
theorem lstTxt_sm {c : List Bytes} {k : Int} (h0 : 0 ≤ k) (hm : k ≤ 1048576) (h : ¬ lstSz szTxt c k < 0) : textsSm c := by
  obtain ⟨b1, b2⟩ := lstSz_all (P := fun p => p.length < 4294967296) (m := 1048576) h0 hm (fun x _ k hk => szTxt_le x k hk) (fun x _ k hk hm h => by have := szB_bound h; omega) h
  exact ⟨by omega, b2⟩
theorem szQry_sm {q : Qry} (h : ¬ szQry q 1048576 < 0) : q.Sm := by
  obtain ⟨h1, h2⟩ := thenSz_neg h
  obtain ⟨h3, h4⟩ := thenSz_neg h2
  obtain ⟨h5, h6⟩ := thenSz_neg h4
  obtain ⟨h7, _⟩ := thenSz_neg h6
  have l1 := szFil_le q.filter 1048576 (by omega)
  have l2 := lstPrt_le q.sort (szFil q.filter 1048576) (by omega)
  have l3 := lstTxt_le q.keep (lstSz szPrt q.sort (szFil q.filter 1048576)) (by omega)
  have b := szB_bound h7
  exact ⟨szFil_sm (by omega) (by omega) h1, lstPrt_sm (by omega) (by omega) h3, lstTxt_sm (by omega) (by omega) h5, by omega⟩
theorem toQuery (q : Qry) (h : q.Sm) : run E (.call 112 [.t (qryT q)]) = some (.res [.agg [.row 236 (q.filter.map clsT), .row 133 (q.sort.map prtT), xI q.skip, xI q.limit, .row 9 (q.keep.map strT), xS q.hint]] []) := by
  rw [run_call E 112 _ rfl Tryz.func112 rfl rfl rfl (by simp)]
  have h1 := toFilter q.filter h.filter.1 (fun c hc => (h.filter.2 c hc).1)
  have h2 := toPartS q.sort h.sort.1
  have h3 := toStringS q.keep h.keep.1
  simp [h1, h2, h3]
theorem eqQuery (q : Qry) (h : q.Sm) : run E (.call 120 [.t (qryT q), .t (qryT q)]) = some (.res [xB true] []) := by
  rw [run_call E 120 _ rfl Tryz.func120 rfl rfl rfl (by simp)]
  have h1 := eqFilter q.filter h.filter.1 (fun c hc => (h.filter.2 c hc).1)
  have h2 := eqPartS q.sort h.sort.1
  have h3 := eqStringS q.keep h.keep.1
  simp [h1, h2, h3]
end Go.Xd
/-
  DERIVED: THE SHELF's CONTRACTS AT THIS DUMP, IN PLAIN WORDS (tools/lay-plain.mjs out of 'TryzShelf.lean', which tools/lay-shelf.mjs wrote): THE SAME DECLARATIONS UNDER THE SAME NAMES: 'import', 'namespace', 'open', 'def', 'theorem' AND NOTHING ELSE: no command of the shelf's: FOR A HAND-IN. Each laying: the table of numbers ('.._ren') and one theorem, a field a fact of the dump's own or the kernel's comparison; each contract: ONE APPLICATION.
-/
namespace Go.Proofs
open Go.Shelf
def Tryz.lays156_ren : Go.Shelf.Ren := ⟨fun | 156 => 176 | 165 => 285 | 166 => 286 | 169 => 287 | 240 => 352 | 241 => 353 | 276 => 380 | 277 => 381 | n => n, fun | 31 => 64 | 9 => 9 | 3 => 3 | 4 => 4 | 0 => 0 | 20 => 20 | 72 => 336 | 76 => 340 | 70 => 334 | 37 => 110 | 75 => 339 | 127 => 390 | 164 => 415 | 5 => 5 | 80 => 305 | n => n, fun | n => n⟩
theorem Tryz.lays156 : Go.Proofs.Lays.n156 Tryz.prog Tryz.lays156_ren := {
  mixed := by kernel_rfl
  f156 := Tryz.func176.trans (congrArg some (by kernel_rfl))
  f165 := Tryz.func285.trans (congrArg some (by kernel_rfl))
  f166 := Tryz.func286.trans (congrArg some (by kernel_rfl))
  f169 := Tryz.func287.trans (congrArg some (by kernel_rfl))
  f240 := Tryz.func352.trans (congrArg some (by kernel_rfl))
  f241 := Tryz.func353.trans (congrArg some (by kernel_rfl))
  f276 := Tryz.func380.trans (congrArg some (by kernel_rfl))
  f277 := Tryz.func381.trans (congrArg some (by kernel_rfl))
  t0 := Tryz.underlying0
  a0 := Tryz.isAgg0
  z0 := Tryz.sizeOf0
  v0 := Tryz.zeroValue0
  t3 := Tryz.underlying3
  a3 := Tryz.isAgg3
  z3 := Tryz.sizeOf3
  v3 := Tryz.zeroValue3
  t4 := Tryz.underlying4
  a4 := Tryz.isAgg4
  z4 := Tryz.sizeOf4
  v4 := Tryz.zeroValue4
  t9 := Tryz.underlying9
  a9 := Tryz.isAgg9
  z9 := Tryz.sizeOf9
  v9 := Tryz.zeroValue9
  t20 := Tryz.underlying20
  a20 := Tryz.isAgg20
  z20 := Tryz.sizeOf20
  v20 := Tryz.zeroValue20
  t31 := Tryz.underlying64
  a31 := Tryz.isAgg64
  z31 := Tryz.sizeOf64
  v31 := Tryz.zeroValue64
  t37 := Tryz.underlying110
  a37 := Tryz.isAgg110
  z37 := Tryz.sizeOf110
  v37 := Tryz.zeroValue110
  t70 := Tryz.underlying334
  a70 := Tryz.isAgg334
  z70 := Tryz.sizeOf334
  v70 := Tryz.zeroValue334
  t72 := Tryz.underlying336
  a72 := Tryz.isAgg336
  z72 := Tryz.sizeOf336
  v72 := Tryz.zeroValue336
  t75 := Tryz.underlying339
  a75 := Tryz.isAgg339
  z75 := Tryz.sizeOf339
  v75 := Tryz.zeroValue339
  t76 := Tryz.underlying340
  a76 := Tryz.isAgg340
  z76 := Tryz.sizeOf340
  v76 := Tryz.zeroValue340
  t127 := Tryz.underlying390
  a127 := Tryz.isAgg390
  z127 := Tryz.sizeOf390
  v127 := Tryz.zeroValue390
  t164 := Tryz.underlying415
  a164 := Tryz.isAgg415
  z164 := Tryz.sizeOf415
  v164 := Tryz.zeroValue415 }
theorem Tryz.Builder_Extra_156 : Builder.Extra Tryz.prog Tryz.lays156_ren := {
  sizeBuilder := by kernel_rfl
  liesBuilder := by kernel_rfl
  t5 := Tryz.underlying5
  a5 := Tryz.isAgg5
  z5 := Tryz.sizeOf5
  v5 := Tryz.zeroValue5
  infoByte := by kernel_rfl
  cellsByte := by kernel_rfl
  sizeByte := by kernel_rfl
  neB5 := by decide }
open Go.RowKit in
theorem Tryz.strings_Join_none (a : Option Addr) (c : Nat) (sep : ByteArray) (w : World) :
    Calls Tryz.prog 176 #[.slice a 0 c, .string sep] w fun e w' => e = .returned (.string ⟨#[]⟩) ∧ w' = w := Any.strings_Join_none Tryz.lays156 Tryz.Builder_Extra_156 a c sep w
open Go.RowKit in
theorem Tryz.strings_Join (bk o c : Nat) (xs : List ByteArray) (sep : ByteArray) (w : World) (hcells : ∀ (j : Nat) x, xs[j]? = some x → w.cell? ⟨bk, o + j, none⟩ = some (.string x)) (hbk : bk < w.heap.size) (hN : xs.length ≤ 140737488355328) (hcap : xs.length ≤ c) (hlen : (Lib.join (xs.map (·.data.toList)) sep.data.toList).length ≤ 140737488355328) :
    Calls Tryz.prog 176 #[.slice (some ⟨bk, o, none⟩) xs.length c, .string sep] w fun e w' => e = .returned (.string ⟨(Lib.join (xs.map (·.data.toList)) sep.data.toList).toArray⟩) ∧ Below w.heap.size w w' := Any.strings_Join Tryz.lays156 Tryz.Builder_Extra_156 bk o c xs sep w hcells hbk hN hcap hlen
def Tryz.lays213_ren : Go.Shelf.Ren := ⟨fun | 213 => 296 | 265 => 361 | n => n, fun | 9 => 9 | 3 => 3 | n => n, fun | n => n⟩
theorem Tryz.lays213 : Go.Proofs.Lays.n213 Tryz.prog Tryz.lays213_ren := {
  mixed := by kernel_rfl
  f213 := Tryz.func296.trans (congrArg some (by kernel_rfl))
  f265 := Tryz.func361.trans (congrArg some (by kernel_rfl))
  t3 := Tryz.underlying3
  a3 := Tryz.isAgg3
  z3 := Tryz.sizeOf3
  v3 := Tryz.zeroValue3
  t9 := Tryz.underlying9
  a9 := Tryz.isAgg9
  z9 := Tryz.sizeOf9
  v9 := Tryz.zeroValue9 }
open Go.RowKit in
theorem Tryz.bytealg_CompareString (a b : ByteArray) (w : World) :
    Calls Tryz.prog 296 #[.string a, .string b] w fun e w' => e = .returned (.int .i64 (Lib.compareBytes a.data.toList b.data.toList)) ∧ w' = w := Any.bytealg_CompareString Tryz.lays213 a b w
def Tryz.laysM171_ren : Go.Shelf.Ren := ⟨fun | 171 => 282 | 243 => 348 | 246 => 377 | 283 => 392 | 284 => 393 | 285 => 394 | 286 => 395 | 129 => 408 | 317 => 407 | 318 => 409 | 319 => 410 | 320 => 411 | 337 => 420 | 338 => 421 | n => n, fun | 3 => 3 | 9 => 9 | 2 => 2 | 4 => 4 | 171 => 422 | 0 => 0 | 53 => 423 | 37 => 110 | 5 => 5 | 173 => 426 | 212 => 440 | 51 => 441 | 20 => 20 | 213 => 442 | 46 => 375 | 232 => 454 | 233 => 455 | n => n, fun | 17 => 2 | 18 => 5 | 19 => 6 | n => n⟩
theorem Tryz.laysM171 : Go.Proofs.LaysM.n171 Tryz.prog Tryz.laysM171_ren := {
  mixed := by kernel_rfl
  f129 := Tryz.func408.trans (congrArg some (by kernel_rfl))
  f171 := Tryz.func282.trans (congrArg some (by kernel_rfl))
  f243 := Tryz.func348.trans (congrArg some (by kernel_rfl))
  f246 := Tryz.func377.trans (congrArg some (by kernel_rfl))
  f283 := Tryz.func392.trans (congrArg some (by kernel_rfl))
  f284 := Tryz.func393.trans (congrArg some (by kernel_rfl))
  f285 := Tryz.func394.trans (congrArg some (by kernel_rfl))
  f286 := Tryz.func395.trans (congrArg some (by kernel_rfl))
  f317 := Tryz.func407.trans (congrArg some (by kernel_rfl))
  f318 := Tryz.func409.trans (congrArg some (by kernel_rfl))
  f319 := Tryz.func410.trans (congrArg some (by kernel_rfl))
  f320 := Tryz.func411.trans (congrArg some (by kernel_rfl))
  f337 := Tryz.func420.trans (congrArg some (by kernel_rfl))
  f338 := Tryz.func421.trans (congrArg some (by kernel_rfl))
  t0 := Tryz.underlying0
  a0 := Tryz.isAgg0
  z0 := Tryz.sizeOf0
  v0 := Tryz.zeroValue0
  t2 := Tryz.underlying2
  a2 := Tryz.isAgg2
  z2 := Tryz.sizeOf2
  v2 := Tryz.zeroValue2
  t3 := Tryz.underlying3
  a3 := Tryz.isAgg3
  z3 := Tryz.sizeOf3
  v3 := Tryz.zeroValue3
  t4 := Tryz.underlying4
  a4 := Tryz.isAgg4
  z4 := Tryz.sizeOf4
  v4 := Tryz.zeroValue4
  t5 := Tryz.underlying5
  a5 := Tryz.isAgg5
  z5 := Tryz.sizeOf5
  v5 := Tryz.zeroValue5
  t9 := Tryz.underlying9
  a9 := Tryz.isAgg9
  z9 := Tryz.sizeOf9
  v9 := Tryz.zeroValue9
  t20 := Tryz.underlying20
  a20 := Tryz.isAgg20
  z20 := Tryz.sizeOf20
  v20 := Tryz.zeroValue20
  t37 := Tryz.underlying110
  a37 := Tryz.isAgg110
  z37 := Tryz.sizeOf110
  v37 := Tryz.zeroValue110
  t46 := Tryz.underlying375
  a46 := Tryz.isAgg375
  z46 := Tryz.sizeOf375
  v46 := Tryz.zeroValue375
  t51 := Tryz.underlying441
  a51 := Tryz.isAgg441
  z51 := Tryz.sizeOf441
  v51 := Tryz.zeroValue441
  t53 := Tryz.underlying423
  a53 := Tryz.isAgg423
  z53 := Tryz.sizeOf423
  v53 := Tryz.zeroValue423
  t171 := Tryz.underlying422
  a171 := Tryz.isAgg422
  z171 := Tryz.sizeOf422
  v171 := Tryz.zeroValue422
  t173 := Tryz.underlying426
  a173 := Tryz.isAgg426
  z173 := Tryz.sizeOf426
  v173 := Tryz.zeroValue426
  t212 := Tryz.underlying440
  a212 := Tryz.isAgg440
  z212 := Tryz.sizeOf440
  v212 := Tryz.zeroValue440
  t213 := Tryz.underlying442
  a213 := Tryz.isAgg442
  z213 := Tryz.sizeOf442
  t232 := Tryz.underlying454
  a232 := Tryz.isAgg454
  z232 := Tryz.sizeOf454
  v232 := Tryz.zeroValue454
  t233 := Tryz.underlying455
  a233 := Tryz.isAgg455
  z233 := Tryz.sizeOf455
  v233 := Tryz.zeroValue455
  g17 := by kernel_rfl
  g18 := by kernel_rfl
  g19 := by kernel_rfl
  i0 := by kernel_rfl
  i2 := by kernel_rfl
  i3 := by kernel_rfl
  i4 := by kernel_rfl
  i5 := by kernel_rfl
  i9 := by kernel_rfl
  i20 := by kernel_rfl
  i37 := by kernel_rfl
  i46 := by kernel_rfl
  i51 := by kernel_rfl
  i53 := by kernel_rfl
  i171 := by kernel_rfl
  i173 := by kernel_rfl
  i212 := by kernel_rfl
  i232 := by kernel_rfl
  i233 := by kernel_rfl
  m17 := by kernel_rfl
  m18 := by kernel_rfl
  m19 := by kernel_rfl }
def Tryz.lays105_ren : Go.Shelf.Ren := ⟨fun | 105 => 378 | 212 => 396 | 99 => 397 | 165 => 285 | 166 => 286 | 170 => 398 | 169 => 287 | 263 => 412 | 264 => 413 | 206 => 414 | 240 => 352 | 241 => 353 | 276 => 380 | 277 => 381 | n => n, fun | 9 => 9 | 3 => 3 | 4 => 4 | 20 => 20 | 0 => 0 | 46 => 375 | 109 => 428 | 5 => 5 | 72 => 336 | 76 => 340 | 51 => 441 | 146 => 444 | 53 => 423 | 148 => 446 | 70 => 334 | 37 => 110 | 75 => 339 | 127 => 390 | 164 => 415 | 80 => 305 | n => n, fun | n => n⟩
theorem Tryz.lays105 : Go.Proofs.Lays.n105 Tryz.prog Tryz.lays105_ren := {
  mixed := by kernel_rfl
  f99 := Tryz.func397.trans (congrArg some (by kernel_rfl))
  f105 := Tryz.func378.trans (congrArg some (by kernel_rfl))
  f165 := Tryz.func285.trans (congrArg some (by kernel_rfl))
  f166 := Tryz.func286.trans (congrArg some (by kernel_rfl))
  f169 := Tryz.func287.trans (congrArg some (by kernel_rfl))
  f170 := Tryz.func398.trans (congrArg some (by kernel_rfl))
  f206 := Tryz.func414.trans (congrArg some (by kernel_rfl))
  f212 := Tryz.func396.trans (congrArg some (by kernel_rfl))
  f240 := Tryz.func352.trans (congrArg some (by kernel_rfl))
  f241 := Tryz.func353.trans (congrArg some (by kernel_rfl))
  f263 := Tryz.func412.trans (congrArg some (by kernel_rfl))
  f264 := Tryz.func413.trans (congrArg some (by kernel_rfl))
  f276 := Tryz.func380.trans (congrArg some (by kernel_rfl))
  f277 := Tryz.func381.trans (congrArg some (by kernel_rfl))
  t0 := Tryz.underlying0
  a0 := Tryz.isAgg0
  z0 := Tryz.sizeOf0
  v0 := Tryz.zeroValue0
  t3 := Tryz.underlying3
  a3 := Tryz.isAgg3
  z3 := Tryz.sizeOf3
  v3 := Tryz.zeroValue3
  t4 := Tryz.underlying4
  a4 := Tryz.isAgg4
  z4 := Tryz.sizeOf4
  v4 := Tryz.zeroValue4
  t5 := Tryz.underlying5
  a5 := Tryz.isAgg5
  z5 := Tryz.sizeOf5
  v5 := Tryz.zeroValue5
  t9 := Tryz.underlying9
  a9 := Tryz.isAgg9
  z9 := Tryz.sizeOf9
  v9 := Tryz.zeroValue9
  t20 := Tryz.underlying20
  a20 := Tryz.isAgg20
  z20 := Tryz.sizeOf20
  v20 := Tryz.zeroValue20
  t37 := Tryz.underlying110
  a37 := Tryz.isAgg110
  z37 := Tryz.sizeOf110
  v37 := Tryz.zeroValue110
  t46 := Tryz.underlying375
  a46 := Tryz.isAgg375
  z46 := Tryz.sizeOf375
  v46 := Tryz.zeroValue375
  t51 := Tryz.underlying441
  a51 := Tryz.isAgg441
  z51 := Tryz.sizeOf441
  v51 := Tryz.zeroValue441
  t53 := Tryz.underlying423
  a53 := Tryz.isAgg423
  z53 := Tryz.sizeOf423
  v53 := Tryz.zeroValue423
  t70 := Tryz.underlying334
  a70 := Tryz.isAgg334
  z70 := Tryz.sizeOf334
  v70 := Tryz.zeroValue334
  t72 := Tryz.underlying336
  a72 := Tryz.isAgg336
  z72 := Tryz.sizeOf336
  v72 := Tryz.zeroValue336
  t75 := Tryz.underlying339
  a75 := Tryz.isAgg339
  z75 := Tryz.sizeOf339
  v75 := Tryz.zeroValue339
  t76 := Tryz.underlying340
  a76 := Tryz.isAgg340
  z76 := Tryz.sizeOf340
  v76 := Tryz.zeroValue340
  t109 := Tryz.underlying428
  a109 := Tryz.isAgg428
  z109 := Tryz.sizeOf428
  v109 := Tryz.zeroValue428
  t127 := Tryz.underlying390
  a127 := Tryz.isAgg390
  z127 := Tryz.sizeOf390
  v127 := Tryz.zeroValue390
  t146 := Tryz.underlying444
  a146 := Tryz.isAgg444
  z146 := Tryz.sizeOf444
  v146 := Tryz.zeroValue444
  t148 := Tryz.underlying446
  a148 := Tryz.isAgg446
  z148 := Tryz.sizeOf446
  v148 := Tryz.zeroValue446
  t164 := Tryz.underlying415
  a164 := Tryz.isAgg415
  z164 := Tryz.sizeOf415
  v164 := Tryz.zeroValue415 }
theorem Tryz.Builder_Extra_105 : Builder.Extra Tryz.prog Tryz.lays105_ren := {
  sizeBuilder := by kernel_rfl
  liesBuilder := by kernel_rfl
  t5 := Tryz.underlying5
  a5 := Tryz.isAgg5
  z5 := Tryz.sizeOf5
  v5 := Tryz.zeroValue5
  infoByte := by kernel_rfl
  cellsByte := by kernel_rfl
  sizeByte := by kernel_rfl
  neB5 := by decide }
open Go.RowKit Go.Lib in
theorem Tryz.strings_Repeat (s : ByteArray) (c : Nat) (w : World) (hc : c ≤ 9223372036854775807) (hlen : s.size * c ≤ 140737488355328) :
    Calls Tryz.prog 378 #[.string s, .int .i64 c] w fun e w' => e = .returned (.string ⟨(Lib.repeatL s.data.toList c).toArray⟩) ∧ Below w.heap.size w w' := Any.strings_Repeat Tryz.lays105 Tryz.Builder_Extra_105 s c w hc hlen
end Go.Proofs
/- With more tables laid the evaluator answers no less. -/
set_option linter.unusedSimpArgs false
set_option linter.unusedVariables false
namespace Go.Ev

abbrev Env.withGlob (E : Env) (g : Nat → List T) : Env := { E with glob := g }
theorem resVals_more {E : Env} {g : Nat → List T} {st : St} : ∀ l : List ResultVar, st.resVals (E.withGlob g) l = st.resVals E l
  | [] => rfl
  | .tmp t :: r => by simp only [St.resVals, resVals_more r]
  | .cell a t :: r => by
    have : st.loadAt (E.withGlob g) t (st.val (.tmp a)) = st.loadAt E t (st.val (.tmp a)) := rfl
    simp only [St.resVals, resVals_more r, this]
theorem finish_more {E : Env} {g : Nat → List T} {st : St} {fl : Bool} {l : List ResultVar} {ms : List SV} : st.finish (E.withGlob g) fl l ms = st.finish E fl l ms := by
  unfold St.finish
  rw [resVals_more]
section
variable {E : Env} {g : Nat → List T} (hg : ∀ k, E.glob k ≠ [] → g k = E.glob k)
include hg
theorem globAt_more {t k : Nat} {i r : SV} (h : globAt E t k i = some r) : globAt (E.withGlob g) t k i = some r := by
  unfold globAt at h ⊢
  have ha : (E.withGlob g).arr = E.arr := rfl
  have hgl : (E.withGlob g).glob = g := rfl
  rw [ha, hgl]
  split at h
  · split at h
    · rename_i hj
      rw [if_pos hj]
      split at h
      · rename_i y hy
        rw [hg k (fun e => by rw [e] at hy; simp at hy), hy]
        exact h
      · cases h
    · cases h
  · cases h
theorem indexAt_more {st : St} {t : Nat} {v i r : SV} (h : st.indexAt E t v i = some r) : st.indexAt (E.withGlob g) t v i = some r := by
  cases v with
  | glob k => exact globAt_more hg h
  | _ => exact h
theorem op_more {st : St} {op : Op} {r : SV × St} (h : st.op E op = some r) : st.op (E.withGlob g) op = some r := by
  cases op with
  | indexAddr t x i =>
    simp only [St.op, Option.map_eq_some_iff] at h ⊢
    obtain ⟨a, h1, h2⟩ := h
    exact ⟨a, indexAt_more hg h1, h2⟩
  | makeFunc f a b => cases f <;> exact h
  | _ => exact h
theorem opM_more {st : St} {m : Md} {op : Op} {r : SV × St} (h : st.opM E m op = some r) : st.opM (E.withGlob g) m op = some r := by
  cases m with
  | none => exact op_more hg h
  | some p =>
    by_cases hb : ∃ t n ps, op = .buildSlice t n ps
    · obtain ⟨t, n, ps, rfl⟩ := hb
      exact h
    · have he : ∀ E : Env, st.opM E (some p) op = st.op E op := by
        intro E
        cases op <;> first | rfl | exact absurd ⟨_, _, _, rfl⟩ hb
      rw [he] at h ⊢
      exact op_more hg h
theorem body_more {rn : Task → Option Out} {t : Task} {o : Out} (h : body E rn t = some o) : body (E.withGlob g) rn t = some o := by
  cases t with
  | code c st => exact h
  | call f args =>
    unfold body at h ⊢
    dsimp only at h ⊢
    simp only [finish_more]
    exact h
  | ops m all l st =>
    cases l with
    | nil => exact h
    | cons o r =>
      unfold body at h ⊢
      dsimp only at h ⊢
      split at h
      · cases h
      · rename_i hd
        rw [if_neg hd]
        split at h
        · cases h
        · exact h
        · split at h
          · exact h
          · rename_i hne
            split at h
            · cases h
            · rename_i v st1 hop
              have hop2 := opM_more hg hop
              first
                | (simp only [hop2]
                   split
                   · rename_i f args at' hop'
                     exact absurd hop' (hne _ _ _)
                   · exact h)
                | (split
                   · rename_i hn
                     rw [hop2] at hn; cases hn
                   · rename_i v2 st2 hs
                     rw [hop2] at hs
                     injection hs with hs
                     injection hs with e1 e2
                     subst e1; subst e2
                     exact h)
theorem run_more {t : Task} {o : Out} (h : run E t = some o) : run (E.withGlob g) t = some o := by
  obtain ⟨n, hn⟩ := run_iff.1 h
  clear h
  refine run_iff.2 ⟨n, ?_⟩
  induction n generalizing t o with
  | zero => cases hn
  | succ n ih => exact body_mono (E := E.withGlob g) (rn := runN E n) (rn' := runN (E.withGlob g) n) (fun t o ht => ih ht) (body_more hg (show body E (runN E n) t = some o from hn))
end
end Go.Ev
/- The library's functions that are met by their contracts. -/
set_option linter.unusedSimpArgs false
set_option linter.unusedVariables false
namespace Go.Xd
open Go.Ev Go.Proofs Go.RowKit
theorem same_of_below {w w' : World} (h : Below w.heap.size w w') : Same w w' (fun _ => False) := ⟨h.size, fun k hk _ => h.block k hk, h.tape, h.os, h.output⟩
theorem callOK_flat {E : Env} {P : Program} {f : Nat} {args : List X} {r : T} (hr : r.flat = true) (h1 : r.one = true) (hm : E.md f = [])
    (h : ∀ (F : Nat → Prop) (w : World) (vals : Array Value) (bl : List Nat), XVs E F w args vals.toList bl → (∀ k, F k → k < w.heap.size) → Laid E F w → ∃ v, RD F w r v ∧ ((callFunc f vals).run P w = .ok (.value v) w ∨ ((callFunc f vals).run P w = .ok (.enter f vals) w ∧ Calls P f vals w (fun e w' => e = .returned v ∧ Below w.heap.size w w')))) :
    CallOK E P f args [.t r] [] := by
  refine ⟨fun _ => ⟨by simp [X.flats, X.flat, hr], rfl, rfl⟩, fun F w vals bl hx hn hb hF hL => ?_⟩
  obtain ⟨v, hv, hc⟩ := h F w vals bl hx hF hL
  have key : ∀ w', Below w.heap.size w w' → Go.Ev.Leaves E F w bl (muts (E.md f) vals.toList) [.t r] [] [v] w' := by
    intro w' hw
    refine ⟨F, [], [], (same_of_below hw).mono (fun _ _ h => h.elim), fun _ h => h, fun _ h => .inl h, fun k hk => Nat.lt_of_lt_of_le (hF k hk) hw.size, .cons (b := []) (.t (hv.flat hr)) .nil, ?_, by simp, by simp⟩
    rw [hm, show muts [] vals.toList = [] from muts_nil _]
    exact .nil
  rcases hc with hc | ⟨hc, hC⟩
  · exact .inr ⟨v, w, hc, [v], rfl, key w (Below.refl _ _)⟩
  · refine .inl ⟨hc, hC.mono ?_⟩
    rintro e w' ⟨rfl, hw⟩
    exact ⟨[v], rfl, key w' hw⟩
theorem xvs_two {E : Env} {F : Nat → Prop} {w : World} {a b : T} {vs : List Value} {bl : List Nat} (h : XVs E F w [.t a, .t b] vs bl) : ∃ u v, vs = [u, v] ∧ RD F w a u ∧ RD F w b v := by
  cases h with
  | cons h r =>
    cases r with
    | cons h' r' =>
      cases r' with
      | nil =>
        cases h with
        | t h => cases h' with
          | t h' => exact ⟨_, _, rfl, h, h'⟩
theorem arr_two {vals : Array Value} {u v : Value} (h : vals.toList = [u, v]) : vals = #[u, v] := by
  cases vals; simpa using h
theorem xvs_one {E : Env} {F : Nat → Prop} {w : World} {a : T} {vs : List Value} {bl : List Nat} (h : XVs E F w [.t a] vs bl) : ∃ u, vs = [u] ∧ RD F w a u := by
  cases h with
  | cons h r =>
    cases r with
    | nil =>
      cases h with
      | t h => exact ⟨_, rfl, h⟩
theorem arr_one {vals : Array Value} {u : Value} (h : vals.toList = [u]) : vals = #[u] := by
  cases vals; simpa using h
theorem strsOf_map : ∀ {xs : List T} {l : List (List UInt8)}, strsOf xs = some l → xs = l.map T.str
  | [], l, h => by simp [strsOf] at h; subst h; rfl
  | .str s :: r, l, h => by
    simp only [strsOf, Option.map_eq_some_iff] at h
    obtain ⟨l', h1, rfl⟩ := h
    rw [strsOf_map h1]; rfl
  | .int _ _ :: _, l, h => by simp [strsOf] at h
  | .bool _ :: _, l, h => by simp [strsOf] at h
  | .list _ :: _, l, h => by simp [strsOf] at h
  | .agg _ :: _, l, h => by simp [strsOf] at h
theorem pow_tab {G : Nat → List T} (hG : G 2 = Lib.pow10Tab.map (T.int .u64)) {F : Nat → Prop} {w : World} (h : Laid (E.withGlob G) F w) {name : String} (hg : Tryz.prog.globalNamed name = some 2) : Lib.TabIs Tryz.prog w name .u64 Lib.pow10Tab := by
  have e : (E.withGlob G).glob 2 = Lib.pow10Tab.map (T.int .u64) := hG
  obtain ⟨_, a, b, hh⟩ := h 2 (by
    rw [e]
    intro e
    have := congrArg List.length e
    have e2 : (Lib.pow10Tab.map (T.int .u64)).length = 20 := by kernel_rfl
    rw [e2] at this
    cases this)
  unfold Lib.TabIs World.var?
  rw [hg, Option.bind_some, hh]
  rw [e, List.map_map]
  rfl
theorem below_gr (w : World) (k : Nat) (os : Array Obj) : Below w.heap.size w (Sort.grow (w.drewN k) os) := Lib.below_grow _ w (Nat.le_refl _) k os
/-- A list of texts that is read: its cells. -/
theorem strs_cells {F : Nat → Prop} {w : World} {l : List (List UInt8)} {v : Value} (h : RD F w (.list (l.map T.str)) v) : ∃ A c, v = .slice A l.length c ∧ l.length ≤ c ∧ (l ≠ [] → ∃ g o, A = some ⟨g, o, none⟩ ∧ F g ∧ ∀ (j : Nat) x, l[j]? = some x → w.cell? ⟨g, o + j, none⟩ = some (.string ⟨⟨x⟩⟩)) := by
  generalize hxs : l.map T.str = xs at h
  cases h with
  | list _ A c sz cell hc hm hz hwd h1 ha hr =>
    subst hxs
    refine ⟨A, c, by simp, by simpa using hc, fun hne => ?_⟩
    obtain ⟨g, o, e, hF, hcell⟩ := ha (by simpa using hne)
    have hsz : sz = 1 := by
      obtain ⟨x, r, rfl⟩ : ∃ x r, l = x :: r := by
        cases l with
        | nil => exact absurd rfl hne
        | cons x r => exact ⟨x, r, rfl⟩
      have := hwd (T.str x) (by simp)
      simpa [T.cells] using this.symm
    subst hsz
    refine ⟨g, o, e, hF, fun j x hj => ?_⟩
    have hlt := (List.getElem?_eq_some_iff.1 hj).1
    have h2 := hcell j 0 (by simpa using hlt) (by omega)
    have h3 := hr j (T.str x) 0 (T.str x) (by simp [hj]) rfl
    rw [Nat.mul_one, Nat.add_zero] at h2
    rw [h2]
    generalize cell j 0 = u at h3
    cases h3
    rfl
theorem ext_ok (G : Nat → List T) (hG : G 2 = Lib.pow10Tab.map (T.int .u64)) : ∀ f g args rs bs, extOf f = some g → g args = some (rs, bs) → CallOK (E.withGlob G) Tryz.prog f args rs bs := by
  intro f g args rs bs hx hg
  unfold extOf at hx
  split at hx
  · obtain rfl := Option.some.inj hx
    dsimp only at hg
    split at hg
    · rename_i a b
      obtain ⟨rfl, rfl⟩ := Prod.mk.inj (Option.some.inj hg)
      refine callOK_flat rfl rfl rfl (fun F w vals bl h _ _ => ?_)
      obtain ⟨u, v, hv, hu, hv'⟩ := xvs_two h
      obtain rfl := arr_two hv
      cases hu; cases hv'
      refine ⟨_, .int _ _, .inr ⟨Go.Proofs.enters_of Tryz.func296 (by kernel_rfl) rfl _ _, (Tryz.bytealg_CompareString ⟨⟨a⟩⟩ ⟨⟨b⟩⟩ w).mono ?_⟩⟩
      rintro e w' ⟨rfl, rfl⟩
      exact ⟨rfl, Below.refl _ _⟩
    · cases hg
  · obtain rfl := Option.some.inj hx
    dsimp only at hg
    split at hg
    · rename_i a n
      split at hg
      · rename_i hn
        obtain ⟨rfl, rfl⟩ := Prod.mk.inj (Option.some.inj hg)
        refine callOK_flat rfl rfl rfl (fun F w vals bl h _ _ => ?_)
        obtain ⟨u, v, hv, hu, hv'⟩ := xvs_two h
        obtain rfl := arr_two hv
        cases hu; cases hv'
        obtain ⟨h0, h1, h2⟩ := hn
        have hc := Tryz.strings_Repeat ⟨⟨a⟩⟩ n.toNat w (by omega) (by simpa [ByteArray.size] using h2)
        rw [Int.toNat_of_nonneg h0] at hc
        refine ⟨_, .str _, .inr ⟨Go.Proofs.enters_of Tryz.func378 (by kernel_rfl) rfl _ _, hc⟩⟩
      · cases hg
    · cases hg
  · obtain rfl := Option.some.inj hx
    dsimp only at hg
    split at hg
    · rename_i a c
      obtain ⟨rfl, rfl⟩ := Prod.mk.inj (Option.some.inj hg)
      refine callOK_flat rfl rfl rfl (fun F w vals bl h _ _ => ?_)
      obtain ⟨u, v, hv, hu, hv'⟩ := xvs_two h
      obtain rfl := arr_two hv
      cases hu; cases hv'
      refine ⟨_, .int _ _, .inl ?_⟩
      rw [run_callFunc_extern Tryz.func405 (by kernel_rfl) (by kernel_rfl) (by kernel_rfl) (e := Extern.BytealgCount.count) (by kernel_rfl), Lib.run_countString]
      rfl
    · cases hg
  · obtain rfl := Option.some.inj hx
    dsimp only at hg
    split at hg
    · rename_i a c
      obtain ⟨rfl, rfl⟩ := Prod.mk.inj (Option.some.inj hg)
      refine callOK_flat rfl rfl rfl (fun F w vals bl h _ _ => ?_)
      obtain ⟨u, v, hv, hu, hv'⟩ := xvs_two h
      obtain rfl := arr_two hv
      cases hu; cases hv'
      refine ⟨_, .int _ _, .inl ?_⟩
      rw [run_callFunc_extern Tryz.func422 (by kernel_rfl) (by kernel_rfl) (by kernel_rfl) (e := Extern.BytealgIndexByte.indexByte) (by kernel_rfl), Lib.run_indexByteString]
      rfl
    · cases hg
  · obtain rfl := Option.some.inj hx
    dsimp only at hg
    split at hg
    · rename_i n
      split at hg
      · rename_i hn
        obtain ⟨rfl, rfl⟩ := Prod.mk.inj (Option.some.inj hg)
        refine callOK_flat rfl rfl rfl (fun F w vals bl h _ hL => ?_)
        obtain ⟨u, hv, hu⟩ := xvs_one h
        obtain rfl := arr_one hv
        cases hu
        refine ⟨_, .str _, .inr ⟨Go.Proofs.enters_of Tryz.func282 (by kernel_rfl) rfl _ _, (Any.strconv_Itoa Tryz.laysM171 n hn.1 hn.2 w (pow_tab hG hL (by kernel_rfl))).mono ?_⟩⟩
        rintro e w' ⟨rfl, k, os, rfl⟩
        exact ⟨rfl, below_gr w k os⟩
      · cases hg
    · cases hg
  · obtain rfl := Option.some.inj hx
    dsimp only at hg
    split at hg
    · rename_i xs sep
      split at hg
      · rename_i l hl
        split at hg
        · rename_i hn
          obtain ⟨rfl, rfl⟩ := Prod.mk.inj (Option.some.inj hg)
          obtain rfl := strsOf_map hl
          refine callOK_flat rfl rfl rfl (fun F w vals bl h hF _ => ?_)
          obtain ⟨u, v, hv, hu, hv'⟩ := xvs_two h
          obtain rfl := arr_two hv
          obtain ⟨A, c, rfl, hc, hcell⟩ := strs_cells hu
          cases hv'
          refine ⟨_, .str _, .inr ⟨Go.Proofs.enters_of Tryz.func176 (by kernel_rfl) rfl _ _, ?_⟩⟩
          cases l with
          | nil =>
            refine (Tryz.strings_Join_none A c ⟨⟨sep⟩⟩ w).mono ?_
            rintro e w' ⟨rfl, rfl⟩
            exact ⟨rfl, Below.refl _ _⟩
          | cons x r =>
            obtain ⟨g, o, rfl, hg2, hcells⟩ := hcell (by simp)
            have e : ((x :: r).map (fun s => (⟨⟨s⟩⟩ : ByteArray))).map (·.data.toList) = x :: r := by
              rw [List.map_map]
              exact List.map_id _
            have hj := Tryz.strings_Join g o c ((x :: r).map (fun s => (⟨⟨s⟩⟩ : ByteArray))) ⟨⟨sep⟩⟩ w (fun j y hy => by
              rw [List.getElem?_map, Option.map_eq_some_iff] at hy
              obtain ⟨s, hs, rfl⟩ := hy
              exact hcells j s hs) (hF g hg2) (by simpa using hn.1) (by simpa using hc) (by rw [e]; exact hn.2)
            rw [e] at hj
            have hlen : ((x :: r).map (fun s => (⟨⟨s⟩⟩ : ByteArray))).length = (x :: r).length := List.length_map ..
            rw [hlen] at hj
            exact hj
        · cases hg
      · cases hg
    · cases hg
  · cases hx
set_option maxRecDepth 100000 in
theorem E_sok : SOK E Tryz.prog := envG_sok (glob := globOf) mixed names_ok (fun f g args rs bs h1 h2 => ext_ok globOf rfl f g args rs bs h1 h2)
end Go.Xd
/- What comes in, as plain data: the parameters' types read off. -/
set_option linter.unusedSimpArgs false
set_option linter.unusedVariables false
namespace Go.Xd
open Go.Ev Go.Proofs Go.Pu
set_option maxRecDepth 100000
set_option maxHeartbeats 4000000
theorem list_choose {α β : Type} {enc : α → β} {P : α → Prop} : ∀ {xs : List β}, (∀ x ∈ xs, ∃ a, x = enc a ∧ P a) → ∃ l : List α, xs = l.map enc ∧ ∀ a ∈ l, P a
  | [], _ => ⟨[], rfl, by simp⟩
  | x :: xs, h => by
    obtain ⟨a, h1, h2⟩ := h x (by simp)
    obtain ⟨l, h3, h4⟩ := list_choose (fun y hy => h y (List.mem_cons_of_mem _ hy))
    refine ⟨a :: l, by simp [h1, h3], fun b hb => ?_⟩
    rcases List.mem_cons.1 hb with rfl | hb
    · exact h2
    · exact h4 b hb
theorem typed_int {n : Nat} {ts : List T} (h : typed E (n + 1) 3 ts) : ∃ m, ts = [.int .i64 m] := by
  unfold typed at h
  rw [E_ty3] at h
  simp only at h
  split at h <;> first | exact h.elim | skip
  all_goals rename_i hk
  all_goals first | cases hk | skip
  all_goals first | (obtain ⟨rfl, _⟩ := h; exact ⟨_, rfl⟩) | skip
theorem typed_str {n : Nat} {ts : List T} (h : typed E (n + 1) 9 ts) : ∃ s, ts = [.str s] ∧ W s.length := by
  unfold typed at h
  rw [E_ty9] at h
  simp only at h
  split at h <;> first | exact h.elim | skip
  all_goals rename_i hk
  all_goals first | cases hk | skip
  all_goals first | exact ⟨_, rfl, by unfold W; omega⟩ | skip
theorem typed_bool {n : Nat} {ts : List T} (h : typed E (n + 1) 4 ts) : ∃ b, ts = [.bool b] := by
  unfold typed at h
  rw [E_ty4] at h
  simp only at h
  split at h <;> first | exact h.elim | skip
  all_goals rename_i hk
  all_goals first | cases hk | skip
  all_goals first | exact ⟨_, rfl⟩ | skip
theorem typed_slice {n t : Nat} {ts : List T} (hk : (E.ty t).k = .slice) (hb : 1 ≤ (E.ty (E.ty t).elem).bytes) (h : typed E (n + 1) t ts) : ∃ xs, ts = [.list xs] ∧ W xs.length ∧ ∀ x ∈ xs, ∃ cs, x = (if (E.ty (E.ty t).elem).agg then T.agg cs else (cs.headD (.bool false))) ∧ cs.length = (E.ty (E.ty t).elem).size ∧ typed E n (E.ty t).elem cs := by
  unfold typed at h
  rw [hk] at h
  try simp only at h
  split at h <;> first | exact h.elim | skip
  all_goals rename_i hk'
  all_goals first | cases hk' | skip
  rename_i xs
  refine ⟨xs, rfl, ?_, h.2⟩
  have := Nat.le_mul_of_pos_right xs.length hb
  unfold W
  have := h.1
  omega
theorem typed_struct {n t : Nat} {ts : List T} (hk : (E.ty t).k = .struct) (h : typed E (n + 1) t ts) : ts.length = (E.ty t).size ∧ ∀ p ∈ (E.ty t).fields, typed E n p.2 ((ts.drop p.1).take (E.ty p.2).size) := by
  unfold typed at h
  rw [hk] at h
  exact h
theorem dec26 {n : Nat} {ts : List T} (h : typed E (n + 2) 26 ts) : ∃ v : Val, ts = [.int .i64 v.k, .int .i64 v.n, .str v.t] ∧ W v.t.length := by
  obtain ⟨h1, h2⟩ := typed_struct (by simp) h
  simp at h1 h2
  obtain ⟨g1, g2, g3⟩ := h2
  match ts, h1 with
  | [a, b, c], _ =>
    obtain ⟨x, hx⟩ := typed_int g1
    obtain ⟨y, hy⟩ := typed_int g2
    obtain ⟨z, hz, hz2⟩ := typed_str g3
    simp at hx hy hz
    exact ⟨⟨x, y, z⟩, by simp [hx, hy, hz], hz2⟩
theorem dec392 {n : Nat} {ts : List T} (h : typed E (n + 3) 392 ts) : ∃ t : Trm, T.agg ts = trmT t ∧ t.wd := by
  obtain ⟨h1, h2⟩ := typed_struct (by simp) h
  simp at h1 h2
  obtain ⟨g1, g2, g3⟩ := h2
  match ts, h1 with
  | [a, b, c, d, e], _ =>
    obtain ⟨x, hx⟩ := typed_int g1
    obtain ⟨y, hy, hy2⟩ := typed_str g2
    obtain ⟨v, hv, hv2⟩ := dec26 g3
    simp at hx hy hv
    exact ⟨⟨x, y, v⟩, by simp [hx, hy, hv], hy2, hv2⟩
theorem dec241 {n : Nat} {ts : List T} (h : typed E (n + 4) 241 ts) : ∃ c : List Trm, ts = [.list (c.map trmT)] ∧ clsWd c := by
  obtain ⟨xs, rfl, h1, h2⟩ := typed_slice (by simp) (by simp) h
  obtain ⟨l, rfl, h4⟩ := list_choose (enc := trmT) (P := Trm.wd) (fun x hx => by
    obtain ⟨cs, e, _, h⟩ := h2 x hx
    simp at e h
    obtain ⟨t, h3, h4⟩ := dec392 h
    exact ⟨t, e.trans h3, h4⟩)
  exact ⟨l, rfl, by simpa using h1, h4⟩
theorem dec243 {n : Nat} {ts : List T} (h : typed E (n + 5) 243 ts) : ∃ c : List Trm, T.agg ts = clsT c ∧ clsWd c := by
  obtain ⟨h1, h2⟩ := typed_struct (by simp) h
  simp at h1 h2
  match ts, h1 with
  | [a], _ =>
    obtain ⟨c, hc, hw⟩ := dec241 h2
    simp at hc
    exact ⟨c, by simp [hc], hw⟩
theorem dec22 {n : Nat} {ts : List T} (h : typed E (n + 6) 22 ts) : ∃ f : List (List Trm), ts = [.list (f.map clsT)] ∧ filWd f := by
  obtain ⟨xs, rfl, h1, h2⟩ := typed_slice (by simp) (by simp) h
  obtain ⟨l, rfl, h4⟩ := list_choose (enc := clsT) (P := clsWd) (fun x hx => by
    obtain ⟨cs, e, _, h⟩ := h2 x hx
    simp at e h
    obtain ⟨t, h3, h4⟩ := dec243 h
    exact ⟨t, e.trans h3, h4⟩)
  exact ⟨l, rfl, by simpa using h1, h4⟩
theorem dec24 {n : Nat} {ts : List T} (h : typed E (n + 7) 24 ts) : ∃ f : List (List Trm), ts = [.list (f.map clsT)] ∧ filWd f := by
  obtain ⟨h1, h2⟩ := typed_struct (by simp) h
  simp at h1 h2
  match ts, h1 with
  | [a], _ => simpa using dec22 h2
theorem dec351 {n : Nat} {ts : List T} (h : typed E (n + 2) 351 ts) : ∃ p : Prt, T.agg ts = prtT p ∧ W p.path.length := by
  obtain ⟨h1, h2⟩ := typed_struct (by simp) h
  simp at h1 h2
  obtain ⟨g1, g2⟩ := h2
  match ts, h1 with
  | [a, b], _ =>
    obtain ⟨x, hx, hx2⟩ := typed_str g1
    obtain ⟨y, hy⟩ := typed_bool g2
    simp at hx hy
    exact ⟨⟨x, y⟩, by simp [hx, hy], hx2⟩
theorem dec63 {n : Nat} {ts : List T} (h : typed E (n + 3) 63 ts) : ∃ c : List Prt, ts = [.list (c.map prtT)] ∧ prtsWd c := by
  obtain ⟨xs, rfl, h1, h2⟩ := typed_slice (by simp) (by simp) h
  obtain ⟨l, rfl, h4⟩ := list_choose (enc := prtT) (P := fun p => W p.path.length) (fun x hx => by
    obtain ⟨cs, e, _, h⟩ := h2 x hx
    simp at e h
    obtain ⟨t, h3, h4⟩ := dec351 h
    exact ⟨t, e.trans h3, h4⟩)
  exact ⟨l, rfl, by simpa using h1, h4⟩
theorem dec64 {n : Nat} {ts : List T} (h : typed E (n + 2) 64 ts) : ∃ c : List Bytes, ts = [.list (c.map strT)] ∧ txtsWd c := by
  obtain ⟨xs, rfl, h1, h2⟩ := typed_slice (by simp) (by simp) h
  obtain ⟨l, rfl, h4⟩ := list_choose (enc := strT) (P := fun p => W p.length) (fun x hx => by
    obtain ⟨cs, e, _, h⟩ := h2 x hx
    simp at e h
    obtain ⟨t, h3, h4⟩ := typed_str h
    subst h3
    exact ⟨t, by simpa using e, h4⟩)
  exact ⟨l, rfl, by simpa using h1, h4⟩
theorem dec66 {n : Nat} {ts : List T} (h : typed E (n + 8) 66 ts) : ∃ q : Qry, T.agg ts = qryT q ∧ q.Wd := by
  obtain ⟨h1, h2⟩ := typed_struct (by simp) h
  simp at h1 h2
  obtain ⟨g1, g2, g3, g4, g5, g6⟩ := h2
  match ts, h1 with
  | [a, b, c, d, e, f], _ =>
    obtain ⟨fl, e1, w1⟩ := dec24 g1
    obtain ⟨so, e2, w2⟩ := dec63 g2
    obtain ⟨sk, e3⟩ := typed_int g3
    obtain ⟨li, e4⟩ := typed_int g4
    obtain ⟨ke, e5, w5⟩ := dec64 g5
    obtain ⟨hi, e6, w6⟩ := typed_str g6
    simp at e1 e2 e3 e4 e5 e6
    exact ⟨⟨fl, so, sk, li, ke, hi⟩, by simp [e1, e2, e3, e4, e5, e6], w1, w2, w5, w6⟩
end Go.Xd
/- Fields by name: spec's l02Field; impl's findField, field; ids. -/
set_option linter.unusedSimpArgs false
set_option linter.unusedVariables false
namespace Go.Xd
open Go.Ev Go.Proofs Go.Pu
set_option maxRecDepth 100000
set_option maxHeartbeats 16000000
theorem compareBytes_lt : ∀ (a b : Bytes), (Lib.compareBytes a b < 0) = (Op.bytesLess a b = true)
  | [], [] => by simp [Lib.compareBytes, Op.bytesLess]
  | [], _ :: _ => by simp [Lib.compareBytes, Op.bytesLess]
  | _ :: _, [] => by simp [Lib.compareBytes, Op.bytesLess]
  | x :: a, y :: b => by
    have ih := compareBytes_lt a b
    unfold Lib.compareBytes Op.bytesLess
    by_cases h1 : x < y
    · simp [h1]
    · by_cases h2 : y < x
      · have : ¬ x = y := fun e => by subst e; exact h1 h2
        simp [h1, h2, this]
      · have e : x = y := UInt8.le_antisymm (UInt8.not_lt.1 h2) (UInt8.not_lt.1 h1)
        subst e
        simp [h1, ih]
theorem compareBytes_eq : ∀ (a b : Bytes), (Lib.compareBytes a b = 0) = (a = b)
  | [], [] => by simp [Lib.compareBytes]
  | [], _ :: _ => by simp [Lib.compareBytes]
  | _ :: _, [] => by simp [Lib.compareBytes]
  | x :: a, y :: b => by
    have ih := compareBytes_eq a b
    unfold Lib.compareBytes
    by_cases h1 : x < y
    · have : ¬ x = y := fun e => by subst e; exact absurd h1 (UInt8.lt_irrefl x)
      simp [h1, this]
    · by_cases h2 : y < x
      · have : ¬ x = y := fun e => by subst e; exact h1 h2
        simp [h1, h2, this]
      · have e : x = y := UInt8.le_antisymm (UInt8.not_lt.1 h2) (UInt8.not_lt.1 h1)
        subst e
        simp [h1, ih]
theorem compare (a b : Bytes) : run E (.call 194 [xS a, xS b]) = some (.res [xI (Lib.compareBytes a b)] []) := by
  have h : run E (.call 296 [xS a, xS b]) = some (.res [xI (Lib.compareBytes a b)] []) := by
    rw [run_ext E 296 _ (g := _) rfl]
    simp
  rw [run_call E 194 _ rfl Tryz.func194 rfl rfl rfl (by simp)]
  simp [h]
theorem findClosure (f : Fld) (name : Bytes) : run E (.call 261 [.t (fldT f), xS name]) = some (.res [xI (Lib.compareBytes f.name name)] []) := by
  rw [run_call E 261 _ rfl Tryz.func261 rfl rfl rfl (by simp)]
  simp [compare f.name name]
/-- Where a search by halves ends. -/
def seekI (fs : List Fld) (name : Bytes) : Nat := halves (fun k => match fs[k]? with
  | some f => Op.bytesLess f.name name
  | none => false) (fs.length + 1) 0 fs.length
def thereI (fs : List Fld) (name : Bytes) : Bool := match fs[seekI fs name]? with
  | some f => f.name == name
  | none => false
theorem wrap_u64 {n : Nat} (h : n < 18446744073709551616) : IntKind.u64.wrap (n : Int) = n := by
  simp [IntKind.wrap, IntKind.bits, IntKind.signed]
  omega
theorem pow_u64 : (2 : Int) ^ min 1 IntKind.u64.bits = 2 := by rfl
theorem binarySearch (fs : List Fld) (name : Bytes) (hl : fs.length < 4294967296) : run E (.call 260 [.t (.list (fs.map fldT)), xS name, .fn 261 []]) = some (.res [xI (seekI fs name : Nat), xB (thereI fs name)] []) := by
  rw [run_call E 260 _ rfl Tryz.func260 rfl rfl rfl (by simp)]
  have lp := sk (fun s o q hI => loop_wf (c := loopAt Tryz.f260 0) (N := 49)
    (fun k s o q => ∃ i j : Nat, s 0 = .t (.list (fs.map fldT)) ∧ s 1 = .t (.str name) ∧ s 2 = .fn 261 [] ∧ s 8 = .t (.int .i64 fs.length) ∧ s 9 = .t (.int .i64 i) ∧ s 10 = .t (.int .i64 j) ∧ j ≤ fs.length ∧ i ≤ j ∧ k = j - i ∧ ∃ n, k < n ∧ halves (fun k => match fs[k]? with
        | some f => Op.bytesLess f.name name
        | none => false) n i j = seekI fs name)
    (fun e s' o' q' => e = .exit 0 ∧ s' 0 = .t (.list (fs.map fldT)) ∧ s' 1 = .t (.str name) ∧ s' 2 = .fn 261 [] ∧ s' 8 = .t (.int .i64 fs.length) ∧ s' 9 = .t (.int .i64 (seekI fs name : Nat)))
    (by
      rintro k s o q ⟨i, j, h0, h1, h2, h8, h9, h10, hj, hij, hk, n, hn, hh⟩
      cases n with
      | zero => omega
      | succ n =>
        unfold halves at hh
        by_cases hlt : i < j
        · have hlt' : (i : Int) < (j : Int) := by omega
          have hw1 : IntKind.i64.wrap ((i : Int) + (j : Int)) = ((i + j : Nat) : Int) := by rw [wrap_of (by omega) (by omega)]; omega
          have hw2 := wrap_u64 (n := i + j) (by omega)
          obtain ⟨m, hme⟩ : ∃ m, m = (i + j) / 2 := ⟨_, rfl⟩
          have hm : m < fs.length := by omega
          have hw3 := wrap_nat (n := m) (by omega)
          have hw4 := wrap_succ (n := m) (by omega)
          have hfd : ((i : Int) + (j : Int)).fdiv 2 = (m : Int) := by rw [Int.fdiv_eq_ediv_of_nonneg _ (by omega)]; omega
          have hed : ((i : Int) + (j : Int)) / 2 = (m : Int) := by omega
          have hx : fs[m]? = some fs[m] := List.getElem?_eq_getElem hm
          have hc := findClosure fs[m] name
          rw [if_pos hlt, ← hme] at hh
          simp only [hx] at hh
          simp only [Int.natCast_add] at hw1 hw2
          cases hb : Op.bytesLess fs[m].name name with
          | true =>
            have hcl : Lib.compareBytes fs[m].name name < 0 := by rw [compareBytes_lt]; exact hb
            simp [hb] at hh
            simp [loopAt, loopsOf, Tryz.f260, h0, h1, h2, h8, h9, h10, hlt', pow_u64, hw1, hw2, hfd, hed, hw3, hw4, hx, hc, hcl, hm]
            exact ⟨j - (m + 1), by omega, m + 1, by simp, j, rfl, hj, by omega, rfl, n, by omega, hh⟩
          | false =>
            have hcl : ¬ Lib.compareBytes fs[m].name name < 0 := by rw [compareBytes_lt]; simp [hb]
            simp [hb] at hh
            simp [loopAt, loopsOf, Tryz.f260, h0, h1, h2, h8, h9, h10, hlt', pow_u64, hw1, hw2, hfd, hed, hw3, hw4, hx, hc, hcl, hm]
            exact ⟨m - i, by omega, i, rfl, m, rfl, by omega, by omega, rfl, n, by omega, hh⟩
        · have hlt' : ¬ (i : Int) < (j : Int) := by omega
          rw [if_neg hlt] at hh
          simp [loopAt, loopsOf, Tryz.f260, h0, h1, h2, h8, h9, h10, hlt', ← hh])
    fs.length s o q hI)
  simp only [loopAt, loopsOf, Tryz.f260] at lp
  obtain ⟨X, A, B, C, hx⟩ := lp
  have hx' := fun s o q a0 a1 a2 a8 a9 a10 => hx s o q ⟨0, fs.length, a0, a1, a2, a8, a9, a10, Nat.le_refl _, Nat.zero_le _, by omega, fs.length + 1, by omega, rfl⟩
  clear hx
  simp at hx'
  unfold thereI
  by_cases hs : seekI fs name < fs.length
  · have hs' : (seekI fs name : Int) < (fs.length : Int) := by omega
    have hg : fs[seekI fs name]? = some fs[seekI fs name] := List.getElem?_eq_getElem hs
    have hc := findClosure fs[seekI fs name] name
    have heq : (Lib.compareBytes fs[seekI fs name].name name == 0) = (fs[seekI fs name].name == name) := by
      rw [Bool.eq_iff_iff]; simp [compareBytes_eq]
    simp [hx', hs, hs', hg, hc, heq]
  · have hs' : ¬ (seekI fs name : Int) < (fs.length : Int) := by omega
    have hg : fs[seekI fs name]? = none := List.getElem?_eq_none (by omega)
    simp [hx', hs, hs', hg]
theorem findField (fs : List Fld) (name : Bytes) (hl : fs.length < 4294967296) : run E (.call 157 [.t (.list (fs.map fldT)), xS name]) = some (.res [xI (seekI fs name : Nat), xB (thereI fs name)] []) := by
  rw [run_call E 157 _ rfl Tryz.func157 rfl rfl rfl (by simp)]
  simp [binarySearch fs name hl]
def fieldI (v : Val) (name : Bytes) : Option Val := match (fieldsI v.t).1[seekI (fieldsI v.t).1 name]? with
  | some f => if f.name == name then some f.v else none
  | none => none
def optX : Option Val → List X
  | some v => [valX v, xB true]
  | none => [valX ⟨0, 0, []⟩, xB false]
theorem implField (v : Val) (name : Bytes) (hv : v.t.length < 4294967296) : run E (.call 360 [xV v, xS name]) = some (.res (optX (fieldI v name)) []) := by
  rw [run_call E 360 _ rfl Tryz.func360 rfl rfl rfl (by simp)]
  have h1 := implFields v hv
  obtain ⟨hs1, hs2⟩ := fieldsI_small v.t
  have h2 := findField (fieldsI v.t).1 name (by omega)
  unfold fieldI
  generalize (fieldsI v.t).1 = fs at *
  unfold thereI at h2
  cases hg : fs[seekI fs name]? with
  | none => simp [hg] at h2; simp [h1, h2, optX]
  | some f =>
    cases hn : f.name == name with
    | false => simp [hg, hn] at h2; simp [h1, h2, hn, optX]
    | true => simp [hg, hn] at h2; simp [h1, h2, hn, hg, optX]
theorem specField (v : Val) (name : Bytes) (hv : v.t.length < 4294967296) : run E (.call 359 [xV v, xS name]) = some (.res (optX (fieldP v name)) []) := by
  rw [run_call E 359 _ rfl Tryz.func359 rfl rfl rfl (by simp)]
  have h1 := l01Fields v.t hv
  have hfx : ∃ b, fieldsX (fieldsP v.t) = [.row 125 ((fieldsL v.t).map fldT), xB b] ∧ (fieldsL v.t).length ≤ v.t.length := by
    unfold fieldsL
    cases h : fieldsP v.t with
    | none => exact ⟨false, rfl, by simp⟩
    | some fs => exact ⟨true, rfl, by have := (fields_small h).1; simpa using this⟩
  obtain ⟨b, hfx, hl⟩ := hfx
  rw [hfx] at h1
  unfold fieldP
  generalize fieldsL v.t = fs at *
  have lp := fun (r : Option Fld) (hr : fs.find? (fun f => f.name == name) = r) => sk (fun s o q hI => loop_for (c := loopAt Tryz.f359 0) (N := 34)
    (fun i s o q => s 1 = .t (.str name) ∧ s 6 = .row 2 ∧ s 8 = .t (.int .i64 i) ∧ s 4 = .ptr 1 0 ∧ o 1 = .box 35 [.t (.int .i64 0), .t (.int .i64 0), .t (.str [])] ∧ o 2 = .row 125 (fs.map fldT) true ∧ (fs.drop i).find? (fun f => f.name == name) = r)
    (fun e s' o' q' => match (generalizing := false) r with
      | some f => e = .ret ∧ s' 4 = .ptr 1 0 ∧ s' 5 = .t (.bool true) ∧ o' 1 = .box 35 [.t (.int .i64 f.v.k), .t (.int .i64 f.v.n), .t (.str f.v.t)]
      | none => e = .exit 0 ∧ s' 4 = .ptr 1 0 ∧ o' 1 = .box 35 [.t (.int .i64 0), .t (.int .i64 0), .t (.str [])]) fs.length
    (by
      rintro i s o q hi ⟨g1, g6, g8, g4, ho1, ho2, hp⟩
      have hi' : (i : Int) < (fs.length : Int) := by omega
      have hw := wrap_succ (n := i) (by omega)
      have hxi : fs[i]? = some fs[i] := List.getElem?_eq_getElem hi
      rw [List.drop_eq_getElem_cons hi, List.find?_cons] at hp
      cases hn : fs[i].name == name with
      | true =>
        simp only [hn] at hp
        subst hp
        simp [loopAt, loopsOf, Tryz.f359, g1, g6, g8, g4, ho1, ho2, hi', hxi, hw, hn]
      | false =>
        simp only [hn] at hp
        simp [loopAt, loopsOf, Tryz.f359, g1, g6, g8, g4, ho1, ho2, hi', hxi, hw, hn, hp])
    (by
      rintro s o q ⟨g1, g6, g8, g4, ho1, ho2, hp⟩
      simp at hp
      subst hp
      simp [loopAt, loopsOf, Tryz.f359, g1, g6, g8, g4, ho1, ho2])
    fs.length 0 s o q (by omega) hI)
  simp only [loopAt, loopsOf, Tryz.f359] at lp
  cases hr : fs.find? (fun f => f.name == name) with
  | some f =>
    obtain ⟨X, A, B, C, hx⟩ := lp _ hr
    simp [hr, -List.find?_eq_none] at hx
    simp [h1, hx, optX]
  | none =>
    obtain ⟨X, A, B, C, hx⟩ := lp _ hr
    simp [hr, -List.find?_eq_none] at hx
    simp [h1, hx, optX]
end Go.Xd
/- Ids of documents; versions' documents. -/
set_option linter.unusedSimpArgs false
set_option linter.unusedVariables false
namespace Go.Xd
open Go.Ev Go.Proofs Go.Pu
set_option maxRecDepth 100000
set_option maxHeartbeats 16000000
abbrev idB : Bytes := [105, 100]
theorem fieldI_eq {v : Val} {fs : List Fld} (name : Bytes) (hf : fieldsP v.t = some fs) (hr : rising fs = true) : fieldI v name = fieldP v name := by
  have hs : seekI fs name = placeP fs name := by
    unfold seekI
    refine halves_ok (p := placeP fs name) (m := fs.length) ?_ ?_ _ _ _ (Nat.zero_le _) (place_le fs name) (Nat.le_refl _) (by omega)
    · intro k hk
      have hlt : k < fs.length := Nat.lt_of_lt_of_le hk (place_le fs name)
      have hg : fs[k]? = some fs[k] := List.getElem?_eq_getElem hlt
      simp only [hg]
      exact (rising_place name hr k _ hg).2 hk
    · intro k hk hkl
      have hg : fs[k]? = some fs[k] := List.getElem?_eq_getElem hkl
      simp only [hg]
      cases hb : Op.bytesLess fs[k].name name with
      | false => rfl
      | true =>
        have := (rising_place name hr k _ hg).1 hb
        omega
  unfold fieldI
  rw [fieldsI_some hf]
  simp only [hs]
  rw [field_place name hf hr]
  cases fs[placeP fs name]? with
  | none => rfl
  | some f => simp
def okId (x : Val) : Bool := decide (x.k = 2) && (decide (0 ≤ x.n) && decide (x.n ≤ 99))
def idI (v : Val) : Int × Bool := match fieldI v idB with
  | some x => (x.n, okId x)
  | none => (0, false)
def specId (v : Val) : Int := match fieldP v idB with
  | some x => if okId x then x.n else -1
  | none => -1
def isDocP (v : Val) : Bool := valueOK v && decide (v.k = 5)
def nullB (v : Val) : Bool := (v.k == 0) && ((v.n == 0) && (v.t == []))
theorem implIdOf (v : Val) (hv : v.t.length < 4294967296) : run E (.call 295 [xV v]) = some (.res [xI (idI v).1, xB (idI v).2] []) := by
  rw [run_call E 295 _ rfl Tryz.func295 rfl rfl rfl (by simp)]
  have h := implField v idB hv
  have d2 := d295_2
  simp [regionOf, findR, pick, Tryz.f295] at d2
  have dd := fun st => run_region_draw E st 2 _ d2
  clear d2
  unfold idI
  cases hf : fieldI v idB with
  | none => rw [hf] at h; simp only [optX] at h; simp [h, dd]
  | some x =>
    rw [hf] at h
    simp only [optX] at h
    have hr := inRange x.n 0 99
    obtain ⟨z, z1, z2, z3⟩ := zcase x.k 2
    unfold okId
    cases z <;> simp [h, dd, z1, z2, z3, hr]
theorem specIdOf (v : Val) (hv : v.t.length < 4294967296) : run E (.call 294 [xV v]) = some (.res [xI (specId v)] []) := by
  rw [run_call E 294 _ rfl Tryz.func294 rfl rfl rfl (by simp)]
  have h := specField v idB hv
  unfold specId
  cases hf : fieldP v idB with
  | none => rw [hf] at h; simp only [optX] at h; simp [h]
  | some x =>
    rw [hf] at h
    simp only [optX] at h
    have hr := l01In x.n 0 99
    obtain ⟨z, z1, z2, z3⟩ := zcase x.k 2
    unfold okId
    cases z with
    | false => simp [h, z1, z2, z3]
    | true =>
      cases hb : (decide (0 ≤ x.n) && decide (x.n ≤ 99)) with
      | false => rw [hb] at hr; simp at hb; simp [h, z1, z2, z3, hr]; intro a b; have := hb a; omega
      | true => rw [hb] at hr; simp at hb; simp [h, z1, z2, z3, hr]; intro a; have := a hb.1; omega
theorem isDoc (v : Val) (hv : v.t.length < 4294967296) : run E (.call 78 [xV v]) = some (.res [xB (isDocP v)] []) := by
  rw [run_call E 78 _ rfl Tryz.func78 rfl rfl rfl (by simp)]
  have h := implValueOK v hv
  obtain ⟨z, z1, z2, z3⟩ := zcase v.k 5
  unfold isDocP
  cases z <;> simp [h, z1, z2, z3]
theorem l03Doc (v : Val) (hv : v.t.length < 4294967296) : run E (.call 74 [xV v]) = some (.res [xB (isDocP v)] []) := by
  rw [run_call E 74 _ rfl Tryz.func74 rfl rfl rfl (by simp)]
  have h := specValueOK v hv
  unfold isDocP
  cases hb : valueOK v with
  | false => rw [hb] at h; simp [h]
  | true => rw [hb] at h; simp [h, beqd]
def verDoc (id : Int) (gone : Bool) (v : Val) : Bool := if gone then nullB v else isDocP v && (specId v == id)
def verDocI (gone : Bool) (v : Val) (id : Int) : Bool := if gone then nullB v else isDocP v && (idI v).2 && ((idI v).1 == id)
theorem verDocI_eq (gone : Bool) (v : Val) (id : Int) (h0 : 0 ≤ id) : verDocI gone v id = verDoc id gone v := by
  unfold verDocI verDoc
  cases gone with
  | true => rfl
  | false =>
    simp only [Bool.false_eq_true, if_false]
    cases hd : isDocP v with
    | false => rfl
    | true =>
      have hok : okP 5 v = true ∧ v.k = 5 := by simpa [isDocP, valueOK] using hd
      obtain ⟨e, fs, _, _, hf, hr, _⟩ := okP_doc hok.1 hok.2
      simp only [Bool.true_and]
      unfold idI specId
      rw [fieldI_eq idB hf hr]
      cases fieldP v idB with
      | none =>
        have : ((-1 : Int) == id) = false := by simp; omega
        simp [this]
      | some x =>
        cases hx : okId x with
        | false =>
          have : ((-1 : Int) == id) = false := by simp; omega
          simp [hx, this]
        | true => simp [hx]
theorem implDocOK (gone : Bool) (v : Val) (id : Int) (hv : v.t.length < 4294967296) : run E (.call 192 [xB gone, xV v, xI id]) = some (.res [xB (verDocI gone v id)] []) := by
  rw [run_call E 192 _ rfl Tryz.func192 rfl rfl rfl (by simp)]
  have h1 := implIdOf v hv
  have h2 := isDoc v hv
  unfold verDocI nullB
  cases gone with
  | true => simp
  | false =>
    cases hd : isDocP v with
    | false => rw [hd] at h2; simp [h1, h2]
    | true =>
      rw [hd] at h2
      cases hi : (idI v).2 with
      | false => rw [hi] at h1; simp [h1, h2]
      | true => rw [hi] at h1; simp [h1, h2]
theorem specDocOK (id : Int) (gone : Bool) (v : Val) (hv : v.t.length < 4294967296) : run E (.call 189 [xI id, xB gone, xV v]) = some (.res [xB (verDoc id gone v)] []) := by
  rw [run_call E 189 _ rfl Tryz.func189 rfl rfl rfl (by simp)]
  have h1 := specIdOf v hv
  have h2 := l03Doc v hv
  unfold verDoc nullB
  cases gone with
  | true => simp
  | false =>
    cases hd : isDocP v with
    | false => rw [hd] at h2; simp [h1, h2]
    | true => rw [hd] at h2; simp [h1, h2]
end Go.Xd
/- Definitions of indexes: both. -/
set_option linter.unusedSimpArgs false
set_option linter.unusedVariables false
namespace Go.Xd
open Go.Ev Go.Proofs Go.Pu
set_option maxRecDepth 100000
set_option maxHeartbeats 16000000
structure Dfn where
  name : Bytes
  parts : List Prt
abbrev dfnT (d : Dfn) : T := .agg [.str d.name, .list (d.parts.map prtT)]
structure Ver where
  at_ : Int
  gone : Bool
  v : Val
abbrev verT (x : Ver) : T := .agg [.int .i64 x.at_, .bool x.gone, .int .i64 x.v.k, .int .i64 x.v.n, .str x.v.t]
abbrev verX (x : Ver) : X := .agg [.t (.int .i64 x.at_), .t (.bool x.gone), .t (.int .i64 x.v.k), .t (.int .i64 x.v.n), .t (.str x.v.t)]
structure Chn where
  id : Int
  vs : List Ver
abbrev chnT (c : Chn) : T := .agg [.int .i64 c.id, .list (c.vs.map verT)]
structure Col where
  name : Bytes
  chains : List Chn
  defs : List Dfn
abbrev colT (c : Col) : T := .agg [.str c.name, .list (c.chains.map chnT), .list (c.defs.map dfnT)]
def Dfn.Sm (d : Dfn) : Prop := d.name.length < 4294967296 ∧ partsSm d.parts
def Ver.Sm (x : Ver) : Prop := x.v.t.length < 4294967296
def Chn.Sm (c : Chn) : Prop := c.vs.length < 4294967296 ∧ ∀ x ∈ c.vs, x.Sm
structure Col.Sm (c : Col) : Prop where
  name : c.name.length < 4294967296
  chains : c.chains.length < 4294967296 ∧ ∀ x ∈ c.chains, x.Sm
  defs : c.defs.length < 4294967296 ∧ ∀ x ∈ c.defs, x.Sm
def twoOK : List Prt → Bool
  | [p, q] => !(p.path == q.path)
  | _ => true
def in12 (n : Nat) : Bool := decide (1 ≤ n) && decide (n ≤ 2)
def defOK (d : Dfn) : Bool := nameP d.name && in12 d.parts.length && d.parts.all (fun p => pathOK p.path) && twoOK d.parts
theorem in12_cast (n : Nat) : (decide ((1 : Int) ≤ (n : Int)) && decide ((n : Int) ≤ 2)) = in12 n := by
  unfold in12
  congr 1 <;> (congr 1; simp; omega)
theorem in12_cases {α : Type} {l : List α} (h : in12 l.length = true) : (∃ p, l = [p]) ∨ ∃ p q, l = [p, q] := by
  simp [in12] at h
  match l, h with
  | [p], _ => exact .inl ⟨p, rfl⟩
  | [p, q], _ => exact .inr ⟨p, q, rfl⟩
  | [], h => simp at h
  | _ :: _ :: _ :: _, h => simp at h
theorem defClosure (p : Prt) (h : p.path.length < 4294967296) : run E (.call 223 [.t (prtT p)]) = some (.res [xB (!pathOK p.path)] []) := by
  rw [run_call E 223 _ rfl Tryz.func223 rfl rfl rfl (by simp)]
  simp [partOK p h]
theorem implDefOK (d : Dfn) (h : d.Sm) : run E (.call 118 [.t (dfnT d)]) = some (.res [xB (defOK d)] []) := by
  rw [run_call E 118 _ rfl Tryz.func118 rfl rfl rfl (by simp)]
  have h1 := isShort d.name (by have := h.1; omega)
  have h2 := inRange (d.parts.length : Int) 1 2
  rw [in12_cast] at h2
  have hc := containsFunc_136_0 d.parts 223 (fun p => !pathOK p.path) (by have := h.2.1; omega) rfl (by simp) (fun p hp => defClosure p (h.2.2 p hp))
  rw [any_not_all] at hc
  have d3 := d118_3
  simp [regionOf, findR, pick, Tryz.f118] at d3
  have dd := fun st => run_region_draw E st 3 _ d3
  clear d3
  unfold defOK
  cases hn : nameP d.name with
  | false => rw [hn] at h1; simp [h1]
  | true =>
    rw [hn] at h1
    cases hi : in12 d.parts.length with
    | false => rw [hi] at h2; simp [h1, h2]
    | true =>
      rw [hi] at h2
      cases ha : d.parts.all (fun p => pathOK p.path) with
      | false => rw [ha] at hc; simp [h1, h2, hc]
      | true =>
        rw [ha] at hc
        obtain ⟨nm, ps⟩ := d
        simp only at *
        rcases in12_cases hi with ⟨p, rfl⟩ | ⟨p, q, rfl⟩
        · simp at h2 hc
          simp [h1, h2, hc, dd, twoOK]
        · simp at h2 hc
          simp [h1, h2, hc, dd, twoOK]
theorem specDef_loop (d : Dfn) (h : d.Sm) (b : Bool) (hb : b = d.parts.all (fun p => pathOK p.path)) : ∀ s o n, (s 1 = .ptr 0 0 ∧ s 3 = .t (.int .i64 0) ∧ o 0 = .box 79 [.t (.str d.name), .t (.list (d.parts.map prtT))]) →
    ∃ e s' o' n', run E (.code (.loop (loopAt Tryz.f111 0)) ⟨s, o, n, 47⟩) = some (.st e ⟨s', o', n', 47⟩) ∧ e = (if b then .exit 0 else .ret) ∧ s' 1 = .ptr 0 0 ∧ o' 0 = .box 79 [.t (.str d.name), .t (.list (d.parts.map prtT))] ∧ (b = false → s' 2 = .t (.bool false)) := by
  intro s o n hI
  refine loop_for (c := loopAt Tryz.f111 0) (N := 47)
    (fun i s o n => s 1 = .ptr 0 0 ∧ s 3 = .t (.int .i64 i) ∧ o 0 = .box 79 [.t (.str d.name), .t (.list (d.parts.map prtT))] ∧ b = (d.parts.drop i).all (fun p => pathOK p.path))
    (fun e s' o' n' => e = (if b then .exit 0 else .ret) ∧ s' 1 = .ptr 0 0 ∧ o' 0 = .box 79 [.t (.str d.name), .t (.list (d.parts.map prtT))] ∧ (b = false → s' 2 = .t (.bool false))) d.parts.length ?_ ?_
    d.parts.length 0 s o n (by omega) ⟨hI.1, hI.2.1, hI.2.2, by simpa using hb⟩
  · rintro i s o n hi ⟨h1, h3, ho, hp⟩
    have hfi : d.parts[i]? = some d.parts[i] := List.getElem?_eq_getElem hi
    have hi' : (i : Int) < (d.parts.length : Int) := by omega
    have hw := wrap_succ (n := i) (by have := h.2.1; omega)
    have ht := specPathOK d.parts[i].path (h.2.2 _ (List.getElem_mem hi))
    rw [List.drop_eq_getElem_cons hi, List.all_cons] at hp
    cases hok : pathOK d.parts[i].path <;> simp [hok] at hp ht <;> simp [loopAt, loopsOf, Tryz.f111, h1, h3, ho, hi', hfi, hw, ht, hp]
  · rintro s o n ⟨h1, h3, ho, hp⟩
    simp at hp
    simp [loopAt, loopsOf, Tryz.f111, h1, h3, ho, hp]
theorem specDefOK (d : Dfn) (h : d.Sm) : run E (.call 111 [.t (dfnT d)]) = some (.res [xB (defOK d)] []) := by
  rw [run_call E 111 _ rfl Tryz.func111 rfl rfl rfl (by simp)]
  have h1 := l01Name d.name (by have := h.1; omega)
  have h2 := l01In (d.parts.length : Int) 1 2
  rw [in12_cast] at h2
  have d8 := d111_8
  simp [regionOf, findR, pick, Tryz.f111] at d8
  have dd := fun st => run_region_draw E st 8 _ d8
  clear d8
  have lp := specDef_loop d h
  unfold defOK
  cases hn : nameP d.name with
  | false => rw [hn] at h1; simp [h1]
  | true =>
    rw [hn] at h1
    cases hi : in12 d.parts.length with
    | false => rw [hi] at h2; simp [h1, h2]
    | true =>
      rw [hi] at h2
      cases ha : d.parts.all (fun p => pathOK p.path) with
      | false =>
        obtain ⟨X, A, B, C, hx⟩ := sk (lp false ha.symm)
        simp [loopAt, loopsOf, Tryz.f111] at hx
        simp [h1, h2, hx]
      | true =>
        obtain ⟨X, A, B, C, hx⟩ := sk (lp true ha.symm)
        simp [loopAt, loopsOf, Tryz.f111] at hx
        obtain ⟨nm, ps⟩ := d
        simp only at *
        rcases in12_cases hi with ⟨p, rfl⟩ | ⟨p, q, rfl⟩
        · simp at h2 hx
          simp [h1, h2, hx, dd, twoOK]
        · simp at h2 hx
          simp [h1, h2, hx, dd, twoOK]
theorem indexFunc_149_1 (xs : List Dfn) (g : Nat) (c : List T) (p : Dfn → Bool) (hl : xs.length < 9223372036854775807) (hm : E.md g = []) (hf : E.flat g = true) (hp : ∀ x ∈ xs, run E (.call g [.t (dfnT x), .dref c]) = some (.res [xB (p x)] [])) :
    run E (.call 366 [.t (.list (xs.map dfnT)), .fn g [c]]) = some (.res [xI (idxP p xs)] []) := by
  rw [run_call E 366 _ rfl Tryz.func366 rfl rfl rfl (by simp)]
  rw [E_md] at hm
  have lp := fun (r : Int) (hr : r = idxP p xs) => sk (fun s o q hI => loop_for (c := loopAt Tryz.f366 0) (N := 19)
    (fun i s o q => s 0 = .t (.list (xs.map dfnT)) ∧ s 1 = .fn g [.dptr c] ∧ s 7 = .t (.int .i64 xs.length) ∧ s 8 = .t (.int .i64 i) ∧ r = if idxP p (xs.drop i) < 0 then -1 else idxP p (xs.drop i) + i)
    (fun e s' o' q' => e = (if r < 0 then .exit 0 else .ret) ∧ (0 ≤ r → s' 4 = .t (.int .i64 r))) xs.length
    (by
      rintro i s o q hi ⟨h0, h1, h7, h8, hr⟩
      have hd : xs.drop i = xs[i] :: xs.drop (i + 1) := by rw [List.drop_eq_getElem_cons hi]
      have hi' : (i : Int) < (xs.length : Int) := by omega
      have hw := wrap_succ (n := i) (by omega)
      have hx := hp xs[i] (List.getElem_mem hi)
      rw [hd, idxP] at hr
      cases hpx : p xs[i] with
      | true =>
        simp [hpx] at hr hx
        have hr' : ¬ r < 0 := by omega
        simp [-mdOf, loopAt, loopsOf, Tryz.f366, h0, h1, h7, h8, hi, hi', hx, hw, hm, hf, hr', hr]
      | false =>
        simp [hpx] at hr hx
        have hr2 : r = if idxP p (xs.drop (i + 1)) < 0 then -1 else idxP p (xs.drop (i + 1)) + ((i : Int) + 1) := by
          rw [hr]
          by_cases hq : idxP p (xs.drop (i + 1)) < 0
          · simp [hq]
          · have : ¬ idxP p (xs.drop (i + 1)) + 1 < 0 := by omega
            simp [hq, this]; omega
        clear hr
        simp [-mdOf, loopAt, loopsOf, Tryz.f366, h0, h1, h7, h8, hi, hi', hx, hw, hm, hf]
        exact hr2)
    (by
      rintro s o q ⟨h0, h1, h7, h8, hr⟩
      simp [idxP] at hr
      simp [loopAt, loopsOf, Tryz.f366, h0, h1, h7, h8, hr])
    xs.length 0 s o q (by omega) hI)
  simp only [loopAt, loopsOf, Tryz.f366] at lp
  obtain ⟨X, A, B, C, hx⟩ := lp _ rfl
  have hz : idxP p xs = if idxP p xs < 0 then -1 else idxP p xs := by
    cases xs with
    | nil => simp [idxP]
    | cons x r =>
      unfold idxP
      split
      · simp
      · split
        · simp
        · have : ¬ idxP p r + 1 < 0 := by omega
          simp [this]
  simp [← hz] at hx
  by_cases h : idxP p xs < 0
  · have h1 : idxP p xs = -1 := by rw [hz]; simp [h]
    simp [h] at hx
    simp [hx, h1]
  · have h2 : 0 ≤ idxP p xs := by omega
    simp [h, h2] at hx
    simp [hx]
theorem defAtClosure (d : Dfn) (name : Bytes) : run E (.call 367 [.t (dfnT d), .dref [.str name]]) = some (.res [xB (d.name == name)] []) := by
  rw [run_call E 367 _ rfl Tryz.func367 rfl rfl rfl (by simp)]
  simp
theorem defAt (c : Col) (name : Bytes) (h : c.defs.length < 4294967296) : run E (.call 313 [.t (colT c), xS name]) = some (.res [xI (idxP (fun d => d.name == name) c.defs)] []) := by
  rw [run_call E 313 _ rfl Tryz.func313 rfl rfl rfl (by simp)]
  have hi := indexFunc_149_1 c.defs 367 [.str name] (fun d => d.name == name) (by omega) rfl (by simp) (fun d _ => defAtClosure d name)
  simp [hi]
end Go.Xd
/- Chains of versions: impl's chainOK, CollOK. -/
set_option linter.unusedSimpArgs false
set_option linter.unusedVariables false
namespace Go.Xd
open Go.Ev Go.Proofs Go.Pu
set_option maxRecDepth 100000
set_option maxHeartbeats 16000000
def in1 (lo hi n : Int) : Bool := decide (lo ≤ n) && decide (n ≤ hi)
def versGo (D : Bool → Val → Bool) : Option Int → List Ver → Bool
  | _, [] => true
  | p, x :: r => in1 1 10000 x.at_ && (match p with
      | none => true
      | some q => !decide (x.at_ ≤ q)) && D x.gone x.v && versGo D (some x.at_) r
def chainOK (c : Chn) : Bool := in1 0 19 c.id && in1 1 12 c.vs.length && versGo (fun g v => verDoc c.id g v) none c.vs
def chainsGo : Option Int → List Chn → Bool
  | _, [] => true
  | p, c :: r => chainOK c && (match p with
      | none => true
      | some q => !decide (c.id ≤ q)) && chainsGo (some c.id) r
def defsGo : List Dfn → List Dfn → Bool
  | _, [] => true
  | pre, d :: r => defOK d && !(pre.any (fun x => x.name == d.name)) && defsGo (pre ++ [d]) r
def collOK (c : Col) : Bool := nameP c.name && decide (c.chains.length ≤ 20) && decide (c.defs.length ≤ 3) && defsGo [] c.defs && chainsGo none c.chains
theorem isTime (n : Int) : run E (.call 102 [xI n]) = some (.res [xB (in1 1 10000 n)] []) := by
  rw [run_call E 102 _ rfl Tryz.func102 rfl rfl rfl (by simp)]
  simp [inRange, in1]
theorem chainOK_eq (c : Chn) : (versGo (fun g v => verDocI g v c.id) none c.vs && (in1 0 19 c.id && in1 1 12 c.vs.length)) = chainOK c := by
  unfold chainOK
  cases h : in1 0 19 c.id with
  | false => simp
  | true =>
    have h0 : 0 ≤ c.id := by simp [in1] at h; exact h.1
    have e : (fun g v => verDocI g v c.id) = (fun g v => verDoc c.id g v) := by
      funext g v; exact verDocI_eq g v c.id h0
    rw [e]
    cases in1 1 12 (c.vs.length : Int) <;> cases versGo (fun g v => verDoc c.id g v) none c.vs <;> rfl
theorem implChain_loop (c : Chn) (h : c.Sm) (b : Bool) (hb : b = versGo (fun g v => verDocI g v c.id) none c.vs) : ∀ s o q, (s 1 = .ptr 0 0 ∧ s 6 = .t (.list (c.vs.map verT)) ∧ s 7 = .t (.int .i64 c.vs.length) ∧ s 8 = .t (.int .i64 0) ∧ o 0 = .box 198 [.t (.int .i64 c.id), .t (.list (c.vs.map verT))] ∧ 0 < q) →
    ∃ e s' o' q', run E (.code (.loop (loopAt Tryz.f314 0)) ⟨s, o, q, 53⟩) = some (.st e ⟨s', o', q', 53⟩) ∧ e = (if b then .exit 0 else .ret) ∧ s' 1 = .ptr 0 0 ∧ o' 0 = .box 198 [.t (.int .i64 c.id), .t (.list (c.vs.map verT))] ∧ (b = false → s' 2 = .t (.bool false)) := by
  intro s o q hI
  have d4 := d314_4
  simp [regionOf, findR, pick, Tryz.f314] at d4
  have dd := fun st => run_region_draw E st 4 _ d4
  clear d4
  refine loop_for (c := loopAt Tryz.f314 0) (N := 53)
    (fun i s o q => s 1 = .ptr 0 0 ∧ s 6 = .t (.list (c.vs.map verT)) ∧ s 7 = .t (.int .i64 c.vs.length) ∧ s 8 = .t (.int .i64 i) ∧ o 0 = .box 198 [.t (.int .i64 c.id), .t (.list (c.vs.map verT))] ∧ 0 < q ∧ b = versGo (fun g v => verDocI g v c.id) (match i with | 0 => none | j + 1 => (c.vs[j]?).map (·.at_)) (c.vs.drop i))
    (fun e s' o' q' => e = (if b then .exit 0 else .ret) ∧ s' 1 = .ptr 0 0 ∧ o' 0 = .box 198 [.t (.int .i64 c.id), .t (.list (c.vs.map verT))] ∧ (b = false → s' 2 = .t (.bool false))) c.vs.length ?_ ?_
    c.vs.length 0 s o q (by omega) ⟨hI.1, hI.2.1, hI.2.2.1, hI.2.2.2.1, hI.2.2.2.2.1, hI.2.2.2.2.2, by simpa using hb⟩
  · rintro i s o q hi ⟨h1, h6, h7, h8, ho, hq, hp⟩
    have hq0 : q ≠ 0 := by omega
    have h0q : 0 ≠ q := by omega
    have hxi : c.vs[i]? = some c.vs[i] := List.getElem?_eq_getElem hi
    have hi' : (i : Int) < (c.vs.length : Int) := by omega
    have hw := wrap_succ (n := i) (by have := h.1; omega)
    have ht := isTime c.vs[i].at_
    have hdoc := implDocOK c.vs[i].gone c.vs[i].v c.id (h.2 _ (List.getElem_mem hi))
    rw [List.drop_eq_getElem_cons hi] at hp
    cases i with
    | zero =>
      simp only [versGo] at hp
      cases hT : in1 1 10000 c.vs[0].at_ <;> cases hD : verDocI c.vs[0].gone c.vs[0].v c.id <;> simp [hT, hD] at hp ht hdoc <;> simp [loopAt, loopsOf, Tryz.f314, dd, h1, h6, h7, h8, ho, hq0, h0q, hi, hi', hw, ht, hdoc, hp, hxi]
    | succ j =>
      have hj : j < c.vs.length := by omega
      have hxj : c.vs[j]? = some c.vs[j] := List.getElem?_eq_getElem hj
      have hpos : (0 : Int) < (j : Int) + 1 := by omega
      have hnn : (0 : Int) ≤ (j : Int) + 1 := by omega
      have hwj2 := wrap_nat (n := j) (by have := h.1; omega)
      simp only [hxj, Option.map_some, versGo] at hp
      simp at h8 hi' hw
      by_cases hge : c.vs[j + 1].at_ ≤ c.vs[j].at_ <;> cases hT : in1 1 10000 c.vs[j + 1].at_ <;> cases hD : verDocI c.vs[j + 1].gone c.vs[j + 1].v c.id <;> simp [hT, hD, hge] at hp ht hdoc <;> simp [loopAt, loopsOf, Tryz.f314, dd, h1, h6, h7, h8, ho, hq0, h0q, hi, hi', hw, ht, hdoc, hp, hxi, hxj, hj, hpos, hnn, hwj2, hge]
  · rintro s o q ⟨h1, h6, h7, h8, ho, hq, hp⟩
    simp [versGo] at hp
    simp [loopAt, loopsOf, Tryz.f314, h1, h6, h7, h8, ho, hp]
theorem implChainOK (c : Chn) (h : c.Sm) : run E (.call 314 [.t (chnT c)]) = some (.res [xB (chainOK c)] []) := by
  rw [run_call E 314 _ rfl Tryz.func314 rfl rfl rfl (by simp)]
  rw [← chainOK_eq]
  have lp := implChain_loop c h
  have h1 := inRange c.id 0 19
  have h2 := inRange (c.vs.length : Int) 1 12
  rw [show (decide (0 ≤ c.id) && decide (c.id ≤ 19)) = in1 0 19 c.id from rfl] at h1
  rw [show (decide ((1 : Int) ≤ (c.vs.length : Int)) && decide ((c.vs.length : Int) ≤ 12)) = in1 1 12 c.vs.length from rfl] at h2
  cases hb : versGo (fun g v => verDocI g v c.id) none c.vs with
  | false =>
    obtain ⟨X, A, B, C, hx⟩ := sk (lp false hb.symm)
    simp [loopAt, loopsOf, Tryz.f314] at hx
    simp [hx]
  | true =>
    obtain ⟨X, A, B, C, hx⟩ := sk (lp true hb.symm)
    simp [loopAt, loopsOf, Tryz.f314] at hx
    cases hi : in1 0 19 c.id with
    | false => rw [hi] at h1; simp [hx, h1]
    | true => rw [hi] at h1; simp [hx, h1, h2]
end Go.Xd
/- impl's CollOK. -/
set_option linter.unusedSimpArgs false
set_option linter.unusedVariables false
namespace Go.Xd
open Go.Ev Go.Proofs Go.Pu
set_option maxRecDepth 100000
set_option maxHeartbeats 16000000
abbrev colBox (c : Col) : Ob := .box 195 [.t (.str c.name), .t (.list (c.chains.map chnT)), .t (.list (c.defs.map dfnT))]
/-- Where the first one stands, ahead of a place that fits. -/
theorem idxP_take {α : Type} (p : α → Bool) : ∀ (l : List α) (i : Nat) (hi : i < l.length), p l[i] = true → ((idxP p l < (i : Int)) = ((l.take i).any p = true))
  | [], i, hi, _ => by simp at hi
  | x :: r, 0, hi, h => by
    simp at h
    simp [idxP, h]
  | x :: r, i + 1, hi, h => by
    have ih := idxP_take p r i (by simpa using hi) (by simpa using h)
    have hne : ¬ idxP p r < 0 := by
      rw [idxP_neg]
      have : r.any p = true := List.any_eq_true.2 ⟨r[i]'(by simpa using hi), List.getElem_mem _, by simpa using h⟩
      simp [this]
    unfold idxP
    cases hx : p x with
    | true => simp [hx]
    | false =>
      simp only [hx, Bool.false_eq_true, if_false, hne, List.take_succ_cons, List.any_cons, Bool.false_or]
      rw [← ih]
      simp
theorem implColl_defs (c : Col) (h : c.Sm) (b : Bool) (hb : b = defsGo [] c.defs) : ∀ s o q, (s 1 = .ptr 0 0 ∧ s 8 = .t (.list (c.defs.map dfnT)) ∧ s 9 = .t (.int .i64 c.defs.length) ∧ s 10 = .t (.int .i64 0) ∧ o 0 = colBox c ∧ 0 < q) →
    ∃ e s' o' q', run E (.code (.loop (loopAt Tryz.f230 0)) ⟨s, o, q, 64⟩) = some (.st e ⟨s', o', q', 64⟩) ∧ e = (if b then .exit 0 else .ret) ∧ s' 1 = .ptr 0 0 ∧ o' 0 = colBox c ∧ 0 < q' ∧ (b = false → s' 2 = .t (.bool false)) := by
  intro s o q hI
  refine loop_for (c := loopAt Tryz.f230 0) (N := 64)
    (fun i s o q => s 1 = .ptr 0 0 ∧ s 8 = .t (.list (c.defs.map dfnT)) ∧ s 9 = .t (.int .i64 c.defs.length) ∧ s 10 = .t (.int .i64 i) ∧ o 0 = colBox c ∧ 0 < q ∧ b = defsGo (c.defs.take i) (c.defs.drop i))
    (fun e s' o' q' => e = (if b then .exit 0 else .ret) ∧ s' 1 = .ptr 0 0 ∧ o' 0 = colBox c ∧ 0 < q' ∧ (b = false → s' 2 = .t (.bool false))) c.defs.length ?_ ?_
    c.defs.length 0 s o q (by omega) ⟨hI.1, hI.2.1, hI.2.2.1, hI.2.2.2.1, hI.2.2.2.2.1, hI.2.2.2.2.2, by simpa using hb⟩
  · rintro i s o q hi ⟨h1, h8, h9, h10, ho, hq, hp⟩
    have hq0 : q ≠ 0 := by omega
    have h0q : 0 ≠ q := by omega
    have hxi : c.defs[i]? = some c.defs[i] := List.getElem?_eq_getElem hi
    have hi' : (i : Int) < (c.defs.length : Int) := by omega
    have hw := wrap_succ (n := i) (by have := h.defs.1; omega)
    have hd := implDefOK c.defs[i] (h.defs.2 _ (List.getElem_mem hi))
    have ha := defAt c c.defs[i].name h.defs.1
    have hlt := idxP_take (fun d => d.name == c.defs[i].name) c.defs i hi (by simp)
    have htk : c.defs.take (i + 1) = c.defs.take i ++ [c.defs[i]] := by rw [List.take_add_one, hxi]; rfl
    rw [List.drop_eq_getElem_cons hi, defsGo, ← htk] at hp
    generalize hz : (c.defs.take i).any (fun d => d.name == c.defs[i].name) = z at *
    generalize hk : idxP (fun d => d.name == c.defs[i].name) c.defs = k at *
    cases hO : defOK c.defs[i] with
    | false =>
      simp [hO] at hp hd
      simp [loopAt, loopsOf, Tryz.f230, h1, h8, h9, h10, ho, hq0, h0q, hi', hxi, hw, hd, hp]
    | true =>
      cases z with
      | true =>
        have hk2 : k < (i : Int) := by rw [hlt]
        simp [hO] at hp hd
        simp [loopAt, loopsOf, Tryz.f230, h1, h8, h9, h10, ho, hq0, h0q, hi', hxi, hw, hd, hp, ha, hk2]
      | false =>
        have hk2 : ¬ k < (i : Int) := by rw [hlt]; simp
        simp [hO] at hp hd
        simp [loopAt, loopsOf, Tryz.f230, h1, h8, h9, h10, ho, hq0, h0q, hi', hxi, hw, hd, ha, hk2]
        rw [hp, htk]
  · rintro s o q ⟨h1, h8, h9, h10, ho, hq, hp⟩
    simp [defsGo] at hp
    simp [loopAt, loopsOf, Tryz.f230, h1, h8, h9, h10, ho, hp, hq]
theorem implColl_chains (c : Col) (h : c.Sm) (b : Bool) (hb : b = chainsGo none c.chains) : ∀ s o q, (s 1 = .ptr 0 0 ∧ s 28 = .t (.list (c.chains.map chnT)) ∧ s 29 = .t (.int .i64 c.chains.length) ∧ s 30 = .t (.int .i64 0) ∧ o 0 = colBox c ∧ 0 < q) →
    ∃ e s' o' q', run E (.code (.loop (loopAt Tryz.f230 1)) ⟨s, o, q, 64⟩) = some (.st e ⟨s', o', q', 64⟩) ∧ e = (if b then .exit 2 else .ret) ∧ s' 1 = .ptr 0 0 ∧ o' 0 = colBox c ∧ (b = false → s' 2 = .t (.bool false)) := by
  intro s o q hI
  have d10 := d230_10
  simp [regionOf, findR, pick, Tryz.f230] at d10
  have dd := fun st => run_region_draw E st 10 _ d10
  clear d10
  refine loop_for (c := loopAt Tryz.f230 1) (N := 64)
    (fun i s o q => s 1 = .ptr 0 0 ∧ s 28 = .t (.list (c.chains.map chnT)) ∧ s 29 = .t (.int .i64 c.chains.length) ∧ s 30 = .t (.int .i64 i) ∧ o 0 = colBox c ∧ 0 < q ∧ b = chainsGo (match i with | 0 => none | j + 1 => (c.chains[j]?).map (·.id)) (c.chains.drop i))
    (fun e s' o' q' => e = (if b then .exit 2 else .ret) ∧ s' 1 = .ptr 0 0 ∧ o' 0 = colBox c ∧ (b = false → s' 2 = .t (.bool false))) c.chains.length ?_ ?_
    c.chains.length 0 s o q (by omega) ⟨hI.1, hI.2.1, hI.2.2.1, hI.2.2.2.1, hI.2.2.2.2.1, hI.2.2.2.2.2, by simpa using hb⟩
  · rintro i s o q hi ⟨h1, h28, h29, h30, ho, hq, hp⟩
    have hq0 : q ≠ 0 := by omega
    have h0q : 0 ≠ q := by omega
    have hxi : c.chains[i]? = some c.chains[i] := List.getElem?_eq_getElem hi
    have hi' : (i : Int) < (c.chains.length : Int) := by omega
    have hw := wrap_succ (n := i) (by have := h.chains.1; omega)
    have hc := implChainOK c.chains[i] (h.chains.2 _ (List.getElem_mem hi))
    rw [List.drop_eq_getElem_cons hi] at hp
    cases i with
    | zero =>
      simp only [chainsGo] at hp
      cases hT : chainOK c.chains[0] <;> simp [hT] at hp hc <;> simp [loopAt, loopsOf, Tryz.f230, dd, h1, h28, h29, h30, ho, hq0, h0q, hi, hi', hw, hc, hp, hxi]
    | succ j =>
      have hj : j < c.chains.length := by omega
      have hxj : c.chains[j]? = some c.chains[j] := List.getElem?_eq_getElem hj
      have hpos : (0 : Int) < (j : Int) + 1 := by omega
      have hnn : (0 : Int) ≤ (j : Int) + 1 := by omega
      have hwj2 := wrap_nat (n := j) (by have := h.chains.1; omega)
      simp only [hxj, Option.map_some, chainsGo] at hp
      simp at h30 hi' hw
      by_cases hge : c.chains[j + 1].id ≤ c.chains[j].id <;> cases hT : chainOK c.chains[j + 1] <;> simp [hT, hge] at hp hc <;> simp [loopAt, loopsOf, Tryz.f230, dd, h1, h28, h29, h30, ho, hq0, h0q, hi, hi', hw, hc, hp, hxi, hxj, hj, hpos, hnn, hwj2, hge]
  · rintro s o q ⟨h1, h28, h29, h30, ho, hq, hp⟩
    simp [chainsGo] at hp
    simp [loopAt, loopsOf, Tryz.f230, h1, h28, h29, h30, ho, hp]
/-- Ids that rise are few. -/
theorem chains_few : ∀ (l : List Chn) (p : Option Int), chainsGo p l = true → (match p with
    | none => (l.length : Int) ≤ 20
    | some q => l ≠ [] → -1 ≤ q → (l.length : Int) ≤ 19 - q)
  | [], p, _ => by cases p <;> simp
  | c :: r, p, h => by
    simp only [chainsGo, Bool.and_eq_true] at h
    obtain ⟨⟨h1, h2⟩, h3⟩ := h
    have ih := chains_few r (some c.id) h3
    have hid : 0 ≤ c.id ∧ c.id ≤ 19 := by
      unfold chainOK in1 at h1
      simp at h1
      omega
    simp only at ih
    cases p with
    | none =>
      simp only
      by_cases hr : r = []
      · subst hr; simp
      · have := ih hr (by omega); simp; omega
    | some q =>
      simp at h2
      intro _ hq
      by_cases hr : r = []
      · subst hr; simp; omega
      · have := ih hr (by omega); simp; omega
theorem implCollOK (c : Col) (h : c.Sm) : run E (.call 230 [.t (colT c)]) = some (.res [xB (collOK c)] []) := by
  rw [run_call E 230 _ rfl Tryz.func230 rfl rfl rfl (by simp)]
  have h1 := isShort c.name (by have := h.name; omega)
  have h3 : ((c.defs.length : Int) ≤ 3) = (c.defs.length ≤ 3) := by simp; omega
  unfold collOK
  cases hD : defsGo [] c.defs with
  | false =>
    obtain ⟨X, A, B, C, hx⟩ := sk (implColl_defs c h false hD.symm)
    simp [loopAt, loopsOf, Tryz.f230] at hx
    simp [hx]
  | true =>
    obtain ⟨X, A, B, C, hx⟩ := sk (implColl_defs c h true hD.symm)
    simp [loopAt, loopsOf, Tryz.f230] at hx
    cases hC : chainsGo none c.chains with
    | false =>
      obtain ⟨X2, A2, B2, C2, hx2⟩ := sk (implColl_chains c h false hC.symm)
      simp [loopAt, loopsOf, Tryz.f230] at hx2
      simp [hx, hx2]
    | true =>
      obtain ⟨X2, A2, B2, C2, hx2⟩ := sk (implColl_chains c h true hC.symm)
      simp [loopAt, loopsOf, Tryz.f230] at hx2
      have hfew := chains_few c.chains none hC
      simp only at hfew
      have hfew' : c.chains.length ≤ 20 := by omega
      cases hN : nameP c.name with
      | false => rw [hN] at h1; simp [hx, hx2, h1]
      | true => rw [hN] at h1; simp [hx, hx2, h1, hfew', h3]
end Go.Xd
/- spec's CollOK. -/
set_option linter.unusedSimpArgs false
set_option linter.unusedVariables false
namespace Go.Xd
open Go.Ev Go.Proofs Go.Pu
set_option maxRecDepth 100000
set_option maxHeartbeats 16000000
theorem l01In1 (a b c : Int) : run E (.call 83 [xI a, xI b, xI c]) = some (.res [xB (in1 b c a)] []) := l01In a b c
theorem specColl_inner (c : Col) (h : c.Sm) (i : Nat) (hi : i < c.defs.length) (z : Bool) (hz : z = (c.defs.take i).any (fun d => d.name == c.defs[i].name)) : ∀ s o q, (s 1 = .ptr 0 0 ∧ s 3 = .t (.int .i64 i) ∧ s 4 = .t (.int .i64 0) ∧ o 0 = colBox c ∧ 0 < q) →
    ∃ e s' o' q', run E (.code (.loop (loopAt Tryz.f228 1)) ⟨s, o, q, 138⟩) = some (.st e ⟨s', o', q', 138⟩) ∧ e = (if z then .ret else .exit 2) ∧ s' 1 = .ptr 0 0 ∧ s' 3 = .t (.int .i64 i) ∧ o' 0 = colBox c ∧ 0 < q' ∧ (z = true → s' 2 = .t (.bool false)) := by
  intro s o q hI
  have d11 := d228_11
  simp [regionOf, findR, pick, Tryz.f228] at d11
  have dd := fun st => run_region_draw E st 11 _ d11
  clear d11
  refine loop_for (c := loopAt Tryz.f228 1) (N := 138)
    (fun j s o q => s 1 = .ptr 0 0 ∧ s 3 = .t (.int .i64 i) ∧ s 4 = .t (.int .i64 j) ∧ o 0 = colBox c ∧ 0 < q ∧ z = ((c.defs.take i).drop j).any (fun d => d.name == c.defs[i].name))
    (fun e s' o' q' => e = (if z then .ret else .exit 2) ∧ s' 1 = .ptr 0 0 ∧ s' 3 = .t (.int .i64 i) ∧ o' 0 = colBox c ∧ 0 < q' ∧ (z = true → s' 2 = .t (.bool false))) i ?_ ?_
    i 0 s o q (by omega) ⟨hI.1, hI.2.1, hI.2.2.1, hI.2.2.2.1, hI.2.2.2.2, by simpa using hz⟩
  · rintro j s o q hj ⟨h1, h3, h4, ho, hq, hp⟩
    have hjd : j < c.defs.length := by omega
    have hxi : c.defs[i]? = some c.defs[i] := List.getElem?_eq_getElem hi
    have hxj : c.defs[j]? = some c.defs[j] := List.getElem?_eq_getElem hjd
    have hi' : (i : Int) < (c.defs.length : Int) := by omega
    have hj' : (j : Int) < (c.defs.length : Int) := by omega
    have hji : (j : Int) < (i : Int) := by omega
    have hw := wrap_succ (n := j) (by have := h.defs.1; omega)
    rw [List.drop_eq_getElem_cons (by simp; omega), List.any_cons, List.getElem_take] at hp
    by_cases he : c.defs[j].name = c.defs[i].name
    · simp [he] at hp
      simp [loopAt, loopsOf, Tryz.f228, dd, h1, h3, h4, ho, hxi, hxj, hi', hj', hji, hw, he, hp, hq, -List.any_eq_true, -List.any_eq_false]
    · rw [show (c.defs[j].name == c.defs[i].name) = false from by simp [he], Bool.false_or] at hp
      simp [loopAt, loopsOf, Tryz.f228, dd, h1, h3, h4, ho, hxi, hxj, hi', hj', hji, hw, he, hq, -List.any_eq_true, -List.any_eq_false]
      exact hp
  · rintro s o q ⟨h1, h3, h4, ho, hq, hp⟩
    simp at hp
    simp [loopAt, loopsOf, Tryz.f228, h1, h3, h4, ho, hp, hq]
theorem specColl_defs (c : Col) (h : c.Sm) (b : Bool) (hb : b = defsGo [] c.defs) : ∀ s o q, (s 1 = .ptr 0 0 ∧ s 3 = .t (.int .i64 0) ∧ o 0 = colBox c ∧ 0 < q) →
    ∃ e s' o' q', run E (.code (.loop (loopAt Tryz.f228 0)) ⟨s, o, q, 138⟩) = some (.st e ⟨s', o', q', 138⟩) ∧ e = (if b then .exit 0 else .ret) ∧ s' 1 = .ptr 0 0 ∧ o' 0 = colBox c ∧ 0 < q' ∧ (b = false → s' 2 = .t (.bool false)) := by
  intro s o q hI
  refine loop_for (c := loopAt Tryz.f228 0) (N := 138)
    (fun i s o q => s 1 = .ptr 0 0 ∧ s 3 = .t (.int .i64 i) ∧ o 0 = colBox c ∧ 0 < q ∧ b = defsGo (c.defs.take i) (c.defs.drop i))
    (fun e s' o' q' => e = (if b then .exit 0 else .ret) ∧ s' 1 = .ptr 0 0 ∧ o' 0 = colBox c ∧ 0 < q' ∧ (b = false → s' 2 = .t (.bool false))) c.defs.length ?_ ?_
    c.defs.length 0 s o q (by omega) ⟨hI.1, hI.2.1, hI.2.2.1, hI.2.2.2, by simpa using hb⟩
  · rintro i s o q hi ⟨h1, h3, ho, hq, hp⟩
    have hxi : c.defs[i]? = some c.defs[i] := List.getElem?_eq_getElem hi
    have hi' : (i : Int) < (c.defs.length : Int) := by omega
    have hw := wrap_succ (n := i) (by have := h.defs.1; omega)
    have hd := specDefOK c.defs[i] (h.defs.2 _ (List.getElem_mem hi))
    have htk : c.defs.take (i + 1) = c.defs.take i ++ [c.defs[i]] := by rw [List.take_add_one, hxi]; rfl
    obtain ⟨z, hz⟩ : ∃ z, z = (c.defs.take i).any (fun d => d.name == c.defs[i].name) := ⟨_, rfl⟩
    obtain ⟨X, A, B, C, hx⟩ := sk (specColl_inner c h i hi z hz)
    simp only [loopAt, loopsOf, Tryz.f228] at hx
    rw [List.drop_eq_getElem_cons hi, defsGo, ← htk, ← hz] at hp
    clear hz
    cases hO : defOK c.defs[i] with
    | false =>
      simp [hO] at hp hd
      simp [loopAt, loopsOf, Tryz.f228, h1, h3, ho, hq, hi', hxi, hw, hd, hp]
    | true =>
      cases z with
      | true =>
        simp [hO] at hp hd hx
        simp [loopAt, loopsOf, Tryz.f228, h1, h3, ho, hq, hi', hxi, hw, hd, hp, hx]
      | false =>
        simp [hO] at hp hd hx
        simp [loopAt, loopsOf, Tryz.f228, h1, h3, ho, hq, hi', hxi, hw, hd, hx]
        exact hp
  · rintro s o q ⟨h1, h3, ho, hq, hp⟩
    simp [defsGo] at hp
    simp [loopAt, loopsOf, Tryz.f228, h1, h3, ho, hp, hq]
theorem specColl_vers (c : Col) (h : c.Sm) (m r : Nat) (x : Chn) (hx : x.Sm) (b : Bool) (hb : b = versGo (fun g v => verDoc x.id g v) none x.vs) : ∀ s o q, (s 1 = .ptr 0 0 ∧ s 5 = .t (.int .i64 m) ∧ s 6 = .ptr r 0 ∧ s 7 = .t (.int .i64 0) ∧ o 0 = colBox c ∧ o r = .box 198 [.t (.int .i64 x.id), .t (.list (x.vs.map verT))] ∧ 0 < r ∧ r < q) →
    ∃ e s' o' q', run E (.code (.loop (loopAt Tryz.f228 3)) ⟨s, o, q, 138⟩) = some (.st e ⟨s', o', q', 138⟩) ∧ e = (if b then .exit 6 else .ret) ∧ s' 1 = .ptr 0 0 ∧ s' 5 = .t (.int .i64 m) ∧ o' 0 = colBox c ∧ 0 < q' ∧ (b = false → s' 2 = .t (.bool false)) := by
  intro s o q hI
  have d23 := d228_23
  simp [regionOf, findR, pick, Tryz.f228] at d23
  have dd := fun st => run_region_draw E st 23 _ d23
  clear d23
  refine loop_for (c := loopAt Tryz.f228 3) (N := 138)
    (fun i s o q => s 1 = .ptr 0 0 ∧ s 5 = .t (.int .i64 m) ∧ s 6 = .ptr r 0 ∧ s 7 = .t (.int .i64 i) ∧ o 0 = colBox c ∧ o r = .box 198 [.t (.int .i64 x.id), .t (.list (x.vs.map verT))] ∧ 0 < r ∧ r < q ∧ b = versGo (fun g v => verDoc x.id g v) (match i with | 0 => none | j + 1 => (x.vs[j]?).map (·.at_)) (x.vs.drop i))
    (fun e s' o' q' => e = (if b then .exit 6 else .ret) ∧ s' 1 = .ptr 0 0 ∧ s' 5 = .t (.int .i64 m) ∧ o' 0 = colBox c ∧ 0 < q' ∧ (b = false → s' 2 = .t (.bool false))) x.vs.length ?_ ?_
    x.vs.length 0 s o q (by omega) ⟨hI.1, hI.2.1, hI.2.2.1, hI.2.2.2.1, hI.2.2.2.2.1, hI.2.2.2.2.2.1, hI.2.2.2.2.2.2.1, hI.2.2.2.2.2.2.2, by simpa using hb⟩
  · rintro i s o q hi ⟨h1, h5, h6, h7, ho, hr, hr0, hrq, hp⟩
    have hq0 : q ≠ 0 := by omega
    have h0q : 0 ≠ q := by omega
    have hqr : q ≠ r := by omega
    have hrq' : r ≠ q := by omega
    have hrq1 : r < q + 1 := by omega
    have hxi : x.vs[i]? = some x.vs[i] := List.getElem?_eq_getElem hi
    have hi' : (i : Int) < (x.vs.length : Int) := by omega
    have hw := wrap_succ (n := i) (by have := hx.1; omega)
    have ht := l01In1 x.vs[i].at_ 1 10000
    have hdoc := specDocOK x.id x.vs[i].gone x.vs[i].v (hx.2 _ (List.getElem_mem hi))
    rw [List.drop_eq_getElem_cons hi] at hp
    cases i with
    | zero =>
      simp only [versGo] at hp
      cases hT : in1 1 10000 x.vs[0].at_ <;> cases hD : verDoc x.id x.vs[0].gone x.vs[0].v <;> simp [hT, hD] at hp ht hdoc <;> simp [loopAt, loopsOf, Tryz.f228, dd, h1, h5, h6, h7, ho, hr, hq0, h0q, hqr, hrq', hrq1, hr0, hi, hi', hw, ht, hdoc, hp, hxi]
    | succ j =>
      have hj : j < x.vs.length := by omega
      have hxj : x.vs[j]? = some x.vs[j] := List.getElem?_eq_getElem hj
      have hpos : (0 : Int) < (j : Int) + 1 := by omega
      have hnn : (0 : Int) ≤ (j : Int) + 1 := by omega
      have hwj2 := wrap_nat (n := j) (by have := hx.1; omega)
      simp only [hxj, Option.map_some, versGo] at hp
      simp at h7 hi' hw
      by_cases hge : x.vs[j + 1].at_ ≤ x.vs[j].at_ <;> cases hT : in1 1 10000 x.vs[j + 1].at_ <;> cases hD : verDoc x.id x.vs[j + 1].gone x.vs[j + 1].v <;> simp [hT, hD, hge] at hp ht hdoc <;> simp [loopAt, loopsOf, Tryz.f228, dd, h1, h5, h6, h7, ho, hr, hq0, h0q, hqr, hrq', hrq1, hr0, hi, hi', hw, ht, hdoc, hp, hxi, hxj, hj, hpos, hnn, hwj2, hge]
  · rintro s o q ⟨h1, h5, h6, h7, ho, hr, hr0, hrq, hp⟩
    have hq : 0 < q := by omega
    simp [versGo] at hp
    simp [loopAt, loopsOf, Tryz.f228, h1, h5, h6, h7, ho, hr, hp, hq]
end Go.Xd
/- The laws' own functions over lists of versions, chains and definitions. -/
set_option linter.unusedSimpArgs false
set_option linter.unusedVariables false
namespace Go.Xd
open Go.Ev Go.Proofs Go.Pu
set_option maxRecDepth 100000
set_option maxHeartbeats 16000000
theorem sz_208 (xs : List Ver) (f : Ver → Int → Int) (hl : xs.length < 9223372036854775807) (hf : ∀ x ∈ xs, ∀ l, 0 ≤ l → l ≤ 1048576 → run E (.call 400 [.t (verT x), xI l]) = some (.res [xI (f x l)] [])) (hle : ∀ x ∈ xs, ∀ k, 0 ≤ k → f x k ≤ k) (l : Int) (h0 : 0 ≤ l) (hm : l ≤ 1048576) :
    run E (.call 384 [.t (.list (xs.map verT)), xI l]) = some (.res [xI (lstSz f xs l)] []) := by
  rw [run_call E 384 _ rfl Tryz.func384 rfl rfl rfl (by simp)]
  have hw : IntKind.i64.wrap (l - (xs.length : Int)) = l - xs.length := wrap_of (by omega) (by omega)
  unfold lstSz szB
  by_cases hb : l - (xs.length : Int) < 0
  · simp [hw, hb]
  · have hb0 : ¬ l < (xs.length : Int) := by omega
    have lp := fun (r : Int) (hr : r = goSz f xs (l - xs.length)) => sk (fun s o q hI => loop_for (c := loopAt Tryz.f384 0) (N := 27)
      (fun i s o q => ∃ k : Int, s 0 = .t (.list (xs.map verT)) ∧ s 1 = .t (.int .i64 k) ∧ s 5 = .t (.int .i64 i) ∧ 0 ≤ k ∧ k ≤ 1048576 ∧ r = goSz f (xs.drop i) k)
      (fun e s' o' q' => e = (if r < 0 then .ret else .exit 0) ∧ (r < 0 → s' 4 = .t (.int .i64 r)) ∧ (0 ≤ r → s' 1 = .t (.int .i64 r))) xs.length
      (by
        rintro i s o q hi ⟨k, g0, g1, g5, hk0, hkm, hp⟩
        have hi' : (i : Int) < (xs.length : Int) := by omega
        have hwi := wrap_succ (n := i) (by omega)
        have hxi : xs[i]? = some xs[i] := List.getElem?_eq_getElem hi
        have hx := hf _ (List.getElem_mem hi) k hk0 hkm
        have hxl := hle _ (List.getElem_mem hi) k hk0
        rw [List.drop_eq_getElem_cons hi, goSz] at hp
        by_cases hn : f xs[i] k < 0
        · simp [hn] at hp
          simp [loopAt, loopsOf, Tryz.f384, g0, g1, g5, hi', hxi, hwi, hx, hn, hp]
        · simp [hn] at hp
          simp [loopAt, loopsOf, Tryz.f384, g0, g1, g5, hi', hxi, hwi, hx, hn]
          exact ⟨by omega, by omega, hp⟩)
      (by
        rintro s o q ⟨k, g0, g1, g5, hk0, hkm, hp⟩
        simp [goSz] at hp
        have hn : ¬ r < 0 := by omega
        have hn' : 0 ≤ r := by omega
        have hk1 : ¬ k < 0 := by omega
        simp [loopAt, loopsOf, Tryz.f384, g0, g1, g5, hp, hk1]
        try omega)
      xs.length 0 s o q (by omega) hI)
    simp only [loopAt, loopsOf, Tryz.f384] at lp
    obtain ⟨r, hr⟩ : ∃ r, r = goSz f xs (l - xs.length) := ⟨_, rfl⟩
    obtain ⟨X, A, B, C, hx⟩ := lp r hr
    have hx' := fun s o q a0 a1 a5 => hx s o q ⟨l - xs.length, a0, a1, a5, by omega, by omega, by simpa using hr⟩
    clear hx
    by_cases hn : r < 0
    · have hn' : ¬ 0 ≤ r := by omega
      simp [hn, hn'] at hx'
      simp [hw, hb, hb0, hx', hn, ← hr]
    · have hn' : 0 ≤ r := by omega
      simp [hn, hn'] at hx'
      simp [hw, hb, hb0, hx', hn, ← hr]
theorem sz_87 (xs : List Chn) (f : Chn → Int → Int) (hl : xs.length < 9223372036854775807) (hf : ∀ x ∈ xs, ∀ l, 0 ≤ l → l ≤ 1048576 → run E (.call 364 [.t (chnT x), xI l]) = some (.res [xI (f x l)] [])) (hle : ∀ x ∈ xs, ∀ k, 0 ≤ k → f x k ≤ k) (l : Int) (h0 : 0 ≤ l) (hm : l ≤ 1048576) :
    run E (.call 309 [.t (.list (xs.map chnT)), xI l]) = some (.res [xI (lstSz f xs l)] []) := by
  rw [run_call E 309 _ rfl Tryz.func309 rfl rfl rfl (by simp)]
  have hw : IntKind.i64.wrap (l - (xs.length : Int)) = l - xs.length := wrap_of (by omega) (by omega)
  unfold lstSz szB
  by_cases hb : l - (xs.length : Int) < 0
  · simp [hw, hb]
  · have hb0 : ¬ l < (xs.length : Int) := by omega
    have lp := fun (r : Int) (hr : r = goSz f xs (l - xs.length)) => sk (fun s o q hI => loop_for (c := loopAt Tryz.f309 0) (N := 27)
      (fun i s o q => ∃ k : Int, s 0 = .t (.list (xs.map chnT)) ∧ s 1 = .t (.int .i64 k) ∧ s 5 = .t (.int .i64 i) ∧ 0 ≤ k ∧ k ≤ 1048576 ∧ r = goSz f (xs.drop i) k)
      (fun e s' o' q' => e = (if r < 0 then .ret else .exit 0) ∧ (r < 0 → s' 4 = .t (.int .i64 r)) ∧ (0 ≤ r → s' 1 = .t (.int .i64 r))) xs.length
      (by
        rintro i s o q hi ⟨k, g0, g1, g5, hk0, hkm, hp⟩
        have hi' : (i : Int) < (xs.length : Int) := by omega
        have hwi := wrap_succ (n := i) (by omega)
        have hxi : xs[i]? = some xs[i] := List.getElem?_eq_getElem hi
        have hx := hf _ (List.getElem_mem hi) k hk0 hkm
        have hxl := hle _ (List.getElem_mem hi) k hk0
        rw [List.drop_eq_getElem_cons hi, goSz] at hp
        by_cases hn : f xs[i] k < 0
        · simp [hn] at hp
          simp [loopAt, loopsOf, Tryz.f309, g0, g1, g5, hi', hxi, hwi, hx, hn, hp]
        · simp [hn] at hp
          simp [loopAt, loopsOf, Tryz.f309, g0, g1, g5, hi', hxi, hwi, hx, hn]
          exact ⟨by omega, by omega, hp⟩)
      (by
        rintro s o q ⟨k, g0, g1, g5, hk0, hkm, hp⟩
        simp [goSz] at hp
        have hn : ¬ r < 0 := by omega
        have hn' : 0 ≤ r := by omega
        have hk1 : ¬ k < 0 := by omega
        simp [loopAt, loopsOf, Tryz.f309, g0, g1, g5, hp, hk1]
        try omega)
      xs.length 0 s o q (by omega) hI)
    simp only [loopAt, loopsOf, Tryz.f309] at lp
    obtain ⟨r, hr⟩ : ∃ r, r = goSz f xs (l - xs.length) := ⟨_, rfl⟩
    obtain ⟨X, A, B, C, hx⟩ := lp r hr
    have hx' := fun s o q a0 a1 a5 => hx s o q ⟨l - xs.length, a0, a1, a5, by omega, by omega, by simpa using hr⟩
    clear hx
    by_cases hn : r < 0
    · have hn' : ¬ 0 ≤ r := by omega
      simp [hn, hn'] at hx'
      simp [hw, hb, hb0, hx', hn, ← hr]
    · have hn' : 0 ≤ r := by omega
      simp [hn, hn'] at hx'
      simp [hw, hb, hb0, hx', hn, ← hr]
theorem sz_88 (xs : List Dfn) (f : Dfn → Int → Int) (hl : xs.length < 9223372036854775807) (hf : ∀ x ∈ xs, ∀ l, 0 ≤ l → l ≤ 1048576 → run E (.call 107 [.t (dfnT x), xI l]) = some (.res [xI (f x l)] [])) (hle : ∀ x ∈ xs, ∀ k, 0 ≤ k → f x k ≤ k) (l : Int) (h0 : 0 ≤ l) (hm : l ≤ 1048576) :
    run E (.call 310 [.t (.list (xs.map dfnT)), xI l]) = some (.res [xI (lstSz f xs l)] []) := by
  rw [run_call E 310 _ rfl Tryz.func310 rfl rfl rfl (by simp)]
  have hw : IntKind.i64.wrap (l - (xs.length : Int)) = l - xs.length := wrap_of (by omega) (by omega)
  unfold lstSz szB
  by_cases hb : l - (xs.length : Int) < 0
  · simp [hw, hb]
  · have hb0 : ¬ l < (xs.length : Int) := by omega
    have lp := fun (r : Int) (hr : r = goSz f xs (l - xs.length)) => sk (fun s o q hI => loop_for (c := loopAt Tryz.f310 0) (N := 27)
      (fun i s o q => ∃ k : Int, s 0 = .t (.list (xs.map dfnT)) ∧ s 1 = .t (.int .i64 k) ∧ s 5 = .t (.int .i64 i) ∧ 0 ≤ k ∧ k ≤ 1048576 ∧ r = goSz f (xs.drop i) k)
      (fun e s' o' q' => e = (if r < 0 then .ret else .exit 0) ∧ (r < 0 → s' 4 = .t (.int .i64 r)) ∧ (0 ≤ r → s' 1 = .t (.int .i64 r))) xs.length
      (by
        rintro i s o q hi ⟨k, g0, g1, g5, hk0, hkm, hp⟩
        have hi' : (i : Int) < (xs.length : Int) := by omega
        have hwi := wrap_succ (n := i) (by omega)
        have hxi : xs[i]? = some xs[i] := List.getElem?_eq_getElem hi
        have hx := hf _ (List.getElem_mem hi) k hk0 hkm
        have hxl := hle _ (List.getElem_mem hi) k hk0
        rw [List.drop_eq_getElem_cons hi, goSz] at hp
        by_cases hn : f xs[i] k < 0
        · simp [hn] at hp
          simp [loopAt, loopsOf, Tryz.f310, g0, g1, g5, hi', hxi, hwi, hx, hn, hp]
        · simp [hn] at hp
          simp [loopAt, loopsOf, Tryz.f310, g0, g1, g5, hi', hxi, hwi, hx, hn]
          exact ⟨by omega, by omega, hp⟩)
      (by
        rintro s o q ⟨k, g0, g1, g5, hk0, hkm, hp⟩
        simp [goSz] at hp
        have hn : ¬ r < 0 := by omega
        have hn' : 0 ≤ r := by omega
        have hk1 : ¬ k < 0 := by omega
        simp [loopAt, loopsOf, Tryz.f310, g0, g1, g5, hp, hk1]
        try omega)
      xs.length 0 s o q (by omega) hI)
    simp only [loopAt, loopsOf, Tryz.f310] at lp
    obtain ⟨r, hr⟩ : ∃ r, r = goSz f xs (l - xs.length) := ⟨_, rfl⟩
    obtain ⟨X, A, B, C, hx⟩ := lp r hr
    have hx' := fun s o q a0 a1 a5 => hx s o q ⟨l - xs.length, a0, a1, a5, by omega, by omega, by simpa using hr⟩
    clear hx
    by_cases hn : r < 0
    · have hn' : ¬ 0 ≤ r := by omega
      simp [hn, hn'] at hx'
      simp [hw, hb, hb0, hx', hn, ← hr]
    · have hn' : 0 ≤ r := by omega
      simp [hn, hn'] at hx'
      simp [hw, hb, hb0, hx', hn, ← hr]
theorem to_210 (xs : List Ver) (hl : xs.length < 4294967296) (hf : ∀ x ∈ xs, run E (.call 401 [.t (verT x)]) = some (.res [verX x] [])) :
    run E (.call 385 [.t (.list (xs.map verT))]) = some (.res [.row 200 (xs.map verT)] []) := by
  rw [run_call E 385 _ rfl Tryz.func385 rfl rfl rfl (by simp)]
  have lp := sk (fun s o q hI => loop_for (c := loopAt Tryz.f385 0) (N := 23)
    (fun i s o q => s 0 = .t (.list (xs.map verT)) ∧ s 3 = .row 0 ∧ s 4 = .t (.int .i64 i) ∧ 0 < q ∧ o 0 = .row 200 ((xs.map verT).take i ++ List.replicate (xs.length - i) (.agg [.int .i64 0, .bool false, .int .i64 0, .int .i64 0, .str []])) true)
    (fun e s' o' q' => e = .exit 0 ∧ s' 3 = .row 0 ∧ o' 0 = .row 200 (xs.map verT) true) xs.length
    (by
      rintro i s o q hi ⟨g0, g3, g4, hq, ho⟩
      have hi' : (i : Int) < (xs.length : Int) := by omega
      have hwi := wrap_succ (n := i) (by omega)
      have hxi : xs[i]? = some xs[i] := List.getElem?_eq_getElem hi
      have hx := hf _ (List.getElem_mem hi)
      have hq0 : q ≠ 0 := by omega
      have h0q : 0 ≠ q := by omega
      have hget := mid_get (xs.map verT) (.agg [.int .i64 0, .bool false, .int .i64 0, .int .i64 0, .str []]) i xs.length hi (by simp; omega)
      have hset := mid_set (xs.map verT) (.agg [.int .i64 0, .bool false, .int .i64 0, .int .i64 0, .str []]) (verT xs[i]) i xs.length hi (by simp [hxi])
      simp [loopAt, loopsOf, Tryz.f385, g0, g3, g4, hi', hxi, hwi, hx, ho, hget, hset, hq0, h0q]
      try omega)
    (by
      rintro s o q ⟨g0, g3, g4, hq, ho⟩
      have hfull : (xs.map verT).take xs.length = xs.map verT := List.take_of_length_le (by simp)
      simp [hfull] at ho
      simp [loopAt, loopsOf, Tryz.f385, g0, g3, g4, ho])
    xs.length 0 s o q (by omega) hI)
  simp only [loopAt, loopsOf, Tryz.f385] at lp
  obtain ⟨X, A, B, C, hx⟩ := lp
  simp at hx
  have h1 : xs.length ≤ 140737488355328 := by omega
  have h2 : xs.length * 48 ≤ 140737488355328 := by omega
  simp [h1, h2, hx]
theorem to_91 (xs : List Chn) (hl : xs.length < 4294967296) (hf : ∀ x ∈ xs, run E (.call 365 [.t (chnT x)]) = some (.res [.agg [.t (.int .i64 x.id), .row 200 (x.vs.map verT)]] [])) :
    run E (.call 311 [.t (.list (xs.map chnT))]) = some (.res [.row 198 (xs.map chnT)] []) := by
  rw [run_call E 311 _ rfl Tryz.func311 rfl rfl rfl (by simp)]
  have lp := sk (fun s o q hI => loop_for (c := loopAt Tryz.f311 0) (N := 23)
    (fun i s o q => s 0 = .t (.list (xs.map chnT)) ∧ s 3 = .row 0 ∧ s 4 = .t (.int .i64 i) ∧ 0 < q ∧ o 0 = .row 198 ((xs.map chnT).take i ++ List.replicate (xs.length - i) (.agg [.int .i64 0, .list []])) true)
    (fun e s' o' q' => e = .exit 0 ∧ s' 3 = .row 0 ∧ o' 0 = .row 198 (xs.map chnT) true) xs.length
    (by
      rintro i s o q hi ⟨g0, g3, g4, hq, ho⟩
      have hi' : (i : Int) < (xs.length : Int) := by omega
      have hwi := wrap_succ (n := i) (by omega)
      have hxi : xs[i]? = some xs[i] := List.getElem?_eq_getElem hi
      have hx := hf _ (List.getElem_mem hi)
      have hq0 : q ≠ 0 := by omega
      have h0q : 0 ≠ q := by omega
      have hget := mid_get (xs.map chnT) (.agg [.int .i64 0, .list []]) i xs.length hi (by simp; omega)
      have hset := mid_set (xs.map chnT) (.agg [.int .i64 0, .list []]) (chnT xs[i]) i xs.length hi (by simp [hxi])
      simp [loopAt, loopsOf, Tryz.f311, g0, g3, g4, hi', hxi, hwi, hx, ho, hget, hset, hq0, h0q]
      try omega)
    (by
      rintro s o q ⟨g0, g3, g4, hq, ho⟩
      have hfull : (xs.map chnT).take xs.length = xs.map chnT := List.take_of_length_le (by simp)
      simp [hfull] at ho
      simp [loopAt, loopsOf, Tryz.f311, g0, g3, g4, ho])
    xs.length 0 s o q (by omega) hI)
  simp only [loopAt, loopsOf, Tryz.f311] at lp
  obtain ⟨X, A, B, C, hx⟩ := lp
  simp at hx
  have h1 : xs.length ≤ 140737488355328 := by omega
  have h2 : xs.length * 32 ≤ 140737488355328 := by omega
  simp [h1, h2, hx]
theorem to_92 (xs : List Dfn) (hl : xs.length < 4294967296) (hf : ∀ x ∈ xs, run E (.call 114 [.t (dfnT x)]) = some (.res [.agg [.t (.str x.name), .row 133 (x.parts.map prtT)]] [])) :
    run E (.call 312 [.t (.list (xs.map dfnT))]) = some (.res [.row 79 (xs.map dfnT)] []) := by
  rw [run_call E 312 _ rfl Tryz.func312 rfl rfl rfl (by simp)]
  have lp := sk (fun s o q hI => loop_for (c := loopAt Tryz.f312 0) (N := 23)
    (fun i s o q => s 0 = .t (.list (xs.map dfnT)) ∧ s 3 = .row 0 ∧ s 4 = .t (.int .i64 i) ∧ 0 < q ∧ o 0 = .row 79 ((xs.map dfnT).take i ++ List.replicate (xs.length - i) (.agg [.str [], .list []])) true)
    (fun e s' o' q' => e = .exit 0 ∧ s' 3 = .row 0 ∧ o' 0 = .row 79 (xs.map dfnT) true) xs.length
    (by
      rintro i s o q hi ⟨g0, g3, g4, hq, ho⟩
      have hi' : (i : Int) < (xs.length : Int) := by omega
      have hwi := wrap_succ (n := i) (by omega)
      have hxi : xs[i]? = some xs[i] := List.getElem?_eq_getElem hi
      have hx := hf _ (List.getElem_mem hi)
      have hq0 : q ≠ 0 := by omega
      have h0q : 0 ≠ q := by omega
      have hget := mid_get (xs.map dfnT) (.agg [.str [], .list []]) i xs.length hi (by simp; omega)
      have hset := mid_set (xs.map dfnT) (.agg [.str [], .list []]) (dfnT xs[i]) i xs.length hi (by simp [hxi])
      simp [loopAt, loopsOf, Tryz.f312, g0, g3, g4, hi', hxi, hwi, hx, ho, hget, hset, hq0, h0q]
      try omega)
    (by
      rintro s o q ⟨g0, g3, g4, hq, ho⟩
      have hfull : (xs.map dfnT).take xs.length = xs.map dfnT := List.take_of_length_le (by simp)
      simp [hfull] at ho
      simp [loopAt, loopsOf, Tryz.f312, g0, g3, g4, ho])
    xs.length 0 s o q (by omega) hI)
  simp only [loopAt, loopsOf, Tryz.f312] at lp
  obtain ⟨X, A, B, C, hx⟩ := lp
  simp at hx
  have h1 : xs.length ≤ 140737488355328 := by omega
  have h2 : xs.length * 40 ≤ 140737488355328 := by omega
  simp [h1, h2, hx]
theorem eq_212 (xs : List Ver) (hl : xs.length < 9223372036854775807) (hf : ∀ x ∈ xs, run E (.call 402 [.t (verT x), .t (verT x)]) = some (.res [xB true] [])) :
    run E (.call 386 [.t (.list (xs.map verT)), .t (.list (xs.map verT))]) = some (.res [xB true] []) := by
  rw [run_call E 386 _ rfl Tryz.func386 rfl rfl rfl (by simp)]
  have d6 := d386_6
  simp [regionOf, findR, pick, Tryz.f386] at d6
  have dd := fun st => run_region_draw E st 6 _ d6
  clear d6
  have lp := sk (fun s o q hI => loop_for (c := loopAt Tryz.f386 0) (N := 27)
    (fun i s o q => s 0 = .t (.list (xs.map verT)) ∧ s 1 = .t (.list (xs.map verT)) ∧ s 5 = .t (.int .i64 i))
    (fun e s' o' q' => e = .exit 0) xs.length
    (by
      rintro i s o q hi ⟨g0, g1, g5⟩
      have hi' : (i : Int) < (xs.length : Int) := by omega
      have hwi := wrap_succ (n := i) (by omega)
      have hxi : xs[i]? = some xs[i] := List.getElem?_eq_getElem hi
      have hx := hf _ (List.getElem_mem hi)
      simp [loopAt, loopsOf, Tryz.f386, dd, g0, g1, g5, hi', hxi, hwi, hx])
    (by
      rintro s o q ⟨g0, g1, g5⟩
      simp [loopAt, loopsOf, Tryz.f386, g0, g1, g5])
    xs.length 0 s o q (by omega) hI)
  simp only [loopAt, loopsOf, Tryz.f386] at lp
  obtain ⟨X, A, B, C, hx⟩ := lp
  simp at hx
  simp [hx]
theorem eq_96 (xs : List Chn) (hl : xs.length < 9223372036854775807) (hf : ∀ x ∈ xs, run E (.call 368 [.t (chnT x), .t (chnT x)]) = some (.res [xB true] [])) :
    run E (.call 318 [.t (.list (xs.map chnT)), .t (.list (xs.map chnT))]) = some (.res [xB true] []) := by
  rw [run_call E 318 _ rfl Tryz.func318 rfl rfl rfl (by simp)]
  have d6 := d318_6
  simp [regionOf, findR, pick, Tryz.f318] at d6
  have dd := fun st => run_region_draw E st 6 _ d6
  clear d6
  have lp := sk (fun s o q hI => loop_for (c := loopAt Tryz.f318 0) (N := 27)
    (fun i s o q => s 0 = .t (.list (xs.map chnT)) ∧ s 1 = .t (.list (xs.map chnT)) ∧ s 5 = .t (.int .i64 i))
    (fun e s' o' q' => e = .exit 0) xs.length
    (by
      rintro i s o q hi ⟨g0, g1, g5⟩
      have hi' : (i : Int) < (xs.length : Int) := by omega
      have hwi := wrap_succ (n := i) (by omega)
      have hxi : xs[i]? = some xs[i] := List.getElem?_eq_getElem hi
      have hx := hf _ (List.getElem_mem hi)
      simp [loopAt, loopsOf, Tryz.f318, dd, g0, g1, g5, hi', hxi, hwi, hx])
    (by
      rintro s o q ⟨g0, g1, g5⟩
      simp [loopAt, loopsOf, Tryz.f318, g0, g1, g5])
    xs.length 0 s o q (by omega) hI)
  simp only [loopAt, loopsOf, Tryz.f318] at lp
  obtain ⟨X, A, B, C, hx⟩ := lp
  simp at hx
  simp [hx]
theorem eq_97 (xs : List Dfn) (hl : xs.length < 9223372036854775807) (hf : ∀ x ∈ xs, run E (.call 122 [.t (dfnT x), .t (dfnT x)]) = some (.res [xB true] [])) :
    run E (.call 319 [.t (.list (xs.map dfnT)), .t (.list (xs.map dfnT))]) = some (.res [xB true] []) := by
  rw [run_call E 319 _ rfl Tryz.func319 rfl rfl rfl (by simp)]
  have d6 := d319_6
  simp [regionOf, findR, pick, Tryz.f319] at d6
  have dd := fun st => run_region_draw E st 6 _ d6
  clear d6
  have lp := sk (fun s o q hI => loop_for (c := loopAt Tryz.f319 0) (N := 27)
    (fun i s o q => s 0 = .t (.list (xs.map dfnT)) ∧ s 1 = .t (.list (xs.map dfnT)) ∧ s 5 = .t (.int .i64 i))
    (fun e s' o' q' => e = .exit 0) xs.length
    (by
      rintro i s o q hi ⟨g0, g1, g5⟩
      have hi' : (i : Int) < (xs.length : Int) := by omega
      have hwi := wrap_succ (n := i) (by omega)
      have hxi : xs[i]? = some xs[i] := List.getElem?_eq_getElem hi
      have hx := hf _ (List.getElem_mem hi)
      simp [loopAt, loopsOf, Tryz.f319, dd, g0, g1, g5, hi', hxi, hwi, hx])
    (by
      rintro s o q ⟨g0, g1, g5⟩
      simp [loopAt, loopsOf, Tryz.f319, g0, g1, g5])
    xs.length 0 s o q (by omega) hI)
  simp only [loopAt, loopsOf, Tryz.f319] at lp
  obtain ⟨X, A, B, C, hx⟩ := lp
  simp at hx
  simp [hx]
end Go.Xd
/- spec's CollOK: the chains, and the whole. -/
set_option linter.unusedSimpArgs false
set_option linter.unusedVariables false
namespace Go.Xd
open Go.Ev Go.Proofs Go.Pu
set_option maxRecDepth 100000
set_option maxHeartbeats 16000000
/-- spec's CollOK: the chains. -/
theorem specColl_chains (c : Col) (h : c.Sm) (b : Bool) (hb : b = chainsGo none c.chains) : ∀ s o q, (s 1 = .ptr 0 0 ∧ s 5 = .t (.int .i64 0) ∧ o 0 = colBox c ∧ 0 < q) →
    ∃ e s' o' q', run E (.code (.loop (loopAt Tryz.f228 2)) ⟨s, o, q, 138⟩) = some (.st e ⟨s', o', q', 138⟩) ∧ e = (if b then .exit 4 else .ret) ∧ s' 1 = .ptr 0 0 ∧ o' 0 = colBox c ∧ (b = false → s' 2 = .t (.bool false)) := by
  intro s o q hI
  have d17 := d228_17
  simp [regionOf, findR, pick, Tryz.f228] at d17
  have dd := fun st => run_region_draw E st 17 _ d17
  clear d17
  refine loop_for (c := loopAt Tryz.f228 2) (N := 138)
    (fun i s o q => s 1 = .ptr 0 0 ∧ s 5 = .t (.int .i64 i) ∧ o 0 = colBox c ∧ 0 < q ∧ b = chainsGo (match i with | 0 => none | j + 1 => (c.chains[j]?).map (·.id)) (c.chains.drop i))
    (fun e s' o' q' => e = (if b then .exit 4 else .ret) ∧ s' 1 = .ptr 0 0 ∧ o' 0 = colBox c ∧ (b = false → s' 2 = .t (.bool false))) c.chains.length ?_ ?_
    c.chains.length 0 s o q (by omega) ⟨hI.1, hI.2.1, hI.2.2.1, hI.2.2.2, by simpa using hb⟩
  · rintro i s o q hi ⟨h1, h5, ho, hq, hp⟩
    have hq0 : q ≠ 0 := by omega
    have h0q : 0 ≠ q := by omega
    have hxi : c.chains[i]? = some c.chains[i] := List.getElem?_eq_getElem hi
    have hi' : (i : Int) < (c.chains.length : Int) := by omega
    have hw := wrap_succ (n := i) (by have := h.chains.1; omega)
    have hid := l01In1 c.chains[i].id 0 19
    have hlen := l01In1 (c.chains[i].vs.length : Int) 1 12
    obtain ⟨z, hz⟩ : ∃ z, z = versGo (fun g v => verDoc c.chains[i].id g v) none c.chains[i].vs := ⟨_, rfl⟩
    obtain ⟨X, A, B, C, hx⟩ := sk (specColl_vers c h i q c.chains[i] (h.chains.2 _ (List.getElem_mem hi)) z hz)
    simp only [loopAt, loopsOf, Tryz.f228] at hx
    have hok : chainOK c.chains[i] = (in1 0 19 c.chains[i].id && in1 1 12 c.chains[i].vs.length && z) := by rw [hz]; rfl
    clear hz
    rw [List.drop_eq_getElem_cons hi] at hp
    cases i with
    | zero =>
      simp only [chainsGo, hok] at hp
      cases hT : in1 0 19 c.chains[0].id <;> cases hL : in1 1 12 (c.chains[0].vs.length : Int) <;> cases z <;> simp [hT, hL] at hp hid hlen hx <;> simp [loopAt, loopsOf, Tryz.f228, dd, h1, h5, ho, hq, hq0, h0q, hi, hi', hw, hid, hlen, hp, hxi, hx]
    | succ j =>
      have hj : j < c.chains.length := by omega
      have hxj : c.chains[j]? = some c.chains[j] := List.getElem?_eq_getElem hj
      have hpos : (0 : Int) < (j : Int) + 1 := by omega
      have hnn : (0 : Int) ≤ (j : Int) + 1 := by omega
      have hwj2 := wrap_nat (n := j) (by have := h.chains.1; omega)
      simp only [hxj, Option.map_some, chainsGo, hok] at hp
      simp at h5 hi' hw
      by_cases hge : c.chains[j + 1].id ≤ c.chains[j].id <;> cases hT : in1 0 19 c.chains[j + 1].id <;> cases hL : in1 1 12 (c.chains[j + 1].vs.length : Int) <;> cases z <;> simp [hT, hL, hge] at hp hid hlen hx <;> simp [loopAt, loopsOf, Tryz.f228, dd, h1, h5, ho, hq, hq0, h0q, hi, hi', hw, hid, hlen, hp, hxi, hxj, hj, hpos, hnn, hwj2, hge, hx]
  · rintro s o q ⟨h1, h5, ho, hq, hp⟩
    simp [chainsGo] at hp
    simp [loopAt, loopsOf, Tryz.f228, h1, h5, ho, hp]
theorem specCollOK (c : Col) (h : c.Sm) : run E (.call 228 [.t (colT c)]) = some (.res [xB (collOK c)] []) := by
  rw [run_call E 228 _ rfl Tryz.func228 rfl rfl rfl (by simp)]
  have h1 := l01Name c.name (by have := h.name; omega)
  have h3 : (3 < (c.defs.length : Int)) = ¬ (c.defs.length ≤ 3) := by simp; omega
  have h2 : (20 < (c.chains.length : Int)) = ¬ (c.chains.length ≤ 20) := by simp; omega
  unfold collOK
  cases hN : nameP c.name with
  | false => rw [hN] at h1; simp [h1]
  | true =>
    rw [hN] at h1
    by_cases n2 : c.chains.length ≤ 20
    · by_cases n3 : c.defs.length ≤ 3
      · cases hD : defsGo [] c.defs with
        | false =>
          obtain ⟨X, A, B, C, hx⟩ := sk (specColl_defs c h false hD.symm)
          simp [loopAt, loopsOf, Tryz.f228] at hx
          simp [h1, h2, h3, n2, n3, hx]
        | true =>
          obtain ⟨X, A, B, C, hx⟩ := sk (specColl_defs c h true hD.symm)
          simp [loopAt, loopsOf, Tryz.f228] at hx
          cases hC : chainsGo none c.chains with
          | false =>
            obtain ⟨X2, A2, B2, C2, hx2⟩ := sk (specColl_chains c h false hC.symm)
            simp [loopAt, loopsOf, Tryz.f228] at hx2
            simp [h1, h2, h3, n2, n3, hx, hx2]
          | true =>
            obtain ⟨X2, A2, B2, C2, hx2⟩ := sk (specColl_chains c h true hC.symm)
            simp [loopAt, loopsOf, Tryz.f228] at hx2
            simp [h1, h2, h3, n2, n3, hx, hx2]
      · simp [h1, h2, h3, n2, n3]
    · simp [h1, h2, h3, n2]
end Go.Xd
/- The last version of a document, by spec and by impl. -/
set_option linter.unusedSimpArgs false
set_option linter.unusedVariables false
namespace Go.Xd
open Go.Ev Go.Proofs Go.Pu
set_option maxRecDepth 100000
set_option maxHeartbeats 16000000
abbrev zeroV : Ver := ⟨0, false, ⟨0, 0, []⟩⟩
abbrev goneV : Ver := ⟨0, true, ⟨0, 0, []⟩⟩
abbrev verBox (d : Ver) : Ob := .box 200 [.t (.int .i64 d.at_), .t (.bool d.gone), .t (.int .i64 d.v.k), .t (.int .i64 d.v.n), .t (.str d.v.t)]
abbrev chnBox (x : Chn) : Ob := .box 198 [.t (.int .i64 x.id), .t (.list (x.vs.map verT))]
def lastLe (t : Int) : Ver → List Ver → Ver
  | d, [] => d
  | d, x :: r => lastLe t (if x.at_ ≤ t then x else d) r
def findC (cs : List Chn) (id : Int) : Option Chn := cs.find? (fun x => x.id == id)
end Go.Xd
