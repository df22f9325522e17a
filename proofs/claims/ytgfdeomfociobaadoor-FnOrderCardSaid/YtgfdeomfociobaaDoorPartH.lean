/- Values' texts: what they are, how long. -/
import Derived.Test.YtgfdeomfociobaaDoorPartG
import Derived.Test.YtgfdeomfociobaaDoorPartF
import Derived.Lib.Join
import Derived.Lib.ItoaLen
import Derived.Test.YtgfdeomfociobaaDoorPartD
import Derived.Lib.LaidTab
import Derived.Stop.LaidErr
import Derived.ChangeVars
set_option linter.unusedSimpArgs false
set_option linter.unusedVariables false
namespace Go.Vd
open Go.Ev Go.Proofs Go.Pu
set_option maxRecDepth 100000
set_option maxHeartbeats 4000000
theorem join_snoc (sep x : Bytes) : ∀ (l : List Bytes), Lib.join (l ++ [x]) sep = Lib.join l sep ++ (if l = [] then [] else sep) ++ x
  | [] => by simp [Lib.join, List.intercalate]
  | [y] => by simp [Lib.join, List.intercalate]
  | y :: z :: r => by
    have ih := join_snoc sep x (z :: r)
    simp [Lib.join, List.intercalate, List.intersperse] at ih ⊢
    rw [ih]
theorem join_take (sep : Bytes) (l : List Bytes) (i : Nat) (hi : i < l.length) : Lib.join (l.take (i + 1)) sep = Lib.join (l.take i) sep ++ (if i = 0 then [] else sep) ++ l[i] := by
  rw [List.take_add_one, List.getElem?_eq_getElem hi, Option.toList_some, join_snoc]
  congr 3
  by_cases h : i = 0
  · simp [h]
  · have : l.take i ≠ [] := by
      intro e
      have := congrArg List.length e
      rw [List.length_take, List.length_nil] at this
      omega
    simp [h, this]
theorem join_len (sep : Bytes) : ∀ (l : List Bytes), (Lib.join l sep).length ≤ sumL (fun x => x.length + sep.length) l
  | [] => by simp [Lib.join, List.intercalate]
  | [y] => by simp [Lib.join, List.intercalate, sumL]
  | y :: z :: r => by
    have ih := join_len sep (z :: r)
    simp [Lib.join, List.intercalate, List.intersperse, sumL] at ih ⊢
    omega
theorem join_take_len (sep : Bytes) (l : List Bytes) : ∀ (i : Nat), (Lib.join (l.take i) sep).length ≤ (Lib.join l sep).length := by
  have step : ∀ i, (Lib.join (l.take i) sep).length ≤ (Lib.join (l.take (i + 1)) sep).length := by
    intro i
    by_cases hi : i < l.length
    · rw [join_take sep l i hi]; simp
    · rw [List.take_of_length_le (by omega), List.take_of_length_le (by omega)]
      exact Nat.le_refl _
  have many : ∀ k i, (Lib.join (l.take i) sep).length ≤ (Lib.join (l.take (i + k)) sep).length := by
    intro k
    induction k with
    | zero => intro i; exact Nat.le_refl _
    | succ k ih => intro i; exact Nat.le_trans (ih i) (step (i + k))
  intro i
  have := many l.length i
  rwa [List.take_of_length_le (l := l) (i := i + l.length) (by omega)] at this
theorem sum_map {α β : Type} (f : β → Nat) (g : α → β) : ∀ l : List α, sumL f (l.map g) = sumL (fun x => f (g x)) l
  | [] => rfl
  | x :: r => by simp [sumL, sum_map f g r]
theorem sum_le {α : Type} {f g : α → Nat} : ∀ {l : List α}, (∀ x ∈ l, f x ≤ 48 * g x) → sumL f l ≤ 48 * sumL g l
  | [], _ => by simp [sumL]
  | x :: r, h => by
    have h1 := h x (by simp)
    have h2 := sum_le (f := f) (g := g) (l := r) (fun y hy => h y (by simp [hy]))
    simp [sumL]; omega
/-- A value's text. -/
def txtD : Nat → Val → Bytes
  | d, v =>
    if v.k = 0 then [110, 117, 108, 108]
    else if v.k = 1 then (if v.n = 1 then [116, 114, 117, 101] else [102, 97, 108, 115, 101])
    else if v.k = 2 then Lib.itoa v.n
    else if v.k = 3 then [39] ++ v.t ++ [39]
    else match d with
      | 0 => []
      | d + 1 =>
        if v.k = 4 then [91] ++ Lib.join ((itemsL v.t).map (txtD d)) [44] ++ [93]
        else [123] ++ Lib.join ((fieldsL v.t).map (fun f => f.name ++ [58] ++ txtD d f.v)) [44] ++ [125]
theorem okP_int {d : Nat} {v : Val} (h : okP d v = true) (h2 : v.k = 2) : -9223372036854775808 ≤ v.n ∧ v.n ≤ 9223372036854775807 := by
  unfold okP at h
  simp [h2] at h
  omega
theorem int_rangeT {d : Nat} {v : Val} (h : okP d v = true) (h2 : v.k = 2) : -1000000000000 ≤ v.n ∧ v.n ≤ 1000000000000 := by
  unfold okP at h
  simp [h2] at h
  omega
theorem txtD_len : ∀ (d : Nat) (v : Val), okP d v = true → (txtD d v).length ≤ 48 * v.t.length + 24 := by
  intro d
  induction d with
  | zero =>
    intro v h
    by_cases h0 : v.k = 0
    · simp [txtD, h0]
    by_cases h1 : v.k = 1
    · simp only [txtD, h1]; simp; split <;> simp <;> omega
    by_cases h2 : v.k = 2
    · obtain ⟨b1, b2⟩ := okP_int h h2
      have := Lib.itoa_length_le v.n b1 b2
      simp [txtD, h2]; omega
    by_cases h3 : v.k = 3
    · simp [txtD, h3]; omega
    simp [txtD, h0, h1, h2, h3]
  | succ d ih =>
    intro v h
    by_cases h0 : v.k = 0
    · simp [txtD, h0]
    by_cases h1 : v.k = 1
    · simp only [txtD, h1]; simp; split <;> simp <;> omega
    by_cases h2 : v.k = 2
    · obtain ⟨b1, b2⟩ := okP_int h h2
      have := Lib.itoa_length_le v.n b1 b2
      simp [txtD, h2]; omega
    by_cases h3 : v.k = 3
    · simp [txtD, h3]; omega
    by_cases h4 : v.k = 4
    · obtain ⟨e, xs, hd, _, hi, hx⟩ := okP_list h h4
      obtain rfl : d = e := by omega
      have hs := items_sum hi
      have e : itemsL v.t = xs := by simp [itemsL, hi]
      have hj := join_len [44] (xs.map (txtD d))
      rw [sum_map] at hj
      have hle := sum_le (f := fun x => (txtD d x).length + [(44 : UInt8)].length) (g := fun x => x.t.length + 1) (l := xs) (fun x hm => by
        have := ih x (hx x hm)
        simp; omega)
      have et : txtD (d + 1) v = [91] ++ Lib.join (xs.map (txtD d)) [44] ++ [93] := by simp [txtD, h4, e]
      rw [et]
      simp only [List.length_append, List.length_cons, List.length_nil]
      omega
    · have h5 : v.k = 5 := by
        unfold okP at h
        simp [h0, h1, h2, h3, h4] at h
        exact h.1
      obtain ⟨e, fs, hd, _, hi, _, hx⟩ := okP_doc h h5
      obtain rfl : d = e := by omega
      have hs := fields_sum hi
      have e : fieldsL v.t = fs := by simp [fieldsL, hi]
      have hj := join_len [44] (fs.map (fun f => f.name ++ [58] ++ txtD d f.v))
      rw [sum_map] at hj
      have hle := sum_le (f := fun f : Fld => (f.name ++ [58] ++ txtD d f.v).length + [(44 : UInt8)].length) (g := fun f => f.name.length + f.v.t.length + 2) (l := fs) (fun f hm => by
        have := ih f.v (hx f hm).2
        simp; omega)
      have et : txtD (d + 1) v = [123] ++ Lib.join (fs.map (fun f => f.name ++ [58] ++ txtD d f.v)) [44] ++ [125] := by simp [txtD, h5, e]
      rw [et]
      simp only [List.length_append, List.length_cons, List.length_nil]
      omega
end Go.Vd
/- Values' texts: both sides; lists of texts joined. -/
set_option linter.unusedSimpArgs false
set_option linter.unusedVariables false
namespace Go.Vd
open Go.Ev Go.Proofs Go.Pu
set_option maxRecDepth 100000
set_option maxHeartbeats 16000000
theorem l00Join (xs : List Bytes) (sep : Bytes) (hl : xs.length < 4294967296) (hlen : (Lib.join xs sep).length ≤ 140737488355328) : run E (.call 52 [.t (.list (xs.map strT)), xS sep]) = some (.res [xS (Lib.join xs sep)] []) := by
  rw [run_call E 52 _ rfl Tryd.func52 rfl rfl rfl (by simp)]
  have lp := sk (fun s o q hI => loop_for (c := loopAt Tryd.f52 0) (N := 25)
    (fun i s o q => s 0 = .t (.list (xs.map strT)) ∧ s 1 = .t (.str sep) ∧ s 5 = .t (.str (Lib.join (xs.take i) sep)) ∧ s 6 = .t (.int .i64 i))
    (fun e s' o' q' => e = .exit 0 ∧ s' 5 = .t (.str (Lib.join xs sep))) xs.length
    (by
      rintro i s o q hi ⟨g0, g1, g5, g6⟩
      have hi' : (i : Int) < (xs.length : Int) := by omega
      have hwi := wrap_succ (n := i) (by omega)
      have hxi : xs[i]? = some xs[i] := List.getElem?_eq_getElem hi
      have ht := join_take sep xs i hi
      have hn := join_take_len sep xs (i + 1)
      have hn0 : (Lib.join (xs.take (i + 1)) sep).length ≤ 140737488355328 := by omega
      rw [ht] at hn0
      generalize hJ : Lib.join (xs.take i) sep = J at *
      by_cases h0 : i = 0
      · subst h0
        have hJ0 : J = [] := by rw [← hJ]; simp [Lib.join, List.intercalate]
        subst hJ0
        simp at hn0 ht
        simp [loopAt, loopsOf, Tryd.f52, g0, g1, g5, g6, hi', hwi, hxi, hn0, ht]
        try (intro e; subst e; simp at hi)
      · have hpos : (0 : Int) < (i : Int) := by omega
        have h1 : ¬ i = 0 := h0
        simp [h0] at hn0 ht
        have hn1 : J.length + sep.length ≤ 140737488355328 := by omega
        have hn2 : J.length + (sep.length + xs[i].length) ≤ 140737488355328 := by omega
        have hn3 : J.length + sep.length + xs[i].length ≤ 140737488355328 := by omega
        have hpn : 0 < i := by omega
        simp [loopAt, loopsOf, Tryd.f52, g0, g1, g5, g6, hi', hwi, hxi, hpos, hpn, hn1, hn2, hn3, ht])
    (by
      rintro s o q ⟨g0, g1, g5, g6⟩
      rw [List.take_of_length_le (Nat.le_refl _)] at g5
      simp [loopAt, loopsOf, Tryd.f52, g0, g1, g5, g6])
    xs.length 0 s o q (by omega) hI)
  simp only [loopAt, loopsOf, Tryd.f52] at lp
  obtain ⟨X, A, B, C, hx⟩ := lp
  have e0 : Lib.join (xs.take 0) sep = [] := by simp [Lib.join, List.intercalate]
  simp at hx
  simp [Lib.join, List.intercalate] at hx
  simp (maxDischargeDepth := 6) [hx, Lib.join, List.intercalate]
theorem dig_small (i : Nat) (h : i < 10) : IntKind.u8.wrap (48 + (i : Int)) = ((UInt8.ofNat (48 + i)).toNat : Int) := by
  have : (UInt8.ofNat (48 + i)).toNat = 48 + i := by simp; omega
  rw [this]
  simp [IntKind.wrap, IntKind.bits, IntKind.signed]
  omega
theorem dig_fin (i : Nat) (h : i < 10) : UInt8.ofNat ((48 + (i : Int)) % 256).toNat = 48 + UInt8.ofNat i := by
  apply UInt8.toNat_inj.1
  have e : ((48 + (i : Int)) % 256).toNat = 48 + i := by omega
  rw [e]
  simp
theorem digitsN : ∀ (k n : Nat), n < 10 ^ k → n < 4611686018427387904 → run E (.call 51 [xI n]) = some (.res [xS (Lib.decDigits n)] []) := by
  intro k
  induction k with
  | zero =>
    intro n h hb
    have h0 : n = 0 := by
      have : n < 1 := by rw [Nat.pow_zero] at h; exact h
      omega
    subst h0
    rw [run_call E 51 _ rfl Tryd.func51 rfl rfl rfl (by simp)]
    have hd : Lib.decDigits 0 = [48] := by rw [Lib.decDigits_one (by omega)]; rfl
    have hw : IntKind.i64.wrap 48 = 48 := by decide
    have hu : IntKind.u8.wrap 48 = 48 := by decide
    simp [hd, hw, hu]
  | succ k ih =>
    intro n h hb
    rw [run_call E 51 _ rfl Tryd.func51 rfl rfl rfl (by simp)]
    have n0 : ¬ (n : Int) < 0 := by omega
    have nm : ((n : Int) == -9223372036854775808) = false := by simp
    have nm2 : ¬ (n : Int) = -9223372036854775808 := by omega
    by_cases h10 : n < 10
    · have hd := Lib.decDigits_one h10
      have hlt : (n : Int) < 10 := by omega
      have hw : IntKind.i64.wrap (48 + (n : Int)) = 48 + n := wrap_of (by omega) (by omega)
      have hu := dig_small n h10
      simp [nm, nm2, n0, h10, hlt, hw, hu, hd]
      try exact dig_fin n h10
    · have hd : Lib.decDigits n = Lib.decDigits (n / 10) ++ [UInt8.ofNat (48 + n % 10)] := by rw [Lib.decDigits, dif_neg h10]
      have hr := ih (n / 10) (by
        rw [Nat.pow_succ] at h
        omega) (by omega)
      have hq : (n : Int).tdiv 10 = ((n / 10 : Nat) : Int) := by
        rw [Int.tdiv_eq_ediv_of_nonneg (by omega)]; omega
      have hm : (n : Int).tmod 10 = ((n % 10 : Nat) : Int) := by
        rw [Int.tmod_eq_emod_of_nonneg (by omega)]; omega
      have hwq : IntKind.i64.wrap ((n / 10 : Nat) : Int) = ((n / 10 : Nat) : Int) := wrap_of (by omega) (by omega)
      have hlt : ¬ (n : Int) < 10 := by omega
      have hw : IntKind.i64.wrap (48 + ((n % 10 : Nat) : Int)) = 48 + ((n % 10 : Nat) : Int) := wrap_of (by omega) (by omega)
      have hu := dig_small (n % 10) (by omega)
      have hlen : (Lib.decDigits (n / 10)).length + 1 ≤ 140737488355328 := by
        have := Lib.nDigits_le20 (n / 10) (by omega)
        rw [Lib.decDigits_length]; omega
      have n7 := n51_7
      have s7 := s51_7
      simp [regionOf, findR, pick, Tryd.f51] at n7 s7
      have dd := fun st => run_region_drawS E st 7 _ n7 s7
      clear n7 s7
      rw [hd]
      have hf := dig_fin (n % 10) (by omega)
      generalize (n / 10 : Nat) = a at *
      generalize (n % 10 : Nat) = b at *
      simp [nm, nm2, n0, h10, hlt, dd, hq, hwq, hm, hr, hw, hu, hlen]
      try exact hf
theorem l00Digits (n : Int) (h0 : -1000000000000 ≤ n) (h1 : n ≤ 1000000000000) : run E (.call 51 [xI n]) = some (.res [xS (Lib.itoa n)] []) := by
  by_cases hn : n < 0
  · obtain ⟨m, hm⟩ : ∃ m : Nat, n = -(m : Int) := ⟨n.natAbs, by omega⟩
    subst hm
    have hd := digitsN 19 m (by omega) (by omega)
    rw [run_call E 51 _ rfl Tryd.func51 rfl rfl rfl (by simp)]
    have e : Lib.itoa (-(m : Int)) = 45 :: Lib.decDigits m := by
      unfold Lib.itoa
      rw [if_pos hn]
      simp
    have nm : ¬ -(m : Int) = -9223372036854775808 := by omega
    have nm1 : ¬ (m : Int) = 9223372036854775808 := by omega
    have nm2 : (-(m : Int) == -9223372036854775808) = false := by simp; omega
    have hw : IntKind.i64.wrap (0 - -(m : Int)) = m := by rw [show (0 : Int) - -(m : Int) = m by omega]; exact wrap_of (by omega) (by omega)
    have hw2 : IntKind.i64.wrap (m : Int) = m := wrap_of (by omega) (by omega)
    have hp : (0 : Int) < (m : Int) := by omega
    have hp2 : 0 < m := by omega
    have hlen : 1 + (Lib.decDigits m).length ≤ 140737488355328 := by
      have := Lib.nDigits_le20 m (by omega)
      rw [Lib.decDigits_length]; omega
    have hlen2 : (Lib.decDigits m).length + 1 ≤ 140737488355328 := by omega
    rw [e]
    simp [nm, nm1, nm2, hn, hw, hw2, hp, hp2, hd, hlen, hlen2]
  · obtain ⟨m, hm⟩ : ∃ m : Nat, n = (m : Int) := ⟨n.toNat, by omega⟩
    subst hm
    have hd := digitsN 19 m (by omega) (by omega)
    have e : Lib.itoa (m : Int) = Lib.decDigits m := by
      unfold Lib.itoa
      rw [if_neg hn]
      simp
    rw [hd, e]
end Go.Vd
/- Values' texts: impl's valueText, spec's l01ValueText (where strconv.Itoa and strings.Join are met by their contracts). -/
set_option linter.unusedSimpArgs false
set_option linter.unusedVariables false
namespace Go.Vd
open Go.Ev Go.Proofs Go.Pu
set_option maxRecDepth 100000
set_option maxHeartbeats 16000000
theorem strsOf_all : ∀ l : List Bytes, strsOf (l.map strT) = some l
  | [] => rfl
  | s :: r => by simp [strsOf, strsOf_all r]
theorem goJoin (l : List Bytes) (sep : Bytes) (h1 : l.length ≤ 140737488355328) (h2 : (Lib.join l sep).length ≤ 140737488355328) : run E (.call 50 [.t (.list (l.map strT)), xS sep]) = some (.res [xS (Lib.join l sep)] []) := by
  rw [run_ext E 50 _ (g := _) rfl]
  simp [strsOf_all, h1, h2]
theorem goItoa (n : Int) (h0 : -9223372036854775808 ≤ n) (h1 : n ≤ 9223372036854775807) : run E (.call 49 [xI n]) = some (.res [xS (Lib.itoa n)] []) := by
  rw [run_ext E 49 _ (g := _) rfl]
  simp [h0, h1]
theorem goBool (b : Bool) : run E (.call 48 [xB b]) = some (.res [xS (if b then [116, 114, 117, 101] else [102, 97, 108, 115, 101])] []) := by
  have h : run E (.call 72 [xB b]) = some (.res [xS (if b then [116, 114, 117, 101] else [102, 97, 108, 115, 101])] []) := by
    rw [run_call E 72 _ rfl Tryd.func72 rfl rfl rfl (by simp)]
    cases b <;> simp
  rw [run_call E 48 _ rfl Tryd.func48 rfl rfl rfl (by simp)]
  simp [h]
theorem implText_items (xs : List Val) (F : Val → Bytes) (hF : ∀ x ∈ xs, run E (.call 21 [xV x]) = some (.res [xS (F x)] [])) (hl : xs.length ≤ 100000) : ∀ s o q, (s 3 = .row 1 ∧ s 41 = .row 2 ∧ s 42 = .t (.int .i64 xs.length) ∧ s 43 = .t (.int .i64 0) ∧ o 1 = .row 9 [] true ∧ o 2 = .row 26 (xs.map valT) true ∧ 2 < q) →
    ∃ e s' o' q', run E (.code (.loop (loopAt Tryd.f21 0)) ⟨s, o, q, 83⟩) = some (.st e ⟨s', o', q', 83⟩) ∧ ∃ r, e = .exit 1 ∧ s' 3 = .row r ∧ o' r = .row 9 ((xs.map F).map strT) true := by
  intro s o q hI
  refine loop_for (c := loopAt Tryd.f21 0) (N := 83)
    (fun i s o q => ∃ r acc, s 3 = .row r ∧ s 41 = .row 2 ∧ s 42 = .t (.int .i64 xs.length) ∧ s 43 = .t (.int .i64 i) ∧ o r = .row 9 (acc.map strT) true ∧ o 2 = .row 26 (xs.map valT) true ∧ r < q ∧ r ≠ 2 ∧ 2 < q ∧ acc.length = i ∧ xs.map F = acc ++ (xs.drop i).map F)
    (fun e s' o' q' => ∃ r, e = .exit 1 ∧ s' 3 = .row r ∧ o' r = .row 9 ((xs.map F).map strT) true) xs.length ?_ ?_
    xs.length 0 s o q (by omega) (by
      obtain ⟨h3, h41, h42, h43, o1, o2, hq⟩ := hI
      exact ⟨1, [], h3, h41, h42, h43, o1, o2, by omega, by omega, hq, rfl, by simp⟩)
  · rintro i s o q hi ⟨r, acc, h3, h41, h42, h43, hor, ho2, hrq, hr2, hq, hac, hp⟩
    have hi' : (i : Int) < (xs.length : Int) := by omega
    have hwi := wrap_succ (n := i) (by omega)
    have hxi : xs[i]? = some xs[i] := List.getElem?_eq_getElem hi
    have hk := hF _ (List.getElem_mem hi)
    have h2r : 2 ≠ r := fun h => hr2 h.symm
    have hrn : r ≠ q := by omega
    have hrn1 : r ≠ q + 1 := by omega
    have hrn2 : r ≠ q + 2 := by omega
    have h2n : 2 ≠ q := by omega
    have h2n1 : 2 ≠ q + 1 := by omega
    have h2n2 : 2 ≠ q + 2 := by omega
    have hqr : q ≠ r := by omega
    have hq2 : q ≠ 2 := by omega
    have hcat : acc.length + 1 ≤ 140737488355328 := by omega
    have hcat2 : (acc.length + 1) * 16 ≤ 140737488355328 := by omega
    rw [List.drop_eq_getElem_cons hi, List.map_cons] at hp
    generalize hkx : F xs[i] = kx at *
    simp [loopAt, loopsOf, Tryd.f21, h3, h41, h42, h43, hor, ho2, hi, hi', hwi, hxi, hk, hr2, h2r, hrn, hrn1, hrn2, h2n, h2n1, h2n2, hqr, hq2, hcat, hcat2]
    exact ⟨acc ++ [kx], by simp, by omega, by simp [hac], by rw [← List.map_drop]; simpa using hp⟩
  · rintro s o q ⟨r, acc, h3, h41, h42, h43, hor, ho2, hrq, hr2, hq, hac, hp⟩
    simp at hp
    simp [loopAt, loopsOf, Tryd.f21, h3, h41, h42, h43, hor, ho2, hp]
theorem implText_fields (xs : List Fld) (F : Val → Bytes) (hF : ∀ x ∈ xs, run E (.call 21 [xV x.v]) = some (.res [xS (F x.v)] []) ∧ (F x.v).length ≤ 1000000 ∧ x.name.length ≤ 1000000) (hl : xs.length ≤ 100000) : ∀ s o q, (s 3 = .row 1 ∧ s 62 = .row 2 ∧ s 63 = .t (.int .i64 xs.length) ∧ s 64 = .t (.int .i64 0) ∧ o 1 = .row 9 [] true ∧ o 2 = .row 71 (xs.map fldT) true ∧ 2 < q) →
    ∃ e s' o' q', run E (.code (.loop (loopAt Tryd.f21 1)) ⟨s, o, q, 83⟩) = some (.st e ⟨s', o', q', 83⟩) ∧ ∃ r, e = .exit 3 ∧ s' 3 = .row r ∧ o' r = .row 9 ((xs.map (fun f => f.name ++ [58] ++ F f.v)).map strT) true := by
  intro s o q hI
  have d23 := d21_23
  simp [regionOf, findR, pick, Tryd.f21] at d23
  have dd := fun st => run_region_draw E st 23 _ d23
  clear d23
  obtain ⟨G, hG⟩ : ∃ G : Fld → Bytes, G = (fun f => f.name ++ [58] ++ F f.v) := ⟨_, rfl⟩
  have hGx : ∀ f, f.name ++ 58 :: F f.v = G f := by intro f; rw [hG]; simp
  rw [← hG]
  clear hG
  refine loop_for (c := loopAt Tryd.f21 1) (N := 83)
    (fun i s o q => ∃ r acc, s 3 = .row r ∧ s 62 = .row 2 ∧ s 63 = .t (.int .i64 xs.length) ∧ s 64 = .t (.int .i64 i) ∧ o r = .row 9 (acc.map strT) true ∧ o 2 = .row 71 (xs.map fldT) true ∧ r < q ∧ r ≠ 2 ∧ 2 < q ∧ acc.length = i ∧ xs.map G = acc ++ (xs.drop i).map G)
    (fun e s' o' q' => ∃ r, e = .exit 3 ∧ s' 3 = .row r ∧ o' r = .row 9 ((xs.map G).map strT) true) xs.length ?_ ?_
    xs.length 0 s o q (by omega) (by
      obtain ⟨h3, h41, h42, h43, o1, o2, hq⟩ := hI
      exact ⟨1, [], h3, h41, h42, h43, o1, o2, by omega, by omega, hq, rfl, by simp⟩)
  · rintro i s o q hi ⟨r, acc, h3, h41, h42, h43, hor, ho2, hrq, hr2, hq, hac, hp⟩
    have hi' : (i : Int) < (xs.length : Int) := by omega
    have hwi := wrap_succ (n := i) (by omega)
    have hxi : xs[i]? = some xs[i] := List.getElem?_eq_getElem hi
    obtain ⟨hk, hb1, hb2⟩ := hF _ (List.getElem_mem hi)
    have h2r : 2 ≠ r := fun h => hr2 h.symm
    have hrn : r ≠ q := by omega
    have hrn1 : r ≠ q + 1 := by omega
    have hrn2 : r ≠ q + 2 := by omega
    have h2n : 2 ≠ q := by omega
    have h2n1 : 2 ≠ q + 1 := by omega
    have h2n2 : 2 ≠ q + 2 := by omega
    have hqr : q ≠ r := by omega
    have hq2 : q ≠ 2 := by omega
    have hcat : acc.length + 1 ≤ 140737488355328 := by omega
    have hcat2 : (acc.length + 1) * 16 ≤ 140737488355328 := by omega
    have hn1 : xs[i].name.length + 1 ≤ 140737488355328 := by omega
    have hn2 : xs[i].name.length + 1 + (F xs[i].v).length ≤ 140737488355328 := by omega
    have hn3 : xs[i].name.length + (1 + (F xs[i].v).length) ≤ 140737488355328 := by omega
    have hn4 : xs[i].name.length + ((F xs[i].v).length + 1) ≤ 140737488355328 := by omega
    have hgx := hGx xs[i]
    rw [List.drop_eq_getElem_cons hi, List.map_cons] at hp
    simp [loopAt, loopsOf, Tryd.f21, dd, h3, h41, h42, h43, hor, ho2, hi, hi', hwi, hxi, hk, hr2, h2r, hrn, hrn1, hrn2, h2n, h2n1, h2n2, hqr, hq2, hcat, hcat2, hn1, hn2, hn3, hn4, hgx]
    exact ⟨acc ++ [G xs[i]], by simp, by omega, by simp [hac], by rw [← List.map_drop]; simpa using hp⟩
  · rintro s o q ⟨r, acc, h3, h41, h42, h43, hor, ho2, hrq, hr2, hq, hac, hp⟩
    simp at hp
    simp [loopAt, loopsOf, Tryd.f21, h3, h41, h42, h43, hor, ho2, hp]
theorem implText_small (d : Nat) (v : Val) (h : okP d v = true) (hv : v.t.length < 1048576) (hk : v.k = 0 ∨ v.k = 1 ∨ v.k = 2 ∨ v.k = 3) : run E (.call 21 [xV v]) = some (.res [xS (txtD d v)] []) := by
  rw [run_call E 21 _ rfl Tryd.func21 rfl rfl rfl (by simp)]
  rcases hk with hk | hk | hk | hk
  · have et : txtD d v = [110, 117, 108, 108] := by unfold txtD; simp [hk]
    rw [et]
    simp [hk]
  · have hb := goBool (v.n == 1)
    by_cases h1 : v.n = 1
    · have et : txtD d v = [116, 114, 117, 101] := by unfold txtD; simp [hk, h1]
      rw [et]
      simp [h1] at hb
      simp [hk, h1, hb]
    · have e : (v.n == 1) = false := by simpa using h1
      have et : txtD d v = [102, 97, 108, 115, 101] := by unfold txtD; simp [hk, h1]
      rw [et]
      rw [e] at hb
      simp at hb
      simp [hk, h1, e, hb]
  · obtain ⟨b1, b2⟩ := okP_int h hk
    have hi := goItoa v.n b1 b2
    have et : txtD d v = Lib.itoa v.n := by unfold txtD; simp [hk]
    rw [et]
    simp [hk, hi]
  · have l1 : 1 + v.t.length ≤ 140737488355328 := by omega
    have l2 : v.t.length + 1 ≤ 140737488355328 := by omega
    have l3 : v.t.length + 1 + 1 ≤ 140737488355328 := by omega
    have et : txtD d v = [39] ++ v.t ++ [39] := by unfold txtD; simp [hk]
    rw [et]
    simp [hk, l1, l2, l3]
theorem implText : ∀ (d : Nat) (v : Val), okP d v = true → v.t.length < 1048576 → run E (.call 21 [xV v]) = some (.res [xS (txtD d v)] []) := by
  intro d
  induction d with
  | zero =>
    intro v h hv
    refine implText_small 0 v h hv ?_
    unfold okP at h
    by_cases h0 : v.k = 0; · omega
    by_cases h1 : v.k = 1; · omega
    by_cases h2 : v.k = 2; · omega
    by_cases h3 : v.k = 3; · omega
    simp [h0, h1, h2, h3] at h
  | succ d ih =>
    intro v h hv
    by_cases hs : v.k = 0 ∨ v.k = 1 ∨ v.k = 2 ∨ v.k = 3
    · exact implText_small (d + 1) v h hv hs
    have e0 : (v.k = 0) = False := by simp; omega
    have e1 : (v.k = 1) = False := by simp; omega
    have e2 : (v.k = 2) = False := by simp; omega
    have e3 : (v.k = 3) = False := by simp; omega
    have hlen := txtD_len (d + 1) v h
    have hsz := okP_size h
    rw [run_call E 21 _ rfl Tryd.func21 rfl rfl rfl (by simp)]
    by_cases hk : v.k = 4
    · obtain ⟨e, xs, hd, _, hit, hx⟩ := okP_list h hk
      obtain rfl : d = e := by omega
      have e4 : (v.k = 4) = True := eq_true hk
      have eL : itemsL v.t = xs := by simp [itemsL, hit]
      obtain ⟨hs1, hs2⟩ := items_small hit
      have hi := implItems v (by omega)
      rw [itemsI_some hit] at hi
      have et : txtD (d + 1) v = [91] ++ Lib.join (xs.map (txtD d)) [44] ++ [93] := by simp [txtD, e0, e1, e2, e3, e4, eL]
      rw [et] at hlen ⊢
      obtain ⟨X, A, B, C, M, hl⟩ := sk1 (implText_items xs (txtD d) (fun x hm => ih x (hx x hm) (by have := hs2 x hm; omega)) (by omega))
      simp only [loopAt, loopsOf, Tryd.f21] at hl
      simp only [List.length_append, List.length_cons, List.length_nil] at hlen
      have hj := goJoin (xs.map (txtD d)) [44] (by simp; omega) (by omega)
      generalize Lib.join (xs.map (txtD d)) [44] = J at *
      have l1 : 1 + J.length ≤ 140737488355328 := by omega
      have l2 : J.length + 1 ≤ 140737488355328 := by omega
      have l3 : J.length + 1 + 1 ≤ 140737488355328 := by omega
      clear hk et
      simp at hl hi hj
      simp (maxDischargeDepth := 6) [e0, e1, e2, e3, e4, hi, hl, hj, l1, l2, l3]
    · have h5 : v.k = 5 := by
        unfold okP at h
        simp [e0, e1, e2, e3, hk] at h
        exact h.1
      obtain ⟨e, xs, hd, _, hit, _, hx⟩ := okP_doc h h5
      obtain rfl : d = e := by omega
      have e4 : (v.k = 4) = False := eq_false hk
      have eL : fieldsL v.t = xs := by simp [fieldsL, hit]
      obtain ⟨hs1, hs2⟩ := fields_small hit
      have hi := implFields v (by omega)
      rw [fieldsI_some hit] at hi
      have et : txtD (d + 1) v = [123] ++ Lib.join (xs.map (fun f => f.name ++ [58] ++ txtD d f.v)) [44] ++ [125] := by simp [txtD, e0, e1, e2, e3, e4, eL]
      rw [et] at hlen ⊢
      obtain ⟨X, A, B, C, M, hl⟩ := sk1 (implText_fields xs (txtD d) (fun f hm => by
        have h1 := hs2 f hm
        have h2 := txtD_len d f.v (hx f hm).2
        exact ⟨ih f.v (hx f hm).2 (by omega), by omega, by omega⟩) (by omega))
      simp only [loopAt, loopsOf, Tryd.f21] at hl
      simp only [List.length_append, List.length_cons, List.length_nil] at hlen
      have hj := goJoin (xs.map (fun f => f.name ++ [58] ++ txtD d f.v)) [44] (by simp; omega) (by omega)
      generalize hM : xs.map (fun f => f.name ++ [58] ++ txtD d f.v) = ws at *
      generalize Lib.join ws [44] = J at *
      have l1 : 1 + J.length ≤ 140737488355328 := by omega
      have l2 : J.length + 1 ≤ 140737488355328 := by omega
      have l3 : J.length + 1 + 1 ≤ 140737488355328 := by omega
      clear hk et h5
      simp at hl hi hj
      simp (maxDischargeDepth := 6) [e0, e1, e2, e3, e4, hi, hl, hj, l1, l2, l3]
end Go.Vd
/- Values' texts: spec's l01ValueText. -/
set_option linter.unusedSimpArgs false
set_option linter.unusedVariables false
namespace Go.Vd
open Go.Ev Go.Proofs Go.Pu
set_option maxRecDepth 100000
set_option maxHeartbeats 16000000
theorem specText_items (xs : List Val) (F : Val → Bytes) (hF : ∀ x ∈ xs, run E (.call 22 [xV x]) = some (.res [xS (F x)] [])) (hl : xs.length ≤ 100000) : ∀ s o q, (s 3 = .row 1 ∧ s 4 = .row 2 ∧ s 6 = .t (.int .i64 0) ∧ o 1 = .row 9 [] true ∧ o 2 = .row 26 (xs.map valT) true ∧ 2 < q) →
    ∃ e s' o' q', run E (.code (.loop (loopAt Tryd.f22 0)) ⟨s, o, q, 89⟩) = some (.st e ⟨s', o', q', 89⟩) ∧ ∃ r, e = .exit 1 ∧ s' 3 = .row r ∧ o' r = .row 9 ((xs.map F).map strT) true := by
  intro s o q hI
  refine loop_for (c := loopAt Tryd.f22 0) (N := 89)
    (fun i s o q => ∃ r acc, s 3 = .row r ∧ s 4 = .row 2 ∧ s 6 = .t (.int .i64 i) ∧ o r = .row 9 (acc.map strT) true ∧ o 2 = .row 26 (xs.map valT) true ∧ r < q ∧ r ≠ 2 ∧ 2 < q ∧ acc.length = i ∧ xs.map F = acc ++ (xs.drop i).map F)
    (fun e s' o' q' => ∃ r, e = .exit 1 ∧ s' 3 = .row r ∧ o' r = .row 9 ((xs.map F).map strT) true) xs.length ?_ ?_
    xs.length 0 s o q (by omega) (by
      obtain ⟨h3, h4, h6, o1, o2, hq⟩ := hI
      exact ⟨1, [], h3, h4, h6, o1, o2, by omega, by omega, hq, rfl, by simp⟩)
  · rintro i s o q hi ⟨r, acc, h3, h4, h6, hor, ho2, hrq, hr2, hq, hac, hp⟩
    have hi' : (i : Int) < (xs.length : Int) := by omega
    have hwi := wrap_succ (n := i) (by omega)
    have hxi : xs[i]? = some xs[i] := List.getElem?_eq_getElem hi
    have hk := hF _ (List.getElem_mem hi)
    have h2r : 2 ≠ r := fun h => hr2 h.symm
    have hrn : r ≠ q := by omega
    have hrn1 : r ≠ q + 1 := by omega
    have hrn2 : r ≠ q + 2 := by omega
    have h2n : 2 ≠ q := by omega
    have h2n1 : 2 ≠ q + 1 := by omega
    have h2n2 : 2 ≠ q + 2 := by omega
    have hqr : q ≠ r := by omega
    have hq2 : q ≠ 2 := by omega
    have hcat : acc.length + 1 ≤ 140737488355328 := by omega
    have hcat2 : (acc.length + 1) * 16 ≤ 140737488355328 := by omega
    rw [List.drop_eq_getElem_cons hi, List.map_cons] at hp
    generalize hkx : F xs[i] = kx at *
    simp [loopAt, loopsOf, Tryd.f22, h3, h4, h6, hor, ho2, hi, hi', hwi, hxi, hk, hr2, h2r, hrn, hrn1, hrn2, h2n, h2n1, h2n2, hqr, hq2, hcat, hcat2]
    exact ⟨acc ++ [kx], by simp, by omega, by omega, by simp [hac], by rw [← List.map_drop]; simpa using hp⟩
  · rintro s o q ⟨r, acc, h3, h4, h6, hor, ho2, hrq, hr2, hq, hac, hp⟩
    simp at hp
    simp [loopAt, loopsOf, Tryd.f22, h3, h4, h6, hor, ho2, hp]
theorem specText_fields (xs : List Fld) (F : Val → Bytes) (hF : ∀ x ∈ xs, run E (.call 22 [xV x.v]) = some (.res [xS (F x.v)] []) ∧ (F x.v).length ≤ 1000000 ∧ x.name.length ≤ 1000000) (hl : xs.length ≤ 100000) : ∀ s o q, (s 3 = .row 1 ∧ s 7 = .row 2 ∧ s 9 = .t (.int .i64 0) ∧ o 1 = .row 9 [] true ∧ o 2 = .row 71 (xs.map fldT) true ∧ 2 < q) →
    ∃ e s' o' q', run E (.code (.loop (loopAt Tryd.f22 1)) ⟨s, o, q, 89⟩) = some (.st e ⟨s', o', q', 89⟩) ∧ ∃ r, e = .exit 3 ∧ s' 3 = .row r ∧ o' r = .row 9 ((xs.map (fun f => f.name ++ [58] ++ F f.v)).map strT) true := by
  intro s o q hI
  have d24 := d22_24
  simp [regionOf, findR, pick, Tryd.f22] at d24
  have dd := fun st => run_region_draw E st 24 _ d24
  clear d24
  obtain ⟨G, hG⟩ : ∃ G : Fld → Bytes, G = (fun f => f.name ++ [58] ++ F f.v) := ⟨_, rfl⟩
  have hGx : ∀ f, f.name ++ 58 :: F f.v = G f := by intro f; rw [hG]; simp
  rw [← hG]
  clear hG
  refine loop_for (c := loopAt Tryd.f22 1) (N := 89)
    (fun i s o q => ∃ r acc, s 3 = .row r ∧ s 7 = .row 2 ∧ s 9 = .t (.int .i64 i) ∧ o r = .row 9 (acc.map strT) true ∧ o 2 = .row 71 (xs.map fldT) true ∧ r < q ∧ r ≠ 2 ∧ 2 < q ∧ acc.length = i ∧ xs.map G = acc ++ (xs.drop i).map G)
    (fun e s' o' q' => ∃ r, e = .exit 3 ∧ s' 3 = .row r ∧ o' r = .row 9 ((xs.map G).map strT) true) xs.length ?_ ?_
    xs.length 0 s o q (by omega) (by
      obtain ⟨h3, h7, h9, o1, o2, hq⟩ := hI
      exact ⟨1, [], h3, h7, h9, o1, o2, by omega, by omega, hq, rfl, by simp⟩)
  · rintro i s o q hi ⟨r, acc, h3, h7, h9, hor, ho2, hrq, hr2, hq, hac, hp⟩
    have hi' : (i : Int) < (xs.length : Int) := by omega
    have hwi := wrap_succ (n := i) (by omega)
    have hxi : xs[i]? = some xs[i] := List.getElem?_eq_getElem hi
    obtain ⟨hk, hb1, hb2⟩ := hF _ (List.getElem_mem hi)
    have h2r : 2 ≠ r := fun h => hr2 h.symm
    have hrn : r ≠ q := by omega
    have hrn1 : r ≠ q + 1 := by omega
    have hrn2 : r ≠ q + 2 := by omega
    have h2n : 2 ≠ q := by omega
    have h2n1 : 2 ≠ q + 1 := by omega
    have h2n2 : 2 ≠ q + 2 := by omega
    have hqr : q ≠ r := by omega
    have hq2 : q ≠ 2 := by omega
    have hcat : acc.length + 1 ≤ 140737488355328 := by omega
    have hcat2 : (acc.length + 1) * 16 ≤ 140737488355328 := by omega
    have hn1 : xs[i].name.length + 1 ≤ 140737488355328 := by omega
    have hn2 : xs[i].name.length + 1 + (F xs[i].v).length ≤ 140737488355328 := by omega
    have hn3 : xs[i].name.length + (1 + (F xs[i].v).length) ≤ 140737488355328 := by omega
    have hn4 : xs[i].name.length + ((F xs[i].v).length + 1) ≤ 140737488355328 := by omega
    have hgx := hGx xs[i]
    rw [List.drop_eq_getElem_cons hi, List.map_cons] at hp
    simp [loopAt, loopsOf, Tryd.f22, dd, h3, h7, h9, hor, ho2, hi, hi', hwi, hxi, hk, hr2, h2r, hrn, hrn1, hrn2, h2n, h2n1, h2n2, hqr, hq2, hcat, hcat2, hn1, hn2, hn3, hn4, hgx]
    exact ⟨acc ++ [G xs[i]], by simp, by omega, by omega, by simp [hac], by rw [← List.map_drop]; simpa using hp⟩
  · rintro s o q ⟨r, acc, h3, h7, h9, hor, ho2, hrq, hr2, hq, hac, hp⟩
    simp at hp
    simp [loopAt, loopsOf, Tryd.f22, h3, h7, h9, hor, ho2, hp]
theorem specText_small (d : Nat) (v : Val) (h : okP d v = true) (hv : v.t.length < 1048576) (hk : v.k = 0 ∨ v.k = 1 ∨ v.k = 2 ∨ v.k = 3) : run E (.call 22 [xV v]) = some (.res [xS (txtD d v)] []) := by
  rw [run_call E 22 _ rfl Tryd.func22 rfl rfl rfl (by simp)]
  rcases hk with hk | hk | hk | hk
  · have et : txtD d v = [110, 117, 108, 108] := by unfold txtD; simp [hk]
    rw [et]
    simp [hk]
  · by_cases h1 : v.n = 1
    · have et : txtD d v = [116, 114, 117, 101] := by unfold txtD; simp [hk, h1]
      rw [et]
      simp [hk, h1]
    · have e : (v.n == 1) = false := by simpa using h1
      have et : txtD d v = [102, 97, 108, 115, 101] := by unfold txtD; simp [hk, h1]
      rw [et]
      simp [hk, h1, e]
  · obtain ⟨b1, b2⟩ := int_rangeT h hk
    have hi := l00Digits v.n b1 b2
    have et : txtD d v = Lib.itoa v.n := by unfold txtD; simp [hk]
    rw [et]
    simp [hk, hi]
  · have l1 : 1 + v.t.length ≤ 140737488355328 := by omega
    have l2 : v.t.length + 1 ≤ 140737488355328 := by omega
    have l3 : v.t.length + 1 + 1 ≤ 140737488355328 := by omega
    have et : txtD d v = [39] ++ v.t ++ [39] := by unfold txtD; simp [hk]
    rw [et]
    simp [hk, l1, l2, l3]
theorem specText : ∀ (d : Nat) (v : Val), okP d v = true → v.t.length < 1048576 → run E (.call 22 [xV v]) = some (.res [xS (txtD d v)] []) := by
  intro d
  induction d with
  | zero =>
    intro v h hv
    refine specText_small 0 v h hv ?_
    unfold okP at h
    by_cases h0 : v.k = 0; · omega
    by_cases h1 : v.k = 1; · omega
    by_cases h2 : v.k = 2; · omega
    by_cases h3 : v.k = 3; · omega
    simp [h0, h1, h2, h3] at h
  | succ d ih =>
    intro v h hv
    by_cases hs : v.k = 0 ∨ v.k = 1 ∨ v.k = 2 ∨ v.k = 3
    · exact specText_small (d + 1) v h hv hs
    have e0 : (v.k = 0) = False := by simp; omega
    have e1 : (v.k = 1) = False := by simp; omega
    have e2 : (v.k = 2) = False := by simp; omega
    have e3 : (v.k = 3) = False := by simp; omega
    have hlen := txtD_len (d + 1) v h
    have hsz := okP_size h
    rw [run_call E 22 _ rfl Tryd.func22 rfl rfl rfl (by simp)]
    by_cases hk : v.k = 4
    · obtain ⟨e, xs, hd, _, hit, hx⟩ := okP_list h hk
      obtain rfl : d = e := by omega
      have e4 : (v.k = 4) = True := eq_true hk
      have eL : itemsL v.t = xs := by simp [itemsL, hit]
      obtain ⟨hs1, hs2⟩ := items_small hit
      have hi := l01Items v.t (by omega)
      rw [hit] at hi
      simp only [itemsX] at hi
      have et : txtD (d + 1) v = [91] ++ Lib.join (xs.map (txtD d)) [44] ++ [93] := by simp [txtD, e0, e1, e2, e3, e4, eL]
      rw [et] at hlen ⊢
      obtain ⟨X, A, B, C, M, hl⟩ := sk1 (specText_items xs (txtD d) (fun x hm => ih x (hx x hm) (by have := hs2 x hm; omega)) (by omega))
      simp only [loopAt, loopsOf, Tryd.f22] at hl
      simp only [List.length_append, List.length_cons, List.length_nil] at hlen
      have hj := l00Join (xs.map (txtD d)) [44] (by simp; omega) (by omega)
      generalize Lib.join (xs.map (txtD d)) [44] = J at *
      have l1 : 1 + J.length ≤ 140737488355328 := by omega
      have l2 : J.length + 1 ≤ 140737488355328 := by omega
      have l3 : J.length + 1 + 1 ≤ 140737488355328 := by omega
      clear hk et
      simp at hl hi hj
      simp (maxDischargeDepth := 6) [e0, e1, e2, e3, e4, hi, hl, hj, l1, l2, l3]
    · have h5 : v.k = 5 := by
        unfold okP at h
        simp [e0, e1, e2, e3, hk] at h
        exact h.1
      obtain ⟨e, xs, hd, _, hit, _, hx⟩ := okP_doc h h5
      obtain rfl : d = e := by omega
      have e4 : (v.k = 4) = False := eq_false hk
      have eL : fieldsL v.t = xs := by simp [fieldsL, hit]
      obtain ⟨hs1, hs2⟩ := fields_small hit
      have hi := l01Fields v.t (by omega)
      rw [hit] at hi
      simp only [fieldsX] at hi
      have et : txtD (d + 1) v = [123] ++ Lib.join (xs.map (fun f => f.name ++ [58] ++ txtD d f.v)) [44] ++ [125] := by simp [txtD, e0, e1, e2, e3, e4, eL]
      rw [et] at hlen ⊢
      obtain ⟨X, A, B, C, M, hl⟩ := sk1 (specText_fields xs (txtD d) (fun f hm => by
        have h1 := hs2 f hm
        have h2 := txtD_len d f.v (hx f hm).2
        exact ⟨ih f.v (hx f hm).2 (by omega), by omega, by omega⟩) (by omega))
      simp only [loopAt, loopsOf, Tryd.f22] at hl
      simp only [List.length_append, List.length_cons, List.length_nil] at hlen
      have hj := l00Join (xs.map (fun f => f.name ++ [58] ++ txtD d f.v)) [44] (by simp; omega) (by omega)
      generalize hM : xs.map (fun f => f.name ++ [58] ++ txtD d f.v) = ws at *
      generalize Lib.join ws [44] = J at *
      have l1 : 1 + J.length ≤ 140737488355328 := by omega
      have l2 : J.length + 1 ≤ 140737488355328 := by omega
      have l3 : J.length + 1 + 1 ≤ 140737488355328 := by omega
      clear hk et h5
      simp at hl hi hj
      simp (maxDischargeDepth := 6) [e0, e1, e2, e3, e4, hi, hl, hj, l1, l2, l3]
end Go.Vd
/- The law FnOrder over plain data. -/
set_option linter.unusedSimpArgs false
set_option linter.unusedVariables false
namespace Go.Vd
open Go.Ev Go.Proofs Go.Pu
set_option maxRecDepth 100000
set_option maxHeartbeats 16000000
theorem implValueText (v : Val) (h : okP 5 v = true) : run E (.call 8 [xV v]) = some (.res [xS (txtD 5 v), xI 0] []) := by
  rw [run_call E 8 _ rfl Tryd.func8 rfl rfl rfl (by simp)]
  have hl := okP_size h
  have h1 := implValueOK v (by omega)
  have h2 := implText 5 v h (by omega)
  have h3 : valueOK v = true := h
  simp [h1, h2, h3]
theorem specValueText (v : Val) (h : okP 5 v = true) : run E (.call 9 [xV v]) = some (.res [xS (txtD 5 v), xI 0] []) := by
  rw [run_call E 9 _ rfl Tryd.func9 rfl rfl rfl (by simp)]
  have hl := okP_size h
  have h1 := specValueOK v (by omega)
  have h2 := specText 5 v h (by omega)
  have h3 : valueOK v = true := h
  simp [h1, h2, h3]
theorem lawOrder (c0 c1 : Bytes) : run E (.call 3 [.t (.list (c0.map byteT)), .t (.list (c1.map byteT))]) = some (.res [xB true] []) :=
  lawOrder_of (fun v h => ⟨_, _, implValueText v h, specValueText v h⟩) c0 c1
end Go.Vd
/- A row's tables, as they lie in memory. -/
set_option linter.unusedSimpArgs false
set_option linter.unusedVariables false
namespace Go.Ev
open Go.RowKit
/-- A table of texts, as a row lists it. -/
def strData {H : Type} (zs : List (List UInt8)) : DataW H := .agg (zs.map fun z => .lit (.string z))
theorem cells_of_strs {H : Type} {enc : TypeId × Value → H} {P : Program} {w : World} {base : Nat} {sp : Nat → Bool} {held : Bool} {fuel : Nat} {t e : TypeId} {n : Nat} {cs : List Value} {zs : List (List UInt8)} {p : List MemPlace}
    (ht : P.underlying t = some (.array n e)) (he : P.underlying e = some .string) (hce : P.cellsOf e = 1) (hct : P.cellsOf t = n)
    (h : DataW.trod enc P w base sp held fuel t cs = some (strData zs, p)) : cs = zs.map fun z => Value.string ⟨⟨z⟩⟩ := by
  cases fuel with
  | zero => simp [DataW.trod] at h
  | succ fuel =>
    simp only [DataW.trod, ht, hce, hct, Nat.mul_one] at h
    split at h
    · rename_i hl
      obtain ⟨xs, hm, hx⟩ := Option.map_eq_some_iff.1 h
      have hxs : xs.map (·.1) = zs.map fun z => (DataW.lit (.string z) : DataW H) := by
        have := congrArg Prod.fst hx
        simpa [strData] using this
      have hxl : xs.length = n := by simpa using Lib.mapM_length hm
      have hzl : zs.length = n := by
        have := congrArg List.length hxs
        simp at this
        omega
      apply List.ext_getElem?
      intro i
      by_cases hi : i < n
      · obtain ⟨b, hb, hf⟩ := Lib.mapM_at hm i i (by simp [hi])
        obtain ⟨z, hc, rfl, _⟩ := DataW.trod_string he hf
        have h1 : cs[i]? = some (.string z) := by
          have := congrArg (·[0]?) hc
          simpa [List.getElem?_take, List.getElem?_drop] using this
        have h2 : (xs.map (·.1))[i]? = some (DataW.lit (.string z.data.toList) : DataW H) := by simp [hb]
        rw [hxs] at h2
        simp only [List.getElem?_map, Option.map_eq_some_iff, DataW.lit.injEq, Lit.string.injEq] at h2
        obtain ⟨z', hz', rfl⟩ := h2
        simp [h1, hz']
      · rw [List.getElem?_eq_none (by omega), List.getElem?_eq_none (by simp; omega)]
    · cases h
theorem laid_mem {P : Program} {W : World} {name : String} {d : DataW Unit} : ∀ {l : List (String × DataW Unit)}, laidMet P l W → (name, d) ∈ l →
    ∃ r, laidMet P ((name, d) :: r) W
  | x :: r, h, hm => by
    rcases List.mem_cons.1 hm with rfl | hm
    · exact ⟨r, h⟩
    · exact laid_mem h.tail hm
theorem heap_of_var {P : Program} {W : World} {name : String} {g : Nat} {cs : Array Value} (hg : P.globalNamed name = some g) (h : W.var? P name = some cs) : ∃ a b, W.heap[g]? = some (.cells cs a b) := by
  unfold World.var? at h
  rw [hg, Option.bind_some] at h
  split at h
  · rename_i cs' a b hh
    obtain rfl := Option.some.inj h
    exact ⟨a, b, hh⟩
  · cases h
/-- A table of integers lies there. -/
theorem laid_ints {P : Program} {W : World} {l : List (String × DataW Unit)} {name : String} {k : IntKind} {zs : List Int} {g : Nat} {t e : TypeId} {n : Nat} (h : laidMet P l W) (hm : (name, Lib.tabData k zs) ∈ l)
    (hg : P.globalNamed name = some g) (hty : (P.globals[g]?).map (·.type) = some t) (ht : P.underlying t = some (.array n e)) (he : P.underlying e = some (.int k)) (hce : P.cellsOf e = 1) (hct : P.cellsOf t = n) :
    ∃ a b, W.heap[g]? = some (.cells ((zs.map (T.int k)).map vOf).toArray a b) := by
  obtain ⟨r, hr⟩ := laid_mem h hm
  have := Lib.tabIs_of_head hg hty ht he hce hct hr
  obtain ⟨a, b, hh⟩ := heap_of_var hg this
  exact ⟨a, b, by rw [hh, List.map_map]; rfl⟩
theorem laid_strs {P : Program} {W : World} {l : List (String × DataW Unit)} {name : String} {zs : List (List UInt8)} {g : Nat} {t e : TypeId} {n : Nat} (h : laidMet P l W) (hm : (name, strData zs) ∈ l)
    (hg : P.globalNamed name = some g) (hty : (P.globals[g]?).map (·.type) = some t) (ht : P.underlying t = some (.array n e)) (he : P.underlying e = some .string) (hce : P.cellsOf e = 1) (hct : P.cellsOf t = n) :
    ∃ a b, W.heap[g]? = some (.cells ((zs.map T.str).map vOf).toArray a b) := by
  obtain ⟨r, ps, ⟨g', t', cs, fuel, p, q, hg', ht', hvar, hd, _, _⟩, _⟩ := laid_mem h hm
  obtain rfl := Option.some.inj (hg.symm.trans hg')
  obtain rfl := Option.some.inj (hty.symm.trans ht')
  obtain ⟨a, b, hh⟩ := heap_of_var hg hvar
  refine ⟨a, b, ?_⟩
  have hc := cells_of_strs ht he hce hct hd
  rw [hh, show cs = cs.toList.toArray by simp, hc, List.map_map]
  rfl
end Go.Ev
/- A row's variables: they read behind the call as they did ahead of it. -/
set_option linter.unusedSimpArgs false
set_option linter.unusedVariables false
namespace Go.Ev
open Go.RowKit Go.ChangeShapes Go.WideShapes
variable {H : Type} {enc : TypeId × Value → H} {P : Program} {w w' : World}
theorem var?_below {n : String} {cs : Array Value} (h : w.var? P n = some cs) (hb : Below w.heap.size w w') : w'.var? P n = some cs := by
  unfold World.var? at h ⊢
  cases hg : P.globalNamed n with
  | none => rw [hg] at h; cases h
  | some g =>
    rw [hg] at h
    simp only [Option.bind_some] at h ⊢
    have hlt : g < w.heap.size := by
      by_cases hlt : g < w.heap.size
      · exact hlt
      · rw [Array.getElem?_eq_none (by omega)] at h; cases h
    rw [hb.block g hlt]
    exact h
theorem trodVars_back (hl : laidOutB P = true) : ∀ {ns : List String} {ds : List (DataW H)} {ps : List MemPlace}, (∀ n ∈ ns, ∀ g t, P.globalNamed n = some g → (P.globals[g]?).map (·.type) = some t → P.readableRec t = true ∧ t < P.types.size) →
    DataW.TrodVars enc P w (fun _ => true) ns ds ps → Below w.heap.size w w' → DataW.TrodVars enc P w' (fun b => decide (b < w.heap.size)) ns ds ps
  | [], ds, ps, hr, h, hb => by
    cases ds <;> simp [DataW.TrodVars] at h ⊢
    exact h
  | n :: ns, [], ps, hr, h, hb => by simp [DataW.TrodVars] at h
  | n :: ns, d :: ds, ps, hr, ⟨g, t, cs, fuel, p, q, h1, h2, h3, h4, hs, e⟩, hb => by
    obtain ⟨r1, r2⟩ := hr n (by simp) g t h1 h2
    have hlt : ∀ x ∈ p, x.block < w.heap.size := DataW.trod_lt fuel _ _ _ h4
    exact ⟨g, t, cs, fuel, p, q, h1, h2, var?_below h3 hb, DataW.trod_stays (kids_book hl r1) (book_sized r1) (fun h => by cases h) ⟨r2, book_self t⟩ h4 (fun x hx => hb.same (hlt x hx)) (fun x hx => by simpa using hlt x hx), trodVars_back hl (fun m hm => hr m (by simp [hm])) hs hb, e⟩
end Go.Ev
