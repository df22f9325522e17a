/- spec's values of a path without doubles. -/
import Derived.Test.YtdpkfljiipkhfaaGreatDoorPartUA
import Derived.Test.YtdpkfljiipkhfaaGreatDoorPartTA
import Derived.Test.YtdpkfljiipkhfaaGreatDoorPartTB
namespace Go.Rd
open Go.Ev Go.Proofs Go.Pu
set_option linter.unusedSimpArgs false
set_option linter.unusedVariables false
set_option maxRecDepth 100000
set_option maxHeartbeats 4000000
theorem valsP_len (p : Bytes) (v : Val) : (valsP p v).length ≤ v.t.length + 1 := by
  have h := getP_len (cutP 46 p) v
  have h2 := dedV_len (getP (cutP 46 p) v) []
  unfold valsP dedN
  split
  · simp
  · simp at h2; omega
theorem dedV_mem : ∀ (xs acc : List Val), ∀ y ∈ dedV acc xs, y ∈ acc ∨ y ∈ xs
  | [], acc, y, h => .inl (by simpa [dedV] using h)
  | x :: r, acc, y, h => by
    unfold dedV at h
    split at h
    · rcases dedV_mem r _ y h with h | h
      · exact .inl h
      · exact .inr (List.mem_cons_of_mem _ h)
    · rcases dedV_mem r _ y h with h | h
      · rcases List.mem_append.1 h with h | h
        · exact .inl h
        · simp at h; subst h; exact .inr (by simp)
      · exact .inr (List.mem_cons_of_mem _ h)
theorem l06Values (v : Val) (p : Bytes) (hv : v.t.length < 1048576) (hp : p.length < 4294967295) : run E (.call 139 [xV v, xS p]) = some (.res [.row 74 ((valsP p v).map valT)] []) := by
  rw [run_call E 139 _ rfl Tryz.func139 rfl rfl rfl (by simp)]
  have h1 := l02Values v p hv hp
  have hlen := getP_len (cutP 46 p) v
  unfold valsP
  generalize getP (cutP 46 p) v = xs at *
  unfold dedN
  by_cases hxs : xs.length = 0
  · have : xs = [] := List.eq_nil_of_length_eq_zero hxs
    subst this
    simp [h1, nullV]
  · have hne : 0 < xs.length := by omega
    rw [if_neg hxs]
    clear hxs
    have lp := fun (R : List Val) (hR : R = dedV [] xs) => sk1 (fun s o q hI => loop_for (c := loopAt Tryz.f139 0) (N := 53)
      (fun i s o q => ∃ r acc, s 5 = .row 1 ∧ s 6 = .row r ∧ s 7 = .t (.int .i64 i) ∧ o 1 = .row 74 (xs.map valT) true ∧ o r = .row 74 (acc.map valT) true ∧ r < q ∧ r ≠ 1 ∧ 1 < q ∧ acc.length ≤ i ∧ R = dedV acc (xs.drop i))
      (fun e s' o' q' => ∃ r, e = .exit 0 ∧ s' 6 = .row r ∧ o' r = .row 74 (R.map valT) true) xs.length
      (by
        rintro i s o q hi ⟨r, acc, h5, h6, h7, ho, hor, hrq, hr1, h1q, hac, hp⟩
        have hi' : (i : Int) < (xs.length : Int) := by omega
        have hwi := wrap_succ (n := i) (by omega)
        have hxi : xs[i]? = some xs[i] := List.getElem?_eq_getElem hi
        have hrn : r ≠ q := by omega
        have hrn2 : r ≠ q + 1 := by omega
        have hqn : q ≠ r := by omega
        have h1n : 1 ≠ q := by omega
        have hq0 : q ≠ 0 := by omega
        have h1n1 : 1 ≠ q + 1 := by omega
        have h1r : 1 ≠ r := fun h => hr1 h.symm
        rw [List.drop_eq_getElem_cons hi, dedV] at hp
        obtain ⟨X, A, B, C, hx⟩ := sk (l06_has xs acc i 1 r o q hi (by omega) ho hor)
        simp only [loopAt, loopsOf, Tryz.f139] at hx
        cases hb : acc.any (fun y => sameV y xs[i]) with
        | true =>
          rw [hb, if_pos rfl] at hp
          rw [hb] at hx
          simp at hx
          simp [loopAt, loopsOf, Tryz.f139, h5, h6, h7, ho, hor, hi, hi', hwi, hxi, hx]
          exact ⟨acc, rfl, hrq, hr1, h1q, by omega, hp⟩
        | false =>
          rw [hb, if_neg (by simp)] at hp
          rw [hb] at hx
          simp at hx
          have hcat : (acc.length + 1) ≤ 140737488355328 := by omega
          have hcat2 : (acc.length + 1) * 32 ≤ 140737488355328 := by omega
          simp [loopAt, loopsOf, Tryz.f139, h5, h6, h7, ho, hor, hi, hi', hwi, hxi, hx, hrn, hrn2, hqn, h1n, h1n1, h1r, hr1, hq0, hcat, hcat2]
          exact ⟨acc ++ [xs[i]], by simp, by simp; omega, hp⟩)
      (by
        rintro s o q ⟨r, acc, h5, h6, h7, ho, hor, hrq, hr1, h1q, hac, hp⟩
        simp [dedV] at hp
        simp [loopAt, loopsOf, Tryz.f139, h5, h6, h7, ho, hor, hp])
      xs.length 0 s o q (by omega) hI)
    simp only [loopAt, loopsOf, Tryz.f139] at lp
    obtain ⟨X, A, B, C, M, hx⟩ := lp _ rfl
    have hx' := fun s o q r a5 a6 a7 ao aor arq ar1 a1q => hx s o q ⟨r, [], a5, a6, a7, ao, aor, arq, ar1, a1q, by simp, by simp⟩
    clear hx lp
    simp at hx'
    have hpos : ¬ ((xs.length : Int) = 0) := by omega
    have hpos2 : ¬ (xs = []) := by intro h; rw [h] at hne; simp at hne
    simp [h1, hpos, hpos2, hx']
def keyF (f : Bool) (v : Val) : Bytes := if f then turnP (keyD 5 v) else keyD 5 v
theorem turnB_inj {a b : UInt8} (h : turnB a = turnB b) : a = b := by
  have h1 := turn_wrap a
  have h2 := turn_wrap b
  rw [h] at h1
  rw [← h2] at h1
  have := a.toNat_lt
  have := b.toNat_lt
  simp only [IntKind.wrap, IntKind.bits, IntKind.signed] at h1
  simp at h1
  have : a.toNat = b.toNat := by omega
  exact UInt8.toNat_inj.1 this
theorem keyF_inj {f : Bool} {a b : Val} (ha : okP 5 a = true) (hb : okP 5 b = true) (h : keyF f a = keyF f b) : a = b := by
  have h' : keyD 5 a = keyD 5 b := by
    unfold keyF at h
    cases f with
    | false => simpa using h
    | true =>
      simp [turnP] at h
      exact List.map_inj_right (fun x y h => turnB_inj h) |>.1 h
  exact (key_inj 5 a b [] [] ha hb (by rw [h'])).1
theorem sameV_iff (a b : Val) : sameV a b = true ↔ a = b := by
  cases a; cases b
  simp [sameV]
theorem has_key (f : Bool) (acc : List Val) (x : Val) (ha : ∀ y ∈ acc, okP 5 y = true) (hx : okP 5 x = true) : (acc.map (keyF f)).any (fun k => keyF f x == k) = acc.any (fun y => sameV y x) := by
  rw [Bool.eq_iff_iff]
  simp only [List.any_map, List.any_eq_true, Function.comp, beq_iff_eq, sameV_iff]
  constructor
  · rintro ⟨y, hy, h⟩; exact ⟨y, hy, (keyF_inj hx (ha y hy) h).symm⟩
  · rintro ⟨y, hy, rfl⟩; exact ⟨y, hy, rfl⟩
theorem okP_null : okP 5 nullV = true := by decide
theorem keyOfF (v : Val) (f : Bool) (h : okP 5 v = true) (hv : v.t.length < 1048576) : run E (.call 222 [xV v, xB f]) = some (.res [xS (keyF f v)] []) := keyOf 5 v f h hv
theorem keySpecF (v : Val) (f : Bool) (h : okP 5 v = true) (hv : v.t.length < 1048576) : run E (.call 140 [xV v, xB f]) = some (.res [xS (keyF f v)] []) := l04Key 5 v f h hv
theorem partKeys_loop (p : Prt) (xs : List Val) (a : Nat) (R : List Val) (hR : R = dedV [] xs) (hl : xs.length ≤ 1048577) (hok : ∀ y ∈ xs, okP 5 y = true ∧ y.t.length < 1048576) : ∀ s o q, (s 2 = .ptr 0 0 ∧ s 5 = .row 2 ∧ s 22 = .row a ∧ s 23 = .t (.int .i64 xs.length) ∧ s 24 = .t (.int .i64 0) ∧ o 0 = .box 62 [.t (.str p.path), .t (.bool p.desc)] ∧ o 2 = .row 9 [] true ∧ o a = .row 74 (xs.map valT) true ∧ a < q ∧ 2 < a) →
    ∃ e s' o' q', run E (.code (.loop (loopAt Tryz.f148 0)) ⟨s, o, q, 42⟩) = some (.st e ⟨s', o', q', 42⟩) ∧ ∃ r, e = .exit 0 ∧ s' 5 = .row r ∧ o' r = .row 9 ((R.map (keyF p.desc)).map strT) true := by
  intro s o q hI
  refine loop_for (c := loopAt Tryz.f148 0) (N := 42)
    (fun i s o q => ∃ r acc, s 2 = .ptr 0 0 ∧ s 5 = .row r ∧ s 22 = .row a ∧ s 23 = .t (.int .i64 xs.length) ∧ s 24 = .t (.int .i64 i) ∧ o 0 = .box 62 [.t (.str p.path), .t (.bool p.desc)] ∧ o r = .row 9 ((acc.map (keyF p.desc)).map strT) true ∧ o a = .row 74 (xs.map valT) true ∧ r < q ∧ r ≠ 0 ∧ r ≠ a ∧ a < q ∧ 2 < a ∧ acc.length ≤ i ∧ (∀ y ∈ acc, okP 5 y = true) ∧ R = dedV acc (xs.drop i))
    (fun e s' o' q' => ∃ r, e = .exit 0 ∧ s' 5 = .row r ∧ o' r = .row 9 ((R.map (keyF p.desc)).map strT) true) xs.length ?_ ?_
    xs.length 0 s o q (by omega) (by
      obtain ⟨h2, h5, h22, h23, h24, ho0, ho1, hoa, haq, h1a⟩ := hI
      exact ⟨2, [], h2, h5, h22, h23, h24, ho0, ho1, hoa, by omega, by omega, by omega, haq, h1a, by simp, by simp, by simpa using hR⟩)
  · rintro i s o q hi ⟨r, acc, h2, h5, h22, h23, h24, ho0, hor, hoa, hrq, hr0, hra, haq, h1a, hac, hacok, hp⟩
    have hi' : (i : Int) < (xs.length : Int) := by omega
    have hwi := wrap_succ (n := i) (by omega)
    have hxi : xs[i]? = some xs[i] := List.getElem?_eq_getElem hi
    have hoki := hok _ (List.getElem_mem hi)
    have hk := keyOfF xs[i] p.desc hoki.1 hoki.2
    have hct := containsText (acc.map (keyF p.desc)) (keyF p.desc xs[i]) (by simp; omega)
    rw [has_key p.desc acc xs[i] hacok hoki.1] at hct
    have h0r : 0 ≠ r := fun h => hr0 h.symm
    have har : a ≠ r := fun h => hra h.symm
    have hq0 : q ≠ 0 := by omega
    have h0q : 0 ≠ q := by omega
    have hrn : r ≠ q := by omega
    have hrn1 : r ≠ q + 1 := by omega
    have hrn2 : r ≠ q + 2 := by omega
    have han : a ≠ q := by omega
    have han1 : a ≠ q + 1 := by omega
    have han2 : a ≠ q + 2 := by omega
    have hqr : q ≠ r := by omega
    have hqa : q ≠ a := by omega
    have ha0 : a ≠ 0 := by omega
    have h0a : 0 ≠ a := by omega
    rw [List.drop_eq_getElem_cons hi, dedV] at hp
    generalize hkx : keyF p.desc xs[i] = kx at *
    cases hb : acc.any (fun y => sameV y xs[i]) with
    | true =>
      rw [hb, if_pos rfl] at hp
      rw [hb] at hct
      simp only [List.map_map, Function.comp_def] at hct hor
      simp [loopAt, loopsOf, Tryz.f148, h2, h5, h22, h23, h24, ho0, hor, hoa, hi, hi', hwi, hxi, hk, hct, hr0, hra, h0r, har, hq0, h0q, hrn, hrn1, hrn2, han, han1, han2, hqr, hqa, ha0, h0a]
      exact ⟨acc, by simp, by omega, by omega, h1a, by omega, hacok, hp⟩
    | false =>
      rw [hb, if_neg (by simp)] at hp
      rw [hb] at hct
      simp only [List.map_map, Function.comp_def] at hct hor
      have hcat : (acc.length + 1) ≤ 140737488355328 := by omega
      have hcat2 : (acc.length + 1) * 16 ≤ 140737488355328 := by omega
      simp [loopAt, loopsOf, Tryz.f148, h2, h5, h22, h23, h24, ho0, hor, hoa, hi, hi', hwi, hxi, hk, hct, hr0, hra, h0r, har, hq0, h0q, hrn, hrn1, hrn2, han, han1, han2, hqr, hqa, ha0, h0a, hcat, hcat2]
      exact ⟨acc ++ [xs[i]], by simp [hkx], by omega, by omega, h1a, by simp; omega, fun y hy => by
        rcases List.mem_append.1 hy with hy | hy
        · exact hacok y hy
        · simp at hy; subst hy; exact hoki.1, hp⟩
  · rintro s o q ⟨r, acc, h2, h5, h22, h23, h24, ho0, hor, hoa, hrq, hr0, hra, haq, h1a, hac, hacok, hp⟩
    simp [dedV] at hp
    simp [loopAt, loopsOf, Tryz.f148, h5, h22, h23, h24, hor, hp]
def keysP (p : Prt) (v : Val) : List Bytes := (valsP p.path v).map (keyF p.desc)
theorem keysP_len (p : Prt) (v : Val) (hv : v.t.length ≤ 300) : (keysP p v).length ≤ 301 := by
  have := valsP_len p.path v
  simp [keysP]; omega
theorem partKeys (p : Prt) (v : Val) (d : Nat) (hd : d ≤ 5) (h : okP d v = true) (hp : p.path.length < 4294967295) : run E (.call 148 [.t (prtT p), xV v]) = some (.res [.row 9 ((keysP p v).map strT)] []) := by
  rw [run_call E 148 _ rfl Tryz.func148 rfl rfl rfl (by simp)]
  have hv := okP_size h
  have h1 := getPath d v p.path h (by omega) hp
  have hlen := getP_len (cutP 46 p.path) v
  have hsm : ∀ y ∈ getP (cutP 46 p.path) v, okP 5 y = true ∧ y.t.length < 1048576 := by
    intro y hy
    have h1 := getP_ok _ d v hd h y hy
    have := okP_size h1
    exact ⟨h1, by omega⟩
  unfold keysP valsP dedN
  generalize getP (cutP 46 p.path) v = xs at *
  by_cases hxs : xs.length = 0
  · have : xs = [] := List.eq_nil_of_length_eq_zero hxs
    subst this
    obtain ⟨X, A, B, C, M, hx⟩ := sk1 (partKeys_loop p [nullV] 5 [nullV] (by simp [dedV]) (by simp) (by intro y hy; simp at hy; subst hy; exact ⟨okP_null, by decide⟩))
    simp only [loopAt, loopsOf, Tryz.f148] at hx
    simp [nullV] at hx
    simp [h1, hx, nullV, dedV]
  · have hne : 0 < xs.length := by omega
    rw [if_neg hxs]
    have hpos : ¬ ((xs.length : Int) = 0) := by omega
    have hpos2 : ¬ (xs = []) := by intro h; rw [h] at hne; simp at hne
    obtain ⟨X, A, B, C, M, hx⟩ := sk1 (partKeys_loop p xs 3 (dedV [] xs) rfl (by omega) hsm)
    simp only [loopAt, loopsOf, Tryz.f148] at hx
    simp at hx
    simp [h1, hpos, hpos2, hx]
set_option maxHeartbeats 8000000
def cross (ks qs : List Bytes) : List Bytes := ks.flatMap fun k => qs.map (k ++ ·)
abbrev valB (v : Val) : Ob := .box 74 [.t (.int .i64 v.k), .t (.int .i64 v.n), .t (.str v.t)]
abbrev prtB (p : Prt) : Ob := .box 62 [.t (.str p.path), .t (.bool p.desc)]
theorem implKeys_in (v : Val) (k : Bytes) (ks qs acc R : List Bytes) (p : Prt) (ps : List Prt) (a b c m i : Nat) (hR : R = acc ++ qs.map (k ++ ·)) (hl : acc.length + qs.length ≤ 100000) (hk : k.length ≤ 1000000) (hq : ∀ x ∈ qs, x.length ≤ 1000000) : ∀ s o q, (∃ r, s 3 = .ptr 1 0 ∧ s 7 = .ptr c 0 ∧ s 8 = .row r ∧ s 10 = .t (.str k) ∧ s 21 = .t (.list (ps.map prtT)) ∧ s 22 = .t (.int .i64 ps.length) ∧ s 23 = .t (.int .i64 i) ∧ s 28 = .row b ∧ s 29 = .t (.int .i64 ks.length) ∧ s 30 = .t (.int .i64 m) ∧ s 36 = .row a ∧ s 37 = .t (.int .i64 qs.length) ∧ s 38 = .t (.int .i64 0) ∧ o 1 = valB v ∧ o b = .row 9 (ks.map strT) true ∧ o c = prtB p ∧ o r = .row 9 (acc.map strT) true ∧ o a = .row 9 (qs.map strT) true ∧ 1 < b ∧ b < q ∧ 1 < c ∧ c < q ∧ b ≠ c ∧ 1 < r ∧ r < q ∧ r ≠ b ∧ r ≠ c ∧ r ≠ a ∧ 1 < a ∧ a < q ∧ a ≠ b ∧ a ≠ c) →
    ∃ e s' o' q', run E (.code (.loop (loopAt Tryz.f77 2)) ⟨s, o, q, 53⟩) = some (.st e ⟨s', o', q', 53⟩) ∧ ∃ r, e = .exit 4 ∧ s' 3 = .ptr 1 0 ∧ s' 7 = .ptr c 0 ∧ s' 8 = .row r ∧ s' 21 = .t (.list (ps.map prtT)) ∧ s' 22 = .t (.int .i64 ps.length) ∧ s' 23 = .t (.int .i64 i) ∧ s' 28 = .row b ∧ s' 29 = .t (.int .i64 ks.length) ∧ s' 30 = .t (.int .i64 m) ∧ o' 1 = valB v ∧ o' b = .row 9 (ks.map strT) true ∧ o' c = prtB p ∧ o' r = .row 9 (R.map strT) true ∧ b < q' ∧ c < q' ∧ 1 < r ∧ r < q' ∧ r ≠ b ∧ r ≠ c := by
  intro s o q hI
  refine loop_for (c := loopAt Tryz.f77 2) (N := 53)
    (fun j s o q => ∃ r, s 3 = .ptr 1 0 ∧ s 7 = .ptr c 0 ∧ s 8 = .row r ∧ s 10 = .t (.str k) ∧ s 21 = .t (.list (ps.map prtT)) ∧ s 22 = .t (.int .i64 ps.length) ∧ s 23 = .t (.int .i64 i) ∧ s 28 = .row b ∧ s 29 = .t (.int .i64 ks.length) ∧ s 30 = .t (.int .i64 m) ∧ s 36 = .row a ∧ s 37 = .t (.int .i64 qs.length) ∧ s 38 = .t (.int .i64 j) ∧ o 1 = valB v ∧ o b = .row 9 (ks.map strT) true ∧ o c = prtB p ∧ o r = .row 9 ((acc ++ (qs.take j).map (k ++ ·)).map strT) true ∧ o a = .row 9 (qs.map strT) true ∧ 1 < b ∧ b < q ∧ 1 < c ∧ c < q ∧ b ≠ c ∧ 1 < r ∧ r < q ∧ r ≠ b ∧ r ≠ c ∧ r ≠ a ∧ 1 < a ∧ a < q ∧ a ≠ b ∧ a ≠ c)
    (fun e s' o' q' => ∃ r, e = .exit 4 ∧ s' 3 = .ptr 1 0 ∧ s' 7 = .ptr c 0 ∧ s' 8 = .row r ∧ s' 21 = .t (.list (ps.map prtT)) ∧ s' 22 = .t (.int .i64 ps.length) ∧ s' 23 = .t (.int .i64 i) ∧ s' 28 = .row b ∧ s' 29 = .t (.int .i64 ks.length) ∧ s' 30 = .t (.int .i64 m) ∧ o' 1 = valB v ∧ o' b = .row 9 (ks.map strT) true ∧ o' c = prtB p ∧ o' r = .row 9 (R.map strT) true ∧ b < q' ∧ c < q' ∧ 1 < r ∧ r < q' ∧ r ≠ b ∧ r ≠ c) qs.length ?_ ?_
    qs.length 0 s o q (by omega) (by simpa using hI)
  · rintro j s o q hj ⟨r, h3, h7, h8, h10, h21, h22, h23, h28, h29, h30, h36, h37, h38, ho1, hob, hoc, hor, hoa, n1, n2, n3, n4, n5, n6, n7, n8, n9, n10, n11, n12, n13, n14⟩
    have hj' : (j : Int) < (qs.length : Int) := by omega
    have hwj := wrap_succ (n := j) (by omega)
    have hxj : qs[j]? = some qs[j] := List.getElem?_eq_getElem hj
    have hqj := hq _ (List.getElem_mem hj)
    have hcc : k.length + (qs[j]).length ≤ 140737488355328 := by omega
    obtain ⟨A, hA⟩ : ∃ A, A = acc ++ (qs.take j).map (k ++ ·) := ⟨_, rfl⟩
    have hA1 : acc ++ (qs.take (j + 1)).map (k ++ ·) = A ++ [k ++ qs[j]] := by rw [hA, List.take_succ_eq_append_getElem hj]; simp only [List.map_append, List.map_cons, List.map_nil, List.append_assoc]
    have hAl : A.length ≤ 100000 := by rw [hA]; simp; omega
    rw [hA1]
    rw [← hA] at hor
    clear hA hA1
    have hcat : (A.length + 1) ≤ 140737488355328 := by omega
    have hcat2 : (A.length + 1) * 16 ≤ 140737488355328 := by omega
    have e1 : 1 ≠ q := by omega
    have e2 : 1 ≠ q + 1 := by omega
    have e3 : b ≠ q := by omega
    have e4 : b ≠ q + 1 := by omega
    have e5 : c ≠ q := by omega
    have e6 : c ≠ q + 1 := by omega
    have e7 : r ≠ q := by omega
    have e8 : r ≠ q + 1 := by omega
    have e9 : a ≠ q := by omega
    have e10 : a ≠ q + 1 := by omega
    have e11 : 1 ≠ r := by omega
    have e12 : b ≠ r := fun h => n8 h.symm
    have e13 : c ≠ r := fun h => n9 h.symm
    have e14 : a ≠ r := fun h => n10 h.symm
    have e15 : q ≠ r := by omega
    have e16 : q ≠ 1 := by omega
    simp [loopAt, loopsOf, Tryz.f77, h3, h7, h8, h10, h21, h22, h23, h28, h29, h30, h36, h37, h38, ho1, hob, hoc, hor, hoa, hj, hj', hwj, hxj, hcc, hcat, hcat2, e1, e2, e3, e4, e5, e6, e7, e8, e9, e10, e11, e12, e13, e14, e15, e16, n1, n3, n5, n8, n9, n10]
    omega
  · rintro s o q ⟨r, h3, h7, h8, h10, h21, h22, h23, h28, h29, h30, h36, h37, h38, ho1, hob, hoc, hor, hoa, n1, n2, n3, n4, n5, n6, n7, n8, n9, n10, n11, n12, n13, n14⟩
    rw [List.take_length, ← hR] at hor
    simp [loopAt, loopsOf, Tryz.f77, h3, h7, h8, h10, h21, h22, h23, h28, h29, h30, h36, h37, h38, ho1, hob, hoc, hor, hoa]
    omega
theorem implKeys_mid (v : Val) (d : Nat) (hd : d ≤ 5) (hv : okP d v = true) (ks R : List Bytes) (p : Prt) (hpl : p.path.length < 4294967295) (ps : List Prt) (b c r0 i : Nat) (hR : R = cross ks (keysP p v)) (hl : ks.length ≤ 301) (hk : ∀ k ∈ ks, k.length ≤ 1000000) (hq : ∀ x ∈ keysP p v, x.length ≤ 1000000) : ∀ s o q, (s 3 = .ptr 1 0 ∧ s 7 = .ptr c 0 ∧ s 8 = .row r0 ∧ s 21 = .t (.list (ps.map prtT)) ∧ s 22 = .t (.int .i64 ps.length) ∧ s 23 = .t (.int .i64 i) ∧ s 28 = .row b ∧ s 29 = .t (.int .i64 ks.length) ∧ s 30 = .t (.int .i64 0) ∧ o 1 = valB v ∧ o b = .row 9 (ks.map strT) true ∧ o c = prtB p ∧ o r0 = .row 9 [] true ∧ 1 < b ∧ b < q ∧ 1 < c ∧ c < q ∧ b ≠ c ∧ 1 < r0 ∧ r0 < q ∧ r0 ≠ b ∧ r0 ≠ c) →
    ∃ e s' o' q', run E (.code (.loop (loopAt Tryz.f77 1)) ⟨s, o, q, 53⟩) = some (.st e ⟨s', o', q', 53⟩) ∧ ∃ r, e = .exit 2 ∧ s' 3 = .ptr 1 0 ∧ s' 8 = .row r ∧ s' 21 = .t (.list (ps.map prtT)) ∧ s' 22 = .t (.int .i64 ps.length) ∧ s' 23 = .t (.int .i64 i) ∧ o' 1 = valB v ∧ o' r = .row 9 (R.map strT) true ∧ 1 < r ∧ r < q' := by
  intro s o q hI
  have hpk := partKeys p v d hd hv hpl
  have hql := keysP_len p v (okP_size hv)
  generalize keysP p v = qs at *
  refine loop_for (c := loopAt Tryz.f77 1) (N := 53)
    (fun m s o q => ∃ r acc, s 3 = .ptr 1 0 ∧ s 7 = .ptr c 0 ∧ s 8 = .row r ∧ s 21 = .t (.list (ps.map prtT)) ∧ s 22 = .t (.int .i64 ps.length) ∧ s 23 = .t (.int .i64 i) ∧ s 28 = .row b ∧ s 29 = .t (.int .i64 ks.length) ∧ s 30 = .t (.int .i64 m) ∧ o 1 = valB v ∧ o b = .row 9 (ks.map strT) true ∧ o c = prtB p ∧ o r = .row 9 (acc.map strT) true ∧ 1 < b ∧ b < q ∧ 1 < c ∧ c < q ∧ b ≠ c ∧ 1 < r ∧ r < q ∧ r ≠ b ∧ r ≠ c ∧ acc.length = m * qs.length ∧ R = acc ++ cross (ks.drop m) qs)
    (fun e s' o' q' => ∃ r, e = .exit 2 ∧ s' 3 = .ptr 1 0 ∧ s' 8 = .row r ∧ s' 21 = .t (.list (ps.map prtT)) ∧ s' 22 = .t (.int .i64 ps.length) ∧ s' 23 = .t (.int .i64 i) ∧ o' 1 = valB v ∧ o' r = .row 9 (R.map strT) true ∧ 1 < r ∧ r < q') ks.length ?_ ?_
    ks.length 0 s o q (by omega) (by
      obtain ⟨h3, h7, h8, h21, h22, h23, h28, h29, h30, ho1, hob, hoc, hor, n1, n2, n3, n4, n5, n6, n7, n8, n9⟩ := hI
      exact ⟨r0, [], h3, h7, h8, h21, h22, h23, h28, h29, h30, ho1, hob, hoc, hor, n1, n2, n3, n4, n5, n6, n7, n8, n9, by simp, by simpa using hR⟩)
  · rintro m s o q hm ⟨r, acc, h3, h7, h8, h21, h22, h23, h28, h29, h30, ho1, hob, hoc, hor, n1, n2, n3, n4, n5, n6, n7, n8, n9, hac, hp⟩
    have hm' : (m : Int) < (ks.length : Int) := by omega
    have hwm := wrap_succ (n := m) (by omega)
    have hxm : ks[m]? = some ks[m] := List.getElem?_eq_getElem hm
    have hkm := hk _ (List.getElem_mem hm)
    have hsz : acc.length + qs.length ≤ 100000 := by
      rw [hac]
      have h1 : m * qs.length ≤ 300 * 301 := Nat.mul_le_mul (by omega) hql
      omega
    obtain ⟨X, A, B, C, M, hx⟩ := sk1 (implKeys_in v ks[m] ks qs acc (acc ++ qs.map (ks[m] ++ ·)) p ps q b c m i rfl hsz hkm hq)
    simp only [loopAt, loopsOf, Tryz.f77] at hx
    have hx' := fun s o q' a3 a7 a8 a10 a21 a22 a23 a28 a29 a30 a36 a37 a38 ao1 aob aoc aor aoa a2 a4 a5 a6 => hx s o q' ⟨r, a3, a7, a8, a10, a21, a22, a23, a28, a29, a30, a36, a37, a38, ao1, aob, aoc, aor, aoa, n1, a2, n3, a4, n5, n6, a5, n8, n9, by omega, by omega, a6, by omega, by omega⟩
    clear hx
    simp at hx'
    rw [List.drop_eq_getElem_cons hm] at hp
    have e1 : 1 ≠ q := by omega
    have e3 : b ≠ q := by omega
    have e5 : c ≠ q := by omega
    have e7 : r ≠ q := by omega
    have e16 : q ≠ 1 := by omega
    have g2 : b < q + 1 := by omega
    have g4 : c < q + 1 := by omega
    have g5 : r < q + 1 := by omega
    simp [-List.map_drop, loopAt, loopsOf, Tryz.f77, h3, h7, h8, h21, h22, h23, h28, h29, h30, ho1, hob, hoc, hor, hm, hm', hwm, hxm, hpk, hx', e1, e3, e5, e7, e16, n1, n3, n5, n8, n9, g2, g4, g5]
    exact ⟨acc ++ qs.map (ks[m] ++ ·), by simp, by simp [hac, Nat.add_mul], by rw [hp]; unfold cross; rw [List.flatMap_cons]; simp only [List.append_assoc]⟩
  · rintro s o q ⟨r, acc, h3, h7, h8, h21, h22, h23, h28, h29, h30, ho1, hob, hoc, hor, n1, n2, n3, n4, n5, n6, n7, n8, n9, hac, hp⟩
    simp [cross] at hp
    simp [loopAt, loopsOf, Tryz.f77, h3, h7, h8, h21, h22, h23, h28, h29, h30, ho1, hob, hoc, hor, hp]
    omega
def docKeysP : List Prt → Val → List Bytes
  | [], _ => []
  | p :: r, v => r.foldl (fun ks q => cross ks (keysP q v)) (keysP p v)
theorem keyF_len (f : Bool) (v : Val) (h : okP 5 v = true) : (keyF f v).length ≤ 3311 := by
  have h1 := keyD_len 5 v h
  have h2 := okP_size h
  unfold keyF
  split
  · simp [turnP]; omega
  · omega
theorem valsP_ok (p : Bytes) (v : Val) (d : Nat) (hd : d ≤ 5) (h : okP d v = true) : ∀ y ∈ valsP p v, okP 5 y = true := by
  intro y hy
  unfold valsP dedN at hy
  split at hy
  · simp at hy; subst hy; exact okP_null
  · rcases dedV_mem _ _ y hy with h' | h'
    · simp at h'
    · exact getP_ok _ d v hd h y h'
theorem keysP_short (p : Prt) (v : Val) (d : Nat) (hd : d ≤ 5) (h : okP d v = true) : ∀ x ∈ keysP p v, x.length ≤ 3311 := by
  intro x hx
  obtain ⟨y, hy, rfl⟩ := List.mem_map.1 hx
  exact keyF_len _ _ (valsP_ok p.path v d hd h y hy)
theorem implDocKeys (nm : Bytes) (p : Prt) (ps : List Prt) (hps : ps.length ≤ 1) (v : Val) (d : Nat) (hd : d ≤ 5) (hv : okP d v = true) (hpl : p.path.length < 4294967295) (hql : ∀ q ∈ ps, q.path.length < 4294967295) : run E (.call 77 [.t (.agg [.str nm, .list ((p :: ps).map prtT)]), xV v]) = some (.res [.row 9 ((docKeysP (p :: ps) v).map strT)] []) := by
  rw [run_call E 77 _ rfl Tryz.func77 rfl rfl rfl (by simp)]
  have d1 := d77_1
  simp [regionOf, findR, pick, Tryz.f77] at d1
  have dd := fun st => run_region_draw E st 1 _ d1
  clear d1
  have h1 := partKeys p v d hd hv hpl
  have hl1 := keysP_len p v (okP_size hv)
  have hs1 := keysP_short p v d hd hv
  have hD : docKeysP (p :: ps) v = ps.foldl (fun ks q => cross ks (keysP q v)) (keysP p v) := rfl
  rw [hD]
  clear hD
  have htk : List.take ps.length (ps.map prtT) = ps.map prtT := List.take_of_length_le (by simp)
  generalize keysP p v = k0 at *
  have lp := fun (R : List Bytes) (hR : R = ps.foldl (fun ks q => cross ks (keysP q v)) k0) => sk1 (fun s o q hI => loop_for (c := loopAt Tryz.f77 0) (N := 53)
    (fun i s o q => ∃ r ks, s 3 = .ptr 1 0 ∧ s 5 = .row r ∧ s 21 = .t (.list (ps.map prtT)) ∧ s 22 = .t (.int .i64 ps.length) ∧ s 23 = .t (.int .i64 i) ∧ o 1 = valB v ∧ o r = .row 9 (ks.map strT) true ∧ 1 < r ∧ r < q ∧ (i = 0 → ks.length ≤ 301 ∧ ∀ x ∈ ks, x.length ≤ 3311) ∧ R = (ps.drop i).foldl (fun ks q => cross ks (keysP q v)) ks)
    (fun e s' o' q' => ∃ r, e = .exit 0 ∧ s' 5 = .row r ∧ o' r = .row 9 (R.map strT) true) ps.length
    (by
      rintro i s o q hi ⟨r, ks, h3, h5, h21, h22, h23, ho1, hor, n1, n2, hks, hp⟩
      have hi0 : i = 0 := by omega
      have hk := hks hi0
      have hi' : (i : Int) < (ps.length : Int) := by omega
      have hwi := wrap_succ (n := i) (by omega)
      have hxi : ps[i]? = some ps[i] := List.getElem?_eq_getElem hi
      rw [List.drop_eq_getElem_cons hi, List.foldl_cons] at hp
      obtain ⟨X, A, B, C, M, hx⟩ := sk1 (implKeys_mid v d hd hv ks (cross ks (keysP ps[i] v)) ps[i] (hql _ (List.getElem_mem hi)) ps r q (q + 1) i rfl hk.1 (fun x hx => by have := hk.2 x hx; omega) (fun x hx => by have := keysP_short ps[i] v d hd hv x hx; omega))
      simp only [loopAt, loopsOf, Tryz.f77] at hx
      simp at hx
      have e1 : 1 ≠ q := by omega
      have e2 : 1 ≠ q + 1 := by omega
      have e3 : r ≠ q := by omega
      have e4 : r ≠ q + 1 := by omega
      have e5 : q ≠ 1 := by omega
      have e6 : q ≠ r := by omega
      have e7 : q + 1 ≠ r := by omega
      have g1 : 1 < q := by omega
      have g2 : 1 < q + 1 := by omega
      have g3 : r < q + 2 := by omega
      have g4 : r < q + 1 + 1 := by omega
      have g5 : q < q + 1 + 1 := by omega
      have g6 : q < q + 2 := by omega
      have g7 : 0 < q := by omega
      have g8 : q ≠ 0 := by omega
      have g9 : 0 ≠ q := by omega
      simp [loopAt, loopsOf, Tryz.f77, h3, h5, h21, h22, h23, ho1, hor, hi, hi', hwi, hxi, hx, e1, e2, e3, e4, e5, e6, e7, g1, g2, g3, g4, g5, g6, g7, g8, g9, n1]
      exact ⟨_, rfl, hp⟩)
    (by
      rintro s o q ⟨r, ks, h3, h5, h21, h22, h23, ho1, hor, n1, n2, hks, hp⟩
      simp at hp
      simp [loopAt, loopsOf, Tryz.f77, h3, h5, h21, h22, h23, ho1, hor, hp])
    ps.length 0 s o q (by omega) hI)
  simp only [loopAt, loopsOf, Tryz.f77] at lp
  obtain ⟨X, A, B, C, M, hx⟩ := lp _ rfl
  have hx' := fun s o q r a3 a5 a21 a22 a23 ao1 aor n1 n2 => hx s o q ⟨r, k0, a3, a5, a21, a22, a23, ao1, aor, n1, n2, fun _ => ⟨hl1, hs1⟩, by simp⟩
  clear hx lp
  simp at hx'
  simp [dd, h1, htk, hx']
set_option maxHeartbeats 4000000
theorem turnB_turn (b : UInt8) : turnB (turnB b) = b := by
  have h (x : UInt8) : (turnB x).toNat = 255 - x.toNat := by
    unfold turnB
    have hx : x.toNat < 256 := x.toNat_lt
    rw [UInt8.toNat_sub]
    simp
    omega
  have hb : b.toNat < 256 := b.toNat_lt
  exact UInt8.toNat_inj.1 (by rw [h, h]; omega)
theorem turnP_turn (t : Bytes) : turnP (turnP t) = t := by
  unfold turnP
  rw [List.map_map]
  have : turnB ∘ turnB = id := funext turnB_turn
  rw [this, List.map_id]
theorem turnP_app (a b : Bytes) : turnP (a ++ b) = turnP a ++ turnP b := by simp [turnP]
theorem keyF_inj2 (f : Bool) {a b : Val} {r r' : Bytes} (ha : okP 5 a = true) (hb : okP 5 b = true) (h : keyF f a ++ r = keyF f b ++ r') : a = b ∧ r = r' := by
  unfold keyF at h
  cases f with
  | false => exact key_inj 5 a b r r' ha hb h
  | true =>
    simp only [if_true] at h
    have h2 := congrArg turnP h
    rw [turnP_app, turnP_app, turnP_turn, turnP_turn] at h2
    obtain ⟨h3, h4⟩ := key_inj 5 a b _ _ ha hb h2
    have h5 := congrArg turnP h4
    rw [turnP_turn, turnP_turn] at h5
    exact ⟨h3, h5⟩
theorem dedV_nodup : ∀ (xs acc : List Val), acc.Nodup → (dedV acc xs).Nodup
  | [], acc, h => by simpa [dedV] using h
  | x :: r, acc, h => by
    unfold dedV
    refine dedV_nodup r _ ?_
    split
    · exact h
    · rename_i hn
      rw [List.nodup_append]
      refine ⟨h, by simp, fun a ha b hb => ?_⟩
      rw [List.mem_singleton] at hb
      subst hb
      rintro rfl
      exact hn (List.any_eq_true.2 ⟨a, ha, (sameV_iff a a).2 rfl⟩)
theorem valsP_nodup (p : Bytes) (v : Val) : (valsP p v).Nodup := by
  unfold valsP dedN
  split
  · simp
  · exact dedV_nodup _ _ (by simp)
/-- Keys of which none is the start of another. -/
def Free (ks : List Bytes) : Prop := ks.Pairwise fun a b => ∀ r r', a ++ r ≠ b ++ r'
theorem keysP_free (p : Prt) (v : Val) (d : Nat) (hd : d ≤ 5) (h : okP d v = true) : Free (keysP p v) := by
  unfold Free keysP
  rw [List.pairwise_map]
  have hn := valsP_nodup p.path v
  have hok := valsP_ok p.path v d hd h
  generalize valsP p.path v = l at *
  induction l with
  | nil => exact .nil
  | cons x r ih =>
    rw [List.nodup_cons] at hn
    rw [List.pairwise_cons]
    refine ⟨fun y hy s s' e => ?_, ih hn.2 (fun y hy => hok y (by simp [hy]))⟩
    have := (keyF_inj2 p.desc (hok x (by simp)) (hok y (by simp [hy])) e).1
    subst this
    exact hn.1 hy
theorem free_nodup {ks : List Bytes} (h : Free ks) : ks.Nodup := h.imp (fun hab e => hab [] [] (by rw [e]))
theorem cross_nodup : ∀ {ks qs : List Bytes}, Free ks → qs.Nodup → (cross ks qs).Nodup
  | [], qs, _, _ => by simp [cross]
  | k :: r, qs, hk, hq => by
    unfold Free at hk
    rw [List.pairwise_cons] at hk
    have ih := cross_nodup (ks := r) hk.2 hq
    unfold cross at ih ⊢
    rw [List.flatMap_cons, List.nodup_append]
    refine ⟨?_, ih, ?_⟩
    · rw [List.nodup_iff_pairwise_ne, List.pairwise_map]
      exact hq.imp (fun hab e => hab (List.append_cancel_left e))
    · rintro a ha b hb rfl
      obtain ⟨q, hq', rfl⟩ := List.mem_map.1 ha
      obtain ⟨k', hk', hb'⟩ := List.mem_flatMap.1 hb
      obtain ⟨q2, _, e⟩ := List.mem_map.1 hb'
      exact hk.1 k' hk' q q2 e.symm
theorem docKeys_nodup (p : Prt) (pr : List Prt) (hps : pr.length ≤ 1) (v : Val) (h : okP 5 v = true) : (docKeysP (p :: pr) v).Nodup := by
  have f0 := keysP_free p v 5 (Nat.le_refl _) h
  match pr, hps with
  | [], _ => exact free_nodup f0
  | [q], _ => exact cross_nodup f0 (free_nodup (keysP_free q v 5 (Nat.le_refl _) h))
/-- What the documents' entries are. -/
def docEnts (ps : List Prt) (d : Val) : List Ent := (docKeysP ps d).map fun k => ⟨k, specId d⟩
def allEnts (ps : List Prt) (xs : List Val) : List Ent := xs.flatMap (docEnts ps)
theorem allEnts_nodup (p : Prt) (pr : List Prt) (hps : pr.length ≤ 1) : ∀ (xs : List Val) (q : Int), docsGo q xs = true → (∀ x ∈ xs, okP 5 x = true) → (allEnts (p :: pr) xs).Nodup
  | [], _, _, _ => by simp [allEnts]
  | x :: r, q, h, hok => by
    have hr := h
    simp [docsGo] at hr
    have ih := allEnts_nodup p pr hps r _ hr.2.2 (fun y hy => hok y (by simp [hy]))
    obtain ⟨g1, _⟩ := docsGo_rise r _ hr.2.2
    unfold allEnts at ih ⊢
    rw [List.flatMap_cons, List.nodup_append]
    refine ⟨?_, ih, ?_⟩
    · unfold docEnts
      rw [List.nodup_iff_pairwise_ne, List.pairwise_map]
      refine (docKeys_nodup p pr hps x (hok x (by simp))).imp (fun hab e => hab ?_)
      injection e
    · rintro a ha b hb rfl
      obtain ⟨k, _, rfl⟩ := List.mem_map.1 ha
      obtain ⟨y, hy, hb'⟩ := List.mem_flatMap.1 hb
      obtain ⟨k', _, e⟩ := List.mem_map.1 hb'
      have := (g1 y hy).2.2
      injection e with e1 e2
      omega
theorem perm_of_sub {α : Type} [DecidableEq α] : ∀ {a b : List α}, a.Nodup → (∀ x ∈ a, x ∈ b) → b.length ≤ a.length → a.Perm b
  | [], b, _, _, hl => by
    have : b = [] := List.length_eq_zero_iff.1 (by simpa using hl)
    subst this; exact .nil
  | x :: r, b, hn, hs, hl => by
    rw [List.nodup_cons] at hn
    have hx := hs x (by simp)
    have hp := List.perm_cons_erase hx
    refine (List.Perm.cons x (perm_of_sub hn.2 (fun y hy => ?_) ?_)).trans hp.symm
    · have hne : y ≠ x := fun e => hn.1 (e ▸ hy)
      exact (List.mem_erase_of_ne hne).2 (hs y (by simp [hy]))
    · have := List.length_erase_of_mem hx
      simp at hl
      omega
/-- The places. -/
theorem place_none (e : Ent) : ∀ (r : List Pg) (i k : Nat), (∀ p ∈ r, begins e p = false) → placeGo e i k r = k
  | [], i, k, _ => rfl
  | p :: r, i, k, h => by
    rw [placeGo, h p (by simp)]
    exact place_none e r (i + 1) k (fun q hq => h q (by simp [hq]))
theorem place_in (e : Ent) (p : Pg) (post : List Pg) (hb : begins e p = true) (hn : ∀ q ∈ post, begins e q = false) : ∀ (pre : List Pg) (i k : Nat), placeGo e i k (pre ++ p :: post) = i + pre.length
  | [], i, k => by
    rw [List.nil_append, placeGo, hb]
    simp only [if_true]
    exact place_none e post _ _ hn
  | q :: pre, i, k => by
    rw [List.cons_append, placeGo, place_in e p post hb hn pre]
    simp; omega
theorem entLt_irrefl (e : Ent) : entLt e e = false := by
  unfold entLt
  simp [bytesLess_irrefl]
theorem place_has {t : Tr} (h : treeOK t = true) (e : Ent) (hm : e ∈ allE t) : ∃ p, t.pages[placeP e t.pages]? = some p ∧ e ∈ p.ents := by
  have hr : (allE t).Pairwise (fun x y => entLt x y = true) := by
    unfold treeOK at h
    simp only [Bool.and_eq_true] at h
    exact ents_rise h.2.2
  unfold allE at hm hr
  obtain ⟨p, hp, he⟩ := List.mem_flatMap.1 hm
  obtain ⟨pre, post, hps⟩ := List.append_of_mem hp
  rw [hps, List.flatMap_append, List.flatMap_cons, List.pairwise_append, List.pairwise_append] at hr
  obtain ⟨_, ⟨s1, _, s3⟩, _⟩ := hr
  have hb : begins e p = true := by
    unfold begins
    cases hpe : p.ents with
    | nil => rw [hpe] at he; cases he
    | cons f r =>
      rw [hpe] at he s1
      rw [List.pairwise_cons] at s1
      rcases List.mem_cons.1 he with rfl | he
      · simp [entLt_irrefl]
      · have h1 := s1.1 e he
        have : entLt e f = false := by
          cases hx : entLt e f with
          | false => rfl
          | true => have := entLt_trans h1 hx; rw [entLt_irrefl] at this; cases this
        simp [this]
  have hn : ∀ q ∈ post, begins e q = false := by
    intro q hq
    unfold begins
    cases hqe : q.ents with
    | nil => rfl
    | cons f r =>
      have := s3 e he f (List.mem_flatMap.2 ⟨q, hq, by rw [hqe]; simp⟩)
      simp [this]
  refine ⟨p, ?_, he⟩
  unfold placeP
  rw [hps, place_in e p post hb hn pre 0 0]
  simp
theorem place_iff {t : Tr} (h : treeOK t = true) (e : Ent) : (∃ p, t.pages[placeP e t.pages]? = some p ∧ e ∈ p.ents) ↔ e ∈ allE t :=
  ⟨fun ⟨p, hp, he⟩ => List.mem_flatMap.2 ⟨p, List.mem_of_getElem? hp, he⟩, place_has h e⟩
set_option maxHeartbeats 8000000
abbrev defB (nm : Bytes) (ps : List Prt) : Ob := .box 48 [.t (.str nm), .t (.list (ps.map prtT))]
theorem specKeys_in (v : Val) (nm : Bytes) (k : Bytes) (ks acc R : List Bytes) (vs : List Val) (ps : List Prt) (a b m i : Nat) (hi : i < ps.length) (hmk : ks[m]? = some k) (hks : ks.length ≤ 100000) (hR : R = acc ++ vs.map (fun x => k ++ keyF ps[i].desc x)) (hl : acc.length + vs.length ≤ 100000) (hk : k.length ≤ 1000000) (hq : ∀ x ∈ vs, okP 5 x = true) : ∀ s o q, (∃ r, s 2 = .ptr 0 0 ∧ s 3 = .ptr 1 0 ∧ s 5 = .row b ∧ s 6 = .t (.int .i64 i) ∧ s 7 = .row a ∧ s 8 = .row r ∧ s 9 = .t (.int .i64 m) ∧ s 10 = .t (.int .i64 0) ∧ o 0 = defB nm ps ∧ o 1 = valB v ∧ o b = .row 9 (ks.map strT) true ∧ o a = .row 74 (vs.map valT) true ∧ o r = .row 9 (acc.map strT) true ∧ 1 < b ∧ b < q ∧ 1 < a ∧ a < q ∧ a ≠ b ∧ 1 < r ∧ r < q ∧ r ≠ b ∧ r ≠ a) →
    ∃ e s' o' q', run E (.code (.loop (loopAt Tryz.f69 2)) ⟨s, o, q, 61⟩) = some (.st e ⟨s', o', q', 61⟩) ∧ ∃ r, e = .exit 4 ∧ s' 2 = .ptr 0 0 ∧ s' 3 = .ptr 1 0 ∧ s' 5 = .row b ∧ s' 6 = .t (.int .i64 i) ∧ s' 7 = .row a ∧ s' 8 = .row r ∧ s' 9 = .t (.int .i64 m) ∧ o' 0 = defB nm ps ∧ o' 1 = valB v ∧ o' b = .row 9 (ks.map strT) true ∧ o' a = .row 74 (vs.map valT) true ∧ o' r = .row 9 (R.map strT) true ∧ b < q' ∧ a < q' ∧ 1 < r ∧ r < q' ∧ r ≠ b ∧ r ≠ a := by
  intro s o q hI
  have d13 := d69_13
  simp [regionOf, findR, pick, Tryz.f69] at d13
  have dd := fun st => run_region_draw E st 13 _ d13
  clear d13
  refine loop_for (c := loopAt Tryz.f69 2) (N := 61)
    (fun j s o q => ∃ r, s 2 = .ptr 0 0 ∧ s 3 = .ptr 1 0 ∧ s 5 = .row b ∧ s 6 = .t (.int .i64 i) ∧ s 7 = .row a ∧ s 8 = .row r ∧ s 9 = .t (.int .i64 m) ∧ s 10 = .t (.int .i64 j) ∧ o 0 = defB nm ps ∧ o 1 = valB v ∧ o b = .row 9 (ks.map strT) true ∧ o a = .row 74 (vs.map valT) true ∧ o r = .row 9 ((acc ++ (vs.take j).map (fun x => k ++ keyF ps[i].desc x)).map strT) true ∧ 1 < b ∧ b < q ∧ 1 < a ∧ a < q ∧ a ≠ b ∧ 1 < r ∧ r < q ∧ r ≠ b ∧ r ≠ a)
    (fun e s' o' q' => ∃ r, e = .exit 4 ∧ s' 2 = .ptr 0 0 ∧ s' 3 = .ptr 1 0 ∧ s' 5 = .row b ∧ s' 6 = .t (.int .i64 i) ∧ s' 7 = .row a ∧ s' 8 = .row r ∧ s' 9 = .t (.int .i64 m) ∧ o' 0 = defB nm ps ∧ o' 1 = valB v ∧ o' b = .row 9 (ks.map strT) true ∧ o' a = .row 74 (vs.map valT) true ∧ o' r = .row 9 (R.map strT) true ∧ b < q' ∧ a < q' ∧ 1 < r ∧ r < q' ∧ r ≠ b ∧ r ≠ a) vs.length ?_ ?_
    vs.length 0 s o q (by omega) (by simpa using hI)
  · rintro j s o q hj ⟨r, h2, h3, h5, h6, h7, h8, h9, h10, ho0, ho1, hob, hoa, hor, n1, n2, n3, n4, n5, n6, n7, n8, n9⟩
    have hj' : (j : Int) < (vs.length : Int) := by omega
    have hwj := wrap_succ (n := j) (by omega)
    have hxj : vs[j]? = some vs[j] := List.getElem?_eq_getElem hj
    have hxi : ps[i]? = some ps[i] := List.getElem?_eq_getElem hi
    have hm : m < ks.length := (List.getElem?_eq_some_iff.1 hmk).1
    have hkm : ks[m] = k := (List.getElem?_eq_some_iff.1 hmk).2
    have hok := hq _ (List.getElem_mem hj)
    have hkf := keySpecF vs[j] ps[i].desc hok (by have := okP_size hok; omega)
    have hqj := keyF_len ps[i].desc vs[j] hok
    obtain ⟨A, hA⟩ : ∃ A, A = acc ++ (vs.take j).map (fun x => k ++ keyF ps[i].desc x) := ⟨_, rfl⟩
    have hA1 : acc ++ (vs.take (j + 1)).map (fun x => k ++ keyF ps[i].desc x) = A ++ [k ++ keyF ps[i].desc vs[j]] := by rw [hA, List.take_succ_eq_append_getElem hj]; simp only [List.map_append, List.map_cons, List.map_nil, List.append_assoc]
    have hAl : A.length ≤ 100000 := by rw [hA]; simp; omega
    rw [hA1]
    rw [← hA] at hor
    clear hA hA1 hR
    generalize keyF ps[i].desc vs[j] = kj at *
    have hcc : k.length + kj.length ≤ 140737488355328 := by omega
    have hcat : (A.length + 1) ≤ 140737488355328 := by omega
    have hcat2 : (A.length + 1) * 16 ≤ 140737488355328 := by omega
    have e1 : 1 ≠ q := by omega
    have e2 : 1 ≠ q + 1 := by omega
    have e3 : b ≠ q := by omega
    have e4 : b ≠ q + 1 := by omega
    have e5 : a ≠ q := by omega
    have e6 : a ≠ q + 1 := by omega
    have e7 : r ≠ q := by omega
    have e8 : r ≠ q + 1 := by omega
    have e11 : 1 ≠ r := by omega
    have e12 : b ≠ r := fun h => n8 h.symm
    have e13 : a ≠ r := fun h => n9 h.symm
    have e15 : q ≠ r := by omega
    have e16 : q ≠ 1 := by omega
    have e17 : q ≠ 0 := by omega
    have e18 : 0 ≠ q := by omega
    have e19 : 0 ≠ r := by omega
    have e20 : r ≠ 0 := by omega
    have e21 : a ≠ 0 := by omega
    have e22 : 0 ≠ a := by omega
    have e23 : b ≠ 0 := by omega
    have e24 : 0 ≠ b := by omega
    simp [loopAt, loopsOf, Tryz.f69, dd, h2, h3, h5, h6, h7, h8, h9, h10, ho0, ho1, hob, hoa, hor, hj, hj', hwj, hxj, hxi, hi, hm, hmk, hkm, hkf, hcc, hcat, hcat2, e1, e2, e3, e4, e5, e6, e7, e8, e11, e12, e13, e15, e16, e17, e18, e19, e20, e21, e22, e23, e24, n1, n3, n5, n8, n9]
    omega
  · rintro s o q ⟨r, h2, h3, h5, h6, h7, h8, h9, h10, ho0, ho1, hob, hoa, hor, n1, n2, n3, n4, n5, n6, n7, n8, n9⟩
    rw [List.take_length, ← hR] at hor
    simp [loopAt, loopsOf, Tryz.f69, h2, h3, h5, h6, h7, h8, h9, h10, ho0, ho1, hob, hoa, hor]
    omega
theorem specKeys_mid (v : Val) (nm : Bytes) (ks R : List Bytes) (vs : List Val) (ps : List Prt) (a b r0 i : Nat) (hi : i < ps.length) (hR : R = cross ks (vs.map (keyF ps[i].desc))) (hl : ks.length ≤ 301) (hvl : vs.length ≤ 301) (hk : ∀ k ∈ ks, k.length ≤ 1000000) (hq : ∀ x ∈ vs, okP 5 x = true) : ∀ s o q, (s 2 = .ptr 0 0 ∧ s 3 = .ptr 1 0 ∧ s 5 = .row b ∧ s 6 = .t (.int .i64 i) ∧ s 7 = .row a ∧ s 8 = .row r0 ∧ s 9 = .t (.int .i64 0) ∧ o 0 = defB nm ps ∧ o 1 = valB v ∧ o b = .row 9 (ks.map strT) true ∧ o a = .row 74 (vs.map valT) true ∧ o r0 = .row 9 [] true ∧ 1 < b ∧ b < q ∧ 1 < a ∧ a < q ∧ a ≠ b ∧ 1 < r0 ∧ r0 < q ∧ r0 ≠ b ∧ r0 ≠ a) →
    ∃ e s' o' q', run E (.code (.loop (loopAt Tryz.f69 1)) ⟨s, o, q, 61⟩) = some (.st e ⟨s', o', q', 61⟩) ∧ ∃ r, e = .exit 2 ∧ s' 2 = .ptr 0 0 ∧ s' 3 = .ptr 1 0 ∧ s' 6 = .t (.int .i64 i) ∧ s' 8 = .row r ∧ o' 0 = defB nm ps ∧ o' 1 = valB v ∧ o' r = .row 9 (R.map strT) true ∧ 1 < r ∧ r < q' := by
  intro s o q hI
  refine loop_for (c := loopAt Tryz.f69 1) (N := 61)
    (fun m s o q => ∃ r acc, s 2 = .ptr 0 0 ∧ s 3 = .ptr 1 0 ∧ s 5 = .row b ∧ s 6 = .t (.int .i64 i) ∧ s 7 = .row a ∧ s 8 = .row r ∧ s 9 = .t (.int .i64 m) ∧ o 0 = defB nm ps ∧ o 1 = valB v ∧ o b = .row 9 (ks.map strT) true ∧ o a = .row 74 (vs.map valT) true ∧ o r = .row 9 (acc.map strT) true ∧ 1 < b ∧ b < q ∧ 1 < a ∧ a < q ∧ a ≠ b ∧ 1 < r ∧ r < q ∧ r ≠ b ∧ r ≠ a ∧ acc.length = m * vs.length ∧ R = acc ++ cross (ks.drop m) (vs.map (keyF ps[i].desc)))
    (fun e s' o' q' => ∃ r, e = .exit 2 ∧ s' 2 = .ptr 0 0 ∧ s' 3 = .ptr 1 0 ∧ s' 6 = .t (.int .i64 i) ∧ s' 8 = .row r ∧ o' 0 = defB nm ps ∧ o' 1 = valB v ∧ o' r = .row 9 (R.map strT) true ∧ 1 < r ∧ r < q') ks.length ?_ ?_
    ks.length 0 s o q (by omega) (by
      obtain ⟨h2, h3, h5, h6, h7, h8, h9, ho0, ho1, hob, hoa, hor, n1, n2, n3, n4, n5, n6, n7, n8, n9⟩ := hI
      exact ⟨r0, [], h2, h3, h5, h6, h7, h8, h9, ho0, ho1, hob, hoa, hor, n1, n2, n3, n4, n5, n6, n7, n8, n9, by simp, by simpa using hR⟩)
  · rintro m s o q hm ⟨r, acc, h2, h3, h5, h6, h7, h8, h9, ho0, ho1, hob, hoa, hor, n1, n2, n3, n4, n5, n6, n7, n8, n9, hac, hp⟩
    have hm' : (m : Int) < (ks.length : Int) := by omega
    have hwm := wrap_succ (n := m) (by omega)
    have hxm : ks[m]? = some ks[m] := List.getElem?_eq_getElem hm
    have hkm := hk _ (List.getElem_mem hm)
    have hsz : acc.length + vs.length ≤ 100000 := by
      rw [hac]
      have h1 : m * vs.length ≤ 300 * 301 := Nat.mul_le_mul (by omega) hvl
      omega
    obtain ⟨X, A, B, C, M, hx⟩ := sk1 (specKeys_in v nm ks[m] ks acc (acc ++ vs.map (fun x => ks[m] ++ keyF ps[i].desc x)) vs ps a b m i hi hxm (by omega) rfl hsz hkm hq)
    simp only [loopAt, loopsOf, Tryz.f69] at hx
    have hx' := fun s o q' a2 a3 a5 a6 a7 a8 a9 a10 ao0 ao1 aob aoa aor x1 x2 x3 => hx s o q' ⟨r, a2, a3, a5, a6, a7, a8, a9, a10, ao0, ao1, aob, aoa, aor, n1, x1, n3, x2, n5, n6, x3, n8, n9⟩
    clear hx
    simp at hx'
    rw [List.drop_eq_getElem_cons hm] at hp
    have g1 : b < q + 1 := by omega
    simp [-List.map_drop, loopAt, loopsOf, Tryz.f69, h2, h3, h5, h6, h7, h8, h9, ho0, ho1, hob, hoa, hor, hm, hm', hwm, hxm, hx', n1, n2, n3, n4, n5, n6, n7, n8, n9]
    exact ⟨acc ++ vs.map (fun x => ks[m] ++ keyF ps[i].desc x), by simp, by simp [hac, Nat.add_mul], by rw [hp]; unfold cross; rw [List.flatMap_cons]; simp [Function.comp_def]⟩
  · rintro s o q ⟨r, acc, h2, h3, h5, h6, h7, h8, h9, ho0, ho1, hob, hoa, hor, n1, n2, n3, n4, n5, n6, n7, n8, n9, hac, hp⟩
    simp [cross] at hp
    simp [loopAt, loopsOf, Tryz.f69, h2, h3, h5, h6, h7, h8, h9, ho0, ho1, hob, hoa, hor, hp]
    omega
theorem cross_one (ks : List Bytes) : cross [[]] ks = ks := by simp [cross]
theorem docKeys_fold (p : Prt) (ps : List Prt) (v : Val) : (p :: ps).foldl (fun ks q => cross ks (keysP q v)) [[]] = docKeysP (p :: ps) v := by
  rw [List.foldl_cons, cross_one]; rfl
theorem specDocKeys (nm : Bytes) (p : Prt) (pr : List Prt) (hps : pr.length ≤ 1) (v : Val) (d : Nat) (hd : d ≤ 5) (hv : okP d v = true) (hpl : ∀ q ∈ p :: pr, q.path.length < 4294967295) : run E (.call 69 [.t (.agg [.str nm, .list ((p :: pr).map prtT)]), xV v]) = some (.res [.row 9 ((docKeysP (p :: pr) v).map strT)] []) := by
  rw [← docKeys_fold]
  have hpsl : (p :: pr).length ≤ 2 := by simp; omega
  generalize p :: pr = ps at *
  rw [run_call E 69 _ rfl Tryz.func69 rfl rfl rfl (by simp)]
  have d5 := d69_5
  simp [regionOf, findR, pick, Tryz.f69] at d5
  have dd := fun st => run_region_draw E st 5 _ d5
  clear d5
  have hv3 := okP_size hv
  have lp := fun (R : List Bytes) (hR : R = ps.foldl (fun ks q => cross ks (keysP q v)) [[]]) => sk1 (fun s o q hI => loop_for (c := loopAt Tryz.f69 0) (N := 61)
    (fun i s o q => ∃ r ks, s 2 = .ptr 0 0 ∧ s 3 = .ptr 1 0 ∧ s 5 = .row r ∧ s 6 = .t (.int .i64 i) ∧ o 0 = defB nm ps ∧ o 1 = valB v ∧ o r = .row 9 (ks.map strT) true ∧ 1 < r ∧ r < q ∧ ks = (ps.take i).foldl (fun ks q => cross ks (keysP q v)) [[]])
    (fun e s' o' q' => ∃ r, e = .exit 0 ∧ s' 5 = .row r ∧ o' r = .row 9 (R.map strT) true) ps.length
    (by
      rintro i s o q hi ⟨r, ks, h2, h3, h5, h6, ho0, ho1, hor, n1, n2, hks⟩
      have hk : ks.length ≤ 301 ∧ ∀ k ∈ ks, k.length ≤ 1000000 := by
        rw [hks]
        rcases (by omega : i = 0 ∨ i = 1) with rfl | rfl
        · simp
        · have : ps.take 1 = [ps[0]] := by
            cases ps with
            | nil => simp at hi
            | cons a b => simp
          rw [this]
          simp only [List.foldl_cons, List.foldl_nil, cross_one]
          refine ⟨keysP_len _ _ hv3, fun k hk => ?_⟩
          have := keysP_short _ v d hd hv k hk
          omega
      have hi' : (i : Int) < (ps.length : Int) := by omega
      have hwi := wrap_succ (n := i) (by omega)
      have hxi : ps[i]? = some ps[i] := List.getElem?_eq_getElem hi
      have hva := l06Values v ps[i].path (by omega) (hpl _ (List.getElem_mem hi))
      have hvl := valsP_len ps[i].path v
      have hvo := valsP_ok ps[i].path v d hd hv
      have hnext : (ps.take (i + 1)).foldl (fun ks q => cross ks (keysP q v)) [[]] = cross ks ((valsP ps[i].path v).map (keyF ps[i].desc)) := by
        rw [List.take_succ_eq_append_getElem hi, List.foldl_append, ← hks]; rfl
      generalize valsP ps[i].path v = vs at *
      obtain ⟨X, A, B, C, M, hx⟩ := sk1 (specKeys_mid v nm ks (cross ks (vs.map (keyF ps[i].desc))) vs ps q r (q + 1) i hi rfl hk.1 (by omega) hk.2 hvo)
      simp only [loopAt, loopsOf, Tryz.f69] at hx
      simp at hx
      have e1 : 1 ≠ q := by omega
      have e3 : r ≠ q := by omega
      have e4 : r ≠ q + 1 := by omega
      have e5 : q ≠ 1 := by omega
      have e6 : q ≠ r := by omega
      have e7 : q + 1 ≠ r := by omega
      have e8 : q ≠ 0 := by omega
      have e9 : 0 ≠ q := by omega
      have g1 : 1 < q := by omega
      have g2 : 0 < q := by omega
      have g4 : r < q + 1 + 1 := by omega
      have g5 : q < q + 1 + 1 := by omega
      simp [loopAt, loopsOf, Tryz.f69, dd, h2, h3, h5, h6, ho0, ho1, hor, hi, hi', hwi, hxi, hva, hx, e1, e3, e4, e5, e6, e7, e8, e9, g1, g2, g4, g5, n1]
      rw [hnext])
    (by
      rintro s o q ⟨r, ks, h2, h3, h5, h6, ho0, ho1, hor, n1, n2, hks⟩
      rw [List.take_length, ← hR] at hks
      subst hks
      simp [loopAt, loopsOf, Tryz.f69, h2, h3, h5, h6, ho0, ho1, hor])
    ps.length 0 s o q (by omega) hI)
  simp only [loopAt, loopsOf, Tryz.f69] at lp
  obtain ⟨X, A, B, C, M, hx⟩ := lp _ rfl
  have hx' := fun s o q r a2 a3 a5 a6 ao0 ao1 aor n1 n2 => hx s o q ⟨r, [[]], a2, a3, a5, a6, ao0, ao1, aor, n1, n2, by simp⟩
  clear hx lp
  simp at hx'
  simp [hx']
set_option maxHeartbeats 16000000
theorem def_parts {d : Dfn} (h : defOK d = true) : 0 < d.parts.length := by
  unfold defOK in12 at h
  simp only [Bool.and_eq_true, decide_eq_true_eq] at h
  omega
theorem ix_parts {x : Ix} (h : ixFine x = true) : ∃ p r, x.dfn.parts = p :: r := by
  unfold ixFine at h
  simp only [Bool.and_eq_true] at h
  have := def_parts h.1
  cases hp : x.dfn.parts with
  | nil => rw [hp] at this; simp at this
  | cons p r => exact ⟨p, r, rfl⟩
theorem ix_tree {x : Ix} (h : ixFine x = true) : treeOK x.tree = true ∧ x.tree.pages.length ≤ 60 ∧ (∀ p ∈ x.tree.pages, p.ents.length ≤ 4) ∧ (allE x.tree).length ≤ 240 := by
  unfold ixFine at h
  simp only [Bool.and_eq_true] at h
  have h2 := h.2
  unfold treeOK at h2
  simp only [Bool.and_eq_true] at h2
  have h60 : x.tree.pages.length ≤ 60 := by
    have := h2.1.1
    unfold in1 at this
    simp at this; omega
  have hn := nums_small _ _ _ _ h2.2.1
  have hf := flat_small _ hn
  exact ⟨h.2, h60, hn, by unfold allE; omega⟩
theorem specSize (t : Tr) (hl : t.pages.length ≤ 1000) (hs : (allE t).length ≤ 100000) : run E (.call 72 [.t (treeT t)]) = some (.res [xI ((allE t).length : Nat)] []) := by
  rw [run_call E 72 _ rfl Tryz.func72 rfl rfl rfl (by simp)]
  obtain ⟨X, A, B, C, hx⟩ := sk (fun s o q (hI : s 1 = .ptr 0 0 ∧ o 0 = .box 51 [.t (.list (t.pages.map pgT)), .t (.int .i64 t.next)] ∧ s 3 = .t (.int .i64 0) ∧ s 4 = .t (.int .i64 0)) => loop_for (c := loopAt Tryz.f72 0) (N := 22)
    (fun i s o q => s 1 = .ptr 0 0 ∧ o 0 = .box 51 [.t (.list (t.pages.map pgT)), .t (.int .i64 t.next)] ∧ s 3 = .t (.int .i64 (((t.pages.take i).flatMap Pg.ents).length : Nat)) ∧ s 4 = .t (.int .i64 i))
    (fun e s' o' q' => e = .exit 0 ∧ s' 3 = .t (.int .i64 ((allE t).length : Nat))) t.pages.length
    (by
      rintro i s o q hi ⟨h1, o0, h3, h4⟩
      have hi' : (i : Int) < (t.pages.length : Int) := by omega
      have hxi : t.pages[i]? = some t.pages[i] := List.getElem?_eq_getElem hi
      have hw := wrap_succ (n := i) (by omega)
      have htk : (t.pages.take (i + 1)).flatMap Pg.ents = (t.pages.take i).flatMap Pg.ents ++ t.pages[i].ents := by
        rw [List.take_add_one, hxi, List.flatMap_append]; simp
      have hsum : ((t.pages.take i).flatMap Pg.ents).length + t.pages[i].ents.length ≤ (allE t).length := by
        have h1 : (allE t) = (t.pages.take (i + 1)).flatMap Pg.ents ++ (t.pages.drop (i + 1)).flatMap Pg.ents := by
          rw [allE, ← List.flatMap_append, List.take_append_drop]
        rw [h1, htk]; simp
      rw [htk, List.length_append]
      generalize ((t.pages.take i).flatMap Pg.ents).length = Z at *
      have hwz : IntKind.i64.wrap ((Z : Int) + (t.pages[i].ents.length : Int)) = ((Z + t.pages[i].ents.length : Nat) : Int) := by rw [wrap_of (by omega) (by omega)]; omega
      simp [loopAt, loopsOf, Tryz.f72, h1, o0, h3, h4, hi, hi', hxi, hw, hwz])
    (by
      rintro s o q ⟨h1, o0, h3, h4⟩
      rw [List.take_of_length_le (Nat.le_refl _)] at h3
      simp [loopAt, loopsOf, Tryz.f72, h1, o0, h3, h4, allE])
    t.pages.length 0 s o q (by omega) ⟨hI.1, hI.2.1, by simpa using hI.2.2.1, hI.2.2.2⟩)
  simp only [loopAt, loopsOf, Tryz.f72] at hx
  simp at hx
  simp [hx]
@[simp] theorem E_eq132 : E.eqT 132 = [.str, .int .i64] := by kernel_rfl
abbrev ixB (x : Ix) : Ob := .box 53 [.t (.str x.dfn.name), .t (.list (x.dfn.parts.map prtT)), .t (.list (x.tree.pages.map pgT)), .t (.int .i64 x.tree.next)]
abbrev entB (e : Ent) : Ob := .box 132 [.t (.str e.key), .t (.int .i64 e.id)]
theorem ih_in (e : Ent) (es : List Ent) (hl : es.length < 4294967296) (ds : List T) (x : Ix) (ks : List T) (a c i j : Nat) (n : Int) (R : Bool) (hR : R = es.any (fun y => y.key == e.key && y.id == e.id)) : ∀ s o q, (s 1 = .t (.list ds) ∧ s 2 = .ptr 0 0 ∧ s 6 = .t (.int .i64 n) ∧ s 7 = .t (.int .i64 i) ∧ s 8 = .row a ∧ s 9 = .t (.int .i64 j) ∧ s 10 = .ptr c 0 ∧ s 11 = .t (.list (es.map entT)) ∧ s 12 = .t (.bool false) ∧ s 13 = .t (.int .i64 0) ∧ o 0 = ixB x ∧ o a = .row 9 ks true ∧ o c = entB e ∧ 0 < a ∧ a < q) →
    ∃ e s' o' q', run E (.code (.loop (loopAt Tryz.f22 2)) ⟨s, o, q, 90⟩) = some (.st e ⟨s', o', q', 90⟩) ∧ (e = .exit 4 ∧ s' 1 = .t (.list ds) ∧ s' 2 = .ptr 0 0 ∧ s' 6 = .t (.int .i64 n) ∧ s' 7 = .t (.int .i64 i) ∧ s' 8 = .row a ∧ s' 9 = .t (.int .i64 j) ∧ s' 12 = .t (.bool R) ∧ o' 0 = ixB x ∧ o' a = .row 9 ks true ∧ a < q' ∧ 0 < q') := by
  intro s o q hI
  have d20 := d22_20
  simp [regionOf, findR, pick, Tryz.f22] at d20
  have dd := fun st => run_region_draw E st 20 _ d20
  clear d20
  refine loop_for (c := loopAt Tryz.f22 2) (N := 90)
    (fun k s o q => s 1 = .t (.list ds) ∧ s 2 = .ptr 0 0 ∧ s 6 = .t (.int .i64 n) ∧ s 7 = .t (.int .i64 i) ∧ s 8 = .row a ∧ s 9 = .t (.int .i64 j) ∧ s 10 = .ptr c 0 ∧ s 11 = .t (.list (es.map entT)) ∧ s 13 = .t (.int .i64 k) ∧ o 0 = ixB x ∧ o a = .row 9 ks true ∧ o c = entB e ∧ a < q ∧ 0 < q ∧ ∃ b, s 12 = .t (.bool b) ∧ R = (b || (es.drop k).any (fun y => y.key == e.key && y.id == e.id)))
    (fun e s' o' q' => e = .exit 4 ∧ s' 1 = .t (.list ds) ∧ s' 2 = .ptr 0 0 ∧ s' 6 = .t (.int .i64 n) ∧ s' 7 = .t (.int .i64 i) ∧ s' 8 = .row a ∧ s' 9 = .t (.int .i64 j) ∧ s' 12 = .t (.bool R) ∧ o' 0 = ixB x ∧ o' a = .row 9 ks true ∧ a < q' ∧ 0 < q') es.length ?_ ?_
    es.length 0 s o q (by omega) (by
      obtain ⟨h1, h2, h6, h7, h8, h9, h10, h11, h12, h13, o0, oa, oc, p1, p2⟩ := hI
      exact ⟨h1, h2, h6, h7, h8, h9, h10, h11, by simpa using h13, o0, oa, oc, p2, by omega, false, h12, by simpa [-List.any_eq_true] using hR⟩)
  · rintro k s o q hk ⟨h1, h2, h6, h7, h8, h9, h10, h11, h13, o0, oa, oc, p2, p3, b, h12, hR⟩
    have hk' : (k : Int) < (es.length : Int) := by omega
    have hw := wrap_succ (n := k) (by omega)
    have hxk : es[k]? = some es[k] := List.getElem?_eq_getElem hk
    rw [List.drop_eq_getElem_cons hk, List.any_cons] at hR
    cases b with
    | true =>
      simp only [Bool.true_or] at hR
      simp [loopAt, loopsOf, Tryz.f22, dd, h1, h2, h6, h7, h8, h9, h10, h11, h12, h13, o0, oa, oc, p2, p3, hk, hk', hw, hxk, hR]
    | false =>
      simp only [Bool.false_or] at hR
      generalize (es.drop (k + 1)).any (fun y => y.key == e.key && y.id == e.id) = RR at *
      by_cases e1 : es[k].key = e.key
      · by_cases e2 : es[k].id = e.id
        · simp [e1, e2] at hR
          simp [loopAt, loopsOf, Tryz.f22, dd, h1, h2, h6, h7, h8, h9, h10, h11, h12, h13, o0, oa, oc, p2, p3, hk, hk', hw, hxk, hR, e1, e2]
        · simp [e1, e2] at hR
          simp [loopAt, loopsOf, Tryz.f22, dd, h1, h2, h6, h7, h8, h9, h10, h11, h12, h13, o0, oa, oc, p2, p3, hk, hk', hw, hxk, hR, e1, e2]
      · have e1' : (es[k].key == e.key) = false := by simpa using e1
        rw [e1', Bool.false_and, Bool.false_or] at hR
        simp [loopAt, loopsOf, Tryz.f22, dd, h1, h2, h6, h7, h8, h9, h10, h11, h12, h13, o0, oa, oc, p2, p3, hk, hk', hw, hxk, hR, e1]
  · rintro s o q ⟨h1, h2, h6, h7, h8, h9, h10, h11, h13, o0, oa, oc, p2, p3, b, h12, hR⟩
    rw [List.drop_of_length_le (by omega)] at hR
    simp only [List.any_nil, Bool.or_false] at hR
    subst hR
    simp [loopAt, loopsOf, Tryz.f22, dd, h1, h2, h6, h7, h8, h9, h10, h11, h12, h13, o0, oa, oc, p2, p3]
def inTree (t : Tr) (e : Ent) : Bool := match t.pages[placeP e t.pages]? with
  | some p => p.ents.any (fun y => y.key == e.key && y.id == e.id)
  | none => false
theorem ih_mid (x : Ix) (hpg : x.tree.pages ≠ []) (hpl : x.tree.pages.length ≤ 1000) (hes : ∀ p ∈ x.tree.pages, p.ents.length ≤ 1000) (xs : List Val) (hxl : xs.length < 4294967296) (i : Nat) (hi : i < xs.length) (hv : xs[i].t.length < 4294967296) (ks : List Bytes) (hkl : ks.length < 4294967296) (a : Nat) (n : Int) (M : Bool) (hM : M = ks.all (fun k => inTree x.tree ⟨k, specId xs[i]⟩)) : ∀ s o q, (s 1 = .t (.list (xs.map valT)) ∧ s 2 = .ptr 0 0 ∧ s 6 = .t (.int .i64 n) ∧ s 7 = .t (.int .i64 i) ∧ s 8 = .row a ∧ s 9 = .t (.int .i64 0) ∧ o 0 = ixB x ∧ o a = .row 9 (ks.map strT) true ∧ 0 < a ∧ a < q) →
    ∃ e s' o' q', run E (.code (.loop (loopAt Tryz.f22 1)) ⟨s, o, q, 90⟩) = some (.st e ⟨s', o', q', 90⟩) ∧ (e = (if M then .exit 2 else .ret) ∧ s' 1 = .t (.list (xs.map valT)) ∧ s' 2 = .ptr 0 0 ∧ s' 6 = .t (.int .i64 n) ∧ s' 7 = .t (.int .i64 i) ∧ o' 0 = ixB x ∧ (M = false → s' 4 = .t (.bool false)) ∧ (M = false → s' 5 = .t (.int .i64 0)) ∧ 0 < q') := by
  intro s o q hI
  have d14 := d22_14
  have d15 := d22_15
  simp [regionOf, findR, pick, Tryz.f22] at d14 d15
  have dd14 := fun st => run_region_draw E st 14 _ d14
  have dd15 := fun st => run_region_draw E st 15 _ d15
  clear d14 d15
  refine loop_for (c := loopAt Tryz.f22 1) (N := 90)
    (fun j s o q => s 1 = .t (.list (xs.map valT)) ∧ s 2 = .ptr 0 0 ∧ s 6 = .t (.int .i64 n) ∧ s 7 = .t (.int .i64 i) ∧ s 8 = .row a ∧ s 9 = .t (.int .i64 j) ∧ o 0 = ixB x ∧ o a = .row 9 (ks.map strT) true ∧ a < q ∧ M = (ks.drop j).all (fun k => inTree x.tree ⟨k, specId xs[i]⟩))
    (fun e s' o' q' => e = (if M then .exit 2 else .ret) ∧ s' 1 = .t (.list (xs.map valT)) ∧ s' 2 = .ptr 0 0 ∧ s' 6 = .t (.int .i64 n) ∧ s' 7 = .t (.int .i64 i) ∧ o' 0 = ixB x ∧ (M = false → s' 4 = .t (.bool false)) ∧ (M = false → s' 5 = .t (.int .i64 0)) ∧ 0 < q') ks.length ?_ ?_
    ks.length 0 s o q (by omega) (by
      obtain ⟨h1, h2, h6, h7, h8, h9, o0, oa, p1, p2⟩ := hI
      exact ⟨h1, h2, h6, h7, h8, by simpa using h9, o0, oa, p2, by simpa [-List.all_eq_true] using hM⟩)
  · rintro j s o q hj ⟨h1, h2, h6, h7, h8, h9, o0, oa, p2, hM⟩
    have p1 : 0 < a := hI.2.2.2.2.2.2.2.2.1
    have hj' : (j : Int) < (ks.length : Int) := by omega
    have hi' : (i : Int) < (xs.length : Int) := by omega
    have hw := wrap_succ (n := j) (by omega)
    have hkj : ks[j]? = some ks[j] := List.getElem?_eq_getElem hj
    have hxi : xs[i]? = some xs[i] := List.getElem?_eq_getElem hi
    have hid := specIdOf xs[i] hv
    have hpc := specPlace x.tree ⟨ks[j], specId xs[i]⟩ (by omega)
    have hlt := placeLt ⟨ks[j], specId xs[i]⟩ x.tree.pages hpg
    rw [List.drop_eq_getElem_cons hj, List.all_cons] at hM
    generalize hnx : specId xs[i] = sid at *
    unfold inTree at hM
    generalize hP : placeP ⟨ks[j], sid⟩ x.tree.pages = P at *
    have hPx : x.tree.pages[P]? = some x.tree.pages[P] := List.getElem?_eq_getElem hlt
    simp only [hP, hPx] at hM
    have hel := hes _ (List.getElem_mem hlt)
    obtain ⟨R, hR⟩ : ∃ R, R = x.tree.pages[P].ents.any (fun y => y.key == ks[j] && y.id == sid) := ⟨_, rfl⟩
    obtain ⟨X, A, B, C, hin⟩ := sk (ih_in ⟨ks[j], sid⟩ x.tree.pages[P].ents (by omega) (xs.map valT) x (ks.map strT) a q i j n R hR)
    simp only [loopAt, loopsOf, Tryz.f22] at hin
    simp at hin
    rw [← hR] at hM
    obtain ⟨e0, e1, e2, e3, e4, e5⟩ : q ≠ 0 ∧ 0 ≠ q ∧ a ≠ q ∧ q ≠ a ∧ a < q + 1 ∧ 0 < q := by omega
    cases R with
    | true =>
      simp only [Bool.true_and] at hM
      simp [loopAt, loopsOf, Tryz.f22, dd14, dd15, h1, h2, h6, h7, h8, h9, o0, oa, p1, p2, hi, hj, hi', hj', hw, hkj, hxi, hid, hpc, hPx, hlt, hin, e0, e1, e2, e3, e4, e5, -List.all_eq_true]
      exact hM
    | false =>
      simp only [Bool.false_and] at hM
      subst hM
      simp [loopAt, loopsOf, Tryz.f22, dd14, dd15, h1, h2, h6, h7, h8, h9, o0, oa, p1, p2, hi, hj, hi', hj', hw, hkj, hxi, hid, hpc, hPx, hlt, hin, e0, e1, e2, e3, e4, e5]
  · rintro s o q ⟨h1, h2, h6, h7, h8, h9, o0, oa, p2, hM⟩
    rw [List.drop_of_length_le (by omega)] at hM
    simp at hM
    have : 0 < q := by omega
    simp [loopAt, loopsOf, Tryz.f22, h1, h2, h6, h7, h8, h9, o0, oa, hM, this]
theorem cross_len (ks qs : List Bytes) : (cross ks qs).length = ks.length * qs.length := by
  unfold cross
  induction ks with
  | nil => simp
  | cons k r ih => rw [List.flatMap_cons, List.length_append, ih, List.length_map, List.length_cons, Nat.succ_mul, Nat.add_comm]
theorem docKeys_len (p : Prt) (pr : List Prt) (hps : pr.length ≤ 1) (v : Val) (h : okP 5 v = true) : (docKeysP (p :: pr) v).length ≤ 90601 := by
  have hv := okP_size h
  have h0 := keysP_len p v hv
  match pr, hps with
  | [], _ => show (keysP p v).length ≤ _; omega
  | [q], _ =>
    have h1 := keysP_len q v hv
    show (cross (keysP p v) (keysP q v)).length ≤ _
    rw [cross_len]
    exact Nat.le_trans (Nat.mul_le_mul h0 h1) (by decide)
def holdsAll (x : Ix) (xs : List Val) : Bool := xs.all fun d => (docKeysP x.dfn.parts d).all fun k => inTree x.tree ⟨k, specId d⟩
def cntEnts (x : Ix) (xs : List Val) : Nat := (xs.map fun d => (docKeysP x.dfn.parts d).length).sum
theorem ih_out (x : Ix) (hpg : x.tree.pages ≠ []) (hpl : x.tree.pages.length ≤ 1000) (hes : ∀ p ∈ x.tree.pages, p.ents.length ≤ 1000) (p : Prt) (pr : List Prt) (hparts : x.dfn.parts = p :: pr) (hprl : pr.length ≤ 1) (hpp : ∀ q ∈ p :: pr, q.path.length < 4294967295) (xs : List Val) (hxl : xs.length ≤ 1000) (hv : ∀ y ∈ xs, okP 5 y = true) (A : Bool) (hA : A = holdsAll x xs) : ∀ s o q, (s 1 = .t (.list (xs.map valT)) ∧ s 2 = .ptr 0 0 ∧ s 6 = .t (.int .i64 0) ∧ s 7 = .t (.int .i64 0) ∧ o 0 = ixB x ∧ 0 < q) →
    ∃ e s' o' q', run E (.code (.loop (loopAt Tryz.f22 0)) ⟨s, o, q, 90⟩) = some (.st e ⟨s', o', q', 90⟩) ∧ (e = (if A then .exit 0 else .ret) ∧ s' 2 = .ptr 0 0 ∧ o' 0 = ixB x ∧ (A = true → s' 6 = .t (.int .i64 (cntEnts x xs : Nat))) ∧ (A = false → s' 4 = .t (.bool false)) ∧ (A = false → s' 5 = .t (.int .i64 0))) := by
  intro s o q hI
  have d9 := d22_9
  simp [regionOf, findR, pick, Tryz.f22] at d9
  have dd9 := fun st => run_region_draw E st 9 _ d9
  clear d9
  refine loop_for (c := loopAt Tryz.f22 0) (N := 90)
    (fun i s o q => s 1 = .t (.list (xs.map valT)) ∧ s 2 = .ptr 0 0 ∧ s 7 = .t (.int .i64 i) ∧ o 0 = ixB x ∧ 0 < q ∧ A = holdsAll x (xs.drop i) ∧ ∃ n : Nat, s 6 = .t (.int .i64 n) ∧ n ≤ 100000 * i ∧ n + cntEnts x (xs.drop i) = cntEnts x xs)
    (fun e s' o' q' => e = (if A then .exit 0 else .ret) ∧ s' 2 = .ptr 0 0 ∧ o' 0 = ixB x ∧ (A = true → s' 6 = .t (.int .i64 (cntEnts x xs : Nat))) ∧ (A = false → s' 4 = .t (.bool false)) ∧ (A = false → s' 5 = .t (.int .i64 0))) xs.length ?_ ?_
    xs.length 0 s o q (by omega) (by
      obtain ⟨h1, h2, h6, h7, o0, p2⟩ := hI
      exact ⟨h1, h2, by simpa using h7, o0, p2, by simpa using hA, 0, by simpa using h6, by omega, by simp⟩)
  · rintro i s o q hi ⟨h1, h2, h7, o0, p2, hA, n, h6, hn, hcn⟩
    have hi' : (i : Int) < (xs.length : Int) := by omega
    have hw := wrap_succ (n := i) (by omega)
    have hxi : xs[i]? = some xs[i] := List.getElem?_eq_getElem hi
    have hvi := hv _ (List.getElem_mem hi)
    have hvl := okP_size hvi
    have hk := specDocKeys x.dfn.name p pr hprl xs[i] 5 (Nat.le_refl _) hvi hpp
    have hkl := docKeys_len p pr hprl xs[i] hvi
    rw [← hparts] at hk hkl
    rw [List.drop_eq_getElem_cons hi] at hA hcn
    simp only [holdsAll, List.all_cons] at hA
    simp only [cntEnts, List.map_cons, List.sum_cons] at hcn
    obtain ⟨M, hM⟩ : ∃ M, M = (docKeysP x.dfn.parts xs[i]).all fun k => inTree x.tree ⟨k, specId xs[i]⟩ := ⟨_, rfl⟩
    rw [← hM] at hA
    have hmid := fun m : Int => ih_mid x hpg hpl hes xs (by omega) i hi (by omega) (docKeysP x.dfn.parts xs[i]) (by omega) q m M hM
    clear hM
    generalize docKeysP x.dfn.parts xs[i] = ks at *
    have hws : IntKind.i64.wrap ((n : Int) + (ks.length : Int)) = ((n + ks.length : Nat) : Int) := by rw [wrap_of (by omega) (by omega)]; omega
    obtain ⟨X, A', B, C, hin⟩ := sk (hmid ((n + ks.length : Nat) : Int))
    simp only [loopAt, loopsOf, Tryz.f22] at hin
    obtain ⟨e0, e1, e2, e3⟩ : q ≠ 0 ∧ 0 ≠ q ∧ q < q + 1 ∧ 0 < q + 1 := by omega
    cases M with
    | true =>
      simp at hin
      simp only [Bool.true_and] at hA
      simp [loopAt, loopsOf, Tryz.f22, dd9, h1, h2, h6, h7, o0, p2, hi, hi', hw, hxi, hk, hws, hin, e0, e1, e2, e3]
      exact ⟨hA, n + ks.length, by simp, by omega, by simp only [cntEnts]; omega⟩
    | false =>
      simp at hin
      simp only [Bool.false_and] at hA
      subst hA
      simp [loopAt, loopsOf, Tryz.f22, dd9, h1, h2, h6, h7, o0, p2, hi, hi', hw, hxi, hk, hws, hin, e0, e1, e2, e3]
  · rintro s o q ⟨h1, h2, h7, o0, p2, hA, n, h6, hn, hcn⟩
    rw [List.drop_of_length_le (by omega)] at hA hcn
    simp [holdsAll] at hA
    simp [cntEnts] at hcn
    subst hA
    simp [loopAt, loopsOf, Tryz.f22, h1, h2, h6, h7, o0, cntEnts, ← hcn]
theorem equalEnts (xs ys : List Ent) (hx : xs.length < 4294967296) (hy : ys.length < 4294967296) : run E (.call 80 [.t (.list (xs.map entT)), .t (.list (ys.map entT))]) = some (.res [xB (decide (xs = ys))] []) := by
  rw [run_call E 80 _ rfl Tryz.func80 rfl rfl rfl (by simp)]
  by_cases hl : xs.length = ys.length
  · have d6 := d80_6
    simp [regionOf, findR, pick, Tryz.f80] at d6
    have dd := fun st => run_region_draw E st 6 _ d6
    clear d6
    have lp := fun (R : Bool) (hR : R = decide (xs = ys)) => sk (fun s o q (hI : s 0 = .t (.list (xs.map entT)) ∧ s 1 = .t (.list (ys.map entT)) ∧ s 12 = .t (.int .i64 xs.length) ∧ s 13 = .t (.int .i64 0)) => loop_for (c := loopAt Tryz.f80 0) (N := 26)
      (fun i s o q => s 0 = .t (.list (xs.map entT)) ∧ s 1 = .t (.list (ys.map entT)) ∧ s 12 = .t (.int .i64 xs.length) ∧ s 13 = .t (.int .i64 i) ∧ R = decide (xs.drop i = ys.drop i))
      (fun e s' o' q' => e = (if R then .exit 0 else .ret) ∧ (R = false → s' 4 = .t (.bool false))) xs.length
      (by
        rintro i s o q hi ⟨h0, h1, h12, h13, hR⟩
        have hi' : (i : Int) < (xs.length : Int) := by omega
        have hiy : i < ys.length := by omega
        have hw := wrap_succ (n := i) (by omega)
        have hxi : xs[i]? = some xs[i] := List.getElem?_eq_getElem hi
        have hyi : ys[i]? = some ys[i] := List.getElem?_eq_getElem hiy
        rw [List.drop_eq_getElem_cons hi, List.drop_eq_getElem_cons hiy] at hR
        have hce : (xs[i] :: xs.drop (i + 1) = ys[i] :: ys.drop (i + 1)) ↔ ((xs[i].key = ys[i].key ∧ xs[i].id = ys[i].id) ∧ xs.drop (i + 1) = ys.drop (i + 1)) := by
          rw [List.cons.injEq]
          constructor
          · rintro ⟨a, b⟩; exact ⟨⟨by rw [a], by rw [a]⟩, b⟩
          · rintro ⟨⟨a, a2⟩, b⟩; exact ⟨by cases hx : xs[i]; cases hy : ys[i]; simp [hx, hy] at a a2; simp [a, a2], b⟩
        simp only [hce] at hR
        by_cases e1 : xs[i].key = ys[i].key
        · by_cases e2 : xs[i].id = ys[i].id
          · simp only [e1, e2, true_and, and_self] at hR
            simp [loopAt, loopsOf, Tryz.f80, dd, h0, h1, h12, h13, hi, hi', hiy, hw, hxi, hyi, e1, e2]
            exact hR
          · simp [e1, e2] at hR
            simp [loopAt, loopsOf, Tryz.f80, dd, h0, h1, h12, h13, hi, hi', hiy, hw, hxi, hyi, e1, e2, hR]
        · simp [e1] at hR
          simp [loopAt, loopsOf, Tryz.f80, dd, h0, h1, h12, h13, hi, hi', hiy, hw, hxi, hyi, e1, hR])
      (by
        rintro s o q ⟨h0, h1, h12, h13, hR⟩
        rw [List.drop_of_length_le (by omega), List.drop_of_length_le (by omega)] at hR
        simp at hR
        simp [loopAt, loopsOf, Tryz.f80, h0, h1, h12, h13, hR])
      xs.length 0 s o q (by omega) ⟨hI.1, hI.2.1, hI.2.2.1, by simpa using hI.2.2.2, by simpa using hR⟩)
    simp only [loopAt, loopsOf, Tryz.f80] at lp
    obtain ⟨X, A, B, C, hx⟩ := lp _ rfl
    have hl' : (xs.length : Int) = (ys.length : Int) := by omega
    cases hd : decide (xs = ys) with
    | true => rw [hd] at hx; simp [hl'] at hx; simp [hl', hx]
    | false => rw [hd] at hx; simp [hl'] at hx; simp [hl', hx]
  · have hl' : ¬ (xs.length : Int) = (ys.length : Int) := by omega
    have : ¬ xs = ys := fun e => hl (by rw [e])
    simp [hl', this]
theorem ih_keys (id : Int) (ks : List Bytes) (hkl : ks.length ≤ 1000000) (ds : List T) (dl : Int) (x : Ix) (a i r0 : Nat) (acc0 : List Ent) (hal : acc0.length ≤ 100000000) (L : List Ent) (hL : L = acc0 ++ ks.map (fun k => ⟨k, id⟩)) : ∀ s o q, (s 2 = .ptr 0 0 ∧ s 6 = .row r0 ∧ s 9 = .t (.int .i64 id) ∧ s 27 = .t (.list ds) ∧ s 28 = .t (.int .i64 dl) ∧ s 29 = .t (.int .i64 i) ∧ s 41 = .row a ∧ s 42 = .t (.int .i64 ks.length) ∧ s 43 = .t (.int .i64 0) ∧ o 0 = ixB x ∧ o r0 = .row 132 (acc0.map entT) true ∧ o a = .row 9 (ks.map strT) true ∧ 0 < a ∧ a < q ∧ 0 < r0 ∧ r0 < q ∧ a ≠ r0) →
    ∃ e s' o' q', run E (.code (.loop (loopAt Tryz.f24 1)) ⟨s, o, q, 62⟩) = some (.st e ⟨s', o', q', 62⟩) ∧ ∃ r, (e = .exit 3 ∧ s' 2 = .ptr 0 0 ∧ s' 6 = .row r ∧ s' 27 = .t (.list ds) ∧ s' 28 = .t (.int .i64 dl) ∧ s' 29 = .t (.int .i64 i) ∧ o' 0 = ixB x ∧ o' r = .row 132 (L.map entT) true ∧ 0 < r ∧ r < q') := by
  intro s o q hI
  refine loop_for (c := loopAt Tryz.f24 1) (N := 62)
    (fun j s o q => ∃ (r : Nat) (acc : List Ent), s 2 = .ptr 0 0 ∧ s 6 = .row r ∧ s 9 = .t (.int .i64 id) ∧ s 27 = .t (.list ds) ∧ s 28 = .t (.int .i64 dl) ∧ s 29 = .t (.int .i64 i) ∧ s 41 = .row a ∧ s 42 = .t (.int .i64 ks.length) ∧ s 43 = .t (.int .i64 j) ∧ o 0 = ixB x ∧ o r = .row 132 (acc.map entT) true ∧ o a = .row 9 (ks.map strT) true ∧ a < q ∧ 0 < r ∧ r < q ∧ a ≠ r ∧ acc.length ≤ 100000000 + j ∧ L = acc ++ (ks.drop j).map (fun k => ⟨k, id⟩))
    (fun e s' o' q' => ∃ r, (e = .exit 3 ∧ s' 2 = .ptr 0 0 ∧ s' 6 = .row r ∧ s' 27 = .t (.list ds) ∧ s' 28 = .t (.int .i64 dl) ∧ s' 29 = .t (.int .i64 i) ∧ o' 0 = ixB x ∧ o' r = .row 132 (L.map entT) true ∧ 0 < r ∧ r < q')) ks.length ?_ ?_
    ks.length 0 s o q (by omega) (by
      obtain ⟨h2, h6, h9, h27, h28, h29, h41, h42, h43, o0, oR, oa, p1, p2, p3, p4, p5⟩ := hI
      exact ⟨r0, acc0, h2, h6, h9, h27, h28, h29, h41, h42, by simpa using h43, o0, oR, oa, p2, p3, p4, p5, by omega, by simpa using hL⟩)
  · rintro j s o q hj ⟨r, acc, h2, h6, h9, h27, h28, h29, h41, h42, h43, o0, oR, oa, p2, p3, p4, p5, hal, hL⟩
    have p1 : 0 < a := by obtain ⟨_, _, _, _, _, _, _, _, _, _, _, _, p1, _⟩ := hI; exact p1
    have hj' : (j : Int) < (ks.length : Int) := by omega
    have hw := wrap_succ (n := j) (by omega)
    have hkj : ks[j]? = some ks[j] := List.getElem?_eq_getElem hj
    rw [List.drop_eq_getElem_cons hj, List.map_cons] at hL
    obtain ⟨e0, e1, e2, e3, e4, e5, e6, e7, e8, e9, e10, e11, e12, e13, e14, e15, b1, b2⟩ : q ≠ 0 ∧ 0 ≠ q ∧ a ≠ q ∧ q ≠ a ∧ r ≠ q ∧ q ≠ r ∧ a ≠ q + 1 ∧ q + 1 ≠ a ∧ r ≠ 0 ∧ 0 ≠ r ∧ r ≠ a ∧ a ≠ 0 ∧ 0 ≠ a ∧ 0 ≠ q + 1 ∧ q + 1 ≠ 0 ∧ q + 1 ≠ r ∧ acc.length + 1 ≤ 140737488355328 ∧ (acc.length + 1) * 24 ≤ 140737488355328 := by
      clear hL hkj
      (repeat' apply And.intro) <;> omega
    simp [loopAt, loopsOf, Tryz.f24, h2, h6, h9, h27, h28, h29, h41, h42, h43, o0, oR, oa, p1, p2, p3, p4, p5, hj, hj', hw, hkj, e0, e1, e2, e3, e4, e5, e6, e7, e8, e9, e10, e11, e12, e13, e14, e15, b1, b2]
    refine ⟨acc ++ [⟨ks[j], id⟩], by simp, ?_⟩
    (repeat' apply And.intro) <;> first | omega | (simp; omega) | (rw [hL]; simp)
  · rintro s o q ⟨r, acc, h2, h6, h9, h27, h28, h29, h41, h42, h43, o0, oR, oa, p2, p3, p4, p5, hal, hL⟩
    rw [List.drop_of_length_le (by omega)] at hL
    simp at hL
    subst hL
    simp [loopAt, loopsOf, Tryz.f24, h2, h6, h9, h27, h28, h29, h41, h42, h43, o0, oR, oa, p3, p4]
    first | done | exact ⟨r, rfl, oR, p3, p4⟩
theorem ih_docs (x : Ix) (p : Prt) (pr : List Prt) (hparts : x.dfn.parts = p :: pr) (hprl : pr.length ≤ 1) (hpp : ∀ q ∈ p :: pr, q.path.length < 4294967295) (xs : List Val) (hxl : xs.length ≤ 1000) (hv : ∀ y ∈ xs, okP 5 y = true) (hd : ∀ y ∈ xs, isDocP y = true ∧ 0 ≤ specId y) (L : List Ent) (hL : L = allEnts x.dfn.parts xs) : ∀ s o q, (s 2 = .ptr 0 0 ∧ s 6 = .row 1 ∧ s 27 = .t (.list (xs.map valT)) ∧ s 28 = .t (.int .i64 xs.length) ∧ s 29 = .t (.int .i64 0) ∧ o 0 = ixB x ∧ o 1 = .row 132 [] true ∧ 1 < q) →
    ∃ e s' o' q', run E (.code (.loop (loopAt Tryz.f24 0)) ⟨s, o, q, 62⟩) = some (.st e ⟨s', o', q', 62⟩) ∧ ∃ r, (e = .exit 1 ∧ s' 2 = .ptr 0 0 ∧ s' 6 = .row r ∧ o' 0 = ixB x ∧ o' r = .row 132 (L.map entT) true ∧ 0 < r ∧ r < q' ∧ r ≠ 0 ∧ 0 ≠ r ∧ r ≠ q' ∧ q' ≠ r ∧ 0 ≠ q' ∧ q' ≠ 0) := by
  intro s o q hI
  refine loop_for (c := loopAt Tryz.f24 0) (N := 62)
    (fun i s o q => ∃ (r : Nat) (acc : List Ent), s 2 = .ptr 0 0 ∧ s 6 = .row r ∧ s 27 = .t (.list (xs.map valT)) ∧ s 28 = .t (.int .i64 xs.length) ∧ s 29 = .t (.int .i64 i) ∧ o 0 = ixB x ∧ o r = .row 132 (acc.map entT) true ∧ 0 < r ∧ r < q ∧ acc.length ≤ 100000 * i ∧ L = acc ++ allEnts x.dfn.parts (xs.drop i))
    (fun e s' o' q' => ∃ r, (e = .exit 1 ∧ s' 2 = .ptr 0 0 ∧ s' 6 = .row r ∧ o' 0 = ixB x ∧ o' r = .row 132 (L.map entT) true ∧ 0 < r ∧ r < q' ∧ r ≠ 0 ∧ 0 ≠ r ∧ r ≠ q' ∧ q' ≠ r ∧ 0 ≠ q' ∧ q' ≠ 0)) xs.length ?_ ?_
    xs.length 0 s o q (by omega) (by
      obtain ⟨h2, h6, h27, h28, h29, o0, oR, p4⟩ := hI
      exact ⟨1, [], h2, h6, h27, h28, by simpa using h29, o0, oR, by omega, p4, by simp, by simpa using hL⟩)
  · rintro i s o q hi ⟨r, acc, h2, h6, h27, h28, h29, o0, oR, p3, p4, hal, hL⟩
    have hi' : (i : Int) < (xs.length : Int) := by omega
    have hw := wrap_succ (n := i) (by omega)
    have hxi : xs[i]? = some xs[i] := List.getElem?_eq_getElem hi
    have hvi := hv _ (List.getElem_mem hi)
    have hvl := okP_size hvi
    obtain ⟨hdi, hdn⟩ := hd _ (List.getElem_mem hi)
    have hk := implDocKeys x.dfn.name p pr hprl xs[i] 5 (Nat.le_refl _) hvi (hpp p (by simp)) (fun q hq => hpp q (by simp [hq]))
    have hkl := docKeys_len p pr hprl xs[i] hvi
    have hid := implIdOf xs[i] (by omega)
    obtain ⟨j1, j2⟩ := idI_spec hdi
    have hnn : ¬ specId xs[i] < 0 := by omega
    simp [hnn] at j1
    rw [j1, j2 j1] at hid
    rw [← hparts] at hk hkl
    rw [List.drop_eq_getElem_cons hi] at hL
    simp only [allEnts, List.flatMap_cons] at hL
    rw [← List.append_assoc] at hL
    have hacc : (acc ++ docEnts x.dfn.parts xs[i]).length ≤ 100000 * (i + 1) := by
      simp [docEnts]; omega
    have hal2 : acc.length ≤ 100000000 := by omega
    have hkl2 : (docKeysP x.dfn.parts xs[i]).length ≤ 1000000 := by omega
    have hLL : acc ++ docEnts x.dfn.parts xs[i] = acc ++ (docKeysP x.dfn.parts xs[i]).map (fun k => (⟨k, specId xs[i]⟩ : Ent)) := rfl
    obtain ⟨X, A, B, C, M, hin⟩ := sk1 (ih_keys (specId xs[i]) (docKeysP x.dfn.parts xs[i]) hkl2 (xs.map valT) xs.length x (q + 1) i r acc hal2 (acc ++ docEnts x.dfn.parts xs[i]) hLL)
    clear hLL
    simp only [loopAt, loopsOf, Tryz.f24] at hin
    simp at hin
    generalize hE' : acc ++ docEnts x.dfn.parts xs[i] = acc' at *
    rw [← List.map_append, hE'] at hin
    generalize docKeysP x.dfn.parts xs[i] = ks at *
    obtain ⟨e0, e1, e2, e3, e4, e5, e6, e7, e8, e9, e10, e11, e12⟩ : q ≠ 0 ∧ 0 ≠ q ∧ r ≠ q ∧ q ≠ r ∧ r ≠ q + 1 ∧ q + 1 ≠ r ∧ 0 ≠ q + 1 ∧ q + 1 ≠ 0 ∧ r ≠ 0 ∧ 0 ≠ r ∧ r < q + 1 + 1 ∧ q + 1 < q + 1 + 1 ∧ 0 < q + 1 := by
      clear hL hin
      (repeat' apply And.intro) <;> omega
    simp [loopAt, loopsOf, Tryz.f24, h2, h6, h27, h28, h29, o0, oR, p3, p4, hi, hi', hw, hxi, hk, hid, hin, e0, e1, e2, e3, e4, e5, e6, e7, e8, e9, e10, e11, e12]
    exact ⟨acc', rfl, hacc, hL⟩
  · rintro s o q ⟨r, acc, h2, h6, h27, h28, h29, o0, oR, p3, p4, hal, hL⟩
    rw [List.drop_of_length_le (by omega)] at hL
    simp [allEnts] at hL
    subst hL
    have e0 : r ≠ 0 := by omega
    have e1 : 0 ≠ r := by omega
    have e2 : r ≠ q := by omega
    have e3 : q ≠ r := by omega
    have e4 : 0 ≠ q := by omega
    have e5 : q ≠ 0 := by omega
    simp [loopAt, loopsOf, Tryz.f24, h2, h6, h27, h28, h29, o0, oR, p3, p4, e0, e1, e2, e3, e4, e5]
theorem entCmp_ord : Ord3 (fun _ => True) entCmp :=
  orI_ord (S := fun _ => True) (T := fun _ => True) (U := fun _ => True) Ent.key Ent.id (fun _ _ => trivial) (fun _ _ => trivial) cmpB_ord cmpI_ord (fun x y _ _ h1 h2 => by cases x; cases y; simp_all)
def entOf : T → Ent
  | .agg [.str k, .int _ n] => ⟨k, n⟩
  | _ => default
theorem entOf_ent (e : Ent) : entOf (entT e) = e := rfl
def sortE (xs : List Ent) : List Ent := xs.mergeSort fun x y => !decide (entCmp y x < 0)
theorem sortGoodE (xs : List Ent) (hl : xs.length ≤ 1000000000) : SortGood (xs.map entT) 79 [] (fun x y => entCmp (entOf x) (entOf y)) := by
  have O := entCmp_ord
  refine ⟨Go.Proofs.enters_of Tryz.func79 (by kernel_rfl) rfl, flats_ent xs, fun x hx => ?_, ⟨fun x hx => ?_, fun x hx y hy z hz a b => ?_, fun x hx y hy z hz a b => ?_, fun x hx y hy a b => ?_⟩, by simp; omega, fun x hx y hy => ?_⟩
  · obtain ⟨v, hv, rfl⟩ := List.mem_map.1 hx
    exact ⟨_, rfl⟩
  · obtain ⟨v, hv, rfl⟩ := List.mem_map.1 hx
    simp only [entOf_ent]
    have := O.anti v v trivial trivial
    omega
  · obtain ⟨v, hv, rfl⟩ := List.mem_map.1 hx
    obtain ⟨u, hu, rfl⟩ := List.mem_map.1 hy
    obtain ⟨w, hw, rfl⟩ := List.mem_map.1 hz
    simp only [entOf_ent] at a b ⊢
    exact O.lt trivial trivial trivial (by omega) b
  · obtain ⟨v, hv, rfl⟩ := List.mem_map.1 hx
    obtain ⟨u, hu, rfl⟩ := List.mem_map.1 hy
    obtain ⟨w, hw, rfl⟩ := List.mem_map.1 hz
    simp only [entOf_ent] at a b ⊢
    have e1 := O.anti v u trivial trivial
    have e2 := O.anti u w trivial trivial
    have e3 := O.anti v w trivial trivial
    have r1 := O.row w u v trivial trivial trivial
    omega
  · obtain ⟨v, hv, rfl⟩ := List.mem_map.1 hx
    obtain ⟨u, hu, rfl⟩ := List.mem_map.1 hy
    simp only [entOf_ent] at a b
    have e1 := O.anti v u trivial trivial
    rw [O.zero v u trivial trivial (by omega)]
  · obtain ⟨v, hv, rfl⟩ := List.mem_map.1 hx
    obtain ⟨u, hu, rfl⟩ := List.mem_map.1 hy
    simp only [entOf_ent]
    exact compareEnt v u
theorem sort78 (xs : List Ent) (hl : xs.length ≤ 1000000000) : run E1 (.call 78 [.row 132 (xs.map entT), .fn 79 []]) = some (.res [] [some (.row 132 ((sortE xs).map entT))]) := by
  have hx : E1.ext 78 = some (sortX 132) := by
    show extOf1 78 = _
    unfold extOf1
    rw [if_neg (by decide), if_pos rfl]
  rw [run_ext E1 78 _ hx, sortX_eq (sortGoodE xs hl)]
  have hm := List.map_mergeSort (r := fun x y => !decide (entCmp y x < 0)) (s := fun x y => !decide ((fun x y => entCmp (entOf x) (entOf y)) y x < 0)) (f := entT) (l := xs) (fun a _ b _ => rfl)
  unfold sortE
  rw [hm]
  rfl
theorem inTree_iff {t : Tr} (h : treeOK t = true) (e : Ent) : inTree t e = true ↔ e ∈ allE t := by
  rw [← place_iff h e]
  unfold inTree
  cases hp : t.pages[placeP e t.pages]? with
  | none => simp
  | some p =>
    simp only [List.any_eq_true, Bool.and_eq_true, beq_iff_eq, Option.some.injEq, exists_eq_left']
    constructor
    · rintro ⟨y, hy, h1, h2⟩
      obtain rfl : y = e := by cases y; cases e; simp_all
      exact hy
    · exact fun he => ⟨e, he, rfl, rfl⟩
theorem allEnts_len (x : Ix) : ∀ xs : List Val, (allEnts x.dfn.parts xs).length = cntEnts x xs
  | [] => rfl
  | d :: r => by
    have := allEnts_len x r
    simp only [allEnts, cntEnts, List.flatMap_cons, List.length_append, List.map_cons, List.sum_cons, docEnts, List.length_map] at this ⊢
    rw [this]
theorem holdsAll_iff (x : Ix) (h : treeOK x.tree = true) (xs : List Val) : holdsAll x xs = true ↔ ∀ e ∈ allEnts x.dfn.parts xs, e ∈ allE x.tree := by
  unfold holdsAll allEnts docEnts
  simp only [List.all_eq_true, inTree_iff h]
  constructor
  · intro hh e he
    obtain ⟨d, hd, he⟩ := List.mem_flatMap.1 he
    obtain ⟨k, hk, rfl⟩ := List.mem_map.1 he
    exact hh d hd k hk
  · exact fun hh d hd k hk => hh _ (List.mem_flatMap.2 ⟨d, hd, List.mem_map.2 ⟨k, hk, rfl⟩⟩)
theorem holds_same (x : Ix) (h : treeOK x.tree = true) (p : Prt) (pr : List Prt) (hparts : x.dfn.parts = p :: pr) (hps : pr.length ≤ 1) (xs : List Val) (q : Int) (hd : docsGo q xs = true) (hok : ∀ y ∈ xs, okP 5 y = true) :
    decide (sortE (allEnts x.dfn.parts xs) = allE x.tree) = (holdsAll x xs && decide (cntEnts x xs = (allE x.tree).length)) := by
  have hr : (allE x.tree).Pairwise (fun a b => entLt a b = true) := by
    unfold treeOK at h
    simp only [Bool.and_eq_true] at h
    exact ents_rise h.2.2
  have hn : (allEnts x.dfn.parts xs).Nodup := by rw [hparts]; exact allEnts_nodup p pr hps xs q hd hok
  have O := entCmp_ord
  have hs : (sortE (allEnts x.dfn.parts xs)).Pairwise (fun a b => entCmp a b ≤ 0) := by
    refine (List.pairwise_mergeSort ?_ ?_ _).imp ?_
    · intro a b c h1 h2
      simp at h1 h2 ⊢
      have e1 := O.anti a b trivial trivial
      have e2 := O.anti b c trivial trivial
      have e3 := O.anti a c trivial trivial
      have r1 := O.row a b c trivial trivial trivial
      omega
    · intro a b
      simp
      have e1 := O.anti a b trivial trivial
      omega
    · intro a b h
      simp at h
      have e1 := O.anti a b trivial trivial
      omega
  have hpm : (sortE (allEnts x.dfn.parts xs)).Perm (allEnts x.dfn.parts xs) := List.mergeSort_perm _ _
  rw [Bool.eq_iff_iff, Bool.and_eq_true, decide_eq_true_eq, decide_eq_true_eq, holdsAll_iff x h xs, ← allEnts_len]
  constructor
  · intro e
    rw [e] at hpm
    exact ⟨fun a ha => hpm.symm.mem_iff.1 ha, hpm.symm.length_eq⟩
  · rintro ⟨h1, h2⟩
    have hp2 := perm_of_sub hn h1 (by omega)
    refine List.Perm.eq_of_pairwise (le := fun a b => entCmp a b ≤ 0) (fun a b _ _ h1 h2 => ?_) hs (hr.imp (fun hab => ?_)) (hpm.trans hp2)
    · have e1 := O.anti a b trivial trivial
      exact O.zero a b trivial trivial (by omega)
    · have := (entCmp_lt _ _).mpr hab
      omega
theorem up_loop {c : Code} {N : Nat} {I : Ss → Os → Nat → Prop} {R : Ss → Os → Nat → Ex → Ss → Os → Nat → Nat → Prop} (h : ∀ s o q, I s o q → ∃ e s' o' q', run E (.code c ⟨s, o, q, N⟩) = some (.st e ⟨s', o', q', N⟩) ∧ ∃ m, R s o q e s' o' q' m) :
    ∀ s o q, I s o q → ∃ e s' o' q', run E1 (.code c ⟨s, o, q, N⟩) = some (.st e ⟨s', o', q', N⟩) ∧ ∃ m, R s o q e s' o' q' m := by
  intro s o q hI
  obtain ⟨e, s', o', q', h1, h2⟩ := h s o q hI
  exact ⟨e, s', o', q', up h1, h2⟩
def holdsOut (x : Ix) (xs : List Val) : Bool × Int := if 4096 < xs.length then (false, 2) else if ixFine x && docsOK xs then (holdsAll x xs && decide (cntEnts x xs = (allE x.tree).length), 0) else (false, 1)
theorem ix_facts {x : Ix} (h : ixFine x = true) : ∃ p pr, x.dfn.parts = p :: pr ∧ pr.length ≤ 1 ∧ (∀ q ∈ p :: pr, q.path.length < 4294967295) ∧ x.tree.pages ≠ [] := by
  obtain ⟨p, pr, hp⟩ := ix_parts h
  have h0 := h
  unfold ixFine at h
  simp only [Bool.and_eq_true] at h
  obtain ⟨h1, h2⟩ := h
  unfold defOK in12 at h1
  simp only [Bool.and_eq_true, decide_eq_true_eq, List.all_eq_true] at h1
  obtain ⟨⟨⟨_, h3⟩, h4⟩, _⟩ := h1
  rw [hp] at h3 h4
  refine ⟨p, pr, hp, by simp at h3; omega, fun q hq => ?_, fun e => ?_⟩
  · have := h4 q hq
    unfold pathOK at this
    simp only [Bool.and_eq_true, decide_eq_true_eq] at this
    have := this.1.1
    omega
  · unfold treeOK at h2
    simp only [Bool.and_eq_true] at h2
    have := h2.1.1
    rw [e] at this
    simp [in1] at this
theorem specHolds (x : Ix) (hx : x.Sm) (xs : List Val) (hl : xs.length < 4294967296) (hs : ∀ y ∈ xs, y.t.length < 4294967296) : run E (.call 22 [.t (ixT x), .t (.list (xs.map valT))]) = some (.res [xB (holdsOut x xs).1, xI (holdsOut x xs).2] []) := by
  rw [run_call E 22 _ rfl Tryz.func22 rfl rfl rfl (by simp)]
  have hd := l06Docs xs hl hs
  have hq := specIndex x hx
  have n1 : ((4096 : Int) < (xs.length : Int)) = (4096 < xs.length) := by simp; omega
  unfold holdsOut
  by_cases h1 : 4096 < xs.length
  · simp [n1, h1]
  · cases h2 : ixFine x with
    | false => rw [h2] at hq; simp [n1, h1, hq]
    | true =>
      rw [h2] at hq
      cases h3 : docsOK xs with
      | false => rw [h3] at hd; simp [n1, h1, hq, hd]
      | true =>
        rw [h3] at hd
        obtain ⟨p, pr, g1, g2, g3, g4⟩ := ix_facts h2
        obtain ⟨t1, t2, t3, t4⟩ := ix_tree h2
        obtain ⟨a1, a2, a3, a4⟩ := docsOK_all h3
        have hsz := specSize x.tree (by omega) (by omega)
        obtain ⟨A, hA⟩ : ∃ A, A = holdsAll x xs := ⟨_, rfl⟩
        obtain ⟨X, A', B, C, hin⟩ := sk (ih_out x g4 (by omega) (fun p hp => by have := t3 p hp; omega) p pr g1 g2 g3 xs (by omega) a3 A hA)
        simp only [loopAt, loopsOf, Tryz.f22] at hin
        rw [← hA]
        cases A with
        | false =>
          simp at hin
          simp [n1, h1, hq, hd, hin]
        | true =>
          simp at hin
          have hcc : (((cntEnts x xs : Nat) : Int) == (((allE x.tree).length : Nat) : Int)) = decide (cntEnts x xs = (allE x.tree).length) := by
            rw [Bool.eq_iff_iff, beq_iff_eq, decide_eq_true_eq]
            omega
          simp [n1, h1, hq, hd, hin, hsz]
          exact hcc
theorem implHolds (x : Ix) (hx : x.Sm) (xs : List Val) (hl : xs.length < 4294967296) (hs : ∀ y ∈ xs, y.t.length < 4294967296) : run E1 (.call 24 [.t (ixT x), .t (.list (xs.map valT))]) = some (.res [xB (holdsOut x xs).1, xI (holdsOut x xs).2] []) := by
  rw [run_call E1 24 _ rfl Tryz.func24 rfl rfl rfl (by simp)]
  have hd := up (areDocs xs hl hs)
  have hq := up (implIndex x hx)
  have n1 : ((4096 : Int) < (xs.length : Int)) = (4096 < xs.length) := by simp; omega
  unfold holdsOut
  by_cases h1 : 4096 < xs.length
  · simp [n1, h1]
  · cases h2 : ixFine x with
    | false => rw [h2] at hq; simp [n1, h1, hq]
    | true =>
      rw [h2] at hq
      cases h3 : docsOK xs with
      | false => rw [h3] at hd; simp [n1, h1, hq, hd]
      | true =>
        rw [h3] at hd
        obtain ⟨p, pr, g1, g2, g3, g4⟩ := ix_facts h2
        obtain ⟨t1, t2, t3, t4⟩ := ix_tree h2
        obtain ⟨a1, a2, a3, a4⟩ := docsOK_all h3
        have hdg : docsGo (-1) xs = true := by unfold docsOK at h3; rw [Bool.and_eq_true] at h3; exact h3.1
        have hsame := holds_same x t1 p pr g1 g2 xs (-1) hdg a3
        have hlen : (allEnts x.dfn.parts xs).length ≤ 2000000 := by
          rw [allEnts_len]
          have : ∀ l : List Val, (∀ y ∈ l, okP 5 y = true) → cntEnts x l ≤ 90601 * l.length := by
            intro l
            induction l with
            | nil => intro _; simp [cntEnts]
            | cons y r ih =>
              intro hy
              have h1 := ih (fun z hz => hy z (by simp [hz]))
              have h2 := docKeys_len p pr g2 y (hy y (by simp))
              rw [← g1] at h2
              simp only [cntEnts, List.map_cons, List.sum_cons, List.length_cons] at h1 ⊢
              omega
          have := this xs a3
          omega
        have hE := up (entriesOf x.tree (by omega) (by omega))
        have hS := sort78 (allEnts x.dfn.parts xs) (by omega)
        have hfl := flats_ent (sortE (allEnts x.dfn.parts xs))
        have hQ := up (equalEnts (sortE (allEnts x.dfn.parts xs)) (allE x.tree) (by simp [sortE]; omega) (by omega))
        rw [hsame] at hQ
        obtain ⟨L, hL⟩ : ∃ L, L = allEnts x.dfn.parts xs := ⟨_, rfl⟩
        obtain ⟨X, A', B, C, M, hin⟩ := sk1 (up_loop (ih_docs x p pr g1 g2 g3 xs (by omega) a3 a2 L hL))
        rw [← hL] at hS hfl hQ
        simp only [loopAt, loopsOf, Tryz.f24] at hin
        simp at hin
        simp [n1, h1, hq, hd, hin, hE, hS, hfl, hQ]
theorem lawIndexHolds (x : Ix) (hxw : x.Wd) (xs : List Val) (hxl : W xs.length) (hx : ∀ y ∈ xs, W y.t.length) : run E1 (.call 4 [.t (ixT x), .t (.list (xs.map valT))]) = some (.res [xB true] []) := by
  rw [run_call E1 4 _ rfl Tryz.func4 rfl rfl rfl (by simp)]
  have d14 : E1.draw (regionOf Tryz.f4 14) = _ := d4_14
  simp [regionOf, findR, pick, Tryz.f4] at d14
  have dd14 := fun st => run_region_draw E1 st 14 _ d14
  clear d14
  have h1 := up (szIndex x hxw 1048576 (by omega) (by omega))
  have l1 := szIx_le x 1048576 (by omega)
  by_cases n1 : szIx x 1048576 < 0
  · simp [h1, n1]
  · have hsm := szIx_sm (by omega) (by omega) n1
    have h2 := up (sz_10 xs szVal (by unfold W at hxl; omega) (fun y hm l h0 hl => szValue y (hx y hm) l h0 hl) (fun y _ k hk => szVal_le y k hk) (szIx x 1048576) (by omega) (by omega))
    by_cases n2 : lstSz szVal xs (szIx x 1048576) < 0
    · simp [h1, n1, h2, n2]
    · obtain ⟨b1, b2⟩ := lstSz_all (P := fun v : Val => v.t.length < 4294967296) (m := 1048576) (by omega) (by omega) (fun x _ k hk => szVal_le x k hk) (fun x _ k hk hm h => by have := szB_bound h; omega) n2
      have t1 := up (toIndex x hsm)
      have t2 := up (to_13 xs (by omega) (fun x _ => toValue x))
      have p1 := up (specHolds x hsm xs (by omega) b2)
      have p2 := implHolds x hsm xs (by omega) b2
      have e1 := up (eqIndex x hsm)
      have e2 := up (eq_16 xs (by omega) (fun x _ => eqValue x))
      generalize holdsOut x xs = r at *
      obtain ⟨rb, rc⟩ := r
      try simp at t1 p1 p2 e1
      simp [dd14, h1, n1, h2, n2, t1, t2, p1, p2, e1, e2]
end Go.Rd
