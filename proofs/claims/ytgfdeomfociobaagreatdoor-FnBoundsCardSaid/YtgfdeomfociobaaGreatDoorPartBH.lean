/- Keys of values: no two values have one key; what a key begins with. -/
import Derived.Test.YtgfdeomfociobaaGreatDoorPartBG
set_option linter.unusedSimpArgs false
set_option linter.unusedVariables false
namespace Go.Yd
open Go.Ev Go.Proofs Go.Pu
set_option maxRecDepth 100000
set_option maxHeartbeats 4000000
theorem byteAt_nat (n : Int) (j : Nat) (h0 : 0 ≤ n) : ((byteAt n j).toNat : Int) = n / 2 ^ (8 * j) % 256 := by
  rw [← byteAt_wrap]
  rw [Int.fdiv_eq_ediv_of_nonneg _ (Int.pow_nonneg (by omega))]
  simp [IntKind.wrap, IntKind.bits, IntKind.signed]
theorem byteAt_small {a b : Int} (ha : 0 ≤ a ∧ a < 256) (hb : 0 ≤ b ∧ b < 256) (h : byteAt a 0 = byteAt b 0) : a = b := by
  have h1 := byteAt_nat a 0 ha.1
  have h2 := byteAt_nat b 0 hb.1
  rw [h] at h1
  simp at h1 h2
  omega
theorem numP8_inj {a b : Int} (ha : 0 ≤ a ∧ a < 9223372036854775808) (hb : 0 ≤ b ∧ b < 9223372036854775808) (h : numP a 8 = numP b 8) : a = b := by
  simp only [numP, List.cons.injEq] at h
  obtain ⟨h7, h6, h5, h4, h3, h2, h1, h0, _⟩ := h
  have e : ∀ j, byteAt a j = byteAt b j → a / 2 ^ (8 * j) % 256 = b / 2 ^ (8 * j) % 256 := fun j h => by
    rw [← byteAt_nat a j ha.1, ← byteAt_nat b j hb.1, h]
  have q0 := e 0 h0
  have q1 := e 1 h1
  have q2 := e 2 h2
  have q3 := e 3 h3
  have q4 := e 4 h4
  have q5 := e 5 h5
  have q6 := e 6 h6
  have q7 := e 7 h7
  simp at q0 q1 q2 q3 q4 q5 q6 q7
  omega
theorem esc_inj : ∀ (t t' r r' : Bytes), escP t ++ r = escP t' ++ r' → t = t' ∧ r = r'
  | [], [], r, r', h => by simp [escP, escGo] at h; exact ⟨rfl, h⟩
  | [], b :: t', r, r', h => by
    exfalso
    unfold escP escGo at h
    by_cases hb : b = 0
    · simp [hb] at h
    · rw [if_neg hb] at h
      simp at h
      exact hb h.1.symm
  | b :: t, [], r, r', h => by
    exfalso
    unfold escP escGo at h
    by_cases hb : b = 0
    · simp [hb] at h
    · rw [if_neg hb] at h
      simp at h
      exact hb h.1
  | b :: t, b' :: t', r, r', h => by
    have step : ∀ (x : UInt8) (q : Bytes), escP (x :: q) = (if x = 0 then [x, 255] else [x]) ++ escP q := fun x q => by simp only [escP, escGo, List.append_assoc]
    rw [step, step] at h
    by_cases hb : b = 0
    · by_cases hb' : b' = 0
      · subst hb; subst hb'
        simp at h
        have := esc_inj t t' r r' h
        simp [this]
      · rw [if_pos hb, if_neg hb'] at h
        simp at h
        exact absurd (h.1.symm.trans hb) hb'
    · by_cases hb' : b' = 0
      · rw [if_neg hb, if_pos hb'] at h
        simp at h
        exact absurd (h.1.trans hb') hb
      · rw [if_neg hb, if_neg hb'] at h
        simp at h
        obtain ⟨rfl, h⟩ := h
        have := esc_inj t t' r r' h
        simp [this]
theorem key_cons {d : Nat} {v : Val} (h : okP d v = true) : ∃ r, keyD d v = byteAt (v.k + 1) 0 :: r := by
  have hr := okP_range h
  unfold keyD headK
  rw [numP_1]
  split
  · exact ⟨_, rfl⟩
  · split
    · exact ⟨_, rfl⟩
    · split
      · exact ⟨_, rfl⟩
      · split
        · exact ⟨_, rfl⟩
        · cases d with
          | zero =>
            exfalso
            unfold okP at h
            simp_all
          | succ d =>
            simp only
            split
            · exact ⟨_, by simp only [List.cons_append]; rfl⟩
            · exact ⟨_, by simp only [List.cons_append]; rfl⟩
theorem head_byte {d : Nat} {v : Val} (h : okP d v = true) : (byteAt (v.k + 1) 0).toNat = (v.k + 1).toNat := by
  have hr := okP_range h
  have := byteAt_nat (v.k + 1) 0 (by omega)
  simp at this
  omega
theorem flat_inj {α : Type} {f : α → Bytes} : ∀ {xs ys : List α} {r r' : Bytes}, (∀ x ∈ xs, ∀ y ∈ ys, ∀ r r', f x ++ r = f y ++ r' → x = y ∧ r = r') → (∀ x ∈ xs, ∃ b q, f x = b :: q ∧ b ≠ 0) → (∀ x ∈ ys, ∃ b q, f x = b :: q ∧ b ≠ 0) → xs.flatMap f ++ 0 :: r = ys.flatMap f ++ 0 :: r' → xs = ys ∧ r = r'
  | [], [], r, r', hi, hx, hy, h => by simp at h; exact ⟨rfl, h⟩
  | [], y :: ys, r, r', hi, hx, hy, h => by
    exfalso
    obtain ⟨b, q, e, hb⟩ := hy y (by simp)
    simp [e] at h
    exact hb h.1.symm
  | x :: xs, [], r, r', hi, hx, hy, h => by
    exfalso
    obtain ⟨b, q, e, hb⟩ := hx x (by simp)
    simp [e] at h
    exact hb h.1
  | x :: xs, y :: ys, r, r', hi, hx, hy, h => by
    simp only [List.flatMap_cons, List.append_assoc] at h
    obtain ⟨e1, h2⟩ := hi x (by simp) y (by simp) _ _ h
    obtain ⟨e3, h4⟩ := flat_inj (xs := xs) (ys := ys) (fun x hx y hy => hi x (by simp [hx]) y (by simp [hy])) (fun x h => hx x (by simp [h])) (fun x h => hy x (by simp [h])) h2
    exact ⟨by rw [e1, e3], h4⟩
theorem key_inj_step (d : Nat) (ih : ∀ e, d = e + 1 → ∀ (a b : Val) (r r' : Bytes), okP e a = true → okP e b = true → keyD e a ++ r = keyD e b ++ r' → a = b ∧ r = r') (a b : Val) (r r' : Bytes) (ha : okP d a = true) (hb : okP d b = true) (h : keyD d a ++ r = keyD d b ++ r') : a = b ∧ r = r' := by
  have ra := okP_range ha
  have rb := okP_range hb
  have hk : a.k = b.k := by
    obtain ⟨q, hq⟩ := key_cons ha
    obtain ⟨q', hq'⟩ := key_cons hb
    rw [hq, hq'] at h
    simp only [List.cons_append, List.cons.injEq] at h
    have := byteAt_small (a := a.k + 1) (b := b.k + 1) (by omega) (by omega) h.1
    omega
  have cases6 : a.k = 0 ∨ a.k = 1 ∨ a.k = 2 ∨ a.k = 3 ∨ a.k = 4 ∨ a.k = 5 := by omega
  unfold keyD headK at h
  rw [← hk] at h
  simp only [numP_1] at h
  rcases cases6 with k | k | k | k | k | k
  · rw [if_pos k, if_pos k] at h
    simp at h
    have na : a.n = 0 ∧ a.t = [] := by unfold okP at ha; simpa [k] using ha
    have nb : b.n = 0 ∧ b.t = [] := by unfold okP at hb; simpa [← hk, k] using hb
    exact ⟨Val.eq hk (by omega) (by rw [na.2, nb.2]), h⟩
  · have k0 : ¬ a.k = 0 := by omega
    rw [if_neg k0, if_pos k, if_neg k0, if_pos k] at h
    simp at h
    have na : (0 ≤ a.n ∧ a.n ≤ 1) ∧ a.t = [] := by unfold okP at ha; simpa [k] using ha
    have nb : (0 ≤ b.n ∧ b.n ≤ 1) ∧ b.t = [] := by unfold okP at hb; simpa [← hk, k] using hb
    have := byteAt_small (a := a.n) (b := b.n) (by omega) (by omega) h.1
    exact ⟨Val.eq hk this (by rw [na.2, nb.2]), h.2⟩
  · have k0 : ¬ a.k = 0 := by omega
    have k1 : ¬ a.k = 1 := by omega
    rw [if_neg k0, if_neg k1, if_pos k, if_neg k0, if_neg k1, if_pos k] at h
    simp only [List.cons_append, List.cons.injEq, true_and, List.nil_append] at h
    have l1 := numP_len (a.n + 4611686018427387904) 8
    have l2 := numP_len (b.n + 4611686018427387904) 8
    obtain ⟨h1, h2⟩ := List.append_inj h (by omega)
    have na : a.t = [] := okP_small ha (by omega) (by omega) (by omega)
    have nb : b.t = [] := okP_small hb (by omega) (by omega) (by omega)
    have := numP8_inj (by omega) (by omega) h1
    exact ⟨Val.eq hk (by omega) (by rw [na, nb]), h2⟩
  · have k0 : ¬ a.k = 0 := by omega
    have k1 : ¬ a.k = 1 := by omega
    have k2 : ¬ a.k = 2 := by omega
    rw [if_neg k0, if_neg k1, if_neg k2, if_pos k, if_neg k0, if_neg k1, if_neg k2, if_pos k] at h
    simp only [List.cons_append, List.cons.injEq, true_and, List.nil_append] at h
    obtain ⟨h1, h2⟩ := esc_inj _ _ _ _ h
    have na : a.n = 0 := by unfold okP at ha; simp [k] at ha; exact ha.1
    have nb : b.n = 0 := by unfold okP at hb; simp [← hk, k] at hb; exact hb.1
    exact ⟨Val.eq hk (by omega) h1, h2⟩
  · have k0 : ¬ a.k = 0 := by omega
    have k1 : ¬ a.k = 1 := by omega
    have k2 : ¬ a.k = 2 := by omega
    have k3 : ¬ a.k = 3 := by omega
    obtain ⟨e, xs, hd, na, hia, hxs⟩ := okP_list ha k
    obtain ⟨e', ys, hd', nb, hib, hys⟩ := okP_list hb (hk ▸ k)
    subst hd
    obtain rfl : e = e' := by omega
    rw [if_neg k0, if_neg k1, if_neg k2, if_neg k3, if_neg k0, if_neg k1, if_neg k2, if_neg k3] at h
    simp only [if_pos k, itemsL, hia, hib, Option.getD_some] at h
    simp only [List.cons_append, List.cons.injEq, true_and, List.nil_append, List.append_assoc] at h
    have hz : ∀ (zs : List Val), (∀ x ∈ zs, okP e x = true) → ∀ x ∈ zs, ∃ b q, keyD e x = b :: q ∧ b ≠ 0 := by
      intro zs hz x hx
      obtain ⟨q, hq⟩ := key_cons (hz x hx)
      refine ⟨_, q, hq, fun hb => ?_⟩
      have := head_byte (hz x hx)
      have := okP_range (hz x hx)
      rw [hb] at *
      simp at *
      omega
    obtain ⟨h1, h2⟩ := flat_inj (fun x hx y hy r r' hr => ih e rfl x y r r' (hxs x hx) (hys y hy) hr) (hz xs hxs) (hz ys hys) h
    subst h1
    exact ⟨Val.eq hk (by omega) (items_inj hia hib), h2⟩
  · have k0 : ¬ a.k = 0 := by omega
    have k1 : ¬ a.k = 1 := by omega
    have k2 : ¬ a.k = 2 := by omega
    have k3 : ¬ a.k = 3 := by omega
    have k4 : ¬ a.k = 4 := by omega
    obtain ⟨e, xs, hd, na, hia, _, hxs⟩ := okP_doc ha k
    obtain ⟨e', ys, hd', nb, hib, _, hys⟩ := okP_doc hb (hk ▸ k)
    subst hd
    obtain rfl : e = e' := by omega
    rw [if_neg k0, if_neg k1, if_neg k2, if_neg k3, if_neg k0, if_neg k1, if_neg k2, if_neg k3] at h
    simp only [if_neg k4, fieldsL, hia, hib, Option.getD_some] at h
    simp only [List.cons_append, List.cons.injEq, true_and, List.nil_append, List.append_assoc] at h
    have hz : ∀ (zs : List Fld), ∀ x ∈ zs, ∃ b q, (1 :: (escP x.name ++ keyD e x.v)) = b :: q ∧ b ≠ (0 : UInt8) := by
      intro zs x hx
      exact ⟨_, _, rfl, by decide⟩
    obtain ⟨h1, h2⟩ := flat_inj (f := fun f : Fld => 1 :: (escP f.name ++ keyD e f.v)) (fun x hx y hy r r' hr => by
      simp only [List.cons_append, List.cons.injEq, true_and, List.append_assoc] at hr
      obtain ⟨n1, hr⟩ := esc_inj _ _ _ _ hr
      obtain ⟨v1, hr⟩ := ih e rfl x.v y.v r r' (hxs x hx).2 (hys y hy).2 hr
      refine ⟨?_, hr⟩
      cases x; cases y
      simp at n1 v1
      rw [n1, v1]) (hz xs) (hz ys) h
    subst h1
    exact ⟨Val.eq hk (by omega) (fields_inj hia hib), h2⟩
/-- A key tells its value, whatever stands behind it. -/
theorem key_inj : ∀ (d : Nat) (a b : Val) (r r' : Bytes), okP d a = true → okP d b = true → keyD d a ++ r = keyD d b ++ r' → a = b ∧ r = r' := by
  intro d
  induction d with
  | zero =>
    intro a b r r' ha hb h
    exact key_inj_step 0 (fun e he => by omega) a b r r' ha hb h
  | succ d ih =>
    intro a b r r' ha hb h
    exact key_inj_step (d + 1) (fun e he => by
      have : e = d := by omega
      subst this
      exact ih) a b r r' ha hb h
end Go.Yd
/- Intervals: what is behind all that begins with a text; the interval of what begins with it; what two have in common. -/
set_option linter.unusedSimpArgs false
set_option linter.unusedVariables false
namespace Go.Yd
open Go.Ev Go.Proofs Go.Pu
set_option maxRecDepth 100000
set_option maxHeartbeats 16000000
structure Ivl where
  low : Bytes
  high : Bytes
  opn : Bool
  deriving DecidableEq, Inhabited
abbrev ivlT (i : Ivl) : T := .agg [.str i.low, .str i.high, .bool i.opn]
abbrev ivlX (i : Ivl) : X := .agg [.t (.str i.low), .t (.str i.high), .t (.bool i.opn)]
/-- The least text behind all that begin with t, seen from its first n bytes. -/
def behindN (t : Bytes) : Nat → Option Bytes
  | 0 => none
  | n + 1 => match t[n]? with
    | some b => if b < 255 then some (t.take n ++ [b + 1]) else behindN t n
    | none => none
def behindP (t : Bytes) : Option Bytes := behindN t t.length
def beginP (t : Bytes) : Ivl := match behindP t with
  | some h => ⟨t, h, false⟩
  | none => ⟨t, [], true⟩
def minS (x y : Bytes) : Bytes := if (Op.bytesLess x y || x == y) = true then x else y
def maxS (x y : Bytes) : Bytes := if (!Op.bytesLess x y) = true then x else y
def meetP (a b : Ivl) : Ivl :=
  ⟨maxS a.low b.low, if a.opn && b.opn then [] else if a.opn then b.high else if b.opn then a.high else minS a.high b.high, a.opn && b.opn⟩
theorem lt255 (b : UInt8) : ((b.toNat : Int) < 255) = (b < 255) := by
  have : (255 : UInt8).toNat = 255 := rfl
  simp only [UInt8.lt_iff_toNat_lt, this, eq_iff_iff]
  omega
theorem add1 (b : UInt8) : UInt8.ofNat (IntKind.u8.wrap ((b.toNat : Int) + 1)).toNat = b + 1 := by
  have hw : IntKind.u8.wrap ((b.toNat : Int) + 1) = ((b.toNat : Int) + 1) % 256 := by simp [IntKind.wrap, IntKind.bits, IntKind.signed]
  rw [hw]
  apply UInt8.toNat_inj.1
  rw [UInt8.toNat_add, UInt8.toNat_ofNat']
  have : (1 : UInt8).toNat = 1 := rfl
  rw [this]
  omega
theorem l04Behind (t : Bytes) (ht : t.length < 4294967296) : run E (.call 343 [xS t]) = some (.res [xS ((behindP t).getD []), xB (behindP t).isSome] []) := by
  rw [run_call E 343 _ rfl Tryz.func343 rfl rfl rfl (by simp)]
  have d5 := d343_5
  simp [regionOf, findR, pick, Tryz.f343] at d5
  have dd := fun st => run_region_draw E st 5 _ d5
  clear d5
  have lp := fun (R : Option Bytes) (hR : R = behindP t) => sk (fun s o q hI => loop_for (c := loopAt Tryz.f343 0) (N := 28)
    (fun i s o q => i ≤ t.length ∧ s 0 = .t (.str t) ∧ s 4 = .t (.int .i64 ((t.length : Int) - i)) ∧ R = behindN t (t.length - i))
    (fun e s' o' q' => e = (if R.isSome then .ret else .exit 0) ∧ (R.isSome = true → s' 2 = .t (.str (R.getD [])) ∧ s' 3 = .t (.bool true))) t.length
    (by
      rintro i s o q hi ⟨hle, h0, h4, hp⟩
      obtain ⟨j, hj⟩ : ∃ j, t.length - i = j + 1 := ⟨t.length - i - 1, by omega⟩
      have hjl : j < t.length := by omega
      have e1 : (t.length : Int) - i = (j : Int) + 1 := by omega
      have e2 : t.length - (i + 1) = j := by omega
      have e3 : (t.length : Int) - ((i + 1 : Nat) : Int) = (j : Int) := by omega
      have hw := wrap_nat (n := j) (by omega)
      have hpos : (0 : Int) < (j : Int) + 1 := by omega
      have hjx : t[j]? = some t[j] := List.getElem?_eq_getElem hjl
      have hjle : j ≤ t.length := by omega
      rw [hj] at hp
      rw [e1] at h4
      rw [e2]
      simp only [e3]
      unfold behindN at hp
      simp only [hjx] at hp
      have h255 := lt255 t[j]
      by_cases hb : t[j] < 255
      · rw [if_pos hb] at hp
        have hadd := add1 t[j]
        rw [hp]
        simp [loopAt, loopsOf, Tryz.f343, h0, h4, hw, hpos, hjx, h255, hb, dd, hjle]
        rw [if_pos (by omega)]
        exact hadd
      · rw [if_neg hb] at hp
        simp [loopAt, loopsOf, Tryz.f343, h0, h4, hw, hpos, hjx, h255, hb, hjle]
        exact ⟨by omega, hp⟩)
    (by
      rintro s o q ⟨hle, h0, h4, hp⟩
      simp [behindN] at hp
      simp [loopAt, loopsOf, Tryz.f343, h0, h4, hp])
    t.length 0 s o q (by omega) hI)
  simp only [loopAt, loopsOf, Tryz.f343] at lp
  cases hb : behindP t with
  | none =>
    obtain ⟨X, A, B, C, hx⟩ := lp none hb.symm
    have hx' := fun s o q a0 a4 => hx s o q ⟨Nat.zero_le _, a0, a4, by simpa [behindP] using hb.symm⟩
    simp at hx'
    simp [hx']
  | some h =>
    obtain ⟨X, A, B, C, hx⟩ := lp (some h) hb.symm
    have hx' := fun s o q a0 a4 => hx s o q ⟨Nat.zero_le _, a0, a4, by simpa [behindP] using hb.symm⟩
    simp at hx'
    simp [hx']
theorem l04Begin (t : Bytes) (ht : t.length < 4294967296) : run E (.call 270 [xS t]) = some (.res [ivlX (beginP t)] []) := by
  rw [run_call E 270 _ rfl Tryz.func270 rfl rfl rfl (by simp)]
  have h := l04Behind t ht
  unfold beginP
  cases hb : behindP t with
  | none => rw [hb] at h; simp at h; simp [h]
  | some x => rw [hb] at h; simp at h; simp [h]
end Go.Yd
/- Intervals: impl's begins; spec's meeting; turned texts. -/
set_option linter.unusedSimpArgs false
set_option linter.unusedVariables false
namespace Go.Yd
open Go.Ev Go.Proofs Go.Pu
set_option maxRecDepth 100000
set_option maxHeartbeats 16000000
theorem implBegins (t : Bytes) (ht : t.length < 4294967296) : run E (.call 269 [xS t]) = some (.res [ivlX (beginP t)] []) := by
  rw [run_call E 269 _ rfl Tryz.func269 rfl rfl rfl (by simp)]
  have d5 := d269_5
  simp [regionOf, findR, pick, Tryz.f269] at d5
  have dd := fun st => run_region_draw E st 5 _ d5
  clear d5
  have lp := fun (R : Option Bytes) (hR : R = behindP t) => sk (fun s o q hI => loop_for (c := loopAt Tryz.f269 0) (N := 29)
    (fun i s o q => i ≤ t.length ∧ s 0 = .t (.str t) ∧ s 2 = .ptr 0 0 ∧ o 0 = .box 112 [.t (.str []), .t (.str []), .t (.bool false)] ∧ 0 < q ∧ s 3 = .t (.int .i64 ((t.length : Int) - 1 - i)) ∧ R = behindN t (t.length - i))
    (fun e s' o' q' => e = (if R.isSome then .ret else .exit 0) ∧ s' 0 = .t (.str t) ∧ s' 2 = .ptr 0 0 ∧ o' 0 = .box 112 (if R.isSome then [.t (.str t), .t (.str (R.getD [])), .t (.bool false)] else [.t (.str []), .t (.str []), .t (.bool false)])) t.length
    (by
      rintro i s o q hi ⟨hle, h0, h2, ho, hq, h3, hp⟩
      obtain ⟨j, hj⟩ : ∃ j, t.length - i = j + 1 := ⟨t.length - i - 1, by omega⟩
      have hjl : j < t.length := by omega
      have e1 : (t.length : Int) - 1 - i = (j : Int) := by omega
      have e2 : t.length - (i + 1) = j := by omega
      have e3 : (t.length : Int) - 1 - ((i + 1 : Nat) : Int) = (j : Int) - 1 := by omega
      have hw : IntKind.i64.wrap ((j : Int) - 1) = (j : Int) - 1 := by rw [wrap_of (by omega) (by omega)]
      have hjx : t[j]? = some t[j] := List.getElem?_eq_getElem hjl
      have hjle : j ≤ t.length := by omega
      have hq0 : ¬ q = 0 := by omega
      have hq1 : ¬ 0 = q := by omega
      rw [hj] at hp
      rw [e1] at h3
      rw [e2]
      simp only [e3]
      unfold behindN at hp
      simp only [hjx] at hp
      have h255 := lt255 t[j]
      by_cases hb : t[j] < 255
      · rw [if_pos hb] at hp
        have hadd := add1 t[j]
        have hr1 : List.range 1 = [0] := rfl
        rw [hp]
        simp [loopAt, loopsOf, Tryz.f269, h0, h2, h3, ho, hw, hjx, h255, hb, dd, hjle, hr1, hq0, hq1]
        rw [if_pos (by omega)]
        exact hadd
      · rw [if_neg hb] at hp
        simp [loopAt, loopsOf, Tryz.f269, h0, h2, h3, ho, hw, hjx, h255, hb, hjle, hq, hq0, hq1]
        exact ⟨by omega, hp⟩)
    (by
      rintro s o q ⟨hle, h0, h2, ho, hq, h3, hp⟩
      simp [behindN] at hp
      have h3' : s 3 = .t (.int .i64 (-1)) := by rw [h3]; congr 2; omega
      simp [loopAt, loopsOf, Tryz.f269, h0, h2, h3', ho, hp])
    t.length 0 s o q (by omega) hI)
  simp only [loopAt, loopsOf, Tryz.f269] at lp
  unfold beginP
  have hw0 : IntKind.i64.wrap ((t.length : Int) - 1) = (t.length : Int) - 1 := wrap_of (by omega) (by omega)
  cases hb : behindP t with
  | none =>
    obtain ⟨X, A, B, C, hx⟩ := lp none hb.symm
    have hx' := fun s o q a0 a2 b1 hq (a3 : s 3 = .t (.int .i64 ((t.length : Int) - 1))) => hx s o q ⟨Nat.zero_le _, a0, a2, b1, hq, by rw [a3]; congr 2; omega, by simpa [behindP] using hb.symm⟩
    simp at hx'
    simp [hx', hw0]
  | some h =>
    obtain ⟨X, A, B, C, hx⟩ := lp (some h) hb.symm
    have hx' := fun s o q a0 a2 b1 hq (a3 : s 3 = .t (.int .i64 ((t.length : Int) - 1))) => hx s o q ⟨Nat.zero_le _, a0, a2, b1, hq, by rw [a3]; congr 2; omega, by simpa [behindP] using hb.symm⟩
    simp at hx'
    simp [hx', hw0]
theorem l04Turned (t : Bytes) (f : Bool) (ht : t.length < 4294967296) : run E (.call 271 [xS t, xB f]) = some (.res [xS (if f then turnP t else t)] []) := by
  rw [run_call E 271 _ rfl Tryz.func271 rfl rfl rfl (by simp)]
  have h := l04Turn t ht
  cases f <;> simp [h]
theorem l04Meet (a b : Ivl) : run E (.call 147 [.t (ivlT a), .t (ivlT b)]) = some (.res [ivlX (meetP a b)] []) := by
  rw [run_call E 147 _ rfl Tryz.func147 rfl rfl rfl (by simp)]
  obtain ⟨l, h, p⟩ := a
  obtain ⟨l', h', p'⟩ := b
  unfold meetP
  generalize hm : maxS l l' = m
  generalize hn : minS h h' = n
  simp [maxS] at hm
  simp [minS] at hn
  cases p <;> cases p' <;> simp [hm, hn]
theorem saysAll (t : Trm) : run E (.call 344 [.t (trmT t)]) = some (.res [xB (decide (t.op = 2) || decide (t.op = 7) || decide (t.op = 8) || decide (t.op = 10))] []) := by
  rw [run_call E 344 _ rfl Tryz.func344 rfl rfl rfl (by simp)]
  obtain ⟨a, a1, a2, a3⟩ := zcase t.op 2
  obtain ⟨b, b1, b2, b3⟩ := zcase t.op 7
  obtain ⟨c, c1, c2, c3⟩ := zcase t.op 8
  obtain ⟨e, e1, e2, e3⟩ := zcase t.op 10
  cases a <;> cases b <;> cases c <;> cases e <;> simp [a1, a2, a3, b1, b2, b3, c1, c2, c3, e1, e2, e3]
end Go.Yd
/- Definitions of indexes: both. -/
set_option linter.unusedSimpArgs false
set_option linter.unusedVariables false
namespace Go.Yd
open Go.Ev Go.Proofs Go.Pu
set_option maxRecDepth 100000
set_option maxHeartbeats 16000000
structure Dfn where
  name : Bytes
  parts : List Prt
abbrev dfnT (d : Dfn) : T := .agg [.str d.name, .list (d.parts.map prtT)]
structure Ver where
  at_ : Int
  gone : Bool
  v : Val
abbrev verT (x : Ver) : T := .agg [.int .i64 x.at_, .bool x.gone, .int .i64 x.v.k, .int .i64 x.v.n, .str x.v.t]
abbrev verX (x : Ver) : X := .agg [.t (.int .i64 x.at_), .t (.bool x.gone), .t (.int .i64 x.v.k), .t (.int .i64 x.v.n), .t (.str x.v.t)]
structure Chn where
  id : Int
  vs : List Ver
abbrev chnT (c : Chn) : T := .agg [.int .i64 c.id, .list (c.vs.map verT)]
structure Col where
  name : Bytes
  chains : List Chn
  defs : List Dfn
abbrev colT (c : Col) : T := .agg [.str c.name, .list (c.chains.map chnT), .list (c.defs.map dfnT)]
def Dfn.Sm (d : Dfn) : Prop := d.name.length < 4294967296 ∧ partsSm d.parts
def Ver.Sm (x : Ver) : Prop := x.v.t.length < 4294967296
def Chn.Sm (c : Chn) : Prop := c.vs.length < 4294967296 ∧ ∀ x ∈ c.vs, x.Sm
structure Col.Sm (c : Col) : Prop where
  name : c.name.length < 4294967296
  chains : c.chains.length < 4294967296 ∧ ∀ x ∈ c.chains, x.Sm
  defs : c.defs.length < 4294967296 ∧ ∀ x ∈ c.defs, x.Sm
def twoOK : List Prt → Bool
  | [p, q] => !(p.path == q.path)
  | _ => true
def in12 (n : Nat) : Bool := decide (1 ≤ n) && decide (n ≤ 2)
def defOK (d : Dfn) : Bool := nameP d.name && in12 d.parts.length && d.parts.all (fun p => pathOK p.path) && twoOK d.parts
theorem in12_cast (n : Nat) : (decide ((1 : Int) ≤ (n : Int)) && decide ((n : Int) ≤ 2)) = in12 n := by
  unfold in12
  congr 1 <;> (congr 1; simp; omega)
theorem in12_cases {α : Type} {l : List α} (h : in12 l.length = true) : (∃ p, l = [p]) ∨ ∃ p q, l = [p, q] := by
  simp [in12] at h
  match l, h with
  | [p], _ => exact .inl ⟨p, rfl⟩
  | [p, q], _ => exact .inr ⟨p, q, rfl⟩
  | [], h => simp at h
  | _ :: _ :: _ :: _, h => simp at h
theorem defClosure (p : Prt) (h : p.path.length < 4294967296) : run E (.call 223 [.t (prtT p)]) = some (.res [xB (!pathOK p.path)] []) := by
  rw [run_call E 223 _ rfl Tryz.func223 rfl rfl rfl (by simp)]
  simp [partOK p h]
theorem implDefOK (d : Dfn) (h : d.Sm) : run E (.call 118 [.t (dfnT d)]) = some (.res [xB (defOK d)] []) := by
  rw [run_call E 118 _ rfl Tryz.func118 rfl rfl rfl (by simp)]
  have h1 := isShort d.name (by have := h.1; omega)
  have h2 := inRange (d.parts.length : Int) 1 2
  rw [in12_cast] at h2
  have hc := containsFunc_136_0 d.parts 223 (fun p => !pathOK p.path) (by have := h.2.1; omega) rfl (by simp) (fun p hp => defClosure p (h.2.2 p hp))
  rw [any_not_all] at hc
  have d3 := d118_3
  simp [regionOf, findR, pick, Tryz.f118] at d3
  have dd := fun st => run_region_draw E st 3 _ d3
  clear d3
  unfold defOK
  cases hn : nameP d.name with
  | false => rw [hn] at h1; simp [h1]
  | true =>
    rw [hn] at h1
    cases hi : in12 d.parts.length with
    | false => rw [hi] at h2; simp [h1, h2]
    | true =>
      rw [hi] at h2
      cases ha : d.parts.all (fun p => pathOK p.path) with
      | false => rw [ha] at hc; simp [h1, h2, hc]
      | true =>
        rw [ha] at hc
        obtain ⟨nm, ps⟩ := d
        simp only at *
        rcases in12_cases hi with ⟨p, rfl⟩ | ⟨p, q, rfl⟩
        · simp at h2 hc
          simp [h1, h2, hc, dd, twoOK]
        · simp at h2 hc
          simp [h1, h2, hc, dd, twoOK]
theorem specDef_loop (d : Dfn) (h : d.Sm) (b : Bool) (hb : b = d.parts.all (fun p => pathOK p.path)) : ∀ s o n, (s 1 = .ptr 0 0 ∧ s 3 = .t (.int .i64 0) ∧ o 0 = .box 79 [.t (.str d.name), .t (.list (d.parts.map prtT))]) →
    ∃ e s' o' n', run E (.code (.loop (loopAt Tryz.f111 0)) ⟨s, o, n, 47⟩) = some (.st e ⟨s', o', n', 47⟩) ∧ e = (if b then .exit 0 else .ret) ∧ s' 1 = .ptr 0 0 ∧ o' 0 = .box 79 [.t (.str d.name), .t (.list (d.parts.map prtT))] ∧ (b = false → s' 2 = .t (.bool false)) := by
  intro s o n hI
  refine loop_for (c := loopAt Tryz.f111 0) (N := 47)
    (fun i s o n => s 1 = .ptr 0 0 ∧ s 3 = .t (.int .i64 i) ∧ o 0 = .box 79 [.t (.str d.name), .t (.list (d.parts.map prtT))] ∧ b = (d.parts.drop i).all (fun p => pathOK p.path))
    (fun e s' o' n' => e = (if b then .exit 0 else .ret) ∧ s' 1 = .ptr 0 0 ∧ o' 0 = .box 79 [.t (.str d.name), .t (.list (d.parts.map prtT))] ∧ (b = false → s' 2 = .t (.bool false))) d.parts.length ?_ ?_
    d.parts.length 0 s o n (by omega) ⟨hI.1, hI.2.1, hI.2.2, by simpa using hb⟩
  · rintro i s o n hi ⟨h1, h3, ho, hp⟩
    have hfi : d.parts[i]? = some d.parts[i] := List.getElem?_eq_getElem hi
    have hi' : (i : Int) < (d.parts.length : Int) := by omega
    have hw := wrap_succ (n := i) (by have := h.2.1; omega)
    have ht := specPathOK d.parts[i].path (h.2.2 _ (List.getElem_mem hi))
    rw [List.drop_eq_getElem_cons hi, List.all_cons] at hp
    cases hok : pathOK d.parts[i].path <;> simp [hok] at hp ht <;> simp [loopAt, loopsOf, Tryz.f111, h1, h3, ho, hi', hfi, hw, ht, hp]
  · rintro s o n ⟨h1, h3, ho, hp⟩
    simp at hp
    simp [loopAt, loopsOf, Tryz.f111, h1, h3, ho, hp]
theorem specDefOK (d : Dfn) (h : d.Sm) : run E (.call 111 [.t (dfnT d)]) = some (.res [xB (defOK d)] []) := by
  rw [run_call E 111 _ rfl Tryz.func111 rfl rfl rfl (by simp)]
  have h1 := l01Name d.name (by have := h.1; omega)
  have h2 := l01In (d.parts.length : Int) 1 2
  rw [in12_cast] at h2
  have d8 := d111_8
  simp [regionOf, findR, pick, Tryz.f111] at d8
  have dd := fun st => run_region_draw E st 8 _ d8
  clear d8
  have lp := specDef_loop d h
  unfold defOK
  cases hn : nameP d.name with
  | false => rw [hn] at h1; simp [h1]
  | true =>
    rw [hn] at h1
    cases hi : in12 d.parts.length with
    | false => rw [hi] at h2; simp [h1, h2]
    | true =>
      rw [hi] at h2
      cases ha : d.parts.all (fun p => pathOK p.path) with
      | false =>
        obtain ⟨X, A, B, C, hx⟩ := sk (lp false ha.symm)
        simp [loopAt, loopsOf, Tryz.f111] at hx
        simp [h1, h2, hx]
      | true =>
        obtain ⟨X, A, B, C, hx⟩ := sk (lp true ha.symm)
        simp [loopAt, loopsOf, Tryz.f111] at hx
        obtain ⟨nm, ps⟩ := d
        simp only at *
        rcases in12_cases hi with ⟨p, rfl⟩ | ⟨p, q, rfl⟩
        · simp at h2 hx
          simp [h1, h2, hx, dd, twoOK]
        · simp at h2 hx
          simp [h1, h2, hx, dd, twoOK]
theorem indexFunc_149_1 (xs : List Dfn) (g : Nat) (c : List T) (p : Dfn → Bool) (hl : xs.length < 9223372036854775807) (hm : E.md g = []) (hf : E.flat g = true) (hp : ∀ x ∈ xs, run E (.call g [.t (dfnT x), .dref c]) = some (.res [xB (p x)] [])) :
    run E (.call 366 [.t (.list (xs.map dfnT)), .fn g [c]]) = some (.res [xI (idxP p xs)] []) := by
  rw [run_call E 366 _ rfl Tryz.func366 rfl rfl rfl (by simp)]
  rw [E_md] at hm
  have lp := fun (r : Int) (hr : r = idxP p xs) => sk (fun s o q hI => loop_for (c := loopAt Tryz.f366 0) (N := 19)
    (fun i s o q => s 0 = .t (.list (xs.map dfnT)) ∧ s 1 = .fn g [.dptr c] ∧ s 7 = .t (.int .i64 xs.length) ∧ s 8 = .t (.int .i64 i) ∧ r = if idxP p (xs.drop i) < 0 then -1 else idxP p (xs.drop i) + i)
    (fun e s' o' q' => e = (if r < 0 then .exit 0 else .ret) ∧ (0 ≤ r → s' 4 = .t (.int .i64 r))) xs.length
    (by
      rintro i s o q hi ⟨h0, h1, h7, h8, hr⟩
      have hd : xs.drop i = xs[i] :: xs.drop (i + 1) := by rw [List.drop_eq_getElem_cons hi]
      have hi' : (i : Int) < (xs.length : Int) := by omega
      have hw := wrap_succ (n := i) (by omega)
      have hx := hp xs[i] (List.getElem_mem hi)
      rw [hd, idxP] at hr
      cases hpx : p xs[i] with
      | true =>
        simp [hpx] at hr hx
        have hr' : ¬ r < 0 := by omega
        simp [-mdOf, loopAt, loopsOf, Tryz.f366, h0, h1, h7, h8, hi, hi', hx, hw, hm, hf, hr', hr]
      | false =>
        simp [hpx] at hr hx
        have hr2 : r = if idxP p (xs.drop (i + 1)) < 0 then -1 else idxP p (xs.drop (i + 1)) + ((i : Int) + 1) := by
          rw [hr]
          by_cases hq : idxP p (xs.drop (i + 1)) < 0
          · simp [hq]
          · have : ¬ idxP p (xs.drop (i + 1)) + 1 < 0 := by omega
            simp [hq, this]; omega
        clear hr
        simp [-mdOf, loopAt, loopsOf, Tryz.f366, h0, h1, h7, h8, hi, hi', hx, hw, hm, hf]
        exact hr2)
    (by
      rintro s o q ⟨h0, h1, h7, h8, hr⟩
      simp [idxP] at hr
      simp [loopAt, loopsOf, Tryz.f366, h0, h1, h7, h8, hr])
    xs.length 0 s o q (by omega) hI)
  simp only [loopAt, loopsOf, Tryz.f366] at lp
  obtain ⟨X, A, B, C, hx⟩ := lp _ rfl
  have hz : idxP p xs = if idxP p xs < 0 then -1 else idxP p xs := by
    cases xs with
    | nil => simp [idxP]
    | cons x r =>
      unfold idxP
      split
      · simp
      · split
        · simp
        · have : ¬ idxP p r + 1 < 0 := by omega
          simp [this]
  simp [← hz] at hx
  by_cases h : idxP p xs < 0
  · have h1 : idxP p xs = -1 := by rw [hz]; simp [h]
    simp [h] at hx
    simp [hx, h1]
  · have h2 : 0 ≤ idxP p xs := by omega
    simp [h, h2] at hx
    simp [hx]
theorem defAtClosure (d : Dfn) (name : Bytes) : run E (.call 367 [.t (dfnT d), .dref [.str name]]) = some (.res [xB (d.name == name)] []) := by
  rw [run_call E 367 _ rfl Tryz.func367 rfl rfl rfl (by simp)]
  simp
theorem defAt (c : Col) (name : Bytes) (h : c.defs.length < 4294967296) : run E (.call 313 [.t (colT c), xS name]) = some (.res [xI (idxP (fun d => d.name == name) c.defs)] []) := by
  rw [run_call E 313 _ rfl Tryz.func313 rfl rfl rfl (by simp)]
  have hi := indexFunc_149_1 c.defs 367 [.str name] (fun d => d.name == name) (by omega) rfl (by simp) (fun d _ => defAtClosure d name)
  simp [hi]
end Go.Yd
/- Chains of versions: impl's chainOK, CollOK. -/
set_option linter.unusedSimpArgs false
set_option linter.unusedVariables false
namespace Go.Yd
open Go.Ev Go.Proofs Go.Pu
set_option maxRecDepth 100000
set_option maxHeartbeats 16000000
def in1 (lo hi n : Int) : Bool := decide (lo ≤ n) && decide (n ≤ hi)
def versGo (D : Bool → Val → Bool) : Option Int → List Ver → Bool
  | _, [] => true
  | p, x :: r => in1 1 10000 x.at_ && (match p with
      | none => true
      | some q => !decide (x.at_ ≤ q)) && D x.gone x.v && versGo D (some x.at_) r
def chainOK (c : Chn) : Bool := in1 0 19 c.id && in1 1 12 c.vs.length && versGo (fun g v => verDoc c.id g v) none c.vs
def chainsGo : Option Int → List Chn → Bool
  | _, [] => true
  | p, c :: r => chainOK c && (match p with
      | none => true
      | some q => !decide (c.id ≤ q)) && chainsGo (some c.id) r
def defsGo : List Dfn → List Dfn → Bool
  | _, [] => true
  | pre, d :: r => defOK d && !(pre.any (fun x => x.name == d.name)) && defsGo (pre ++ [d]) r
def collOK (c : Col) : Bool := nameP c.name && decide (c.chains.length ≤ 20) && decide (c.defs.length ≤ 3) && defsGo [] c.defs && chainsGo none c.chains
theorem isTime (n : Int) : run E (.call 102 [xI n]) = some (.res [xB (in1 1 10000 n)] []) := by
  rw [run_call E 102 _ rfl Tryz.func102 rfl rfl rfl (by simp)]
  simp [inRange, in1]
theorem chainOK_eq (c : Chn) : (versGo (fun g v => verDocI g v c.id) none c.vs && (in1 0 19 c.id && in1 1 12 c.vs.length)) = chainOK c := by
  unfold chainOK
  cases h : in1 0 19 c.id with
  | false => simp
  | true =>
    have h0 : 0 ≤ c.id := by simp [in1] at h; exact h.1
    have e : (fun g v => verDocI g v c.id) = (fun g v => verDoc c.id g v) := by
      funext g v; exact verDocI_eq g v c.id h0
    rw [e]
    cases in1 1 12 (c.vs.length : Int) <;> cases versGo (fun g v => verDoc c.id g v) none c.vs <;> rfl
theorem implChain_loop (c : Chn) (h : c.Sm) (b : Bool) (hb : b = versGo (fun g v => verDocI g v c.id) none c.vs) : ∀ s o q, (s 1 = .ptr 0 0 ∧ s 6 = .t (.list (c.vs.map verT)) ∧ s 7 = .t (.int .i64 c.vs.length) ∧ s 8 = .t (.int .i64 0) ∧ o 0 = .box 198 [.t (.int .i64 c.id), .t (.list (c.vs.map verT))] ∧ 0 < q) →
    ∃ e s' o' q', run E (.code (.loop (loopAt Tryz.f314 0)) ⟨s, o, q, 53⟩) = some (.st e ⟨s', o', q', 53⟩) ∧ e = (if b then .exit 0 else .ret) ∧ s' 1 = .ptr 0 0 ∧ o' 0 = .box 198 [.t (.int .i64 c.id), .t (.list (c.vs.map verT))] ∧ (b = false → s' 2 = .t (.bool false)) := by
  intro s o q hI
  have d4 := d314_4
  simp [regionOf, findR, pick, Tryz.f314] at d4
  have dd := fun st => run_region_draw E st 4 _ d4
  clear d4
  refine loop_for (c := loopAt Tryz.f314 0) (N := 53)
    (fun i s o q => s 1 = .ptr 0 0 ∧ s 6 = .t (.list (c.vs.map verT)) ∧ s 7 = .t (.int .i64 c.vs.length) ∧ s 8 = .t (.int .i64 i) ∧ o 0 = .box 198 [.t (.int .i64 c.id), .t (.list (c.vs.map verT))] ∧ 0 < q ∧ b = versGo (fun g v => verDocI g v c.id) (match i with | 0 => none | j + 1 => (c.vs[j]?).map (·.at_)) (c.vs.drop i))
    (fun e s' o' q' => e = (if b then .exit 0 else .ret) ∧ s' 1 = .ptr 0 0 ∧ o' 0 = .box 198 [.t (.int .i64 c.id), .t (.list (c.vs.map verT))] ∧ (b = false → s' 2 = .t (.bool false))) c.vs.length ?_ ?_
    c.vs.length 0 s o q (by omega) ⟨hI.1, hI.2.1, hI.2.2.1, hI.2.2.2.1, hI.2.2.2.2.1, hI.2.2.2.2.2, by simpa using hb⟩
  · rintro i s o q hi ⟨h1, h6, h7, h8, ho, hq, hp⟩
    have hq0 : q ≠ 0 := by omega
    have h0q : 0 ≠ q := by omega
    have hxi : c.vs[i]? = some c.vs[i] := List.getElem?_eq_getElem hi
    have hi' : (i : Int) < (c.vs.length : Int) := by omega
    have hw := wrap_succ (n := i) (by have := h.1; omega)
    have ht := isTime c.vs[i].at_
    have hdoc := implDocOK c.vs[i].gone c.vs[i].v c.id (h.2 _ (List.getElem_mem hi))
    rw [List.drop_eq_getElem_cons hi] at hp
    cases i with
    | zero =>
      simp only [versGo] at hp
      cases hT : in1 1 10000 c.vs[0].at_ <;> cases hD : verDocI c.vs[0].gone c.vs[0].v c.id <;> simp [hT, hD] at hp ht hdoc <;> simp [loopAt, loopsOf, Tryz.f314, dd, h1, h6, h7, h8, ho, hq0, h0q, hi, hi', hw, ht, hdoc, hp, hxi]
    | succ j =>
      have hj : j < c.vs.length := by omega
      have hxj : c.vs[j]? = some c.vs[j] := List.getElem?_eq_getElem hj
      have hpos : (0 : Int) < (j : Int) + 1 := by omega
      have hnn : (0 : Int) ≤ (j : Int) + 1 := by omega
      have hwj2 := wrap_nat (n := j) (by have := h.1; omega)
      simp only [hxj, Option.map_some, versGo] at hp
      simp at h8 hi' hw
      by_cases hge : c.vs[j + 1].at_ ≤ c.vs[j].at_ <;> cases hT : in1 1 10000 c.vs[j + 1].at_ <;> cases hD : verDocI c.vs[j + 1].gone c.vs[j + 1].v c.id <;> simp [hT, hD, hge] at hp ht hdoc <;> simp [loopAt, loopsOf, Tryz.f314, dd, h1, h6, h7, h8, ho, hq0, h0q, hi, hi', hw, ht, hdoc, hp, hxi, hxj, hj, hpos, hnn, hwj2, hge]
  · rintro s o q ⟨h1, h6, h7, h8, ho, hq, hp⟩
    simp [versGo] at hp
    simp [loopAt, loopsOf, Tryz.f314, h1, h6, h7, h8, ho, hp]
theorem implChainOK (c : Chn) (h : c.Sm) : run E (.call 314 [.t (chnT c)]) = some (.res [xB (chainOK c)] []) := by
  rw [run_call E 314 _ rfl Tryz.func314 rfl rfl rfl (by simp)]
  rw [← chainOK_eq]
  have lp := implChain_loop c h
  have h1 := inRange c.id 0 19
  have h2 := inRange (c.vs.length : Int) 1 12
  rw [show (decide (0 ≤ c.id) && decide (c.id ≤ 19)) = in1 0 19 c.id from rfl] at h1
  rw [show (decide ((1 : Int) ≤ (c.vs.length : Int)) && decide ((c.vs.length : Int) ≤ 12)) = in1 1 12 c.vs.length from rfl] at h2
  cases hb : versGo (fun g v => verDocI g v c.id) none c.vs with
  | false =>
    obtain ⟨X, A, B, C, hx⟩ := sk (lp false hb.symm)
    simp [loopAt, loopsOf, Tryz.f314] at hx
    simp [hx]
  | true =>
    obtain ⟨X, A, B, C, hx⟩ := sk (lp true hb.symm)
    simp [loopAt, loopsOf, Tryz.f314] at hx
    cases hi : in1 0 19 c.id with
    | false => rw [hi] at h1; simp [hx, h1]
    | true => rw [hi] at h1; simp [hx, h1, h2]
end Go.Yd
/- impl's CollOK. -/
set_option linter.unusedSimpArgs false
set_option linter.unusedVariables false
namespace Go.Yd
open Go.Ev Go.Proofs Go.Pu
set_option maxRecDepth 100000
set_option maxHeartbeats 16000000
abbrev colBox (c : Col) : Ob := .box 195 [.t (.str c.name), .t (.list (c.chains.map chnT)), .t (.list (c.defs.map dfnT))]
/-- Where the first one stands, ahead of a place that fits. -/
theorem idxP_take {α : Type} (p : α → Bool) : ∀ (l : List α) (i : Nat) (hi : i < l.length), p l[i] = true → ((idxP p l < (i : Int)) = ((l.take i).any p = true))
  | [], i, hi, _ => by simp at hi
  | x :: r, 0, hi, h => by
    simp at h
    simp [idxP, h]
  | x :: r, i + 1, hi, h => by
    have ih := idxP_take p r i (by simpa using hi) (by simpa using h)
    have hne : ¬ idxP p r < 0 := by
      rw [idxP_neg]
      have : r.any p = true := List.any_eq_true.2 ⟨r[i]'(by simpa using hi), List.getElem_mem _, by simpa using h⟩
      simp [this]
    unfold idxP
    cases hx : p x with
    | true => simp [hx]
    | false =>
      simp only [hx, Bool.false_eq_true, if_false, hne, List.take_succ_cons, List.any_cons, Bool.false_or]
      rw [← ih]
      simp
theorem implColl_defs (c : Col) (h : c.Sm) (b : Bool) (hb : b = defsGo [] c.defs) : ∀ s o q, (s 1 = .ptr 0 0 ∧ s 8 = .t (.list (c.defs.map dfnT)) ∧ s 9 = .t (.int .i64 c.defs.length) ∧ s 10 = .t (.int .i64 0) ∧ o 0 = colBox c ∧ 0 < q) →
    ∃ e s' o' q', run E (.code (.loop (loopAt Tryz.f230 0)) ⟨s, o, q, 64⟩) = some (.st e ⟨s', o', q', 64⟩) ∧ e = (if b then .exit 0 else .ret) ∧ s' 1 = .ptr 0 0 ∧ o' 0 = colBox c ∧ 0 < q' ∧ (b = false → s' 2 = .t (.bool false)) := by
  intro s o q hI
  refine loop_for (c := loopAt Tryz.f230 0) (N := 64)
    (fun i s o q => s 1 = .ptr 0 0 ∧ s 8 = .t (.list (c.defs.map dfnT)) ∧ s 9 = .t (.int .i64 c.defs.length) ∧ s 10 = .t (.int .i64 i) ∧ o 0 = colBox c ∧ 0 < q ∧ b = defsGo (c.defs.take i) (c.defs.drop i))
    (fun e s' o' q' => e = (if b then .exit 0 else .ret) ∧ s' 1 = .ptr 0 0 ∧ o' 0 = colBox c ∧ 0 < q' ∧ (b = false → s' 2 = .t (.bool false))) c.defs.length ?_ ?_
    c.defs.length 0 s o q (by omega) ⟨hI.1, hI.2.1, hI.2.2.1, hI.2.2.2.1, hI.2.2.2.2.1, hI.2.2.2.2.2, by simpa using hb⟩
  · rintro i s o q hi ⟨h1, h8, h9, h10, ho, hq, hp⟩
    have hq0 : q ≠ 0 := by omega
    have h0q : 0 ≠ q := by omega
    have hxi : c.defs[i]? = some c.defs[i] := List.getElem?_eq_getElem hi
    have hi' : (i : Int) < (c.defs.length : Int) := by omega
    have hw := wrap_succ (n := i) (by have := h.defs.1; omega)
    have hd := implDefOK c.defs[i] (h.defs.2 _ (List.getElem_mem hi))
    have ha := defAt c c.defs[i].name h.defs.1
    have hlt := idxP_take (fun d => d.name == c.defs[i].name) c.defs i hi (by simp)
    have htk : c.defs.take (i + 1) = c.defs.take i ++ [c.defs[i]] := by rw [List.take_add_one, hxi]; rfl
    rw [List.drop_eq_getElem_cons hi, defsGo, ← htk] at hp
    generalize hz : (c.defs.take i).any (fun d => d.name == c.defs[i].name) = z at *
    generalize hk : idxP (fun d => d.name == c.defs[i].name) c.defs = k at *
    cases hO : defOK c.defs[i] with
    | false =>
      simp [hO] at hp hd
      simp [loopAt, loopsOf, Tryz.f230, h1, h8, h9, h10, ho, hq0, h0q, hi', hxi, hw, hd, hp]
    | true =>
      cases z with
      | true =>
        have hk2 : k < (i : Int) := by rw [hlt]
        simp [hO] at hp hd
        simp [loopAt, loopsOf, Tryz.f230, h1, h8, h9, h10, ho, hq0, h0q, hi', hxi, hw, hd, hp, ha, hk2]
      | false =>
        have hk2 : ¬ k < (i : Int) := by rw [hlt]; simp
        simp [hO] at hp hd
        simp [loopAt, loopsOf, Tryz.f230, h1, h8, h9, h10, ho, hq0, h0q, hi', hxi, hw, hd, ha, hk2]
        rw [hp, htk]
  · rintro s o q ⟨h1, h8, h9, h10, ho, hq, hp⟩
    simp [defsGo] at hp
    simp [loopAt, loopsOf, Tryz.f230, h1, h8, h9, h10, ho, hp, hq]
theorem implColl_chains (c : Col) (h : c.Sm) (b : Bool) (hb : b = chainsGo none c.chains) : ∀ s o q, (s 1 = .ptr 0 0 ∧ s 28 = .t (.list (c.chains.map chnT)) ∧ s 29 = .t (.int .i64 c.chains.length) ∧ s 30 = .t (.int .i64 0) ∧ o 0 = colBox c ∧ 0 < q) →
    ∃ e s' o' q', run E (.code (.loop (loopAt Tryz.f230 1)) ⟨s, o, q, 64⟩) = some (.st e ⟨s', o', q', 64⟩) ∧ e = (if b then .exit 2 else .ret) ∧ s' 1 = .ptr 0 0 ∧ o' 0 = colBox c ∧ (b = false → s' 2 = .t (.bool false)) := by
  intro s o q hI
  have d10 := d230_10
  simp [regionOf, findR, pick, Tryz.f230] at d10
  have dd := fun st => run_region_draw E st 10 _ d10
  clear d10
  refine loop_for (c := loopAt Tryz.f230 1) (N := 64)
    (fun i s o q => s 1 = .ptr 0 0 ∧ s 28 = .t (.list (c.chains.map chnT)) ∧ s 29 = .t (.int .i64 c.chains.length) ∧ s 30 = .t (.int .i64 i) ∧ o 0 = colBox c ∧ 0 < q ∧ b = chainsGo (match i with | 0 => none | j + 1 => (c.chains[j]?).map (·.id)) (c.chains.drop i))
    (fun e s' o' q' => e = (if b then .exit 2 else .ret) ∧ s' 1 = .ptr 0 0 ∧ o' 0 = colBox c ∧ (b = false → s' 2 = .t (.bool false))) c.chains.length ?_ ?_
    c.chains.length 0 s o q (by omega) ⟨hI.1, hI.2.1, hI.2.2.1, hI.2.2.2.1, hI.2.2.2.2.1, hI.2.2.2.2.2, by simpa using hb⟩
  · rintro i s o q hi ⟨h1, h28, h29, h30, ho, hq, hp⟩
    have hq0 : q ≠ 0 := by omega
    have h0q : 0 ≠ q := by omega
    have hxi : c.chains[i]? = some c.chains[i] := List.getElem?_eq_getElem hi
    have hi' : (i : Int) < (c.chains.length : Int) := by omega
    have hw := wrap_succ (n := i) (by have := h.chains.1; omega)
    have hc := implChainOK c.chains[i] (h.chains.2 _ (List.getElem_mem hi))
    rw [List.drop_eq_getElem_cons hi] at hp
    cases i with
    | zero =>
      simp only [chainsGo] at hp
      cases hT : chainOK c.chains[0] <;> simp [hT] at hp hc <;> simp [loopAt, loopsOf, Tryz.f230, dd, h1, h28, h29, h30, ho, hq0, h0q, hi, hi', hw, hc, hp, hxi]
    | succ j =>
      have hj : j < c.chains.length := by omega
      have hxj : c.chains[j]? = some c.chains[j] := List.getElem?_eq_getElem hj
      have hpos : (0 : Int) < (j : Int) + 1 := by omega
      have hnn : (0 : Int) ≤ (j : Int) + 1 := by omega
      have hwj2 := wrap_nat (n := j) (by have := h.chains.1; omega)
      simp only [hxj, Option.map_some, chainsGo] at hp
      simp at h30 hi' hw
      by_cases hge : c.chains[j + 1].id ≤ c.chains[j].id <;> cases hT : chainOK c.chains[j + 1] <;> simp [hT, hge] at hp hc <;> simp [loopAt, loopsOf, Tryz.f230, dd, h1, h28, h29, h30, ho, hq0, h0q, hi, hi', hw, hc, hp, hxi, hxj, hj, hpos, hnn, hwj2, hge]
  · rintro s o q ⟨h1, h28, h29, h30, ho, hq, hp⟩
    simp [chainsGo] at hp
    simp [loopAt, loopsOf, Tryz.f230, h1, h28, h29, h30, ho, hp]
/-- Ids that rise are few. -/
theorem chains_few : ∀ (l : List Chn) (p : Option Int), chainsGo p l = true → (match p with
    | none => (l.length : Int) ≤ 20
    | some q => l ≠ [] → -1 ≤ q → (l.length : Int) ≤ 19 - q)
  | [], p, _ => by cases p <;> simp
  | c :: r, p, h => by
    simp only [chainsGo, Bool.and_eq_true] at h
    obtain ⟨⟨h1, h2⟩, h3⟩ := h
    have ih := chains_few r (some c.id) h3
    have hid : 0 ≤ c.id ∧ c.id ≤ 19 := by
      unfold chainOK in1 at h1
      simp at h1
      omega
    simp only at ih
    cases p with
    | none =>
      simp only
      by_cases hr : r = []
      · subst hr; simp
      · have := ih hr (by omega); simp; omega
    | some q =>
      simp at h2
      intro _ hq
      by_cases hr : r = []
      · subst hr; simp; omega
      · have := ih hr (by omega); simp; omega
theorem implCollOK (c : Col) (h : c.Sm) : run E (.call 230 [.t (colT c)]) = some (.res [xB (collOK c)] []) := by
  rw [run_call E 230 _ rfl Tryz.func230 rfl rfl rfl (by simp)]
  have h1 := isShort c.name (by have := h.name; omega)
  have h3 : ((c.defs.length : Int) ≤ 3) = (c.defs.length ≤ 3) := by simp; omega
  unfold collOK
  cases hD : defsGo [] c.defs with
  | false =>
    obtain ⟨X, A, B, C, hx⟩ := sk (implColl_defs c h false hD.symm)
    simp [loopAt, loopsOf, Tryz.f230] at hx
    simp [hx]
  | true =>
    obtain ⟨X, A, B, C, hx⟩ := sk (implColl_defs c h true hD.symm)
    simp [loopAt, loopsOf, Tryz.f230] at hx
    cases hC : chainsGo none c.chains with
    | false =>
      obtain ⟨X2, A2, B2, C2, hx2⟩ := sk (implColl_chains c h false hC.symm)
      simp [loopAt, loopsOf, Tryz.f230] at hx2
      simp [hx, hx2]
    | true =>
      obtain ⟨X2, A2, B2, C2, hx2⟩ := sk (implColl_chains c h true hC.symm)
      simp [loopAt, loopsOf, Tryz.f230] at hx2
      have hfew := chains_few c.chains none hC
      simp only at hfew
      have hfew' : c.chains.length ≤ 20 := by omega
      cases hN : nameP c.name with
      | false => rw [hN] at h1; simp [hx, hx2, h1]
      | true => rw [hN] at h1; simp [hx, hx2, h1, hfew', h3]
end Go.Yd
/- spec's CollOK. -/
set_option linter.unusedSimpArgs false
set_option linter.unusedVariables false
namespace Go.Yd
open Go.Ev Go.Proofs Go.Pu
set_option maxRecDepth 100000
set_option maxHeartbeats 16000000
theorem l01In1 (a b c : Int) : run E (.call 83 [xI a, xI b, xI c]) = some (.res [xB (in1 b c a)] []) := l01In a b c
theorem specColl_inner (c : Col) (h : c.Sm) (i : Nat) (hi : i < c.defs.length) (z : Bool) (hz : z = (c.defs.take i).any (fun d => d.name == c.defs[i].name)) : ∀ s o q, (s 1 = .ptr 0 0 ∧ s 3 = .t (.int .i64 i) ∧ s 4 = .t (.int .i64 0) ∧ o 0 = colBox c ∧ 0 < q) →
    ∃ e s' o' q', run E (.code (.loop (loopAt Tryz.f228 1)) ⟨s, o, q, 138⟩) = some (.st e ⟨s', o', q', 138⟩) ∧ e = (if z then .ret else .exit 2) ∧ s' 1 = .ptr 0 0 ∧ s' 3 = .t (.int .i64 i) ∧ o' 0 = colBox c ∧ 0 < q' ∧ (z = true → s' 2 = .t (.bool false)) := by
  intro s o q hI
  have d11 := d228_11
  simp [regionOf, findR, pick, Tryz.f228] at d11
  have dd := fun st => run_region_draw E st 11 _ d11
  clear d11
  refine loop_for (c := loopAt Tryz.f228 1) (N := 138)
    (fun j s o q => s 1 = .ptr 0 0 ∧ s 3 = .t (.int .i64 i) ∧ s 4 = .t (.int .i64 j) ∧ o 0 = colBox c ∧ 0 < q ∧ z = ((c.defs.take i).drop j).any (fun d => d.name == c.defs[i].name))
    (fun e s' o' q' => e = (if z then .ret else .exit 2) ∧ s' 1 = .ptr 0 0 ∧ s' 3 = .t (.int .i64 i) ∧ o' 0 = colBox c ∧ 0 < q' ∧ (z = true → s' 2 = .t (.bool false))) i ?_ ?_
    i 0 s o q (by omega) ⟨hI.1, hI.2.1, hI.2.2.1, hI.2.2.2.1, hI.2.2.2.2, by simpa using hz⟩
  · rintro j s o q hj ⟨h1, h3, h4, ho, hq, hp⟩
    have hjd : j < c.defs.length := by omega
    have hxi : c.defs[i]? = some c.defs[i] := List.getElem?_eq_getElem hi
    have hxj : c.defs[j]? = some c.defs[j] := List.getElem?_eq_getElem hjd
    have hi' : (i : Int) < (c.defs.length : Int) := by omega
    have hj' : (j : Int) < (c.defs.length : Int) := by omega
    have hji : (j : Int) < (i : Int) := by omega
    have hw := wrap_succ (n := j) (by have := h.defs.1; omega)
    rw [List.drop_eq_getElem_cons (by simp; omega), List.any_cons, List.getElem_take] at hp
    by_cases he : c.defs[j].name = c.defs[i].name
    · simp [he] at hp
      simp [loopAt, loopsOf, Tryz.f228, dd, h1, h3, h4, ho, hxi, hxj, hi', hj', hji, hw, he, hp, hq, -List.any_eq_true, -List.any_eq_false]
    · rw [show (c.defs[j].name == c.defs[i].name) = false from by simp [he], Bool.false_or] at hp
      simp [loopAt, loopsOf, Tryz.f228, dd, h1, h3, h4, ho, hxi, hxj, hi', hj', hji, hw, he, hq, -List.any_eq_true, -List.any_eq_false]
      exact hp
  · rintro s o q ⟨h1, h3, h4, ho, hq, hp⟩
    simp at hp
    simp [loopAt, loopsOf, Tryz.f228, h1, h3, h4, ho, hp, hq]
theorem specColl_defs (c : Col) (h : c.Sm) (b : Bool) (hb : b = defsGo [] c.defs) : ∀ s o q, (s 1 = .ptr 0 0 ∧ s 3 = .t (.int .i64 0) ∧ o 0 = colBox c ∧ 0 < q) →
    ∃ e s' o' q', run E (.code (.loop (loopAt Tryz.f228 0)) ⟨s, o, q, 138⟩) = some (.st e ⟨s', o', q', 138⟩) ∧ e = (if b then .exit 0 else .ret) ∧ s' 1 = .ptr 0 0 ∧ o' 0 = colBox c ∧ 0 < q' ∧ (b = false → s' 2 = .t (.bool false)) := by
  intro s o q hI
  refine loop_for (c := loopAt Tryz.f228 0) (N := 138)
    (fun i s o q => s 1 = .ptr 0 0 ∧ s 3 = .t (.int .i64 i) ∧ o 0 = colBox c ∧ 0 < q ∧ b = defsGo (c.defs.take i) (c.defs.drop i))
    (fun e s' o' q' => e = (if b then .exit 0 else .ret) ∧ s' 1 = .ptr 0 0 ∧ o' 0 = colBox c ∧ 0 < q' ∧ (b = false → s' 2 = .t (.bool false))) c.defs.length ?_ ?_
    c.defs.length 0 s o q (by omega) ⟨hI.1, hI.2.1, hI.2.2.1, hI.2.2.2, by simpa using hb⟩
  · rintro i s o q hi ⟨h1, h3, ho, hq, hp⟩
    have hxi : c.defs[i]? = some c.defs[i] := List.getElem?_eq_getElem hi
    have hi' : (i : Int) < (c.defs.length : Int) := by omega
    have hw := wrap_succ (n := i) (by have := h.defs.1; omega)
    have hd := specDefOK c.defs[i] (h.defs.2 _ (List.getElem_mem hi))
    have htk : c.defs.take (i + 1) = c.defs.take i ++ [c.defs[i]] := by rw [List.take_add_one, hxi]; rfl
    obtain ⟨z, hz⟩ : ∃ z, z = (c.defs.take i).any (fun d => d.name == c.defs[i].name) := ⟨_, rfl⟩
    obtain ⟨X, A, B, C, hx⟩ := sk (specColl_inner c h i hi z hz)
    simp only [loopAt, loopsOf, Tryz.f228] at hx
    rw [List.drop_eq_getElem_cons hi, defsGo, ← htk, ← hz] at hp
    clear hz
    cases hO : defOK c.defs[i] with
    | false =>
      simp [hO] at hp hd
      simp [loopAt, loopsOf, Tryz.f228, h1, h3, ho, hq, hi', hxi, hw, hd, hp]
    | true =>
      cases z with
      | true =>
        simp [hO] at hp hd hx
        simp [loopAt, loopsOf, Tryz.f228, h1, h3, ho, hq, hi', hxi, hw, hd, hp, hx]
      | false =>
        simp [hO] at hp hd hx
        simp [loopAt, loopsOf, Tryz.f228, h1, h3, ho, hq, hi', hxi, hw, hd, hx]
        exact hp
  · rintro s o q ⟨h1, h3, ho, hq, hp⟩
    simp [defsGo] at hp
    simp [loopAt, loopsOf, Tryz.f228, h1, h3, ho, hp, hq]
theorem specColl_vers (c : Col) (h : c.Sm) (m r : Nat) (x : Chn) (hx : x.Sm) (b : Bool) (hb : b = versGo (fun g v => verDoc x.id g v) none x.vs) : ∀ s o q, (s 1 = .ptr 0 0 ∧ s 5 = .t (.int .i64 m) ∧ s 6 = .ptr r 0 ∧ s 7 = .t (.int .i64 0) ∧ o 0 = colBox c ∧ o r = .box 198 [.t (.int .i64 x.id), .t (.list (x.vs.map verT))] ∧ 0 < r ∧ r < q) →
    ∃ e s' o' q', run E (.code (.loop (loopAt Tryz.f228 3)) ⟨s, o, q, 138⟩) = some (.st e ⟨s', o', q', 138⟩) ∧ e = (if b then .exit 6 else .ret) ∧ s' 1 = .ptr 0 0 ∧ s' 5 = .t (.int .i64 m) ∧ o' 0 = colBox c ∧ 0 < q' ∧ (b = false → s' 2 = .t (.bool false)) := by
  intro s o q hI
  have d23 := d228_23
  simp [regionOf, findR, pick, Tryz.f228] at d23
  have dd := fun st => run_region_draw E st 23 _ d23
  clear d23
  refine loop_for (c := loopAt Tryz.f228 3) (N := 138)
    (fun i s o q => s 1 = .ptr 0 0 ∧ s 5 = .t (.int .i64 m) ∧ s 6 = .ptr r 0 ∧ s 7 = .t (.int .i64 i) ∧ o 0 = colBox c ∧ o r = .box 198 [.t (.int .i64 x.id), .t (.list (x.vs.map verT))] ∧ 0 < r ∧ r < q ∧ b = versGo (fun g v => verDoc x.id g v) (match i with | 0 => none | j + 1 => (x.vs[j]?).map (·.at_)) (x.vs.drop i))
    (fun e s' o' q' => e = (if b then .exit 6 else .ret) ∧ s' 1 = .ptr 0 0 ∧ s' 5 = .t (.int .i64 m) ∧ o' 0 = colBox c ∧ 0 < q' ∧ (b = false → s' 2 = .t (.bool false))) x.vs.length ?_ ?_
    x.vs.length 0 s o q (by omega) ⟨hI.1, hI.2.1, hI.2.2.1, hI.2.2.2.1, hI.2.2.2.2.1, hI.2.2.2.2.2.1, hI.2.2.2.2.2.2.1, hI.2.2.2.2.2.2.2, by simpa using hb⟩
  · rintro i s o q hi ⟨h1, h5, h6, h7, ho, hr, hr0, hrq, hp⟩
    have hq0 : q ≠ 0 := by omega
    have h0q : 0 ≠ q := by omega
    have hqr : q ≠ r := by omega
    have hrq' : r ≠ q := by omega
    have hrq1 : r < q + 1 := by omega
    have hxi : x.vs[i]? = some x.vs[i] := List.getElem?_eq_getElem hi
    have hi' : (i : Int) < (x.vs.length : Int) := by omega
    have hw := wrap_succ (n := i) (by have := hx.1; omega)
    have ht := l01In1 x.vs[i].at_ 1 10000
    have hdoc := specDocOK x.id x.vs[i].gone x.vs[i].v (hx.2 _ (List.getElem_mem hi))
    rw [List.drop_eq_getElem_cons hi] at hp
    cases i with
    | zero =>
      simp only [versGo] at hp
      cases hT : in1 1 10000 x.vs[0].at_ <;> cases hD : verDoc x.id x.vs[0].gone x.vs[0].v <;> simp [hT, hD] at hp ht hdoc <;> simp [loopAt, loopsOf, Tryz.f228, dd, h1, h5, h6, h7, ho, hr, hq0, h0q, hqr, hrq', hrq1, hr0, hi, hi', hw, ht, hdoc, hp, hxi]
    | succ j =>
      have hj : j < x.vs.length := by omega
      have hxj : x.vs[j]? = some x.vs[j] := List.getElem?_eq_getElem hj
      have hpos : (0 : Int) < (j : Int) + 1 := by omega
      have hnn : (0 : Int) ≤ (j : Int) + 1 := by omega
      have hwj2 := wrap_nat (n := j) (by have := hx.1; omega)
      simp only [hxj, Option.map_some, versGo] at hp
      simp at h7 hi' hw
      by_cases hge : x.vs[j + 1].at_ ≤ x.vs[j].at_ <;> cases hT : in1 1 10000 x.vs[j + 1].at_ <;> cases hD : verDoc x.id x.vs[j + 1].gone x.vs[j + 1].v <;> simp [hT, hD, hge] at hp ht hdoc <;> simp [loopAt, loopsOf, Tryz.f228, dd, h1, h5, h6, h7, ho, hr, hq0, h0q, hqr, hrq', hrq1, hr0, hi, hi', hw, ht, hdoc, hp, hxi, hxj, hj, hpos, hnn, hwj2, hge]
  · rintro s o q ⟨h1, h5, h6, h7, ho, hr, hr0, hrq, hp⟩
    have hq : 0 < q := by omega
    simp [versGo] at hp
    simp [loopAt, loopsOf, Tryz.f228, h1, h5, h6, h7, ho, hr, hp, hq]
end Go.Yd
/- The laws' own functions over lists of versions, chains and definitions. -/
set_option linter.unusedSimpArgs false
set_option linter.unusedVariables false
namespace Go.Yd
open Go.Ev Go.Proofs Go.Pu
set_option maxRecDepth 100000
set_option maxHeartbeats 16000000
theorem sz_208 (xs : List Ver) (f : Ver → Int → Int) (hl : xs.length < 9223372036854775807) (hf : ∀ x ∈ xs, ∀ l, 0 ≤ l → l ≤ 1048576 → run E (.call 400 [.t (verT x), xI l]) = some (.res [xI (f x l)] [])) (hle : ∀ x ∈ xs, ∀ k, 0 ≤ k → f x k ≤ k) (l : Int) (h0 : 0 ≤ l) (hm : l ≤ 1048576) :
    run E (.call 384 [.t (.list (xs.map verT)), xI l]) = some (.res [xI (lstSz f xs l)] []) := by
  rw [run_call E 384 _ rfl Tryz.func384 rfl rfl rfl (by simp)]
  have hw : IntKind.i64.wrap (l - (xs.length : Int)) = l - xs.length := wrap_of (by omega) (by omega)
  unfold lstSz szB
  by_cases hb : l - (xs.length : Int) < 0
  · simp [hw, hb]
  · have hb0 : ¬ l < (xs.length : Int) := by omega
    have lp := fun (r : Int) (hr : r = goSz f xs (l - xs.length)) => sk (fun s o q hI => loop_for (c := loopAt Tryz.f384 0) (N := 27)
      (fun i s o q => ∃ k : Int, s 0 = .t (.list (xs.map verT)) ∧ s 1 = .t (.int .i64 k) ∧ s 5 = .t (.int .i64 i) ∧ 0 ≤ k ∧ k ≤ 1048576 ∧ r = goSz f (xs.drop i) k)
      (fun e s' o' q' => e = (if r < 0 then .ret else .exit 0) ∧ (r < 0 → s' 4 = .t (.int .i64 r)) ∧ (0 ≤ r → s' 1 = .t (.int .i64 r))) xs.length
      (by
        rintro i s o q hi ⟨k, g0, g1, g5, hk0, hkm, hp⟩
        have hi' : (i : Int) < (xs.length : Int) := by omega
        have hwi := wrap_succ (n := i) (by omega)
        have hxi : xs[i]? = some xs[i] := List.getElem?_eq_getElem hi
        have hx := hf _ (List.getElem_mem hi) k hk0 hkm
        have hxl := hle _ (List.getElem_mem hi) k hk0
        rw [List.drop_eq_getElem_cons hi, goSz] at hp
        by_cases hn : f xs[i] k < 0
        · simp [hn] at hp
          simp [loopAt, loopsOf, Tryz.f384, g0, g1, g5, hi', hxi, hwi, hx, hn, hp]
        · simp [hn] at hp
          simp [loopAt, loopsOf, Tryz.f384, g0, g1, g5, hi', hxi, hwi, hx, hn]
          exact ⟨by omega, by omega, hp⟩)
      (by
        rintro s o q ⟨k, g0, g1, g5, hk0, hkm, hp⟩
        simp [goSz] at hp
        have hn : ¬ r < 0 := by omega
        have hn' : 0 ≤ r := by omega
        have hk1 : ¬ k < 0 := by omega
        simp [loopAt, loopsOf, Tryz.f384, g0, g1, g5, hp, hk1]
        try omega)
      xs.length 0 s o q (by omega) hI)
    simp only [loopAt, loopsOf, Tryz.f384] at lp
    obtain ⟨r, hr⟩ : ∃ r, r = goSz f xs (l - xs.length) := ⟨_, rfl⟩
    obtain ⟨X, A, B, C, hx⟩ := lp r hr
    have hx' := fun s o q a0 a1 a5 => hx s o q ⟨l - xs.length, a0, a1, a5, by omega, by omega, by simpa using hr⟩
    clear hx
    by_cases hn : r < 0
    · have hn' : ¬ 0 ≤ r := by omega
      simp [hn, hn'] at hx'
      simp [hw, hb, hb0, hx', hn, ← hr]
    · have hn' : 0 ≤ r := by omega
      simp [hn, hn'] at hx'
      simp [hw, hb, hb0, hx', hn, ← hr]
theorem sz_87 (xs : List Chn) (f : Chn → Int → Int) (hl : xs.length < 9223372036854775807) (hf : ∀ x ∈ xs, ∀ l, 0 ≤ l → l ≤ 1048576 → run E (.call 364 [.t (chnT x), xI l]) = some (.res [xI (f x l)] [])) (hle : ∀ x ∈ xs, ∀ k, 0 ≤ k → f x k ≤ k) (l : Int) (h0 : 0 ≤ l) (hm : l ≤ 1048576) :
    run E (.call 309 [.t (.list (xs.map chnT)), xI l]) = some (.res [xI (lstSz f xs l)] []) := by
  rw [run_call E 309 _ rfl Tryz.func309 rfl rfl rfl (by simp)]
  have hw : IntKind.i64.wrap (l - (xs.length : Int)) = l - xs.length := wrap_of (by omega) (by omega)
  unfold lstSz szB
  by_cases hb : l - (xs.length : Int) < 0
  · simp [hw, hb]
  · have hb0 : ¬ l < (xs.length : Int) := by omega
    have lp := fun (r : Int) (hr : r = goSz f xs (l - xs.length)) => sk (fun s o q hI => loop_for (c := loopAt Tryz.f309 0) (N := 27)
      (fun i s o q => ∃ k : Int, s 0 = .t (.list (xs.map chnT)) ∧ s 1 = .t (.int .i64 k) ∧ s 5 = .t (.int .i64 i) ∧ 0 ≤ k ∧ k ≤ 1048576 ∧ r = goSz f (xs.drop i) k)
      (fun e s' o' q' => e = (if r < 0 then .ret else .exit 0) ∧ (r < 0 → s' 4 = .t (.int .i64 r)) ∧ (0 ≤ r → s' 1 = .t (.int .i64 r))) xs.length
      (by
        rintro i s o q hi ⟨k, g0, g1, g5, hk0, hkm, hp⟩
        have hi' : (i : Int) < (xs.length : Int) := by omega
        have hwi := wrap_succ (n := i) (by omega)
        have hxi : xs[i]? = some xs[i] := List.getElem?_eq_getElem hi
        have hx := hf _ (List.getElem_mem hi) k hk0 hkm
        have hxl := hle _ (List.getElem_mem hi) k hk0
        rw [List.drop_eq_getElem_cons hi, goSz] at hp
        by_cases hn : f xs[i] k < 0
        · simp [hn] at hp
          simp [loopAt, loopsOf, Tryz.f309, g0, g1, g5, hi', hxi, hwi, hx, hn, hp]
        · simp [hn] at hp
          simp [loopAt, loopsOf, Tryz.f309, g0, g1, g5, hi', hxi, hwi, hx, hn]
          exact ⟨by omega, by omega, hp⟩)
      (by
        rintro s o q ⟨k, g0, g1, g5, hk0, hkm, hp⟩
        simp [goSz] at hp
        have hn : ¬ r < 0 := by omega
        have hn' : 0 ≤ r := by omega
        have hk1 : ¬ k < 0 := by omega
        simp [loopAt, loopsOf, Tryz.f309, g0, g1, g5, hp, hk1]
        try omega)
      xs.length 0 s o q (by omega) hI)
    simp only [loopAt, loopsOf, Tryz.f309] at lp
    obtain ⟨r, hr⟩ : ∃ r, r = goSz f xs (l - xs.length) := ⟨_, rfl⟩
    obtain ⟨X, A, B, C, hx⟩ := lp r hr
    have hx' := fun s o q a0 a1 a5 => hx s o q ⟨l - xs.length, a0, a1, a5, by omega, by omega, by simpa using hr⟩
    clear hx
    by_cases hn : r < 0
    · have hn' : ¬ 0 ≤ r := by omega
      simp [hn, hn'] at hx'
      simp [hw, hb, hb0, hx', hn, ← hr]
    · have hn' : 0 ≤ r := by omega
      simp [hn, hn'] at hx'
      simp [hw, hb, hb0, hx', hn, ← hr]
theorem sz_88 (xs : List Dfn) (f : Dfn → Int → Int) (hl : xs.length < 9223372036854775807) (hf : ∀ x ∈ xs, ∀ l, 0 ≤ l → l ≤ 1048576 → run E (.call 107 [.t (dfnT x), xI l]) = some (.res [xI (f x l)] [])) (hle : ∀ x ∈ xs, ∀ k, 0 ≤ k → f x k ≤ k) (l : Int) (h0 : 0 ≤ l) (hm : l ≤ 1048576) :
    run E (.call 310 [.t (.list (xs.map dfnT)), xI l]) = some (.res [xI (lstSz f xs l)] []) := by
  rw [run_call E 310 _ rfl Tryz.func310 rfl rfl rfl (by simp)]
  have hw : IntKind.i64.wrap (l - (xs.length : Int)) = l - xs.length := wrap_of (by omega) (by omega)
  unfold lstSz szB
  by_cases hb : l - (xs.length : Int) < 0
  · simp [hw, hb]
  · have hb0 : ¬ l < (xs.length : Int) := by omega
    have lp := fun (r : Int) (hr : r = goSz f xs (l - xs.length)) => sk (fun s o q hI => loop_for (c := loopAt Tryz.f310 0) (N := 27)
      (fun i s o q => ∃ k : Int, s 0 = .t (.list (xs.map dfnT)) ∧ s 1 = .t (.int .i64 k) ∧ s 5 = .t (.int .i64 i) ∧ 0 ≤ k ∧ k ≤ 1048576 ∧ r = goSz f (xs.drop i) k)
      (fun e s' o' q' => e = (if r < 0 then .ret else .exit 0) ∧ (r < 0 → s' 4 = .t (.int .i64 r)) ∧ (0 ≤ r → s' 1 = .t (.int .i64 r))) xs.length
      (by
        rintro i s o q hi ⟨k, g0, g1, g5, hk0, hkm, hp⟩
        have hi' : (i : Int) < (xs.length : Int) := by omega
        have hwi := wrap_succ (n := i) (by omega)
        have hxi : xs[i]? = some xs[i] := List.getElem?_eq_getElem hi
        have hx := hf _ (List.getElem_mem hi) k hk0 hkm
        have hxl := hle _ (List.getElem_mem hi) k hk0
        rw [List.drop_eq_getElem_cons hi, goSz] at hp
        by_cases hn : f xs[i] k < 0
        · simp [hn] at hp
          simp [loopAt, loopsOf, Tryz.f310, g0, g1, g5, hi', hxi, hwi, hx, hn, hp]
        · simp [hn] at hp
          simp [loopAt, loopsOf, Tryz.f310, g0, g1, g5, hi', hxi, hwi, hx, hn]
          exact ⟨by omega, by omega, hp⟩)
      (by
        rintro s o q ⟨k, g0, g1, g5, hk0, hkm, hp⟩
        simp [goSz] at hp
        have hn : ¬ r < 0 := by omega
        have hn' : 0 ≤ r := by omega
        have hk1 : ¬ k < 0 := by omega
        simp [loopAt, loopsOf, Tryz.f310, g0, g1, g5, hp, hk1]
        try omega)
      xs.length 0 s o q (by omega) hI)
    simp only [loopAt, loopsOf, Tryz.f310] at lp
    obtain ⟨r, hr⟩ : ∃ r, r = goSz f xs (l - xs.length) := ⟨_, rfl⟩
    obtain ⟨X, A, B, C, hx⟩ := lp r hr
    have hx' := fun s o q a0 a1 a5 => hx s o q ⟨l - xs.length, a0, a1, a5, by omega, by omega, by simpa using hr⟩
    clear hx
    by_cases hn : r < 0
    · have hn' : ¬ 0 ≤ r := by omega
      simp [hn, hn'] at hx'
      simp [hw, hb, hb0, hx', hn, ← hr]
    · have hn' : 0 ≤ r := by omega
      simp [hn, hn'] at hx'
      simp [hw, hb, hb0, hx', hn, ← hr]
theorem to_210 (xs : List Ver) (hl : xs.length < 4294967296) (hf : ∀ x ∈ xs, run E (.call 401 [.t (verT x)]) = some (.res [verX x] [])) :
    run E (.call 385 [.t (.list (xs.map verT))]) = some (.res [.row 200 (xs.map verT)] []) := by
  rw [run_call E 385 _ rfl Tryz.func385 rfl rfl rfl (by simp)]
  have lp := sk (fun s o q hI => loop_for (c := loopAt Tryz.f385 0) (N := 23)
    (fun i s o q => s 0 = .t (.list (xs.map verT)) ∧ s 3 = .row 0 ∧ s 4 = .t (.int .i64 i) ∧ 0 < q ∧ o 0 = .row 200 ((xs.map verT).take i ++ List.replicate (xs.length - i) (.agg [.int .i64 0, .bool false, .int .i64 0, .int .i64 0, .str []])) true)
    (fun e s' o' q' => e = .exit 0 ∧ s' 3 = .row 0 ∧ o' 0 = .row 200 (xs.map verT) true) xs.length
    (by
      rintro i s o q hi ⟨g0, g3, g4, hq, ho⟩
      have hi' : (i : Int) < (xs.length : Int) := by omega
      have hwi := wrap_succ (n := i) (by omega)
      have hxi : xs[i]? = some xs[i] := List.getElem?_eq_getElem hi
      have hx := hf _ (List.getElem_mem hi)
      have hq0 : q ≠ 0 := by omega
      have h0q : 0 ≠ q := by omega
      have hget := mid_get (xs.map verT) (.agg [.int .i64 0, .bool false, .int .i64 0, .int .i64 0, .str []]) i xs.length hi (by simp; omega)
      have hset := mid_set (xs.map verT) (.agg [.int .i64 0, .bool false, .int .i64 0, .int .i64 0, .str []]) (verT xs[i]) i xs.length hi (by simp [hxi])
      simp [loopAt, loopsOf, Tryz.f385, g0, g3, g4, hi', hxi, hwi, hx, ho, hget, hset, hq0, h0q]
      try omega)
    (by
      rintro s o q ⟨g0, g3, g4, hq, ho⟩
      have hfull : (xs.map verT).take xs.length = xs.map verT := List.take_of_length_le (by simp)
      simp [hfull] at ho
      simp [loopAt, loopsOf, Tryz.f385, g0, g3, g4, ho])
    xs.length 0 s o q (by omega) hI)
  simp only [loopAt, loopsOf, Tryz.f385] at lp
  obtain ⟨X, A, B, C, hx⟩ := lp
  simp at hx
  have h1 : xs.length ≤ 140737488355328 := by omega
  have h2 : xs.length * 48 ≤ 140737488355328 := by omega
  simp [h1, h2, hx]
theorem to_91 (xs : List Chn) (hl : xs.length < 4294967296) (hf : ∀ x ∈ xs, run E (.call 365 [.t (chnT x)]) = some (.res [.agg [.t (.int .i64 x.id), .row 200 (x.vs.map verT)]] [])) :
    run E (.call 311 [.t (.list (xs.map chnT))]) = some (.res [.row 198 (xs.map chnT)] []) := by
  rw [run_call E 311 _ rfl Tryz.func311 rfl rfl rfl (by simp)]
  have lp := sk (fun s o q hI => loop_for (c := loopAt Tryz.f311 0) (N := 23)
    (fun i s o q => s 0 = .t (.list (xs.map chnT)) ∧ s 3 = .row 0 ∧ s 4 = .t (.int .i64 i) ∧ 0 < q ∧ o 0 = .row 198 ((xs.map chnT).take i ++ List.replicate (xs.length - i) (.agg [.int .i64 0, .list []])) true)
    (fun e s' o' q' => e = .exit 0 ∧ s' 3 = .row 0 ∧ o' 0 = .row 198 (xs.map chnT) true) xs.length
    (by
      rintro i s o q hi ⟨g0, g3, g4, hq, ho⟩
      have hi' : (i : Int) < (xs.length : Int) := by omega
      have hwi := wrap_succ (n := i) (by omega)
      have hxi : xs[i]? = some xs[i] := List.getElem?_eq_getElem hi
      have hx := hf _ (List.getElem_mem hi)
      have hq0 : q ≠ 0 := by omega
      have h0q : 0 ≠ q := by omega
      have hget := mid_get (xs.map chnT) (.agg [.int .i64 0, .list []]) i xs.length hi (by simp; omega)
      have hset := mid_set (xs.map chnT) (.agg [.int .i64 0, .list []]) (chnT xs[i]) i xs.length hi (by simp [hxi])
      simp [loopAt, loopsOf, Tryz.f311, g0, g3, g4, hi', hxi, hwi, hx, ho, hget, hset, hq0, h0q]
      try omega)
    (by
      rintro s o q ⟨g0, g3, g4, hq, ho⟩
      have hfull : (xs.map chnT).take xs.length = xs.map chnT := List.take_of_length_le (by simp)
      simp [hfull] at ho
      simp [loopAt, loopsOf, Tryz.f311, g0, g3, g4, ho])
    xs.length 0 s o q (by omega) hI)
  simp only [loopAt, loopsOf, Tryz.f311] at lp
  obtain ⟨X, A, B, C, hx⟩ := lp
  simp at hx
  have h1 : xs.length ≤ 140737488355328 := by omega
  have h2 : xs.length * 32 ≤ 140737488355328 := by omega
  simp [h1, h2, hx]
theorem to_92 (xs : List Dfn) (hl : xs.length < 4294967296) (hf : ∀ x ∈ xs, run E (.call 114 [.t (dfnT x)]) = some (.res [.agg [.t (.str x.name), .row 133 (x.parts.map prtT)]] [])) :
    run E (.call 312 [.t (.list (xs.map dfnT))]) = some (.res [.row 79 (xs.map dfnT)] []) := by
  rw [run_call E 312 _ rfl Tryz.func312 rfl rfl rfl (by simp)]
  have lp := sk (fun s o q hI => loop_for (c := loopAt Tryz.f312 0) (N := 23)
    (fun i s o q => s 0 = .t (.list (xs.map dfnT)) ∧ s 3 = .row 0 ∧ s 4 = .t (.int .i64 i) ∧ 0 < q ∧ o 0 = .row 79 ((xs.map dfnT).take i ++ List.replicate (xs.length - i) (.agg [.str [], .list []])) true)
    (fun e s' o' q' => e = .exit 0 ∧ s' 3 = .row 0 ∧ o' 0 = .row 79 (xs.map dfnT) true) xs.length
    (by
      rintro i s o q hi ⟨g0, g3, g4, hq, ho⟩
      have hi' : (i : Int) < (xs.length : Int) := by omega
      have hwi := wrap_succ (n := i) (by omega)
      have hxi : xs[i]? = some xs[i] := List.getElem?_eq_getElem hi
      have hx := hf _ (List.getElem_mem hi)
      have hq0 : q ≠ 0 := by omega
      have h0q : 0 ≠ q := by omega
      have hget := mid_get (xs.map dfnT) (.agg [.str [], .list []]) i xs.length hi (by simp; omega)
      have hset := mid_set (xs.map dfnT) (.agg [.str [], .list []]) (dfnT xs[i]) i xs.length hi (by simp [hxi])
      simp [loopAt, loopsOf, Tryz.f312, g0, g3, g4, hi', hxi, hwi, hx, ho, hget, hset, hq0, h0q]
      try omega)
    (by
      rintro s o q ⟨g0, g3, g4, hq, ho⟩
      have hfull : (xs.map dfnT).take xs.length = xs.map dfnT := List.take_of_length_le (by simp)
      simp [hfull] at ho
      simp [loopAt, loopsOf, Tryz.f312, g0, g3, g4, ho])
    xs.length 0 s o q (by omega) hI)
  simp only [loopAt, loopsOf, Tryz.f312] at lp
  obtain ⟨X, A, B, C, hx⟩ := lp
  simp at hx
  have h1 : xs.length ≤ 140737488355328 := by omega
  have h2 : xs.length * 40 ≤ 140737488355328 := by omega
  simp [h1, h2, hx]
theorem eq_212 (xs : List Ver) (hl : xs.length < 9223372036854775807) (hf : ∀ x ∈ xs, run E (.call 402 [.t (verT x), .t (verT x)]) = some (.res [xB true] [])) :
    run E (.call 386 [.t (.list (xs.map verT)), .t (.list (xs.map verT))]) = some (.res [xB true] []) := by
  rw [run_call E 386 _ rfl Tryz.func386 rfl rfl rfl (by simp)]
  have d6 := d386_6
  simp [regionOf, findR, pick, Tryz.f386] at d6
  have dd := fun st => run_region_draw E st 6 _ d6
  clear d6
  have lp := sk (fun s o q hI => loop_for (c := loopAt Tryz.f386 0) (N := 27)
    (fun i s o q => s 0 = .t (.list (xs.map verT)) ∧ s 1 = .t (.list (xs.map verT)) ∧ s 5 = .t (.int .i64 i))
    (fun e s' o' q' => e = .exit 0) xs.length
    (by
      rintro i s o q hi ⟨g0, g1, g5⟩
      have hi' : (i : Int) < (xs.length : Int) := by omega
      have hwi := wrap_succ (n := i) (by omega)
      have hxi : xs[i]? = some xs[i] := List.getElem?_eq_getElem hi
      have hx := hf _ (List.getElem_mem hi)
      simp [loopAt, loopsOf, Tryz.f386, dd, g0, g1, g5, hi', hxi, hwi, hx])
    (by
      rintro s o q ⟨g0, g1, g5⟩
      simp [loopAt, loopsOf, Tryz.f386, g0, g1, g5])
    xs.length 0 s o q (by omega) hI)
  simp only [loopAt, loopsOf, Tryz.f386] at lp
  obtain ⟨X, A, B, C, hx⟩ := lp
  simp at hx
  simp [hx]
theorem eq_96 (xs : List Chn) (hl : xs.length < 9223372036854775807) (hf : ∀ x ∈ xs, run E (.call 368 [.t (chnT x), .t (chnT x)]) = some (.res [xB true] [])) :
    run E (.call 318 [.t (.list (xs.map chnT)), .t (.list (xs.map chnT))]) = some (.res [xB true] []) := by
  rw [run_call E 318 _ rfl Tryz.func318 rfl rfl rfl (by simp)]
  have d6 := d318_6
  simp [regionOf, findR, pick, Tryz.f318] at d6
  have dd := fun st => run_region_draw E st 6 _ d6
  clear d6
  have lp := sk (fun s o q hI => loop_for (c := loopAt Tryz.f318 0) (N := 27)
    (fun i s o q => s 0 = .t (.list (xs.map chnT)) ∧ s 1 = .t (.list (xs.map chnT)) ∧ s 5 = .t (.int .i64 i))
    (fun e s' o' q' => e = .exit 0) xs.length
    (by
      rintro i s o q hi ⟨g0, g1, g5⟩
      have hi' : (i : Int) < (xs.length : Int) := by omega
      have hwi := wrap_succ (n := i) (by omega)
      have hxi : xs[i]? = some xs[i] := List.getElem?_eq_getElem hi
      have hx := hf _ (List.getElem_mem hi)
      simp [loopAt, loopsOf, Tryz.f318, dd, g0, g1, g5, hi', hxi, hwi, hx])
    (by
      rintro s o q ⟨g0, g1, g5⟩
      simp [loopAt, loopsOf, Tryz.f318, g0, g1, g5])
    xs.length 0 s o q (by omega) hI)
  simp only [loopAt, loopsOf, Tryz.f318] at lp
  obtain ⟨X, A, B, C, hx⟩ := lp
  simp at hx
  simp [hx]
theorem eq_97 (xs : List Dfn) (hl : xs.length < 9223372036854775807) (hf : ∀ x ∈ xs, run E (.call 122 [.t (dfnT x), .t (dfnT x)]) = some (.res [xB true] [])) :
    run E (.call 319 [.t (.list (xs.map dfnT)), .t (.list (xs.map dfnT))]) = some (.res [xB true] []) := by
  rw [run_call E 319 _ rfl Tryz.func319 rfl rfl rfl (by simp)]
  have d6 := d319_6
  simp [regionOf, findR, pick, Tryz.f319] at d6
  have dd := fun st => run_region_draw E st 6 _ d6
  clear d6
  have lp := sk (fun s o q hI => loop_for (c := loopAt Tryz.f319 0) (N := 27)
    (fun i s o q => s 0 = .t (.list (xs.map dfnT)) ∧ s 1 = .t (.list (xs.map dfnT)) ∧ s 5 = .t (.int .i64 i))
    (fun e s' o' q' => e = .exit 0) xs.length
    (by
      rintro i s o q hi ⟨g0, g1, g5⟩
      have hi' : (i : Int) < (xs.length : Int) := by omega
      have hwi := wrap_succ (n := i) (by omega)
      have hxi : xs[i]? = some xs[i] := List.getElem?_eq_getElem hi
      have hx := hf _ (List.getElem_mem hi)
      simp [loopAt, loopsOf, Tryz.f319, dd, g0, g1, g5, hi', hxi, hwi, hx])
    (by
      rintro s o q ⟨g0, g1, g5⟩
      simp [loopAt, loopsOf, Tryz.f319, g0, g1, g5])
    xs.length 0 s o q (by omega) hI)
  simp only [loopAt, loopsOf, Tryz.f319] at lp
  obtain ⟨X, A, B, C, hx⟩ := lp
  simp at hx
  simp [hx]
end Go.Yd
/- spec's CollOK: the chains, and the whole. -/
set_option linter.unusedSimpArgs false
set_option linter.unusedVariables false
namespace Go.Yd
open Go.Ev Go.Proofs Go.Pu
set_option maxRecDepth 100000
set_option maxHeartbeats 16000000
/-- spec's CollOK: the chains. -/
theorem specColl_chains (c : Col) (h : c.Sm) (b : Bool) (hb : b = chainsGo none c.chains) : ∀ s o q, (s 1 = .ptr 0 0 ∧ s 5 = .t (.int .i64 0) ∧ o 0 = colBox c ∧ 0 < q) →
    ∃ e s' o' q', run E (.code (.loop (loopAt Tryz.f228 2)) ⟨s, o, q, 138⟩) = some (.st e ⟨s', o', q', 138⟩) ∧ e = (if b then .exit 4 else .ret) ∧ s' 1 = .ptr 0 0 ∧ o' 0 = colBox c ∧ (b = false → s' 2 = .t (.bool false)) := by
  intro s o q hI
  have d17 := d228_17
  simp [regionOf, findR, pick, Tryz.f228] at d17
  have dd := fun st => run_region_draw E st 17 _ d17
  clear d17
  refine loop_for (c := loopAt Tryz.f228 2) (N := 138)
    (fun i s o q => s 1 = .ptr 0 0 ∧ s 5 = .t (.int .i64 i) ∧ o 0 = colBox c ∧ 0 < q ∧ b = chainsGo (match i with | 0 => none | j + 1 => (c.chains[j]?).map (·.id)) (c.chains.drop i))
    (fun e s' o' q' => e = (if b then .exit 4 else .ret) ∧ s' 1 = .ptr 0 0 ∧ o' 0 = colBox c ∧ (b = false → s' 2 = .t (.bool false))) c.chains.length ?_ ?_
    c.chains.length 0 s o q (by omega) ⟨hI.1, hI.2.1, hI.2.2.1, hI.2.2.2, by simpa using hb⟩
  · rintro i s o q hi ⟨h1, h5, ho, hq, hp⟩
    have hq0 : q ≠ 0 := by omega
    have h0q : 0 ≠ q := by omega
    have hxi : c.chains[i]? = some c.chains[i] := List.getElem?_eq_getElem hi
    have hi' : (i : Int) < (c.chains.length : Int) := by omega
    have hw := wrap_succ (n := i) (by have := h.chains.1; omega)
    have hid := l01In1 c.chains[i].id 0 19
    have hlen := l01In1 (c.chains[i].vs.length : Int) 1 12
    obtain ⟨z, hz⟩ : ∃ z, z = versGo (fun g v => verDoc c.chains[i].id g v) none c.chains[i].vs := ⟨_, rfl⟩
    obtain ⟨X, A, B, C, hx⟩ := sk (specColl_vers c h i q c.chains[i] (h.chains.2 _ (List.getElem_mem hi)) z hz)
    simp only [loopAt, loopsOf, Tryz.f228] at hx
    have hok : chainOK c.chains[i] = (in1 0 19 c.chains[i].id && in1 1 12 c.chains[i].vs.length && z) := by rw [hz]; rfl
    clear hz
    rw [List.drop_eq_getElem_cons hi] at hp
    cases i with
    | zero =>
      simp only [chainsGo, hok] at hp
      cases hT : in1 0 19 c.chains[0].id <;> cases hL : in1 1 12 (c.chains[0].vs.length : Int) <;> cases z <;> simp [hT, hL] at hp hid hlen hx <;> simp [loopAt, loopsOf, Tryz.f228, dd, h1, h5, ho, hq, hq0, h0q, hi, hi', hw, hid, hlen, hp, hxi, hx]
    | succ j =>
      have hj : j < c.chains.length := by omega
      have hxj : c.chains[j]? = some c.chains[j] := List.getElem?_eq_getElem hj
      have hpos : (0 : Int) < (j : Int) + 1 := by omega
      have hnn : (0 : Int) ≤ (j : Int) + 1 := by omega
      have hwj2 := wrap_nat (n := j) (by have := h.chains.1; omega)
      simp only [hxj, Option.map_some, chainsGo, hok] at hp
      simp at h5 hi' hw
      by_cases hge : c.chains[j + 1].id ≤ c.chains[j].id <;> cases hT : in1 0 19 c.chains[j + 1].id <;> cases hL : in1 1 12 (c.chains[j + 1].vs.length : Int) <;> cases z <;> simp [hT, hL, hge] at hp hid hlen hx <;> simp [loopAt, loopsOf, Tryz.f228, dd, h1, h5, ho, hq, hq0, h0q, hi, hi', hw, hid, hlen, hp, hxi, hxj, hj, hpos, hnn, hwj2, hge, hx]
  · rintro s o q ⟨h1, h5, ho, hq, hp⟩
    simp [chainsGo] at hp
    simp [loopAt, loopsOf, Tryz.f228, h1, h5, ho, hp]
theorem specCollOK (c : Col) (h : c.Sm) : run E (.call 228 [.t (colT c)]) = some (.res [xB (collOK c)] []) := by
  rw [run_call E 228 _ rfl Tryz.func228 rfl rfl rfl (by simp)]
  have h1 := l01Name c.name (by have := h.name; omega)
  have h3 : (3 < (c.defs.length : Int)) = ¬ (c.defs.length ≤ 3) := by simp; omega
  have h2 : (20 < (c.chains.length : Int)) = ¬ (c.chains.length ≤ 20) := by simp; omega
  unfold collOK
  cases hN : nameP c.name with
  | false => rw [hN] at h1; simp [h1]
  | true =>
    rw [hN] at h1
    by_cases n2 : c.chains.length ≤ 20
    · by_cases n3 : c.defs.length ≤ 3
      · cases hD : defsGo [] c.defs with
        | false =>
          obtain ⟨X, A, B, C, hx⟩ := sk (specColl_defs c h false hD.symm)
          simp [loopAt, loopsOf, Tryz.f228] at hx
          simp [h1, h2, h3, n2, n3, hx]
        | true =>
          obtain ⟨X, A, B, C, hx⟩ := sk (specColl_defs c h true hD.symm)
          simp [loopAt, loopsOf, Tryz.f228] at hx
          cases hC : chainsGo none c.chains with
          | false =>
            obtain ⟨X2, A2, B2, C2, hx2⟩ := sk (specColl_chains c h false hC.symm)
            simp [loopAt, loopsOf, Tryz.f228] at hx2
            simp [h1, h2, h3, n2, n3, hx, hx2]
          | true =>
            obtain ⟨X2, A2, B2, C2, hx2⟩ := sk (specColl_chains c h true hC.symm)
            simp [loopAt, loopsOf, Tryz.f228] at hx2
            simp [h1, h2, h3, n2, n3, hx, hx2]
      · simp [h1, h2, h3, n2, n3]
    · simp [h1, h2, h3, n2]
end Go.Yd
/- The last version of a document, by spec and by impl. -/
set_option linter.unusedSimpArgs false
set_option linter.unusedVariables false
namespace Go.Yd
open Go.Ev Go.Proofs Go.Pu
set_option maxRecDepth 100000
set_option maxHeartbeats 16000000
abbrev zeroV : Ver := ⟨0, false, ⟨0, 0, []⟩⟩
abbrev goneV : Ver := ⟨0, true, ⟨0, 0, []⟩⟩
abbrev verBox (d : Ver) : Ob := .box 200 [.t (.int .i64 d.at_), .t (.bool d.gone), .t (.int .i64 d.v.k), .t (.int .i64 d.v.n), .t (.str d.v.t)]
abbrev chnBox (x : Chn) : Ob := .box 198 [.t (.int .i64 x.id), .t (.list (x.vs.map verT))]
def lastLe (t : Int) : Ver → List Ver → Ver
  | d, [] => d
  | d, x :: r => lastLe t (if x.at_ ≤ t then x else d) r
def findC (cs : List Chn) (id : Int) : Option Chn := cs.find? (fun x => x.id == id)
end Go.Yd
/- impl's search by halves over chains. -/
set_option linter.unusedSimpArgs false
set_option linter.unusedVariables false
namespace Go.Yd
open Go.Ev Go.Proofs Go.Pu
set_option maxRecDepth 100000
set_option maxHeartbeats 16000000
def cmpI (a b : Int) : Int := if a < b then -1 else if b < a then 1 else 0
theorem cmpI_lt (a b : Int) : (cmpI a b < 0) = (a < b) := by
  unfold cmpI
  by_cases h : a < b
  · simp [h]
  · by_cases h2 : b < a <;> simp [h, h2]
theorem cmpI_eq (a b : Int) : (cmpI a b = 0) = (a = b) := by
  unfold cmpI
  by_cases h : a < b
  · have : a ≠ b := by omega
    simp [h, this]
  · by_cases h2 : b < a
    · have : a ≠ b := by omega
      simp [h, h2, this]
    · have : a = b := by omega
      simp [h, h2, this]
theorem isNaNInt (a : Int) : run E (.call 297 [xI a]) = some (.res [xB false] []) := by
  rw [run_call E 297 _ rfl Tryz.func297 rfl rfl rfl (by simp)]
  simp
theorem compareInt (a b : Int) : run E (.call 195 [xI a, xI b]) = some (.res [xI (cmpI a b)] []) := by
  rw [run_call E 195 _ rfl Tryz.func195 rfl rfl rfl (by simp)]
  have h1 := isNaNInt a
  have h2 := isNaNInt b
  unfold cmpI
  by_cases h : a < b
  · simp [h1, h2, h]
  · by_cases h' : b < a <;> simp [h1, h2, h, h']
def seekC (fs : List Chn) (id : Int) : Nat := halves (fun k => match fs[k]? with
  | some f => decide (f.id < id)
  | none => false) (fs.length + 1) 0 fs.length
def thereC (fs : List Chn) (id : Int) : Bool := match fs[seekC fs id]? with
  | some f => f.id == id
  | none => false
theorem chains_rise : ∀ (l : List Chn) (p : Option Int), chainsGo p l = true → (∀ q, p = some q → ∀ c ∈ l, q < c.id) ∧ l.Pairwise (fun a b => a.id < b.id)
  | [], p, _ => by simp
  | c :: r, p, h => by
    simp only [chainsGo, Bool.and_eq_true] at h
    obtain ⟨⟨_, h2⟩, h3⟩ := h
    obtain ⟨i1, i2⟩ := chains_rise r _ h3
    have i1' := i1 c.id rfl
    refine ⟨?_, List.pairwise_cons.2 ⟨i1', i2⟩⟩
    rintro q rfl d hd
    simp at h2
    rcases List.mem_cons.1 hd with rfl | hd
    · omega
    · have := i1' d hd; omega
def placeC (fs : List Chn) (id : Int) : Nat := (fs.takeWhile (fun f => decide (f.id < id))).length
theorem placeC_le (fs : List Chn) (id : Int) : placeC fs id ≤ fs.length := (List.takeWhile_sublist _).length_le
theorem place_there : ∀ (l : List Chn) (id : Int), l.Pairwise (fun a b => a.id < b.id) → (match l[placeC l id]? with
    | some c => if c.id == id then some c else none
    | none => none) = findC l id
  | [], id, _ => rfl
  | x :: r, id, h => by
    obtain ⟨h1, h2⟩ := List.pairwise_cons.1 h
    have ih := place_there r id h2
    unfold placeC findC at *
    by_cases hlt : x.id < id
    · have hne : (x.id == id) = false := by simp; omega
      simp only [List.takeWhile_cons, hlt, decide_true, if_true, List.length_cons, List.getElem?_cons_succ, List.find?_cons, hne]
      exact ih
    · simp only [List.takeWhile_cons, hlt, decide_false, Bool.false_eq_true, if_false, List.length_nil, List.getElem?_cons_zero, List.find?_cons]
      by_cases he : x.id = id
      · simp [he]
      · have hne : (x.id == id) = false := by simp [he]
        simp only [hne, Bool.false_eq_true, if_false]
        symm
        rw [List.find?_eq_none]
        intro y hy
        have := h1 y hy
        simp; omega
theorem place_lt : ∀ (l : List Chn) (id : Int), l.Pairwise (fun a b => a.id < b.id) → ∀ k c, l[k]? = some c → (c.id < id ↔ k < placeC l id)
  | [], id, _, k, c, h => by simp at h
  | x :: r, id, h, k, c, hk => by
    obtain ⟨h1, h2⟩ := List.pairwise_cons.1 h
    unfold placeC
    by_cases hlt : x.id < id
    · cases k with
      | zero => simp at hk; subst hk; simp [hlt]
      | succ k =>
        have ih := place_lt r id h2 k c (by simpa using hk)
        unfold placeC at ih
        simp [hlt, ih]
    · cases k with
      | zero => simp at hk; subst hk; simp [hlt]
      | succ k =>
        have := h1 c (List.mem_of_getElem? (by simpa using hk))
        simp [hlt]; omega
theorem seekC_eq (l : List Chn) (id : Int) (h : l.Pairwise (fun a b => a.id < b.id)) : seekC l id = placeC l id := by
  unfold seekC
  refine halves_ok (p := placeC l id) (m := l.length) ?_ ?_ _ _ _ (Nat.zero_le _) (placeC_le l id) (Nat.le_refl _) (by omega)
  · intro k hk
    have hlt : k < l.length := Nat.lt_of_lt_of_le hk (placeC_le l id)
    have hg : l[k]? = some l[k] := List.getElem?_eq_getElem hlt
    simp only [hg]
    exact decide_eq_true ((place_lt l id h k _ hg).2 hk)
  · intro k hk hkl
    have hg : l[k]? = some l[k] := List.getElem?_eq_getElem hkl
    simp only [hg]
    refine decide_eq_false fun hb => ?_
    have := (place_lt l id h k _ hg).1 hb
    omega
/-- What a search by halves finds is what a plain search finds. -/
theorem seek_find (l : List Chn) (id : Int) (h : l.Pairwise (fun a b => a.id < b.id)) : (thereC l id = true → l[seekC l id]? = findC l id ∧ seekC l id < l.length) ∧ (thereC l id = false → findC l id = none) := by
  have hp := place_there l id h
  unfold thereC
  rw [seekC_eq l id h]
  cases hg : l[placeC l id]? with
  | none => rw [hg] at hp; simp at hp; simp [← hp]
  | some c =>
    rw [hg] at hp
    simp only at hp
    by_cases he : c.id = id
    · simp [he] at hp
      have := (List.getElem?_eq_some_iff.1 hg).1
      simp [he, ← hp, this]
    · simp [he] at hp
      simp [he, ← hp]
end Go.Yd
/- Orders of lists: slices.CompareFunc, cmp.Or. -/
set_option linter.unusedSimpArgs false
set_option linter.unusedVariables false
namespace Go.Yd
open Go.Ev Go.Proofs Go.Pu
set_option maxRecDepth 100000
set_option maxHeartbeats 16000000
/-- Lists in order, item by item. -/
def ordL {α : Type} (f : α → α → Int) : List α → List α → Int
  | [], [] => 0
  | [], _ :: _ => -1
  | _ :: _, [] => 1
  | x :: xs, y :: ys => if f x y = 0 then ordL f xs ys else f x y
/-- The first list is gone through with nothing told apart. -/
def thru {α : Type} (f : α → α → Int) : List α → List α → Bool
  | [], _ => true
  | _ :: _, [] => false
  | x :: xs, y :: ys => decide (f x y = 0) && thru f xs ys
theorem thru_ord {α : Type} {f : α → α → Int} : ∀ {xs ys : List α}, thru f xs ys = true → ordL f xs ys = if xs.length < ys.length then -1 else 0
  | [], [], _ => by simp [ordL]
  | [], _ :: _, _ => by simp [ordL]
  | _ :: _, [], h => by simp [thru] at h
  | x :: xs, y :: ys, h => by
    simp [thru] at h
    have := thru_ord h.2
    simp [ordL, h.1, this]
def orI (a b : Int) : Int := if a = 0 then b else a
theorem cmpOr (a b : Int) : run E (.call 193 [.t (.list [.int .i64 a, .int .i64 b])]) = some (.res [xI (orI a b)] []) := by
  rw [run_call E 193 _ rfl Tryz.func193 rfl rfl rfl (by simp)]
  have lp := sk (fun s o q hI => loop_for (c := loopAt Tryz.f193 0) (N := 18)
    (fun i s o q => s 3 = .t (.int .i64 0) ∧ s 6 = .t (.list [.int .i64 a, .int .i64 b]) ∧ s 7 = .t (.int .i64 2) ∧ s 8 = .t (.int .i64 i) ∧ (i = 1 → a = 0) ∧ (i = 2 → a = 0 ∧ b = 0))
    (fun e s' o' q' => e = (if orI a b = 0 then .exit 0 else .ret) ∧ s' 3 = .t (.int .i64 0) ∧ (¬ orI a b = 0 → s' 2 = .t (.int .i64 (orI a b)))) 2
    (by
      rintro i s o q hi ⟨h3, h6, h7, h8, hp, hp2⟩
      have hw := wrap_succ (n := i) (by omega)
      match i, hi with
      | 0, _ =>
        by_cases ha : a = 0
        · subst ha
          simp [loopAt, loopsOf, Tryz.f193, h3, h6, h7, h8]
        · have hb : orI a b = a := by simp [orI, ha]
          simp [loopAt, loopsOf, Tryz.f193, h3, h6, h7, h8, ha, hb]
      | 1, _ =>
        have ha := hp rfl
        subst ha
        have hb : orI 0 b = b := by simp [orI]
        simp at hw
        by_cases h : b = 0
        · subst h
          simp [loopAt, loopsOf, Tryz.f193, h3, h6, h7, h8, hw]
        · simp [loopAt, loopsOf, Tryz.f193, h3, h6, h7, h8, hb, h, hw])
    (by
      rintro s o q ⟨h3, h6, h7, h8, hp, hp2⟩
      obtain ⟨ha, hb⟩ := hp2 rfl
      subst ha hb
      simp [loopAt, loopsOf, Tryz.f193, h3, h6, h7, h8, orI])
    2 0 s o q (by omega) hI)
  simp only [loopAt, loopsOf, Tryz.f193] at lp
  obtain ⟨X, A, B, C, hx⟩ := lp
  generalize orI a b = r at *
  by_cases h : r = 0
  · subst h
    simp at hx
    simp [hx]
  · simp [h] at hx
    simp [hx]
theorem compareFunc_195 (xs ys : List Val) (g : Nat) (f : Val → Val → Int) (hl : xs.length < 4294967296) (hl2 : ys.length < 4294967296) (hm : E.md g = []) (hf : E.flat g = true) (hp : ∀ x ∈ xs, ∀ y ∈ ys, run E (.call g [.t (valT x), .t (valT y)]) = some (.res [xI (f x y)] [])) :
    run E (.call 372 [.t (.list (xs.map valT)), .t (.list (ys.map valT)), .fn g []]) = some (.res [xI (ordL f xs ys)] []) := by
  rw [run_call E 372 _ rfl Tryz.func372 rfl rfl rfl (by simp)]
  rw [E_md] at hm
  have lp := fun (r : Int) (w : Bool) (hr : r = ordL f xs ys) (hw : w = thru f xs ys) => sk (fun s o q hI => loop_for (c := loopAt Tryz.f372 0) (N := 39)
    (fun i s o q => s 0 = .t (.list (xs.map valT)) ∧ s 1 = .t (.list (ys.map valT)) ∧ s 2 = .fn g [] ∧ s 11 = .t (.list (xs.map valT)) ∧ s 12 = .t (.int .i64 xs.length) ∧ s 13 = .t (.int .i64 i) ∧ i ≤ ys.length ∧ r = ordL f (xs.drop i) (ys.drop i) ∧ w = thru f (xs.drop i) (ys.drop i))
    (fun e s' o' q' => e = (if w then .exit 0 else .ret) ∧ s' 0 = .t (.list (xs.map valT)) ∧ s' 1 = .t (.list (ys.map valT)) ∧ (w = false → s' 6 = .t (.int .i64 r))) xs.length
    (by
      rintro i s o q hi ⟨h0, h1, h2, h11, h12, h13, hiy, hr, hwr⟩
      have hi' : (i : Int) < (xs.length : Int) := by omega
      have hw := wrap_succ (n := i) (by omega)
      have hxi : xs[i]? = some xs[i] := List.getElem?_eq_getElem hi
      have hqq : q ≠ q + 1 := by omega
      have hqq2 : q + 1 ≠ q := by omega
      rw [List.drop_eq_getElem_cons hi] at hr hwr
      by_cases hy : i < ys.length
      · have hy' : ¬ (ys.length : Int) ≤ (i : Int) := by omega
        have hyi : ys[i]? = some ys[i] := List.getElem?_eq_getElem hy
        have hx := hp xs[i] (List.getElem_mem hi) ys[i] (List.getElem_mem hy)
        rw [List.drop_eq_getElem_cons hy] at hr hwr
        rw [ordL] at hr
        rw [thru] at hwr
        by_cases hz : f xs[i] ys[i] = 0
        · rw [hz] at hx
          simp [hz] at hr hwr
          simp [-mdOf, loopAt, loopsOf, Tryz.f372, h0, h1, h2, h11, h12, h13, hi', hxi, hyi, hx, hw, hm, hf, hy, hy', hqq, hqq2]
          exact ⟨by omega, hr, hwr⟩
        · simp [hz] at hr hwr
          simp [-mdOf, loopAt, loopsOf, Tryz.f372, h0, h1, h2, h11, h12, h13, hi', hxi, hyi, hx, hw, hm, hf, hy, hy', hqq, hqq2, hz, hr, hwr]
      · have hy' : (ys.length : Int) ≤ (i : Int) := by omega
        have he : ys.drop i = [] := List.drop_eq_nil_of_le (by omega)
        rw [he] at hr hwr
        rw [ordL] at hr
        rw [thru] at hwr
        simp [-mdOf, loopAt, loopsOf, Tryz.f372, h0, h1, h2, h11, h12, h13, hi', hxi, hw, hm, hf, hy, hy', hqq, hqq2, hr, hwr])
    (by
      rintro s o q ⟨h0, h1, h2, h11, h12, h13, hiy, hr, hwr⟩
      rw [List.drop_length, thru] at hwr
      simp [loopAt, loopsOf, Tryz.f372, h0, h1, h2, h11, h12, h13, hwr])
    xs.length 0 s o q (by omega) hI)
  simp only [loopAt, loopsOf, Tryz.f372] at lp
  obtain ⟨w, hw⟩ : ∃ w, w = thru f xs ys := ⟨_, rfl⟩
  obtain ⟨r, hr⟩ : ∃ r, r = ordL f xs ys := ⟨_, rfl⟩
  obtain ⟨X, A, B, C, hx⟩ := lp r w hr hw
  have hx' := fun s o q a0 a1 a2 a11 a12 a13 => hx s o q ⟨a0, a1, a2, a11, a12, a13, Nat.zero_le _, by simpa using hr, by simpa using hw⟩
  clear hx lp
  rw [← hr]
  cases w with
  | true =>
    have ho := thru_ord hw.symm
    rw [← hr] at ho
    have hlt : ((xs.length : Int) < (ys.length : Int)) = (xs.length < ys.length) := by simp
    by_cases h : xs.length < ys.length
    · simp [h] at ho
      simp at hx'
      simp [hx', h, ho]
    · simp [h] at ho
      simp at hx'
      simp [hx', h, ho]
  | false =>
    simp at hx'
    simp [hx']
theorem compareFunc_196 (xs ys : List Fld) (g : Nat) (f : Fld → Fld → Int) (hl : xs.length < 4294967296) (hl2 : ys.length < 4294967296) (hm : E.md g = []) (hf : E.flat g = true) (hp : ∀ x ∈ xs, ∀ y ∈ ys, run E (.call g [.t (fldT x), .t (fldT y)]) = some (.res [xI (f x y)] [])) :
    run E (.call 373 [.t (.list (xs.map fldT)), .t (.list (ys.map fldT)), .fn g []]) = some (.res [xI (ordL f xs ys)] []) := by
  rw [run_call E 373 _ rfl Tryz.func373 rfl rfl rfl (by simp)]
  rw [E_md] at hm
  have lp := fun (r : Int) (w : Bool) (hr : r = ordL f xs ys) (hw : w = thru f xs ys) => sk (fun s o q hI => loop_for (c := loopAt Tryz.f373 0) (N := 39)
    (fun i s o q => s 0 = .t (.list (xs.map fldT)) ∧ s 1 = .t (.list (ys.map fldT)) ∧ s 2 = .fn g [] ∧ s 11 = .t (.list (xs.map fldT)) ∧ s 12 = .t (.int .i64 xs.length) ∧ s 13 = .t (.int .i64 i) ∧ i ≤ ys.length ∧ r = ordL f (xs.drop i) (ys.drop i) ∧ w = thru f (xs.drop i) (ys.drop i))
    (fun e s' o' q' => e = (if w then .exit 0 else .ret) ∧ s' 0 = .t (.list (xs.map fldT)) ∧ s' 1 = .t (.list (ys.map fldT)) ∧ (w = false → s' 6 = .t (.int .i64 r))) xs.length
    (by
      rintro i s o q hi ⟨h0, h1, h2, h11, h12, h13, hiy, hr, hwr⟩
      have hi' : (i : Int) < (xs.length : Int) := by omega
      have hw := wrap_succ (n := i) (by omega)
      have hxi : xs[i]? = some xs[i] := List.getElem?_eq_getElem hi
      have hqq : q ≠ q + 1 := by omega
      have hqq2 : q + 1 ≠ q := by omega
      rw [List.drop_eq_getElem_cons hi] at hr hwr
      by_cases hy : i < ys.length
      · have hy' : ¬ (ys.length : Int) ≤ (i : Int) := by omega
        have hyi : ys[i]? = some ys[i] := List.getElem?_eq_getElem hy
        have hx := hp xs[i] (List.getElem_mem hi) ys[i] (List.getElem_mem hy)
        rw [List.drop_eq_getElem_cons hy] at hr hwr
        rw [ordL] at hr
        rw [thru] at hwr
        by_cases hz : f xs[i] ys[i] = 0
        · rw [hz] at hx
          simp [hz] at hr hwr
          simp [-mdOf, loopAt, loopsOf, Tryz.f373, h0, h1, h2, h11, h12, h13, hi', hxi, hyi, hx, hw, hm, hf, hy, hy', hqq, hqq2]
          exact ⟨by omega, hr, hwr⟩
        · simp [hz] at hr hwr
          simp [-mdOf, loopAt, loopsOf, Tryz.f373, h0, h1, h2, h11, h12, h13, hi', hxi, hyi, hx, hw, hm, hf, hy, hy', hqq, hqq2, hz, hr, hwr]
      · have hy' : (ys.length : Int) ≤ (i : Int) := by omega
        have he : ys.drop i = [] := List.drop_eq_nil_of_le (by omega)
        rw [he] at hr hwr
        rw [ordL] at hr
        rw [thru] at hwr
        simp [-mdOf, loopAt, loopsOf, Tryz.f373, h0, h1, h2, h11, h12, h13, hi', hxi, hw, hm, hf, hy, hy', hqq, hqq2, hr, hwr])
    (by
      rintro s o q ⟨h0, h1, h2, h11, h12, h13, hiy, hr, hwr⟩
      rw [List.drop_length, thru] at hwr
      simp [loopAt, loopsOf, Tryz.f373, h0, h1, h2, h11, h12, h13, hwr])
    xs.length 0 s o q (by omega) hI)
  simp only [loopAt, loopsOf, Tryz.f373] at lp
  obtain ⟨w, hw⟩ : ∃ w, w = thru f xs ys := ⟨_, rfl⟩
  obtain ⟨r, hr⟩ : ∃ r, r = ordL f xs ys := ⟨_, rfl⟩
  obtain ⟨X, A, B, C, hx⟩ := lp r w hr hw
  have hx' := fun s o q a0 a1 a2 a11 a12 a13 => hx s o q ⟨a0, a1, a2, a11, a12, a13, Nat.zero_le _, by simpa using hr, by simpa using hw⟩
  clear hx lp
  rw [← hr]
  cases w with
  | true =>
    have ho := thru_ord hw.symm
    rw [← hr] at ho
    have hlt : ((xs.length : Int) < (ys.length : Int)) = (xs.length < ys.length) := by simp
    by_cases h : xs.length < ys.length
    · simp [h] at ho
      simp at hx'
      simp [hx', h, ho]
    · simp [h] at ho
      simp at hx'
      simp [hx', h, ho]
  | false =>
    simp at hx'
    simp [hx']
end Go.Yd
/- impl's order of values. -/
set_option linter.unusedSimpArgs false
set_option linter.unusedVariables false
namespace Go.Yd
open Go.Ev Go.Proofs Go.Pu
set_option maxRecDepth 100000
set_option maxHeartbeats 16000000
/-- Values in order. -/
def ordD : Nat → Val → Val → Int
  | d, a, b =>
    if orI (cmpI a.k b.k) (cmpI a.n b.n) = 0 then
      (if a.k = 4 then (match d with
        | 0 => 0
        | d + 1 => ordL (ordD d) (itemsL a.t) (itemsL b.t))
      else if a.k = 5 then (match d with
        | 0 => 0
        | d + 1 => ordL (fun f g => orI (Lib.compareBytes f.name g.name) (ordD d f.v g.v)) (fieldsL a.t) (fieldsL b.t))
      else Lib.compareBytes a.t b.t)
    else orI (cmpI a.k b.k) (cmpI a.n b.n)
theorem orI_zero {a b : Int} (h : orI a b = 0) : a = 0 ∧ b = 0 := by
  unfold orI at h
  split at h
  · exact ⟨by assumption, h⟩
  · contradiction
theorem orderFields (f g : Fld) (n : Int) (h : run E (.call 341 [xV f.v, xV g.v]) = some (.res [xI n] [])) : run E (.call 374 [.t (fldT f), .t (fldT g)]) = some (.res [xI (orI (Lib.compareBytes f.name g.name) n)] []) := by
  rw [run_call E 374 _ rfl Tryz.func374 rfl rfl rfl (by simp)]
  have d1 := d374_1
  simp [regionOf, findR, pick, Tryz.f374] at d1
  have dd := fun st => run_region_draw E st 1 _ d1
  clear d1
  have hr2 : List.range 2 = [0, 1] := rfl
  simp [dd, compare f.name g.name, h, cmpOr, hr2]
theorem implOrder : ∀ (d : Nat) (a b : Val), okP d a = true → okP d b = true → a.t.length < 4294967296 → b.t.length < 4294967296 → run E (.call 341 [xV a, xV b]) = some (.res [xI (ordD d a b)] []) := by
  intro d
  induction d with
  | zero =>
    intro a b ha hb hal hbl
    rw [run_call E 341 _ rfl Tryz.func341 rfl rfl rfl (by simp)]
    have d1 := d341_1
    simp [regionOf, findR, pick, Tryz.f341] at d1
    have dd := fun st => run_region_draw E st 1 _ d1
    clear d1
    have hr2 : List.range 2 = [0, 1] := rfl
    have e4 : (a.k = 4) = False := by
      simp; intro h; obtain ⟨e, _, hd, _⟩ := okP_list ha h; omega
    have e5 : (a.k = 5) = False := by
      simp; intro h; obtain ⟨e, _, hd, _⟩ := okP_doc ha h; omega
    have c1 := compareInt a.k b.k
    have c2 := compareInt a.n b.n
    have c3 := cmpOr (cmpI a.k b.k) (cmpI a.n b.n)
    have c4 := compare a.t b.t
    unfold ordD
    generalize orI (cmpI a.k b.k) (cmpI a.n b.n) = z at *
    by_cases hz : z = 0
    · subst hz
      simp [dd, hr2, c1, c2, c3, c4, e4, e5]
    · simp [dd, hr2, c1, c2, c3, c4, e4, e5, hz]
  | succ d ih =>
    intro a b ha hb hal hbl
    rw [run_call E 341 _ rfl Tryz.func341 rfl rfl rfl (by simp)]
    have d1 := d341_1
    simp [regionOf, findR, pick, Tryz.f341] at d1
    have dd := fun st => run_region_draw E st 1 _ d1
    clear d1
    have hr2 : List.range 2 = [0, 1] := rfl
    have c1 := compareInt a.k b.k
    have c2 := compareInt a.n b.n
    have c3 := cmpOr (cmpI a.k b.k) (cmpI a.n b.n)
    have c4 := compare a.t b.t
    have hkk : orI (cmpI a.k b.k) (cmpI a.n b.n) = 0 → b.k = a.k := by
      intro h
      have := (orI_zero h).1
      rw [cmpI_eq] at this
      exact this.symm
    unfold ordD
    generalize orI (cmpI a.k b.k) (cmpI a.n b.n) = z at *
    by_cases hz : z = 0
    · subst hz
      have hk := hkk rfl
      clear hkk
      by_cases h4 : a.k = 4
      · obtain ⟨e, xs, hd, _, hi, hx⟩ := okP_list ha h4
        obtain ⟨e', ys, hd', _, hi', hy⟩ := okP_list hb (by omega)
        obtain rfl : d = e := by omega
        obtain rfl : d = e' := by omega
        obtain ⟨s1, s2⟩ := items_small hi
        obtain ⟨t1, t2⟩ := items_small hi'
        have i1 := implItems a hal
        have i2 := implItems b hbl
        rw [itemsI_some hi] at i1
        rw [itemsI_some hi'] at i2
        have hc := compareFunc_195 xs ys 341 (ordD d) (by omega) (by omega) (by simp) (by simp) (fun x hx' y hy' => ih x y (hx x hx') (hy y hy') (by have := s2 x hx'; omega) (by have := t2 y hy'; omega))
        have e4 : (a.k = 4) = True := eq_true h4
        have eL : itemsL a.t = xs := by simp [itemsL, hi]
        have eL' : itemsL b.t = ys := by simp [itemsL, hi']
        clear h4
        simp at i1 i2
        simp [dd, hr2, c1, c2, c3, c4, e4, i1, i2, hc, eL, eL']
      · have e4 : (a.k = 4) = False := eq_false h4
        by_cases h5 : a.k = 5
        · obtain ⟨e, xs, hd, _, hi, _, hx⟩ := okP_doc ha h5
          obtain ⟨e', ys, hd', _, hi', _, hy⟩ := okP_doc hb (by omega)
          obtain rfl : d = e := by omega
          obtain rfl : d = e' := by omega
          obtain ⟨s1, s2⟩ := fields_small hi
          obtain ⟨t1, t2⟩ := fields_small hi'
          have i1 := implFields a hal
          have i2 := implFields b hbl
          rw [fieldsI_some hi] at i1
          rw [fieldsI_some hi'] at i2
          have hc := compareFunc_196 xs ys 374 (fun f g => orI (Lib.compareBytes f.name g.name) (ordD d f.v g.v)) (by omega) (by omega) (by simp) (by simp) (fun x hx' y hy' => orderFields x y _ (ih x.v y.v (hx x hx').2 (hy y hy').2 (by have := s2 x hx'; omega) (by have := t2 y hy'; omega)))
          have e5 : (a.k = 5) = True := eq_true h5
          have eL : fieldsL a.t = xs := by simp [fieldsL, hi]
          have eL' : fieldsL b.t = ys := by simp [fieldsL, hi']
          clear h5
          simp at i1 i2
          simp [dd, hr2, c1, c2, c3, c4, e4, e5, i1, i2, hc, eL, eL']
        · have e5 : (a.k = 5) = False := eq_false h5
          simp [dd, hr2, c1, c2, c3, c4, e4, e5]
    · simp [dd, hr2, c1, c2, c3, c4, hz]
end Go.Yd
/- spec's order of values. -/
set_option linter.unusedSimpArgs false
set_option linter.unusedVariables false
namespace Go.Yd
open Go.Ev Go.Proofs Go.Pu
set_option maxRecDepth 100000
set_option maxHeartbeats 16000000
theorem ordL_zero {α : Type} {f : α → α → Int} : ∀ {xs ys : List α}, (∀ x ∈ xs, ∀ y ∈ ys, f x y = 0 → x = y) → ordL f xs ys = 0 → xs = ys
  | [], [], _, _ => rfl
  | [], _ :: _, _, h => by simp [ordL] at h
  | _ :: _, [], _, h => by simp [ordL] at h
  | x :: xs, y :: ys, hf, h => by
    unfold ordL at h
    split at h
    · rename_i hz
      rw [hf x (by simp) y (by simp) hz, ordL_zero (fun a ha b hb => hf a (by simp [ha]) b (by simp [hb])) h]
    · contradiction
theorem ordL_refl {α : Type} {f : α → α → Int} : ∀ {xs : List α}, (∀ x ∈ xs, f x x = 0) → ordL f xs xs = 0
  | [], _ => rfl
  | x :: xs, h => by
    unfold ordL
    rw [if_pos (h x (by simp))]
    exact ordL_refl (fun y hy => h y (by simp [hy]))
theorem val_eq {a b : Val} (h1 : a.k = b.k) (h2 : a.n = b.n) (h3 : a.t = b.t) : a = b := by
  cases a; cases b; simp_all
theorem fld_eq {a b : Fld} (h1 : a.name = b.name) (h2 : a.v = b.v) : a = b := by
  cases a; cases b; simp_all
theorem ordD_zero : ∀ (d : Nat) (a b : Val), okP d a = true → okP d b = true → ordD d a b = 0 → a = b := by
  intro d
  induction d with
  | zero =>
    intro a b ha hb h
    unfold ordD at h
    split at h
    · rename_i hz
      obtain ⟨h1, h2⟩ := orI_zero hz
      rw [cmpI_eq] at h1 h2
      refine val_eq h1 h2 ?_
      split at h
      · rename_i h4; obtain ⟨e, _, hd, _⟩ := okP_list ha h4; omega
      · split at h
        · rename_i h5; obtain ⟨e, _, hd, _⟩ := okP_doc ha h5; omega
        · rwa [compareBytes_eq] at h
    · contradiction
  | succ d ih =>
    intro a b ha hb h
    unfold ordD at h
    split at h
    · rename_i hz
      obtain ⟨h1, h2⟩ := orI_zero hz
      rw [cmpI_eq] at h1 h2
      refine val_eq h1 h2 ?_
      split at h
      · rename_i h4
        obtain ⟨e, xs, hd, _, hi, hx⟩ := okP_list ha h4
        obtain ⟨e', ys, hd', _, hi', hy⟩ := okP_list hb (by omega)
        obtain rfl : d = e := by omega
        obtain rfl : d = e' := by omega
        simp [itemsL, hi, hi'] at h
        have := ordL_zero (fun x hx' y hy' hz => ih x y (hx x hx') (hy y hy') hz) h
        subst this
        exact items_inj hi hi'
      · split at h
        · rename_i h5
          obtain ⟨e, xs, hd, _, hi, _, hx⟩ := okP_doc ha h5
          obtain ⟨e', ys, hd', _, hi', _, hy⟩ := okP_doc hb (by omega)
          obtain rfl : d = e := by omega
          obtain rfl : d = e' := by omega
          simp [fieldsL, hi, hi'] at h
          have := ordL_zero (fun x hx' y hy' hz => by
            obtain ⟨z1, z2⟩ := orI_zero hz
            rw [compareBytes_eq] at z1
            exact fld_eq z1 (ih x.v y.v (hx x hx').2 (hy y hy').2 z2)) h
          subst this
          exact fields_inj hi hi'
        · rwa [compareBytes_eq] at h
    · contradiction
theorem cmpI_refl (a : Int) : cmpI a a = 0 := by simp [cmpI]
theorem cmpB_refl (a : Bytes) : Lib.compareBytes a a = 0 := by rw [compareBytes_eq]
theorem ordD_refl : ∀ (d : Nat) (a : Val), okP d a = true → ordD d a a = 0 := by
  intro d
  induction d with
  | zero =>
    intro a ha
    unfold ordD
    simp [cmpI_refl, orI, cmpB_refl]
  | succ d ih =>
    intro a ha
    unfold ordD
    simp only [cmpI_refl, orI, if_true]
    by_cases h4 : a.k = 4
    · obtain ⟨e, xs, hd, _, hi, hx⟩ := okP_list ha h4
      obtain rfl : d = e := by omega
      simp [h4, itemsL, hi]
      exact ordL_refl (fun x hx' => ih x (hx x hx'))
    · by_cases h5 : a.k = 5
      · obtain ⟨e, xs, hd, _, hi, _, hx⟩ := okP_doc ha h5
        obtain rfl : d = e := by omega
        simp [h5, fieldsL, hi]
        exact ordL_refl (fun x hx' => by simp [cmpB_refl, ih x.v (hx x hx').2])
      · simp [h4, h5, cmpB_refl]
end Go.Yd
/- spec's order of values is impl's. -/
set_option linter.unusedSimpArgs false
set_option linter.unusedVariables false
namespace Go.Yd
open Go.Ev Go.Proofs Go.Pu
set_option maxRecDepth 100000
set_option maxHeartbeats 16000000
theorem cmpB_sign : ∀ (a b : Bytes), a ≠ b → Lib.compareBytes a b = if Op.bytesLess a b = true then -1 else 1
  | [], [], h => absurd rfl h
  | [], _ :: _, _ => by simp [Lib.compareBytes, Op.bytesLess]
  | _ :: _, [], _ => by simp [Lib.compareBytes, Op.bytesLess]
  | x :: a, y :: b, h => by
    unfold Lib.compareBytes Op.bytesLess
    by_cases h1 : x < y
    · simp [h1]
    · by_cases h2 : y < x
      · have : ¬ x = y := fun e => by subst e; exact absurd h2 (UInt8.lt_irrefl x)
        simp [h1, h2, this]
      · have e : x = y := UInt8.le_antisymm (UInt8.not_lt.1 h2) (UInt8.not_lt.1 h1)
        subst e
        have hab : a ≠ b := fun e => h (by rw [e])
        simp [h1, cmpB_sign a b hab]
/-- One of the two is gone through with nothing told apart. -/
def cutB {α : Type} (f : α → α → Int) : List α → List α → Bool
  | [], _ => true
  | _ :: _, [] => true
  | x :: xs, y :: ys => decide (f x y = 0) && cutB f xs ys
theorem cutB_ord {α : Type} {f : α → α → Int} : ∀ {xs ys : List α}, cutB f xs ys = true → ordL f xs ys = if xs.length < ys.length then -1 else if ys.length < xs.length then 1 else 0
  | [], [], _ => by simp [ordL]
  | [], _ :: _, _ => by simp [ordL]
  | _ :: _, [], h => by simp [ordL]
  | x :: xs, y :: ys, h => by
    simp [cutB] at h
    have := cutB_ord h.2
    simp [ordL, h.1, this]
theorem specItems_loop (d : Nat) (xs ys : List Val) (hl : xs.length < 4294967296) (hl2 : ys.length < 4294967296) (hp : ∀ x ∈ xs, ∀ y ∈ ys, run E (.call 383 [xV x, xV y]) = some (.res [xI (ordD d x y)] []))
    (r : Int) (w : Bool) (hr : r = ordL (ordD d) xs ys) (hw : w = cutB (ordD d) xs ys) : ∀ s o q, (s 5 = .row 2 ∧ s 7 = .row 3 ∧ s 9 = .t (.int .i64 0) ∧ o 2 = .row 35 (xs.map valT) true ∧ o 3 = .row 35 (ys.map valT) true) →
    ∃ e s' o' q', run E (.code (.loop (loopAt Tryz.f383 0)) ⟨s, o, q, 182⟩) = some (.st e ⟨s', o', q', 182⟩) ∧ e = (if w then .exit 1 else .ret) ∧ s' 5 = .row 2 ∧ s' 7 = .row 3 ∧ o' 2 = .row 35 (xs.map valT) true ∧ o' 3 = .row 35 (ys.map valT) true ∧ (w = false → s' 4 = .t (.int .i64 r)) := by
  intro s o q hI
  have d15 := d383_15
  simp [regionOf, findR, pick, Tryz.f383] at d15
  have dd := fun st => run_region_draw E st 15 _ d15
  clear d15
  refine loop_wf (c := loopAt Tryz.f383 0) (N := 182)
    (fun k s o q => ∃ i : Nat, k = xs.length - i ∧ s 5 = .row 2 ∧ s 7 = .row 3 ∧ s 9 = .t (.int .i64 i) ∧ o 2 = .row 35 (xs.map valT) true ∧ o 3 = .row 35 (ys.map valT) true ∧ i ≤ xs.length ∧ i ≤ ys.length ∧ r = ordL (ordD d) (xs.drop i) (ys.drop i) ∧ w = cutB (ordD d) (xs.drop i) (ys.drop i))
    (fun e s' o' q' => e = (if w then .exit 1 else .ret) ∧ s' 5 = .row 2 ∧ s' 7 = .row 3 ∧ o' 2 = .row 35 (xs.map valT) true ∧ o' 3 = .row 35 (ys.map valT) true ∧ (w = false → s' 4 = .t (.int .i64 r)))
    ?_ xs.length s o q ⟨0, by omega, hI.1, hI.2.1, hI.2.2.1, hI.2.2.2.1, hI.2.2.2.2, Nat.zero_le _, Nat.zero_le _, by simpa using hr, by simpa using hw⟩
  rintro k s o q ⟨i, hk, h5, h7, h9, ho, ho2, hix, hiy, hr, hwr⟩
  have hwi := wrap_succ (n := i) (by omega)
  by_cases hx : i < xs.length
  · have hx' : (i : Int) < (xs.length : Int) := by omega
    have hxi : xs[i]? = some xs[i] := List.getElem?_eq_getElem hx
    rw [List.drop_eq_getElem_cons hx] at hr hwr
    by_cases hy : i < ys.length
    · have hy' : (i : Int) < (ys.length : Int) := by omega
      have hyi : ys[i]? = some ys[i] := List.getElem?_eq_getElem hy
      have hc := hp xs[i] (List.getElem_mem hx) ys[i] (List.getElem_mem hy)
      rw [List.drop_eq_getElem_cons hy] at hr hwr
      rw [ordL] at hr
      rw [cutB] at hwr
      by_cases hz : ordD d xs[i] ys[i] = 0
      · rw [hz] at hc
        simp [hz] at hr hwr
        simp [loopAt, loopsOf, Tryz.f383, dd, h5, h7, h9, ho, ho2, hx, hy, hx', hy', hxi, hyi, hc, hwi]
        exact ⟨xs.length - (i + 1), by omega, i + 1, rfl, by simp, by omega, by omega, hr, hwr⟩
      · simp [hz] at hr hwr
        simp [loopAt, loopsOf, Tryz.f383, dd, h5, h7, h9, ho, ho2, hx, hy, hx', hy', hxi, hyi, hc, hwi, hz, hr, hwr]
    · have hy' : ¬ (i : Int) < (ys.length : Int) := by omega
      have he : ys.drop i = [] := List.drop_eq_nil_of_le (by omega)
      rw [he, cutB] at hwr
      simp [loopAt, loopsOf, Tryz.f383, dd, h5, h7, h9, ho, ho2, hx, hy, hx', hy', hxi, hwi, hwr]
  · have hx' : ¬ (i : Int) < (xs.length : Int) := by omega
    have he : xs.drop i = [] := List.drop_eq_nil_of_le (by omega)
    rw [he, cutB] at hwr
    simp [loopAt, loopsOf, Tryz.f383, dd, h5, h7, h9, ho, ho2, hx, hx', hwi, hwr]
end Go.Yd
/- spec's order of values: documents, and the whole. -/
set_option linter.unusedSimpArgs false
set_option linter.unusedVariables false
namespace Go.Yd
open Go.Ev Go.Proofs Go.Pu
set_option maxRecDepth 100000
set_option maxHeartbeats 16000000
def fldO (d : Nat) (f g : Fld) : Int := orI (Lib.compareBytes f.name g.name) (ordD d f.v g.v)
theorem specFields_loop (d : Nat) (xs ys : List Fld) (hl : xs.length < 4294967296) (hl2 : ys.length < 4294967296) (hp : ∀ x ∈ xs, ∀ y ∈ ys, run E (.call 383 [xV x.v, xV y.v]) = some (.res [xI (ordD d x.v y.v)] []))
    (r : Int) (w : Bool) (hr : r = ordL (fldO d) xs ys) (hw : w = cutB (fldO d) xs ys) : ∀ s o q, (s 11 = .row 2 ∧ s 13 = .row 3 ∧ s 15 = .t (.int .i64 0) ∧ o 2 = .row 125 (xs.map fldT) true ∧ o 3 = .row 125 (ys.map fldT) true) →
    ∃ e s' o' q', run E (.code (.loop (loopAt Tryz.f383 1)) ⟨s, o, q, 182⟩) = some (.st e ⟨s', o', q', 182⟩) ∧ e = (if w then .exit 3 else .ret) ∧ s' 11 = .row 2 ∧ s' 13 = .row 3 ∧ o' 2 = .row 125 (xs.map fldT) true ∧ o' 3 = .row 125 (ys.map fldT) true ∧ (w = false → s' 4 = .t (.int .i64 r)) := by
  intro s o q hI
  have d24 := d383_24
  simp [regionOf, findR, pick, Tryz.f383] at d24
  have dd := fun st => run_region_draw E st 24 _ d24
  clear d24
  have d25 := d383_25
  simp [regionOf, findR, pick, Tryz.f383] at d25
  have de := fun st => run_region_draw E st 25 _ d25
  clear d25
  have d26 := d383_26
  simp [regionOf, findR, pick, Tryz.f383] at d26
  have df := fun st => run_region_draw E st 26 _ d26
  clear d26
  have b1 := l01Bit true
  have b0 := l01Bit false
  simp at b1 b0
  have w2 : IntKind.i64.wrap 2 = 2 := rfl
  have wm : IntKind.i64.wrap (-1) = -1 := rfl
  refine loop_wf (c := loopAt Tryz.f383 1) (N := 182)
    (fun k s o q => ∃ i : Nat, k = xs.length - i ∧ s 11 = .row 2 ∧ s 13 = .row 3 ∧ s 15 = .t (.int .i64 i) ∧ o 2 = .row 125 (xs.map fldT) true ∧ o 3 = .row 125 (ys.map fldT) true ∧ i ≤ xs.length ∧ i ≤ ys.length ∧ r = ordL (fldO d) (xs.drop i) (ys.drop i) ∧ w = cutB (fldO d) (xs.drop i) (ys.drop i))
    (fun e s' o' q' => e = (if w then .exit 3 else .ret) ∧ s' 11 = .row 2 ∧ s' 13 = .row 3 ∧ o' 2 = .row 125 (xs.map fldT) true ∧ o' 3 = .row 125 (ys.map fldT) true ∧ (w = false → s' 4 = .t (.int .i64 r)))
    ?_ xs.length s o q ⟨0, by omega, hI.1, hI.2.1, hI.2.2.1, hI.2.2.2.1, hI.2.2.2.2, Nat.zero_le _, Nat.zero_le _, by simpa using hr, by simpa using hw⟩
  rintro k s o q ⟨i, hk, h5, h7, h9, ho, ho2, hix, hiy, hr, hwr⟩
  have hwi := wrap_succ (n := i) (by omega)
  by_cases hx : i < xs.length
  · have hx' : (i : Int) < (xs.length : Int) := by omega
    have hxi : xs[i]? = some xs[i] := List.getElem?_eq_getElem hx
    rw [List.drop_eq_getElem_cons hx] at hr hwr
    by_cases hy : i < ys.length
    · have hy' : (i : Int) < (ys.length : Int) := by omega
      have hyi : ys[i]? = some ys[i] := List.getElem?_eq_getElem hy
      have hc := hp xs[i] (List.getElem_mem hx) ys[i] (List.getElem_mem hy)
      rw [List.drop_eq_getElem_cons hy] at hr hwr
      rw [ordL] at hr
      rw [cutB] at hwr
      by_cases hn : xs[i].name = ys[i].name
      · have hn' : (xs[i].name = ys[i].name) = True := eq_true hn
        have hf : fldO d xs[i] ys[i] = ordD d xs[i].v ys[i].v := by simp [fldO, hn, cmpB_refl, orI]
        rw [hf] at hr hwr
        clear hn
        by_cases hz : ordD d xs[i].v ys[i].v = 0
        · rw [hz] at hc
          simp [hz] at hr hwr
          simp [loopAt, loopsOf, Tryz.f383, dd, de, df, h5, h7, h9, ho, ho2, hx, hy, hx', hy', hxi, hyi, hc, hwi, hn']
          exact ⟨xs.length - (i + 1), by omega, i + 1, rfl, by simp, by omega, by omega, hr, hwr⟩
        · simp [hz] at hr hwr
          simp [loopAt, loopsOf, Tryz.f383, dd, de, df, h5, h7, h9, ho, ho2, hx, hy, hx', hy', hxi, hyi, hc, hwi, hz, hr, hwr, hn']
      · have hs := cmpB_sign _ _ hn
        have hn' : (xs[i].name = ys[i].name) = False := eq_false hn
        have hne : (xs[i].name == ys[i].name) = false := by simpa using hn
        cases hb : Op.bytesLess xs[i].name ys[i].name with
        | false =>
          have hf : fldO d xs[i] ys[i] = 1 := by simp [fldO, hs, hb, orI]
          simp [hf] at hr hwr
          simp [loopAt, loopsOf, Tryz.f383, dd, de, df, h5, h7, h9, ho, ho2, hx, hy, hx', hy', hxi, hyi, hc, hwi, hn', hne, hb, b1, b0, w2, wm, hr, hwr]
        | true =>
          have hf : fldO d xs[i] ys[i] = -1 := by simp [fldO, hs, hb, orI]
          simp [hf] at hr hwr
          simp [loopAt, loopsOf, Tryz.f383, dd, de, df, h5, h7, h9, ho, ho2, hx, hy, hx', hy', hxi, hyi, hc, hwi, hn', hne, hb, b1, b0, w2, wm, hr, hwr]
    · have hy' : ¬ (i : Int) < (ys.length : Int) := by omega
      have he : ys.drop i = [] := List.drop_eq_nil_of_le (by omega)
      rw [he, cutB] at hwr
      simp [loopAt, loopsOf, Tryz.f383, dd, h5, h7, h9, ho, ho2, hx, hy, hx', hy', hxi, hwi, hwr]
  · have hx' : ¬ (i : Int) < (xs.length : Int) := by omega
    have he : xs.drop i = [] := List.drop_eq_nil_of_le (by omega)
    rw [he, cutB] at hwr
    simp [loopAt, loopsOf, Tryz.f383, dd, h5, h7, h9, ho, ho2, hx, hx', hwi, hwr]
end Go.Yd
/- spec's order of values is impl's: the whole. -/
set_option linter.unusedSimpArgs false
set_option linter.unusedVariables false
namespace Go.Yd
open Go.Ev Go.Proofs Go.Pu
set_option maxRecDepth 100000
set_option maxHeartbeats 16000000
theorem cmpI_ne {a b : Int} (h : a ≠ b) : cmpI a b = if b < a then 1 else -1 := by
  unfold cmpI
  by_cases h1 : a < b
  · have : ¬ b < a := by omega
    simp [h1, this]
  · have : b < a := by omega
    simp [h1, this]
/-- Ahead of the bodies: kinds, numbers, one and the same text. -/
theorem specOrder_head (d : Nat) (a b : Val) (ha : okP d a = true) (hb : okP d b = true) (hal : a.t.length < 4294967296) (hbl : b.t.length < 4294967296) (h : ¬ (a.k = b.k ∧ a.n = b.n ∧ a.t ≠ b.t ∧ (a.k = 4 ∨ a.k = 5))) : run E (.call 383 [xV a, xV b]) = some (.res [xI (ordD d a b)] []) := by
  rw [run_call E 383 _ rfl Tryz.func383 rfl rfl rfl (by simp)]
  have b1 := l01Bit true
  have b0 := l01Bit false
  simp at b1 b0
  have w2 : IntKind.i64.wrap 2 = 2 := rfl
  have wm : IntKind.i64.wrap (-1) = -1 := rfl
  by_cases hk : a.k = b.k
  · by_cases hn : a.n = b.n
    · by_cases ht : a.t = b.t
      · have e : a = b := val_eq hk hn ht
        subst e
        rw [ordD_refl d a ha]
        simp
      · have hk4 : ¬ a.k = 4 := fun h4 => h ⟨hk, hn, ht, .inl h4⟩
        have hk5 : ¬ a.k = 5 := fun h5 => h ⟨hk, hn, ht, .inr h5⟩
        have h3 : a.k = 3 := by
          by_cases h3 : a.k = 3
          · exact h3
          · exact absurd ((okP_small ha h3 hk4 hk5).trans (okP_small hb (by omega) (by omega) (by omega)).symm) ht
        have ho : ordD d a b = Lib.compareBytes a.t b.t := by
          unfold ordD
          simp [hk, hn, cmpI_refl, orI]
          have e4 : ¬ b.k = 4 := by omega
          have e5 : ¬ b.k = 5 := by omega
          simp [e4, e5]
        rw [ho, cmpB_sign _ _ ht]
        have e3 : (a.k = 3) = True := eq_true h3
        have ek : (a.k = b.k) = True := eq_true hk
        have en : (a.n = b.n) = True := eq_true hn
        have et : (a.t = b.t) = False := eq_false ht
        have hne : (a.t == b.t) = false := by simpa using ht
        clear h3 hk hn ho
        cases hbl : Op.bytesLess a.t b.t <;> simp [e3, ek, en, et, hne, hbl, b1, b0, w2, wm]
    · have ho : ordD d a b = cmpI a.n b.n := by
        have : ¬ cmpI a.n b.n = 0 := by rw [cmpI_eq]; exact hn
        unfold ordD
        simp [hk, cmpI_refl, orI, this]
      rw [ho, cmpI_ne hn]
      have ek : (a.k = b.k) = True := eq_true hk
      have en : (a.n = b.n) = False := eq_false hn
      clear hk ho h
      by_cases hlt : b.n < a.n <;> simp [ek, en, hlt, b1, b0, w2, wm]
  · have ho : ordD d a b = cmpI a.k b.k := by
      have : ¬ cmpI a.k b.k = 0 := by rw [cmpI_eq]; exact hk
      unfold ordD
      simp [orI, this]
    rw [ho, cmpI_ne hk]
    have ek : (a.k = b.k) = False := eq_false hk
    clear ho h
    by_cases hlt : b.k < a.k <;> simp [ek, hlt, b1, b0, w2, wm]
theorem specOrder : ∀ (d : Nat) (a b : Val), okP d a = true → okP d b = true → a.t.length < 4294967296 → b.t.length < 4294967296 → run E (.call 383 [xV a, xV b]) = some (.res [xI (ordD d a b)] []) := by
  intro d
  induction d with
  | zero =>
    intro a b ha hb hal hbl
    refine specOrder_head 0 a b ha hb hal hbl ?_
    rintro ⟨_, _, _, h4 | h5⟩
    · obtain ⟨e, _, hd, _⟩ := okP_list ha h4; omega
    · obtain ⟨e, _, hd, _⟩ := okP_doc ha h5; omega
  | succ d ih =>
    intro a b ha hb hal hbl
    by_cases hh : a.k = b.k ∧ a.n = b.n ∧ a.t ≠ b.t ∧ (a.k = 4 ∨ a.k = 5)
    · obtain ⟨hk, hn, ht, h45⟩ := hh
      have b1 := l01Bit true
      have b0 := l01Bit false
      simp at b1 b0
      have w2 : IntKind.i64.wrap 2 = 2 := rfl
      have wm : IntKind.i64.wrap (-1) = -1 := rfl
      have ek : (a.k = b.k) = True := eq_true hk
      have en : (a.n = b.n) = True := eq_true hn
      have et : (a.t = b.t) = False := eq_false ht
      have hne : (a.t == b.t) = false := by simpa using ht
      have hnz : ¬ ordD (d + 1) a b = 0 := fun h0 => ht (by rw [ordD_zero (d + 1) a b ha hb h0])
      rw [run_call E 383 _ rfl Tryz.func383 rfl rfl rfl (by simp)]
      by_cases h4 : a.k = 4
      · obtain ⟨e, xs, hd, _, hi, hx⟩ := okP_list ha h4
        obtain ⟨e', ys, hd', _, hi', hy⟩ := okP_list hb (by omega)
        obtain rfl : d = e := by omega
        obtain rfl : d = e' := by omega
        obtain ⟨s1, s2⟩ := items_small hi
        obtain ⟨t1, t2⟩ := items_small hi'
        have i1 := l01Items a.t hal
        have i2 := l01Items b.t hbl
        rw [hi] at i1
        rw [hi'] at i2
        simp only [itemsX] at i1 i2
        have ho : ordD (d + 1) a b = ordL (ordD d) xs ys := by
          unfold ordD
          have e4 : b.k = 4 := by omega
          simp [hk, hn, cmpI_refl, orI, e4, itemsL, hi, hi']
        rw [ho] at hnz ⊢
        have e3 : (a.k = 3) = False := by simp; omega
        have e4 : (a.k = 4) = True := eq_true h4
        clear h4 h45 hk hn ho
        obtain ⟨w, hw⟩ : ∃ w, w = cutB (ordD d) xs ys := ⟨_, rfl⟩
        obtain ⟨X, A, B, C, hl⟩ := sk (specItems_loop d xs ys (by omega) (by omega) (fun x hx' y hy' => ih x y (hx x hx') (hy y hy') (by have := s2 x hx'; omega) (by have := t2 y hy'; omega)) _ w rfl hw)
        simp only [loopAt, loopsOf, Tryz.f383] at hl
        cases w with
        | true =>
          have hr := cutB_ord hw.symm
          have hlt1 : ((ys.length : Int) < (xs.length : Int)) = (ys.length < xs.length) := by simp
          simp at hl
          by_cases h1 : ys.length < xs.length
          · have h2 : ¬ xs.length < ys.length := by omega
            rw [hr, if_neg h2, if_pos h1]
            simp [ek, en, et, hne, e3, e4, i1, i2, hl, h1, hlt1, b1, b0, w2, wm]
          · have h2 : xs.length < ys.length := by
              by_cases h2 : xs.length < ys.length
              · exact h2
              · rw [hr, if_neg h2, if_neg h1] at hnz; exact absurd rfl hnz
            rw [hr, if_pos h2]
            simp [ek, en, et, hne, e3, e4, i1, i2, hl, h1, hlt1, b1, b0, w2, wm]
        | false =>
          simp at hl
          simp [ek, en, et, hne, e3, e4, i1, i2, hl, b1, b0, w2, wm]
      · have h5 : a.k = 5 := by omega
        obtain ⟨e, xs, hd, _, hi, _, hx⟩ := okP_doc ha h5
        obtain ⟨e', ys, hd', _, hi', _, hy⟩ := okP_doc hb (by omega)
        obtain rfl : d = e := by omega
        obtain rfl : d = e' := by omega
        obtain ⟨s1, s2⟩ := fields_small hi
        obtain ⟨t1, t2⟩ := fields_small hi'
        have i1 := l01Fields a.t hal
        have i2 := l01Fields b.t hbl
        rw [hi] at i1
        rw [hi'] at i2
        simp only [fieldsX] at i1 i2
        have ho : ordD (d + 1) a b = ordL (fldO d) xs ys := by
          unfold ordD
          have e4 : ¬ b.k = 4 := by omega
          have e5 : b.k = 5 := by omega
          simp [hk, hn, cmpI_refl, orI, e4, e5, fieldsL, hi, hi']
          rfl
        rw [ho] at hnz ⊢
        have e3 : (a.k = 3) = False := by simp; omega
        have e4 : (a.k = 4) = False := eq_false h4
        clear h4 h5 h45 hk hn ho
        obtain ⟨w, hw⟩ : ∃ w, w = cutB (fldO d) xs ys := ⟨_, rfl⟩
        obtain ⟨X, A, B, C, hl⟩ := sk (specFields_loop d xs ys (by omega) (by omega) (fun x hx' y hy' => ih x.v y.v (hx x hx').2 (hy y hy').2 (by have := s2 x hx'; omega) (by have := t2 y hy'; omega)) _ w rfl hw)
        simp only [loopAt, loopsOf, Tryz.f383] at hl
        cases w with
        | true =>
          have hr := cutB_ord hw.symm
          have hlt1 : ((ys.length : Int) < (xs.length : Int)) = (ys.length < xs.length) := by simp
          simp at hl
          by_cases h1 : ys.length < xs.length
          · have h2 : ¬ xs.length < ys.length := by omega
            rw [hr, if_neg h2, if_pos h1]
            simp [ek, en, et, hne, e3, e4, i1, i2, hl, h1, hlt1, b1, b0, w2, wm]
          · have h2 : xs.length < ys.length := by
              by_cases h2 : xs.length < ys.length
              · exact h2
              · rw [hr, if_neg h2, if_neg h1] at hnz; exact absurd rfl hnz
            rw [hr, if_pos h2]
            simp [ek, en, et, hne, e3, e4, i1, i2, hl, h1, hlt1, b1, b0, w2, wm]
        | false =>
          simp at hl
          simp [ek, en, et, hne, e3, e4, i1, i2, hl, b1, b0, w2, wm]
    · exact specOrder_head (d + 1) a b ha hb hal hbl hh
end Go.Yd
/- What a path comes to: spec's l02Get. -/
set_option linter.unusedSimpArgs false
set_option linter.unusedVariables false
namespace Go.Yd
open Go.Ev Go.Proofs Go.Pu
set_option maxRecDepth 100000
set_option maxHeartbeats 16000000
theorem flat_le {α β : Type} {f : α → List β} {g : α → Nat} : ∀ {l : List α}, (∀ x ∈ l, (f x).length ≤ g x) → (l.flatMap f).length ≤ sumL g l
  | [], _ => by simp
  | x :: r, h => by
    have h1 := h x (by simp)
    have h2 := flat_le (f := f) (g := g) (l := r) (fun y hy => h y (by simp [hy]))
    simp [sumL]; simp at h2; omega
theorem itemsL_sum (t : Bytes) : sumL (fun x => x.t.length + 1) (itemsL t) ≤ t.length := by
  unfold itemsL
  cases h : itemsP t with
  | none => simp [sumL]
  | some xs => exact items_sum h
theorem itemsL_len (t : Bytes) : (itemsL t).length ≤ t.length ∧ ∀ x ∈ itemsL t, x.t.length < t.length := by
  unfold itemsL
  cases h : itemsP t with
  | none => simp
  | some xs => exact items_small h
theorem fieldP_len {v x : Val} {w : Bytes} (h : fieldP v w = some x) : x.t.length < v.t.length := by
  unfold fieldP fieldsL at h
  cases hf : fieldsP v.t with
  | none => simp [hf] at h
  | some fs =>
    rw [hf] at h
    simp only [Option.getD_some, Option.map_eq_some_iff] at h
    obtain ⟨f, h1, rfl⟩ := h
    exact ((fields_small hf).2 f (List.mem_of_find?_eq_some h1)).1
/-- A name, then the rest of a path. -/
def oneP (w : Bytes) (ws : List Bytes) (x : Val) : List Val := match fieldP x w with
  | none => []
  | some y => getP ws y
theorem getP_cons (w : Bytes) (ws : List Bytes) (v : Val) : getP (w :: ws) v = if v.k = 5 then oneP w ws v else if v.k = 4 then (itemsL v.t).flatMap (fun x => if x.k = 5 then oneP w ws x else []) else [] := rfl
theorem getP_len : ∀ (ws : List Bytes) (v : Val), (getP ws v).length ≤ v.t.length + 1
  | [], v => by
    unfold getP
    have := (itemsL_len v.t).1
    split <;> simp <;> omega
  | w :: ws, v => by
    have one : ∀ x : Val, (oneP w ws x).length ≤ x.t.length + 1 := by
      intro x
      unfold oneP
      cases h : fieldP x w with
      | none => simp
      | some y =>
        have := fieldP_len h
        have := getP_len ws y
        simp only; omega
    rw [getP_cons]
    split
    · exact one v
    · split
      · have := flat_le (f := fun x : Val => if x.k = 5 then oneP w ws x else []) (g := fun x => x.t.length + 1) (l := itemsL v.t) (fun x _ => by
          by_cases h : x.k = 5
          · rw [if_pos h]; exact one x
          · rw [if_neg h]; simp)
        have := itemsL_sum v.t
        omega
      · simp
theorem itemsX_L (t : Bytes) : ∃ b, itemsX (itemsP t) = [.row 35 ((itemsL t).map valT), xB b] := by
  unfold itemsL
  cases itemsP t with
  | none => exact ⟨false, rfl⟩
  | some xs => exact ⟨true, rfl⟩
theorem l02Get_nil (v : Val) (hv : v.t.length < 1048576) : run E (.call 382 [xV v, .t (.list [])]) = some (.res [.row 35 ((getP [] v).map valT)] []) := by
  rw [run_call E 382 _ rfl Tryz.func382 rfl rfl rfl (by simp)]
  have hi := l01Items v.t (by omega)
  obtain ⟨b, hb⟩ := itemsX_L v.t
  rw [hb] at hi
  have hl := (itemsL_len v.t).1
  have h1 : 1 + (itemsL v.t).length ≤ 140737488355328 := by omega
  have h2 : (1 + (itemsL v.t).length) * 32 ≤ 140737488355328 := by omega
  by_cases h4 : v.k = 4
  · have e4 : (v.k = 4) = True := eq_true h4
    have eg : getP [] v = v :: itemsL v.t := by simp [getP, h4]
    rw [eg]
    clear h4 eg
    simp [e4, hi, h1, h2]
  · have e4 : (v.k = 4) = False := eq_false h4
    have eg : getP [] v = [v] := by simp [getP, h4]
    rw [eg]
    clear h4 eg
    simp [e4]
end Go.Yd
/- What a path comes to: spec's l02Get, l02Values. -/
set_option linter.unusedSimpArgs false
set_option linter.unusedVariables false
namespace Go.Yd
open Go.Ev Go.Proofs Go.Pu
set_option maxRecDepth 100000
set_option maxHeartbeats 16000000
theorem l02Get_doc (w : Bytes) (ws : List Bytes) (hws : ws.length < 4294967296) (ih : ∀ v : Val, v.t.length < 1048576 → run E (.call 382 [xV v, .t (.list (ws.map strT))]) = some (.res [.row 35 ((getP ws v).map valT)] []))
    (v : Val) (hv : v.t.length < 1048576) (hk : v.k = 5) : run E (.call 382 [xV v, .t (.list ((w :: ws).map strT))]) = some (.res [.row 35 ((oneP w ws v).map valT)] []) := by
  rw [run_call E 382 _ rfl Tryz.func382 rfl rfl rfl (by simp)]
  have d9 := d382_9
  simp [regionOf, findR, pick, Tryz.f382] at d9
  have dd := fun st => run_region_draw E st 9 _ d9
  clear d9
  have d12 := d382_12
  simp [regionOf, findR, pick, Tryz.f382] at d12
  have de := fun st => run_region_draw E st 12 _ d12
  clear d12
  have e5 : (v.k = 5) = True := eq_true hk
  have hf := specField v w (by omega)
  have hpos : ¬ ((ws.length : Int) + 1 = 0) := by omega
  have hle : (1 : Int) ≤ (ws.length : Int) + 1 := by omega
  clear hk
  unfold oneP
  cases hx : fieldP v w with
  | none =>
    rw [hx] at hf
    simp only [optX] at hf
    simp [dd, de, e5, hf, hpos, hle]
  | some y =>
    have hl := fieldP_len hx
    have hy := ih y (by omega)
    rw [hx] at hf
    simp only [optX] at hf
    have htk : List.take ws.length (List.map strT ws) = List.map strT ws := List.take_of_length_le (by simp)
    simp [dd, de, e5, hf, hpos, hle, hy, htk]
theorem l02Get_cons (w : Bytes) (ws : List Bytes) (hws : ws.length < 4294967296) (ih : ∀ v : Val, v.t.length < 1048576 → run E (.call 382 [xV v, .t (.list (ws.map strT))]) = some (.res [.row 35 ((getP ws v).map valT)] []))
    (v : Val) (hv : v.t.length < 1048576) : run E (.call 382 [xV v, .t (.list ((w :: ws).map strT))]) = some (.res [.row 35 ((getP (w :: ws) v).map valT)] []) := by
  rw [getP_cons]
  by_cases hk : v.k = 5
  · rw [if_pos hk]; exact l02Get_doc w ws hws ih v hv hk
  rw [if_neg hk]
  rw [run_call E 382 _ rfl Tryz.func382 rfl rfl rfl (by simp)]
  have e5 : (v.k = 5) = False := eq_false hk
  have hpos : ¬ ((ws.length : Int) + 1 = 0) := by omega
  by_cases h4 : v.k = 4
  · rw [if_pos h4]
    have e4 : (v.k = 4) = True := eq_true h4
    clear h4 hk
    have hi := l01Items v.t (by omega)
    obtain ⟨b, hb⟩ := itemsX_L v.t
    rw [hb] at hi
    obtain ⟨hl, hs⟩ := itemsL_len v.t
    generalize hxs : itemsL v.t = xs at *
    have hsum := itemsL_sum v.t
    rw [hxs] at hsum
    obtain ⟨F, hF⟩ : ∃ F : Val → List Val, F = (fun x => if x.k = 5 then oneP w ws x else []) := ⟨_, rfl⟩
    have hF5 : ∀ x : Val, x.k = 5 → F x = oneP w ws x := by intro x h; rw [hF]; simp [h]
    have hFn : ∀ x : Val, ¬ x.k = 5 → F x = [] := by intro x h; rw [hF]; simp [h]
    have hFl : (xs.flatMap F).length ≤ 1048576 := by
      have := flat_le (f := F) (g := fun x => x.t.length + 1) (l := xs) (fun x _ => by
        by_cases h : x.k = 5
        · have h1 := getP_len (w :: ws) x
          rw [getP_cons, if_pos h] at h1
          rw [hF5 x h]; exact h1
        · rw [hFn x h]; simp)
      omega
    rw [← hF]
    clear hF
    have lp := fun (R : List Val) (hR : R = xs.flatMap F) => sk1 (fun s o q hI => loop_for (c := loopAt Tryz.f382 0) (N := 82)
      (fun i s o q => ∃ r acc, s 1 = .t (.list ((w :: ws).map strT)) ∧ s 10 = .row r ∧ s 11 = .row 2 ∧ s 13 = .t (.int .i64 i) ∧ o r = .row 35 (acc.map valT) true ∧ o 2 = .row 35 (xs.map valT) true ∧ r < q ∧ r ≠ 2 ∧ 2 < q ∧ R = acc ++ (xs.drop i).flatMap F)
      (fun e s' o' q' => ∃ r, e = .exit 1 ∧ s' 10 = .row r ∧ o' r = .row 35 (R.map valT) true) xs.length
      (by
        rintro i s o q hi ⟨r, acc, h1, h10, h11, h13, ho, ho2, hrq, hr2, h2q, hp⟩
        have hi' : (i : Int) < (xs.length : Int) := by omega
        have hwi := wrap_succ (n := i) (by omega)
        have hxi : xs[i]? = some xs[i] := List.getElem?_eq_getElem hi
        have hrn : r ≠ q := by omega
        have hrn2 : r ≠ q + 1 := by omega
        have hqn : q ≠ r := by omega
        have h2n : 2 ≠ q := by omega
        have h2n1 : 2 ≠ q + 1 := by omega
        have h2r : 2 ≠ r := fun h => hr2 h.symm
        have hxl := hs _ (List.getElem_mem hi)
        rw [List.drop_eq_getElem_cons hi, List.flatMap_cons, ← List.append_assoc] at hp
        by_cases h5 : xs[i].k = 5
        · have hd := l02Get_doc w ws hws ih xs[i] (by omega) h5
          have e5 : (xs[i].k = 5) = True := eq_true h5
          have hf := hF5 _ h5
          rw [← hf] at hd
          rw [List.map_cons] at hd
          have hcat : (acc.map valT).length + ((F xs[i]).map valT).length ≤ 140737488355328 := by
            have h1 := congrArg List.length hp
            simp [hR] at h1 hFl ⊢
            omega
          have hcat2 : ((acc.map valT).length + ((F xs[i]).map valT).length) * 32 ≤ 140737488355328 := by
            have h1 := congrArg List.length hp
            simp [hR] at h1 hFl ⊢
            omega
          simp only [List.length_map] at hcat hcat2
          clear h5
          simp [loopAt, loopsOf, Tryz.f382, h1, h10, h11, h13, ho, ho2, hi, hi', hwi, hxi, hrn, hrn2, hqn, h2n, h2n1, h2r, hr2, e5, hd, hcat, hcat2]
          exact ⟨acc ++ F xs[i], by simp, by omega, by omega, hp⟩
        · have e5 : (xs[i].k = 5) = False := eq_false h5
          rw [hFn _ h5, List.append_nil] at hp
          clear h5
          simp [loopAt, loopsOf, Tryz.f382, h1, h10, h11, h13, ho, ho2, hi, hi', hwi, hxi, hrn, hrn2, hqn, h2n, h2n1, h2r, hr2, e5]
          exact ⟨acc, rfl, hrq, h2q, hp⟩)
      (by
        rintro s o q ⟨r, acc, h1, h10, h11, h13, ho, ho2, hrq, hr2, h2q, hp⟩
        simp at hp
        simp [loopAt, loopsOf, Tryz.f382, h1, h10, h11, h13, ho, ho2, hp])
      xs.length 0 s o q (by omega) hI)
    simp only [loopAt, loopsOf, Tryz.f382] at lp
    obtain ⟨X, A, B, C, M, hx⟩ := lp _ rfl
    have hx' := fun s o q r a1 a10 a11 a13 ao ao2 arq ar2 a2q => hx s o q ⟨r, [], a1, a10, a11, a13, ao, ao2, arq, ar2, a2q, by simp⟩
    clear hx lp
    simp at hx'
    simp [e5, e4, hpos, hi, hx']
  · rw [if_neg h4]
    have e4 : (v.k = 4) = False := eq_false h4
    simp [e5, e4, hpos]
theorem l02Get : ∀ (ws : List Bytes) (v : Val), ws.length < 4294967296 → v.t.length < 1048576 → run E (.call 382 [xV v, .t (.list (ws.map strT))]) = some (.res [.row 35 ((getP ws v).map valT)] [])
  | [], v, _, hv => l02Get_nil v hv
  | w :: ws, v, hws, hv => l02Get_cons w ws (by simp at hws; omega) (fun v hv => l02Get ws v (by simp at hws; omega) hv) v hv
theorem l02Values (v : Val) (p : Bytes) (hv : v.t.length < 1048576) (hp : p.length < 4294967295) : run E (.call 355 [xV v, xS p]) = some (.res [.row 35 ((getP (cutP 46 p) v).map valT)] []) := by
  rw [run_call E 355 _ rfl Tryz.func355 rfl rfl rfl (by simp)]
  have d1 := d355_1
  simp [regionOf, findR, pick, Tryz.f355] at d1
  have dd := fun st => run_region_draw E st 1 _ d1
  clear d1
  have e46 : ((46 : UInt8).toNat : Int) = 46 := rfl
  have hc := l00Cut p 46 (by omega) (by omega)
  rw [xU, e46] at hc
  have hcl := cutP_length 46 p
  have hct : p.count 46 ≤ p.length := List.count_le_length
  have hg := l02Get (cutP 46 p) v (by omega) hv
  simp [dd, hc, hg]
end Go.Yd
/- What a path comes to: impl's comesTo. -/
set_option linter.unusedSimpArgs false
set_option linter.unusedVariables false
namespace Go.Yd
open Go.Ev Go.Proofs Go.Pu
set_option maxRecDepth 100000
set_option maxHeartbeats 16000000
theorem fieldI_ok {d : Nat} {v : Val} (h : okP d v = true) (hk : v.k = 5) (w : Bytes) : fieldI v w = fieldP v w := by
  obtain ⟨e, fs, _, _, hf, hr, _⟩ := okP_doc h hk
  exact fieldI_eq w hf hr
theorem fieldP_ok {d : Nat} {v y : Val} {w : Bytes} (h : okP d v = true) (hk : v.k = 5) (hx : fieldP v w = some y) : ∃ e, okP e y = true := by
  obtain ⟨e, fs, _, _, hf, hr, hall⟩ := okP_doc h hk
  unfold fieldP fieldsL at hx
  rw [hf] at hx
  simp only [Option.getD_some, Option.map_eq_some_iff] at hx
  obtain ⟨f, h1, rfl⟩ := hx
  exact ⟨e, (hall f (List.mem_of_find?_eq_some h1)).2⟩
theorem comesTo_nil (d : Nat) (v : Val) (hok : okP d v = true) (hv : v.t.length < 1048576) : run E (.call 339 [xV v, .t (.list [])]) = some (.res [.row 35 ((getP [] v).map valT)] []) := by
  rw [run_call E 339 _ rfl Tryz.func339 rfl rfl rfl (by simp)]
  by_cases h4 : v.k = 4
  · obtain ⟨e, xs, _, _, hit, _⟩ := okP_list hok h4
    have hi := implItems v (by omega)
    rw [itemsI_some hit] at hi
    have hl := (items_small hit).1
    have h1 : 1 + xs.length ≤ 140737488355328 := by omega
    have h2 : (1 + xs.length) * 32 ≤ 140737488355328 := by omega
    have e4 : (v.k = 4) = True := eq_true h4
    have eg : getP [] v = v :: xs := by simp [getP, h4, itemsL, hit]
    rw [eg]
    clear h4 eg
    simp at hi
    simp [e4, hi, h1, h2]
  · have e4 : (v.k = 4) = False := eq_false h4
    have eg : getP [] v = [v] := by simp [getP, h4]
    rw [eg]
    clear h4 eg
    simp [e4]
theorem comesTo_doc (w : Bytes) (ws : List Bytes) (hws : ws.length < 4294967296) (ih : ∀ (d : Nat) (v : Val), okP d v = true → v.t.length < 1048576 → run E (.call 339 [xV v, .t (.list (ws.map strT))]) = some (.res [.row 35 ((getP ws v).map valT)] []))
    (d : Nat) (v : Val) (hok : okP d v = true) (hv : v.t.length < 1048576) (hk : v.k = 5) : run E (.call 339 [xV v, .t (.list ((w :: ws).map strT))]) = some (.res [.row 35 ((oneP w ws v).map valT)] []) := by
  rw [run_call E 339 _ rfl Tryz.func339 rfl rfl rfl (by simp)]
  have d9 := d339_10
  simp [regionOf, findR, pick, Tryz.f339] at d9
  have dd := fun st => run_region_draw E st 10 _ d9
  clear d9
  have d12 := d339_12
  simp [regionOf, findR, pick, Tryz.f339] at d12
  have de := fun st => run_region_draw E st 12 _ d12
  clear d12
  have hf := implField v w (by omega)
  rw [fieldI_ok hok hk] at hf
  have hpos : ¬ ((ws.length : Int) + 1 = 0) := by omega
  have hle : (1 : Int) ≤ (ws.length : Int) + 1 := by omega
  unfold oneP
  cases hx : fieldP v w with
  | none =>
    rw [hx] at hf
    simp only [optX] at hf
    have e5 : (v.k = 5) = True := eq_true hk
    clear hk
    simp [dd, de, e5, hf, hpos, hle]
  | some y =>
    have hl := fieldP_len hx
    obtain ⟨e, he⟩ := fieldP_ok hok hk hx
    have hy := ih e y he (by omega)
    rw [hx] at hf
    simp only [optX] at hf
    have htk : List.take ws.length (List.map strT ws) = List.map strT ws := List.take_of_length_le (by simp)
    have e5 : (v.k = 5) = True := eq_true hk
    clear hk
    simp [dd, de, e5, hf, hpos, hle, hy, htk]
theorem comesTo_cons (w : Bytes) (ws : List Bytes) (hws : ws.length < 4294967296) (ih : ∀ (d : Nat) (v : Val), okP d v = true → v.t.length < 1048576 → run E (.call 339 [xV v, .t (.list (ws.map strT))]) = some (.res [.row 35 ((getP ws v).map valT)] []))
    (d : Nat) (v : Val) (hok : okP d v = true) (hv : v.t.length < 1048576) : run E (.call 339 [xV v, .t (.list ((w :: ws).map strT))]) = some (.res [.row 35 ((getP (w :: ws) v).map valT)] []) := by
  rw [getP_cons]
  by_cases hk : v.k = 5
  · rw [if_pos hk]; exact comesTo_doc w ws hws ih d v hok hv hk
  rw [if_neg hk]
  rw [run_call E 339 _ rfl Tryz.func339 rfl rfl rfl (by simp)]
  have e5 : (v.k = 5) = False := eq_false hk
  have hpos : ¬ ((ws.length : Int) + 1 = 0) := by omega
  by_cases h4 : v.k = 4
  · rw [if_pos h4]
    obtain ⟨e, xs, _, _, hit, hxok⟩ := okP_list hok h4
    have hi := implItems v (by omega)
    rw [itemsI_some hit] at hi
    simp at hi
    obtain ⟨hl, hs⟩ := items_small hit
    have hsum := items_sum hit
    have hxs : itemsL v.t = xs := by simp [itemsL, hit]
    rw [hxs]
    have e4 : (v.k = 4) = True := eq_true h4
    clear h4 hk hxs
    obtain ⟨F, hF⟩ : ∃ F : Val → List Val, F = (fun x => if x.k = 5 then oneP w ws x else []) := ⟨_, rfl⟩
    have hF5 : ∀ x : Val, x.k = 5 → F x = oneP w ws x := by intro x h; rw [hF]; simp [h]
    have hFn : ∀ x : Val, ¬ x.k = 5 → F x = [] := by intro x h; rw [hF]; simp [h]
    have hFl : (xs.flatMap F).length ≤ 1048576 := by
      have := flat_le (f := F) (g := fun x => x.t.length + 1) (l := xs) (fun x _ => by
        by_cases h : x.k = 5
        · have h1 := getP_len (w :: ws) x
          rw [getP_cons, if_pos h] at h1
          rw [hF5 x h]; exact h1
        · rw [hFn x h]; simp)
      omega
    rw [← hF]
    clear hF
    have lp := fun (R : List Val) (hR : R = xs.flatMap F) => sk1 (fun s o q hI => loop_for (c := loopAt Tryz.f339 0) (N := 74)
      (fun i s o q => ∃ r acc, s 1 = .t (.list ((w :: ws).map strT)) ∧ s 5 = .row r ∧ s 58 = .row 2 ∧ s 59 = .t (.int .i64 xs.length) ∧ s 60 = .t (.int .i64 i) ∧ o r = .row 35 (acc.map valT) true ∧ o 2 = .row 35 (xs.map valT) true ∧ r < q ∧ r ≠ 2 ∧ 2 < q ∧ R = acc ++ (xs.drop i).flatMap F)
      (fun e s' o' q' => ∃ r, e = .exit 1 ∧ s' 5 = .row r ∧ o' r = .row 35 (R.map valT) true) xs.length
      (by
        rintro i s o q hi ⟨r, acc, h1, h5s, h58, h59, h60, ho, ho2, hrq, hr2, h2q, hp⟩
        have hi' : (i : Int) < (xs.length : Int) := by omega
        have hwi := wrap_succ (n := i) (by omega)
        have hxi : xs[i]? = some xs[i] := List.getElem?_eq_getElem hi
        have hrn : r ≠ q := by omega
        have hrn2 : r ≠ q + 1 := by omega
        have hqn : q ≠ r := by omega
        have hqn1 : q + 1 ≠ r := by omega
        have h2n : 2 ≠ q := by omega
        have h2n1 : 2 ≠ q + 1 := by omega
        have h2r : 2 ≠ r := fun h => hr2 h.symm
        have hxl := hs _ (List.getElem_mem hi)
        rw [List.drop_eq_getElem_cons hi, List.flatMap_cons, ← List.append_assoc] at hp
        by_cases h5 : xs[i].k = 5
        · have hd := comesTo_doc w ws hws ih e xs[i] (hxok _ (List.getElem_mem hi)) (by omega) h5
          have e5 : (xs[i].k = 5) = True := eq_true h5
          have hf := hF5 _ h5
          rw [← hf] at hd
          rw [List.map_cons] at hd
          have hcat : (acc.map valT).length + ((F xs[i]).map valT).length ≤ 140737488355328 := by
            have h1 := congrArg List.length hp
            simp [hR] at h1 hFl ⊢
            omega
          have hcat2 : ((acc.map valT).length + ((F xs[i]).map valT).length) * 32 ≤ 140737488355328 := by
            have h1 := congrArg List.length hp
            simp [hR] at h1 hFl ⊢
            omega
          simp only [List.length_map] at hcat hcat2
          clear h5
          simp [loopAt, loopsOf, Tryz.f339, h1, h5s, h58, h59, h60, ho, ho2, hi, hi', hwi, hxi, hrn, hrn2, hqn, hqn1, h2n, h2n1, h2r, hr2, e5, hd, hcat, hcat2]
          exact ⟨acc ++ F xs[i], by simp, by omega, by omega, hp⟩
        · have e5 : (xs[i].k = 5) = False := eq_false h5
          rw [hFn _ h5, List.append_nil] at hp
          clear h5
          simp [loopAt, loopsOf, Tryz.f339, h1, h5s, h58, h59, h60, ho, ho2, hi, hi', hwi, hxi, hrn, hrn2, hqn, hqn1, h2n, h2n1, h2r, hr2, e5]
          exact ⟨acc, rfl, by omega, by omega, hp⟩)
      (by
        rintro s o q ⟨r, acc, h1, h5s, h58, h59, h60, ho, ho2, hrq, hr2, h2q, hp⟩
        simp at hp
        simp [loopAt, loopsOf, Tryz.f339, h1, h5s, h58, h59, h60, ho, ho2, hp])
      xs.length 0 s o q (by omega) hI)
    simp only [loopAt, loopsOf, Tryz.f339] at lp
    obtain ⟨X, A, B, C, M, hx⟩ := lp _ rfl
    have hx' := fun s o q r a1 a5 a58 a59 a60 ao ao2 arq ar2 a2q => hx s o q ⟨r, [], a1, a5, a58, a59, a60, ao, ao2, arq, ar2, a2q, by simp⟩
    clear hx lp
    simp at hx'
    simp [e5, e4, hpos, hi, hx']
  · rw [if_neg h4]
    have e4 : (v.k = 4) = False := eq_false h4
    simp [e5, e4, hpos]
theorem comesTo : ∀ (ws : List Bytes) (d : Nat) (v : Val), ws.length < 4294967296 → okP d v = true → v.t.length < 1048576 → run E (.call 339 [xV v, .t (.list (ws.map strT))]) = some (.res [.row 35 ((getP ws v).map valT)] [])
  | [], d, v, _, hok, hv => comesTo_nil d v hok hv
  | w :: ws, d, v, hws, hok, hv => comesTo_cons w ws (by simp at hws; omega) (fun d v hok hv => comesTo ws d v (by simp at hws; omega) hok hv) d v hok hv
theorem getPath (d : Nat) (v : Val) (p : Bytes) (hok : okP d v = true) (hv : v.t.length < 1048576) (hp : p.length < 4294967295) : run E (.call 266 [xV v, xS p]) = some (.res [.row 35 ((getP (cutP 46 p) v).map valT)] []) := by
  rw [run_call E 266 _ rfl Tryz.func266 rfl rfl rfl (by simp)]
  have d1 := d266_1
  simp [regionOf, findR, pick, Tryz.f266] at d1
  have dd := fun st => run_region_draw E st 1 _ d1
  clear d1
  have hc := split p 46 (by omega)
  have hcl := cutP_length 46 p
  have hct : p.count 46 ≤ p.length := List.count_le_length
  have hg := comesTo (cutP 46 p) d v (by omega) hok hv
  simp [dd, hc, hg]
end Go.Yd
/- One value against a term: spec's l03One. -/
set_option linter.unusedSimpArgs false
set_option linter.unusedVariables false
namespace Go.Yd
open Go.Ev Go.Proofs Go.Pu
set_option maxRecDepth 100000
set_option maxHeartbeats 16000000
def sameV (a b : Val) : Bool := (a.k == b.k) && ((a.n == b.n) && (a.t == b.t))
/-- One value against a term whose value is v. -/
def oneT (op : Int) (v x : Val) : Bool :=
  if op = 1 then sameV x v
  else if op = 2 then sameV x v
  else if op = 3 then (x.k == v.k) && decide (ordD 5 x v < 0)
  else if op = 4 then (x.k == v.k) && decide (ordD 5 x v ≤ 0)
  else if op = 5 then (x.k == v.k) && decide (0 < ordD 5 x v)
  else if op = 6 then (x.k == v.k) && decide (0 ≤ ordD 5 x v)
  else if op = 7 then (itemsL v.t).any (fun y => sameV y x)
  else if op = 9 then x.k == v.n
  else (x.k == 4) && (((itemsL x.t).length : Int) == v.n)
theorem specOne_small (t : Trm) (x : Val) (h1 : 1 ≤ t.op) (h2 : t.op ≤ 6) (hv : okP 5 t.v = true) (hx : okP 5 x = true) (hvl : t.v.t.length < 1048576) (hxl : x.t.length < 1048576) : run E (.call 356 [.t (trmT t), xV x]) = some (.res [xB (oneT t.op t.v x)] []) := by
  rw [run_call E 356 _ rfl Tryz.func356 rfl rfl rfl (by simp)]
  have ho := specOrder 5 x t.v hx hv (by omega) (by omega)
  have hop : t.op = 1 ∨ t.op = 2 ∨ t.op = 3 ∨ t.op = 4 ∨ t.op = 5 ∨ t.op = 6 := by omega
  unfold oneT
  generalize ordD 5 x t.v = c at *
  cases hk : (x.k == t.v.k) <;> rcases hop with h | h | h | h | h | h <;> simp [h, ho, hk, sameV]
abbrev valBox (x : Val) : Ob := .box 35 [.t (.int .i64 x.k), .t (.int .i64 x.n), .t (.str x.t)]
theorem specOne_in (t : Trm) (x : Val) (h : t.op = 7) (hv : okP 5 t.v = true) (hx : okP 5 x = true) (hvl : t.v.t.length < 1048576) (hxl : x.t.length < 1048576) : run E (.call 356 [.t (trmT t), xV x]) = some (.res [xB (oneT t.op t.v x)] []) := by
  rw [run_call E 356 _ rfl Tryz.func356 rfl rfl rfl (by simp)]
  have ho := specOrder 5 x t.v hx hv (by omega) (by omega)
  have hi := l01Items t.v.t (by omega)
  obtain ⟨b, hb⟩ := itemsX_L t.v.t
  rw [hb] at hi
  have hl := (itemsL_len t.v.t).1
  have d20 := d356_20
  simp [regionOf, findR, pick, Tryz.f356] at d20
  have dd := fun st => run_region_draw E st 20 _ d20
  clear d20
  have ho1 : oneT t.op t.v x = (itemsL t.v.t).any (fun y => sameV y x) := by simp [oneT, h]
  rw [ho1]
  generalize itemsL t.v.t = ys at *
  have lp := fun (b : Bool) (hb : b = ys.any (fun y => sameV y x)) => sk (fun s o q hI => loop_for (c := loopAt Tryz.f356 0) (N := 107)
    (fun i s o q => s 3 = .ptr 1 0 ∧ s 7 = .row 2 ∧ s 9 = .t (.int .i64 i) ∧ o 1 = valBox x ∧ o 2 = .row 35 (ys.map valT) true ∧ b = (ys.drop i).any (fun y => sameV y x))
    (fun e s' o' q' => e = (if b then .ret else .exit 1) ∧ (b = true → s' 4 = .t (.bool true))) ys.length
    (by
      rintro i s o q hi ⟨h3, h7, h9, o1, o2, hp⟩
      have hi' : (i : Int) < (ys.length : Int) := by omega
      have hwi := wrap_succ (n := i) (by omega)
      have hyi : ys[i]? = some ys[i] := List.getElem?_eq_getElem hi
      rw [List.drop_eq_getElem_cons hi, List.any_cons] at hp
      cases hs : sameV ys[i] x with
      | true =>
        have hs' := hs
        unfold sameV at hs'
        simp [hs] at hp
        simp at hs'
        simp [loopAt, loopsOf, Tryz.f356, dd, h3, h7, h9, o1, o2, hi, hi', hyi, hwi, hs', hp]
      | false =>
        have hs' := hs
        unfold sameV at hs'
        simp only [hs, Bool.false_or] at hp
        simp [loopAt, loopsOf, Tryz.f356, dd, h3, h7, h9, o1, o2, hi, hi', hyi, hwi, hs', -List.any_eq_true, -List.any_eq_false]
        exact hp)
    (by
      rintro s o q ⟨h3, h7, h9, o1, o2, hp⟩
      simp at hp
      simp [loopAt, loopsOf, Tryz.f356, h3, h7, h9, o1, o2, hp])
    ys.length 0 s o q (by omega) hI)
  simp only [loopAt, loopsOf, Tryz.f356] at lp
  obtain ⟨z, hz⟩ : ∃ z, z = ys.any (fun y => sameV y x) := ⟨_, rfl⟩
  obtain ⟨X, A, B, C, hl⟩ := lp z hz
  have hl' := fun s o q a3 a7 a9 b1 b2 => hl s o q ⟨a3, a7, a9, b1, b2, by simpa using hz⟩
  clear hl lp
  rw [← hz]
  clear hz
  cases z <;> simp at hl' <;> simp [h, ho, hi, hl']
end Go.Yd
/- One value against a term: spec's l03One whole, impl's holds. -/
set_option linter.unusedSimpArgs false
set_option linter.unusedVariables false
namespace Go.Yd
open Go.Ev Go.Proofs Go.Pu
set_option maxRecDepth 100000
set_option maxHeartbeats 16000000
theorem specOne (t : Trm) (x : Val) (hop : (1 ≤ t.op ∧ t.op ≤ 7) ∨ t.op = 9 ∨ t.op = 10) (hv : okP 5 t.v = true) (hx : okP 5 x = true) (hvl : t.v.t.length < 1048576) (hxl : x.t.length < 1048576) : run E (.call 356 [.t (trmT t), xV x]) = some (.res [xB (oneT t.op t.v x)] []) := by
  by_cases h6 : 1 ≤ t.op ∧ t.op ≤ 6
  · exact specOne_small t x h6.1 h6.2 hv hx hvl hxl
  by_cases h7 : t.op = 7
  · exact specOne_in t x h7 hv hx hvl hxl
  rw [run_call E 356 _ rfl Tryz.func356 rfl rfl rfl (by simp)]
  have ho := specOrder 5 x t.v hx hv (by omega) (by omega)
  have h9 : t.op = 9 ∨ t.op = 10 := by omega
  clear h6 h7
  rcases h9 with h | h
  · simp [oneT, h, ho]
  · have hi := l01Items x.t (by omega)
    obtain ⟨b, hb⟩ := itemsX_L x.t
    rw [hb] at hi
    have ek : ((x.k = 4) = True) ∨ ((x.k = 4) = False) := by by_cases h : x.k = 4 <;> simp [h]
    have en : (((itemsL x.t).length : Int) = t.v.n) = True ∨ (((itemsL x.t).length : Int) = t.v.n) = False := by by_cases h : ((itemsL x.t).length : Int) = t.v.n <;> simp [h]
    have e1 : oneT t.op t.v x = (decide (x.k = 4) && decide (((itemsL x.t).length : Int) = t.v.n)) := by
      unfold oneT
      simp only [h]
      simp [beqd]
    rw [e1]
    rcases ek with ek | ek <;> rcases en with en | en <;> simp [h, ho, hi, ek, en, beqd]
theorem implOne_small (t : Trm) (x : Val) (h1 : 1 ≤ t.op) (h2 : t.op ≤ 6) (hv : okP 5 t.v = true) (hx : okP 5 x = true) (hvl : t.v.t.length < 1048576) (hxl : x.t.length < 1048576) : run E (.call 268 [.t (trmT t), xV x]) = some (.res [xB (oneT t.op t.v x)] []) := by
  rw [run_call E 268 _ rfl Tryz.func268 rfl rfl rfl (by simp)]
  have ho := implOrder 5 x t.v hx hv (by omega) (by omega)
  have hop : t.op = 1 ∨ t.op = 2 ∨ t.op = 3 ∨ t.op = 4 ∨ t.op = 5 ∨ t.op = 6 := by omega
  have hs : sameV x t.v = decide (ordD 5 x t.v = 0) := by
    rw [Bool.eq_iff_iff]
    simp only [sameV, Bool.and_eq_true, beq_iff_eq, decide_eq_true_eq]
    constructor
    · rintro ⟨a, b, c⟩
      rw [val_eq a b c]
      exact ordD_refl 5 _ hv
    · intro h0
      rw [ordD_zero 5 x t.v hx hv h0]
      exact ⟨rfl, rfl, rfl⟩
  unfold oneT
  rw [hs]
  generalize ordD 5 x t.v = c at *
  clear hs
  cases hk : (x.k == t.v.k) <;> rcases hop with h | h | h | h | h | h <;> simp [h, ho, hk, beqd]
end Go.Yd
