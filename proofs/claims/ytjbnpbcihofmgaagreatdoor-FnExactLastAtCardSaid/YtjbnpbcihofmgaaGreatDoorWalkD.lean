/- impl's reader of bytes. -/
import Derived.Test.YtjbnpbcihofmgaaGreatDoorWalkC
set_option linter.unusedSimpArgs false
set_option linter.unusedVariables false
namespace Go.Zd
open Go.Ev Go.Proofs Go.Pu
set_option maxRecDepth 100000
set_option maxHeartbeats 16000000
theorem specValueOK (v : Val) (hv : v.t.length < 4294967296) : run E (.call 46 [xV v]) = some (.res [xB (valueOK v)] []) := by
  rw [run_call E 46 _ rfl Tryz.func46 rfl rfl rfl (by simp)]
  have h := l01OK 5 v (by omega) hv
  simp at h
  by_cases hl : (v.t.length : Int) ≤ 65536
  · simp [hl, h, valueOK]
  · have hr : okP 5 v = false := by
      cases ho : okP 5 v with
      | false => rfl
      | true => have := okP_range ho; omega
    simp [hl, valueOK, hr]
theorem or_byte (n : Int) (b : UInt8) : IntKind.i64.wrap (((BitVec.ofInt 64 (IntKind.i64.wrap (n * 256)) ||| BitVec.ofInt 64 (b.toNat : Int)).toNat : Nat) : Int) = IntKind.i64.wrap (IntKind.i64.wrap (n * 256) + b.toNat) := by
  have hb := b.toNat_lt
  rw [BitVec.toNat_or]
  have h1 : (BitVec.ofInt 64 (b.toNat : Int)).toNat = b.toNat := by
    rw [BitVec.toNat_ofInt]; omega
  obtain ⟨m, hm⟩ : ∃ m : Nat, (BitVec.ofInt 64 (IntKind.i64.wrap (n * 256))).toNat = 2 ^ 8 * m := by
    rw [BitVec.toNat_ofInt, IntKind.wrap_i64]
    exact ⟨((n * 256 % 18446744073709551616) / 256).toNat, by omega⟩
  have h2 : ((2 ^ 8 * m : Nat) : Int) % 18446744073709551616 = (IntKind.i64.wrap (n * 256)) % 18446744073709551616 := by
    rw [← hm, BitVec.toNat_ofInt]; omega
  rw [h1, hm, ← Nat.two_pow_add_eq_or_of_lt (by omega : b.toNat < 2 ^ 8) m]
  simp only [IntKind.wrap_i64] at h2 ⊢
  omega
abbrev byteT (b : UInt8) : T := .int .u8 b.toNat
theorem big (l : Bytes) (hl : l.length < 4294967296) : run E (.call 263 [.t (.list (l.map byteT))]) = some (.res [xI (ofBytes 0 l)] []) := by
  rw [run_call E 263 _ rfl Tryz.func263 rfl rfl rfl (by simp)]
  have lp := sk (fun s o q hI => loop_for (c := loopAt Tryz.f263 0) (N := 19)
    (fun i s o q => ∃ n : Int, s 6 = .t (.list (l.map byteT)) ∧ s 7 = .t (.int .i64 l.length) ∧ s 8 = .t (.int .i64 i) ∧ s 3 = .t (.int .i64 n) ∧ ofBytes n (l.drop i) = ofBytes 0 l)
    (fun e s' o' q' => e = .exit 0 ∧ s' 3 = .t (.int .i64 (ofBytes 0 l))) l.length
    (by
      rintro i s o q hi ⟨n, h6, h7, h8, h3, hp⟩
      have hd : l.drop i = l[i] :: l.drop (i + 1) := by rw [List.drop_eq_getElem_cons hi]
      have hi' : (i : Int) < (l.length : Int) := by omega
      have hw := wrap_succ (n := i) (by omega)
      have hwb := wrap_byte l[i]
      have hor := or_byte n l[i]
      rw [BitVec.ofInt_natCast] at hor
      rw [hd, ofBytes] at hp
      simp [IntKind.bits, loopAt, loopsOf, Tryz.f263, h6, h7, h8, h3, hi, hi', hw, hwb]
      exact (congrArg (fun z => ofBytes z (List.drop (i + 1) l)) hor).trans hp)
    (by
      rintro s o q ⟨n, h6, h7, h8, h3, hp⟩
      simp [ofBytes] at hp
      simp [loopAt, loopsOf, Tryz.f263, h6, h7, h8, h3, hp])
    l.length 0 s o q (by omega) hI)
  simp only [loopAt, loopsOf, Tryz.f263] at lp
  obtain ⟨X, A, B, C, hx⟩ := lp
  have hx' := fun s o q a6 a7 a8 a3 => hx s o q ⟨0, a6, a7, a8, a3, by simp⟩
  clear hx
  simp at hx'
  simp [hx']
/-- A reader, as a box. -/
abbrev rdr (p : Bytes × Bool) : X := .ref 267 [.t (.str p.1), .t (.bool p.2)]
theorem ext262 (m : Nat) (h : m ≤ 4294967296) : run E (.call 262 [xS [0], xI m]) = some (.res [xS (List.replicate m 0)] []) := by
  rw [run_ext E 262 _ (g := _) rfl]
  have h1 : (m : Int) ≤ 9223372036854775807 := by omega
  have h2 : m ≤ 140737488355328 := by omega
  have h3 : Lib.repeatL [0] m = List.replicate m 0 := by
    have := Lib.repeatL_replicate 0 1 m
    simpa using this
  simp [h1, h2, h3]
theorem rTake (p : Bytes × Bool) (m : Nat) (hm : m ≤ 4294967296) (hp : p.1.length ≤ 4294967296) : run E (.call 231 [rdr p, xI m]) = some (.res [xS (rtake m p).1] [some (rdr (rtake m p).2)]) := by
  rw [run_call E 231 _ rfl Tryz.func231 rfl rfl rfl (by simp)]
  obtain ⟨t, f⟩ := p
  by_cases h : t.length < m
  · have h' : (t.length : Int) < (m : Int) := by omega
    simp [rtake, h, h', ext262 m hm]
  · have h' : ¬ (t.length : Int) < (m : Int) := by omega
    have hle : m ≤ t.length := by omega
    simp [rtake, h, h', hle]
theorem rtake_length (m : Nat) (p : Bytes × Bool) : (rtake m p).1.length = m := by
  unfold rtake; split <;> simp; omega
theorem rNum (p : Bytes × Bool) (m : Nat) (hm : m ≤ 65536) (hp : p.1.length ≤ 4294967296) : run E (.call 232 [rdr p, xI m]) = some (.res [xI (rnum m p).1] [some (rdr (rnum m p).2)]) := by
  rw [run_call E 232 _ rfl Tryz.func232 rfl rfl rfl (by simp)]
  have h1 := rTake p m (by omega) hp
  have hl := rtake_length m p
  have h2 := big (rtake m p).1 (by omega)
  have hle : (rtake m p).1.length ≤ 140737488355328 := by omega
  simp [h1, h2, hle, rnum]
theorem rnum1_nat (p : Bytes × Bool) : ∃ k : Nat, (rnum 1 p).1 = k ∧ k < 256 := by
  have hl := rtake_length 1 p
  unfold rnum
  match hq : (rtake 1 p).1, hl with
  | [x], _ => exact ⟨x.toNat, by rw [ofBytes_one], x.toNat_lt⟩
theorem rnum2_nat (p : Bytes × Bool) : ∃ k : Nat, (rnum 2 p).1 = k ∧ k < 65536 := by
  have hl := rtake_length 2 p
  unfold rnum
  match hq : (rtake 2 p).1, hl with
  | [x, y], _ => exact ⟨two x y, by rw [ofBytes_two], two_lt x y⟩
theorem rValue (p : Bytes × Bool) (hp : p.1.length ≤ 4294967296) : run E (.call 233 [rdr p]) = some (.res [valX (rvalue p).1] [some (rdr (rvalue p).2)]) := by
  rw [run_call E 233 _ rfl Tryz.func233 rfl rfl rfl (by simp)]
  have h1 := rNum p 1 (by omega) hp
  have l1 := rnum_len 1 p
  have h11 := rNum (rnum 1 p).2 1 (by omega) (by omega)
  have h18 := rNum (rnum 1 p).2 8 (by omega) (by omega)
  have h12 := rNum (rnum 1 p).2 2 (by omega) (by omega)
  have l2 := rnum_len 2 (rnum 1 p).2
  obtain ⟨k, hk, hk2⟩ := rnum2_nat (rnum 1 p).2
  have ht := rTake (rnum 2 (rnum 1 p).2).2 k (by omega) (by omega)
  simp at h1 h11 h18 h12
  unfold rvalue
  by_cases e1 : (rnum 1 p).1 = 1
  · simp [h1, h11, e1]
  · by_cases e2 : (rnum 1 p).1 = 2
    · simp [h1, h18, e2]
    · by_cases e3 : (rnum 1 p).1 = 3
      · simp [h1, h12, e3, hk, ht]
      · by_cases e4 : (rnum 1 p).1 = 4
        · simp [h1, h12, e4, hk, ht]
        · by_cases e5 : (rnum 1 p).1 = 5
          · simp [h1, h12, e5, hk, ht]
          · have b1 : ((rnum 1 p).1 == 1) = false := by simpa using e1
            have b2 : ((rnum 1 p).1 == 2) = false := by simpa using e2
            have b3 : ((rnum 1 p).1 == 3) = false := by simpa using e3
            have b4 : ((rnum 1 p).1 == 4) = false := by simpa using e4
            have b5 : ((rnum 1 p).1 == 5) = false := by simpa using e5
            simp [h1, e1, e2, e3, e4, e5, b1, b2, b3, b4, b5]
end Go.Zd
/- impl's items, fields. -/
set_option linter.unusedSimpArgs false
set_option linter.unusedVariables false
namespace Go.Zd
open Go.Ev Go.Proofs Go.Pu
set_option maxRecDepth 100000
set_option maxHeartbeats 16000000
def restI {α : Type} (f : Bytes × Bool → α × (Bytes × Bool)) : Nat → Bytes × Bool → Bytes
  | 0, p => p.1
  | n + 1, p => if p.1 = [] ∨ p.2 = true then p.1 else restI f n (f p).2
theorem rfield_len' (p : Bytes × Bool) (h : p.1 ≠ []) : (rfield p).2.1.length < p.1.length := by
  obtain ⟨t, f⟩ := p
  cases t with
  | nil => exact absurd rfl h
  | cons x r => have := rfield_len x r f; simp; omega
theorem rvalue_len' (p : Bytes × Bool) (h : p.1 ≠ []) : (rvalue p).2.1.length < p.1.length := by
  obtain ⟨t, f⟩ := p
  cases t with
  | nil => exact absurd rfl h
  | cons x r => have := rvalue_len x r f; simp; omega
theorem implItems (v : Val) (hv : v.t.length < 4294967296) : run E (.call 194 [xV v]) = some (.res [.row 25 ((itemsI v.t).1.map valT), xB (!(itemsI v.t).2)] []) := by
  rw [run_call E 194 _ rfl Tryz.func194 rfl rfl rfl (by simp)]
  have lp := sk1 (fun s o q hI => loop_wf (c := loopAt Tryz.f194 0) (N := 34)
    (fun k s o q => ∃ r p xs n, s 4 = .ptr 1 0 ∧ o 1 = .box 267 [.t (.str p.1), .t (.bool p.2)] ∧ s 5 = .row r ∧ o r = .row 25 (xs.map valT) true ∧ 1 < r ∧ r < q ∧ p.1.length = k ∧ k < n ∧ loopI rvalue (v.t.length + 1) (v.t, false) = (xs ++ (loopI rvalue n p).1, (loopI rvalue n p).2) ∧ restI rvalue (v.t.length + 1) (v.t, false) = restI rvalue n p ∧ xs.length + p.1.length ≤ v.t.length)
    (fun e s' o' q' => ∃ r, e = .exit 0 ∧ s' 4 = .ptr 1 0 ∧ o' 1 = .box 267 [.t (.str (restI rvalue (v.t.length + 1) (v.t, false))), .t (.bool (itemsI v.t).2)] ∧ s' 5 = .row r ∧ o' r = .row 25 ((itemsI v.t).1.map valT) true)
    (by
      rintro k s o q ⟨r, p, xs, n, h4, ho1, h5, hor, h1r, hrq, hk, hkn, hlo, hre, hl⟩
      have hr1 : r ≠ 1 := by omega
      have h1r' : 1 ≠ r := by omega
      have hrn : r ≠ q := by omega
      have hrn1 : r ≠ q + 1 := by omega
      have hqn : q ≠ r := by omega
      have hq1 : q ≠ 1 := by omega
      have h1q : 1 ≠ q := by omega
      have h1q1 : 1 ≠ q + 1 := by omega
      have hq0 : q ≠ 0 := by omega
      cases n with
      | zero => omega
      | succ n =>
        rcases p with ⟨_ | ⟨x0, r0⟩, pf⟩
        · have hI : (itemsI v.t) = (xs, pf) := by
            unfold itemsI; rw [hlo]; simp [loopI]
          have hR : restI rvalue (v.t.length + 1) (v.t, false) = [] := by rw [hre]; simp [restI]
          simp [loopAt, loopsOf, Tryz.f194, h4, ho1, h5, hor, hI, hR]
        · cases pf with
          | true =>
            have hI : (itemsI v.t) = (xs, true) := by
              unfold itemsI; rw [hlo]; simp [loopI]
            have hR : restI rvalue (v.t.length + 1) (v.t, false) = x0 :: r0 := by rw [hre]; simp [restI]
            simp [loopAt, loopsOf, Tryz.f194, h4, ho1, h5, hor, hI, hR]
          | false =>
            have hlen := rvalue_len' (x0 :: r0, false) (by simp)
            have hl0 : (x0 :: r0).length ≤ 4294967296 := by simp at hl ⊢; omega
            have hc := rValue (x0 :: r0, false) hl0
            have hx1 : xs.length + 1 ≤ 140737488355328 := by omega
            have hx2 : (xs.length + 1) * 32 ≤ 140737488355328 := by omega
            have hlo2 : loopI rvalue (n + 1) (x0 :: r0, false) = ((rvalue (x0 :: r0, false)).1 :: (loopI rvalue n (rvalue (x0 :: r0, false)).2).1, (loopI rvalue n (rvalue (x0 :: r0, false)).2).2) := by simp [loopI]
            have hre2 : restI rvalue (n + 1) (x0 :: r0, false) = restI rvalue n (rvalue (x0 :: r0, false)).2 := by simp [restI]
            simp [-Prod.exists, -Bool.exists_bool, loopAt, loopsOf, Tryz.f194, h4, ho1, h5, hor, hc, hr1, h1r', hrn, hrn1, hqn, hq1, h1q, h1q1, hq0, hx1, hx2]
            refine ⟨(rvalue (x0 :: r0, false)).2.1.length, by simp at hlen hk; omega, q + 1, (rvalue (x0 :: r0, false)).2, ⟨rfl, rfl⟩, rfl, xs ++ [(rvalue (x0 :: r0, false)).1], by simp, by omega, by omega, rfl, n, by simp at hlen hk; omega, ?_, ?_, by simp at hlen hl ⊢; omega⟩
            · rw [hlo, hlo2]; simp
            · rw [hre, hre2])
    v.t.length s o q hI)
  simp only [loopAt, loopsOf, Tryz.f194] at lp
  obtain ⟨X, A, B, C, M, hx⟩ := lp
  have hx' := fun s o q r a1 a2 a3 a4 a5 a6 => hx s o q ⟨r, (v.t, false), [], v.t.length + 1, a1, a2, a3, a4, a5, a6, rfl, by omega, by simp, rfl, by simp⟩
  clear hx
  simp at hx'
  have d := d194_4
  simp [regionOf, findR, pick, Tryz.f194] at d
  have dd := fun st => run_region_draw E st 4 _ d
  clear d
  simp [hx', dd]
theorem implFields (v : Val) (hv : v.t.length < 4294967296) : run E (.call 179 [xV v]) = some (.res [.row 198 ((fieldsI v.t).1.map fldT), xB (!(fieldsI v.t).2)] []) := by
  rw [run_call E 179 _ rfl Tryz.func179 rfl rfl rfl (by simp)]
  have lp := sk1 (fun s o q hI => loop_wf (c := loopAt Tryz.f179 0) (N := 39)
    (fun k s o q => ∃ r p xs n, s 4 = .ptr 1 0 ∧ o 1 = .box 267 [.t (.str p.1), .t (.bool p.2)] ∧ s 5 = .row r ∧ o r = .row 198 (xs.map fldT) true ∧ 1 < r ∧ r < q ∧ p.1.length = k ∧ k < n ∧ loopI rfield (v.t.length + 1) (v.t, false) = (xs ++ (loopI rfield n p).1, (loopI rfield n p).2) ∧ restI rfield (v.t.length + 1) (v.t, false) = restI rfield n p ∧ xs.length + p.1.length ≤ v.t.length)
    (fun e s' o' q' => ∃ r, e = .exit 0 ∧ s' 4 = .ptr 1 0 ∧ o' 1 = .box 267 [.t (.str (restI rfield (v.t.length + 1) (v.t, false))), .t (.bool (fieldsI v.t).2)] ∧ s' 5 = .row r ∧ o' r = .row 198 ((fieldsI v.t).1.map fldT) true)
    (by
      rintro k s o q ⟨r, p, xs, n, h4, ho1, h5, hor, h1r, hrq, hk, hkn, hlo, hre, hl⟩
      have hr1 : r ≠ 1 := by omega
      have h1r' : 1 ≠ r := by omega
      have hrn : r ≠ q := by omega
      have hrn1 : r ≠ q + 1 := by omega
      have hqn : q ≠ r := by omega
      have hq1 : q ≠ 1 := by omega
      have h1q : 1 ≠ q := by omega
      have h1q1 : 1 ≠ q + 1 := by omega
      have hq0 : q ≠ 0 := by omega
      cases n with
      | zero => omega
      | succ n =>
        rcases p with ⟨_ | ⟨x0, r0⟩, pf⟩
        · have hI : (fieldsI v.t) = (xs, pf) := by
            unfold fieldsI; rw [hlo]; simp [loopI]
          have hR : restI rfield (v.t.length + 1) (v.t, false) = [] := by rw [hre]; simp [restI]
          simp [loopAt, loopsOf, Tryz.f179, h4, ho1, h5, hor, hI, hR]
        · cases pf with
          | true =>
            have hI : (fieldsI v.t) = (xs, true) := by
              unfold fieldsI; rw [hlo]; simp [loopI]
            have hR : restI rfield (v.t.length + 1) (v.t, false) = x0 :: r0 := by rw [hre]; simp [restI]
            simp [loopAt, loopsOf, Tryz.f179, h4, ho1, h5, hor, hI, hR]
          | false =>
            have hlen := rfield_len' (x0 :: r0, false) (by simp)
            have hl0 : (x0 :: r0).length ≤ 4294967296 := by simp at hl ⊢; omega
            obtain ⟨k1, hk1, hk1l⟩ := rnum1_nat (x0 :: r0, false)
            have l1 := rnum_len 1 (x0 :: r0, false)
            have l2 := rtake_len k1 (rnum 1 (x0 :: r0, false)).2
            have hc1 := rNum (x0 :: r0, false) 1 (by omega) hl0
            have hc2 := rTake (rnum 1 (x0 :: r0, false)).2 k1 (by omega) (by simp at l1 hl0 ⊢; omega)
            have hc3 := rValue (rtake k1 (rnum 1 (x0 :: r0, false)).2).2 (by simp at l1 l2 hl0 ⊢; omega)
            simp [hk1] at hc1
            have hrf : rfield (x0 :: r0, false) = (⟨(rtake k1 (rnum 1 (x0 :: r0, false)).2).1, (rvalue (rtake k1 (rnum 1 (x0 :: r0, false)).2).2).1⟩, (rvalue (rtake k1 (rnum 1 (x0 :: r0, false)).2).2).2) := by unfold rfield; rw [hk1]; rfl
            have hx1 : xs.length + 1 ≤ 140737488355328 := by omega
            have hx2 : (xs.length + 1) * 48 ≤ 140737488355328 := by omega
            have hlo2 : loopI rfield (n + 1) (x0 :: r0, false) = ((rfield (x0 :: r0, false)).1 :: (loopI rfield n (rfield (x0 :: r0, false)).2).1, (loopI rfield n (rfield (x0 :: r0, false)).2).2) := by simp [loopI]
            have hre2 : restI rfield (n + 1) (x0 :: r0, false) = restI rfield n (rfield (x0 :: r0, false)).2 := by simp [restI]
            simp [-Prod.exists, -Bool.exists_bool, loopAt, loopsOf, Tryz.f179, h4, ho1, h5, hor, hc1, hc2, hc3, hr1, h1r', hrn, hrn1, hqn, hq1, h1q, h1q1, hq0, hx1, hx2]
            refine ⟨(rfield (x0 :: r0, false)).2.1.length, by simp at hlen hk; omega, q + 1, (rfield (x0 :: r0, false)).2, ⟨by rw [hrf], by rw [hrf]⟩, rfl, xs ++ [(rfield (x0 :: r0, false)).1], by simp [hrf], by omega, by omega, rfl, n, by simp at hlen hk; omega, ?_, ?_, by simp at hlen hl ⊢; omega⟩
            · rw [hlo, hlo2]; simp
            · rw [hre, hre2])
    v.t.length s o q hI)
  simp only [loopAt, loopsOf, Tryz.f179] at lp
  obtain ⟨X, A, B, C, M, hx⟩ := lp
  have hx' := fun s o q r a1 a2 a3 a4 a5 a6 => hx s o q ⟨r, (v.t, false), [], v.t.length + 1, a1, a2, a3, a4, a5, a6, rfl, by omega, by simp, rfl, by simp⟩
  clear hx
  simp at hx'
  have d := d179_4
  simp [regionOf, findR, pick, Tryz.f179] at d
  have dd := fun st => run_region_draw E st 4 _ d
  clear d
  simp [hx', dd]
end Go.Zd
/- impl's inner, isRight, ValueOK. -/
set_option linter.unusedSimpArgs false
set_option linter.unusedVariables false
namespace Go.Zd
open Go.Ev Go.Proofs Go.Pu
set_option maxRecDepth 100000
set_option maxHeartbeats 16000000
def nameGo : Option Bytes → List Fld → Bool
  | _, [] => true
  | p, f :: r => nameP f.name && (match p with
      | none => true
      | some q => Op.bytesLess q f.name) && nameGo (some f.name) r
theorem nameGo_eq : ∀ (fs : List Fld), nameGo none fs = (fs.all (fun f => nameP f.name) && rising fs)
  | [] => rfl
  | [f] => by simp [nameGo, rising]
  | f :: g :: r => by
    have ih := nameGo_eq (g :: r)
    simp only [nameGo, rising, List.all_cons, Bool.and_true] at ih ⊢
    generalize nameGo (some g.name) r = D at *
    cases h1 : nameP f.name <;> cases h3 : Op.bytesLess f.name g.name <;> simp_all
theorem loopI_small {α : Type} (f : Bytes × Bool → α × (Bytes × Bool)) (hf : ∀ p : Bytes × Bool, p.1 ≠ [] → (f p).2.1.length < p.1.length) : ∀ (n : Nat) (p : Bytes × Bool), (loopI f n p).1.length ≤ p.1.length
  | 0, p => by simp [loopI]
  | n + 1, p => by
    unfold loopI
    split
    · simp
    · rename_i h
      have h1 : p.1 ≠ [] := fun e => h (.inl e)
      have := hf p h1
      have := loopI_small f hf n (f p).2
      simp; omega
theorem rtake_small (m : Nat) (p : Bytes × Bool) (hm : m ≤ 65536) : (rtake m p).1.length ≤ 65536 := by rw [rtake_length]; exact hm
theorem rvalue_small (p : Bytes × Bool) : (rvalue p).1.t.length ≤ 65536 := by
  unfold rvalue
  obtain ⟨k, hk, hk2⟩ := rnum2_nat (rnum 1 p).2
  split
  · simp
  · split
    · simp
    · split
      · simp only [hk]; rw [rtake_length]; omega
      · simp
theorem rfield_small (p : Bytes × Bool) : (rfield p).1.v.t.length ≤ 65536 ∧ (rfield p).1.name.length ≤ 256 := by
  unfold rfield
  obtain ⟨k, hk, hk2⟩ := rnum1_nat p
  exact ⟨rvalue_small _, by simp only [hk]; rw [rtake_length]; omega⟩
theorem loopI_all {α : Type} (f : Bytes × Bool → α × (Bytes × Bool)) (P : α → Prop) (hf : ∀ p, P (f p).1) : ∀ (n : Nat) (p : Bytes × Bool), ∀ x ∈ (loopI f n p).1, P x
  | 0, p, x, hx => by simp [loopI] at hx
  | n + 1, p, x, hx => by
    unfold loopI at hx
    split at hx
    · simp at hx
    · rcases List.mem_cons.1 hx with rfl | hx
      · exact hf p
      · exact loopI_all f P hf n _ x hx
theorem itemsI_small (t : Bytes) : (itemsI t).1.length ≤ t.length ∧ ∀ x ∈ (itemsI t).1, x.t.length ≤ 65536 := ⟨loopI_small _ rvalue_len' _ _, loopI_all _ _ rvalue_small _ _⟩
theorem fieldsI_small (t : Bytes) : (fieldsI t).1.length ≤ t.length ∧ ∀ x ∈ (fieldsI t).1, x.v.t.length ≤ 65536 ∧ x.name.length ≤ 256 := ⟨loopI_small _ rfield_len' _ _, loopI_all _ _ rfield_small _ _⟩
theorem implInner (v : Val) (hv : v.t.length < 4294967296) : run E (.call 167 [xV v]) = some (.res [.row 25 ((innerI v).1.map valT), xB (innerI v).2] []) := by
  rw [run_call E 167 _ rfl Tryz.func167 rfl rfl rfl (by simp)]
  by_cases h4 : v.k = 4
  · obtain ⟨k, n, t⟩ := v
    simp only at h4 hv
    subst h4
    have h := implItems ⟨4, n, t⟩ hv
    simp [h, innerI]
  · have h := implFields v hv
    obtain ⟨hs1, hs2⟩ := fieldsI_small v.t
    generalize hfs : (fieldsI v.t).1 = fs at *
    generalize hff : (fieldsI v.t).2 = ff at *
    have d8 := d167_8
    simp [regionOf, findR, pick, Tryz.f167] at d8
    have dd := fun st => run_region_draw E st 8 _ d8
    clear d8
    have lp := fun b (hb : b = (!ff && nameGo none fs)) => sk1 (fun s o q hI => loop_for (c := loopAt Tryz.f167 0) (N := 58)
      (fun i s o q => ∃ r z, s 4 = .row 1 ∧ s 5 = .t (.bool z) ∧ s 6 = .row r ∧ s 22 = .row 1 ∧ s 23 = .t (.int .i64 fs.length) ∧ s 24 = .t (.int .i64 i) ∧ o 1 = .row 198 (fs.map fldT) true ∧ 1 < r ∧ r < q ∧ o r = .row 25 ((fs.map (fun f => valT f.v)).take i) true ∧ b = (z && nameGo (match i with | 0 => none | j + 1 => (fs[j]?).map (·.name)) (fs.drop i)))
      (fun e s' o' q' => ∃ r, e = .exit 0 ∧ s' 6 = .row r ∧ s' 5 = .t (.bool b) ∧ o' r = .row 25 (fs.map (fun f => valT f.v)) true) fs.length
      (by
        rintro i s o q hi ⟨r, z, h4, h5, h6, h22, h23, h24, ho1, h1r, hrq, hor, hp⟩
        have hr1 : r ≠ 1 := by omega
        have h1r' : 1 ≠ r := by omega
        have hrn : r ≠ q := by omega
        have hrn1 : r ≠ q + 1 := by omega
        have hqn : q ≠ r := by omega
        have hq1 : q ≠ 1 := by omega
        have h1q : 1 ≠ q := by omega
        have h1q1 : 1 ≠ q + 1 := by omega
        have hq0 : q ≠ 0 := by omega
        have hdr : fs.drop i = fs[i] :: fs.drop (i + 1) := by rw [List.drop_eq_getElem_cons hi]
        have htk : (fs.map (fun f => valT f.v)).take (i + 1) = (fs.map (fun f => valT f.v)).take i ++ [valT fs[i].v] := by rw [List.take_add_one]; simp [hi]
        have hi' : (i : Int) < (fs.length : Int) := by omega
        have hw := wrap_succ (n := i) (by omega)
        have hsm := hs2 _ (List.getElem_mem hi)
        have hnm := isShort fs[i].name (by omega)
        have hxi : fs[i]? = some fs[i] := List.getElem?_eq_getElem hi
        have hx1 : i + 1 ≤ 140737488355328 := by omega
        have hx2 : (i + 1) * 32 ≤ 140737488355328 := by omega
        have hmin : min i fs.length = i := by omega
        rw [hdr] at hp
        simp only [htk]
        cases i with
        | zero =>
          simp only [nameGo] at hp
          cases z <;> cases hn : nameP fs[0].name <;> simp [hn] at hp hnm hor <;> simp [loopAt, loopsOf, Tryz.f167, dd, h4, h5, h6, h22, h23, h24, ho1, hor, hi, hi', hnm, hw, hp, hxi, hr1, h1r', hrn, hrn1, hqn, hq1, h1q, h1q1, hq0, hx1, hx2, hmin]
        | succ j =>
          have hj : j < fs.length := by omega
          have hxj : fs[j]? = some fs[j] := List.getElem?_eq_getElem hj
          have hpos : (0 : Int) < (j : Int) + 1 := by omega
          have hnn : (0 : Int) ≤ (j : Int) + 1 := by omega
          have hwj2 := wrap_nat (n := j) (by omega)
          have hjz : ((j : Int) + 1 == 0) = false := by simp; omega
          simp only [hxj, Option.map_some, nameGo] at hp
          simp at h24 hi' hw
          cases z <;> cases hn : nameP fs[j + 1].name <;> cases hbl : Op.bytesLess fs[j].name fs[j + 1].name <;> simp [hn, hbl] at hp hnm <;> simp [loopAt, loopsOf, Tryz.f167, dd, h4, h5, h6, h22, h23, h24, ho1, hor, hi, hi', hnm, hw, hp, hxi, hxj, hj, hpos, hnn, hwj2, hjz, succ_ne, hbl, hr1, h1r', hrn, hrn1, hqn, hq1, h1q, h1q1, hq0, hx1, hx2, hmin])
      (by
        rintro s o q ⟨r, z, h4, h5, h6, h22, h23, h24, ho1, h1r, hrq, hor, hp⟩
        simp [nameGo] at hp
        have hfull : (fs.map (fun f => valT f.v)).take fs.length = fs.map (fun f => valT f.v) := List.take_of_length_le (by simp)
        simp [loopAt, loopsOf, Tryz.f167, h4, h5, h6, h22, h23, h24, hor, hp, hfull])
      fs.length 0 s o q (by omega) hI)
    simp only [loopAt, loopsOf, Tryz.f167] at lp
    obtain ⟨X, A, B, C, M, hx⟩ := lp _ rfl
    have hx' := fun s o q r a1 a2 a3 a4 a5 a6 a7 a8 a9 a10 => hx s o q ⟨r, !ff, a1, a2, a3, a4, a5, a6, a7, a8, a9, a10, by simp⟩
    clear hx
    simp at hx'
    have heq := nameGo_eq fs
    simp [h4, h, hx', innerI, hfs, hff, heq, Function.comp_def, Bool.and_assoc, -List.all_eq_true]
theorem innerI_small (v : Val) : (innerI v).1.length ≤ v.t.length ∧ ∀ x ∈ (innerI v).1, x.t.length ≤ 65536 := by
  unfold innerI
  split
  · exact itemsI_small v.t
  · obtain ⟨h1, h2⟩ := fieldsI_small v.t
    refine ⟨by simpa using h1, fun x hx => ?_⟩
    simp only [List.mem_map] at hx
    obtain ⟨f, hf, rfl⟩ := hx
    exact (h2 f hf).1
theorem isNumber (n : Int) : run E (.call 166 [xI n]) = some (.res [xB (decide (-1000000000000 ≤ n) && decide (n ≤ 1000000000000))] []) := by
  rw [run_call E 166 _ rfl Tryz.func166 rfl rfl rfl (by simp)]
  simp [inRange]
theorem isRight : ∀ (d : Nat) (v : Val), d ≤ 1000 → v.t.length < 4294967296 → run E (.call 108 [xV v, xI d]) = some (.res [xB (rightI d v)] []) := by
  intro d
  induction d with
  | zero =>
    intro v _ hv
    rw [run_call E 108 _ rfl Tryz.func108 rfl rfl rfl (by simp)]
    obtain ⟨k, n, t⟩ := v
    simp only at hv
    have h300 : ((t.length : Int) ≤ 300) = (t.length ≤ 300) := by simp; omega
    have he : (t == []) = t.isEmpty := by cases t <;> rfl
    have hin := implInner ⟨k, n, t⟩ hv
    obtain ⟨z, z1, z2, z3⟩ := zcase n 0
    unfold rightI
    by_cases h0 : k = 0
    · subst h0; cases z <;> simp [z1, z2, z3, he]
    · by_cases h1 : k = 1
      · subst h1; by_cases hn : 0 ≤ n <;> by_cases hn' : n ≤ 1 <;> simp [hn, hn', inRange, he]
      · by_cases h2 : k = 2
        · subst h2; by_cases hn : -1000000000000 ≤ n <;> by_cases hn' : n ≤ 1000000000000 <;> simp [hn, hn', isNumber, he]
        · by_cases h3 : k = 3
          · subst h3; cases z <;> simp [z1, z2, z3, h300]
          · by_cases h4 : k = 4
            · subst h4
              cases z <;> by_cases hl : t.length ≤ 300 <;> simp [hin, z1, z2, z3, h300, hl]
            · by_cases h5 : k = 5
              · subst h5
                cases z <;> by_cases hl : t.length ≤ 300 <;> simp [hin, z1, z2, z3, h300, hl]
              · simp [h0, h1, h2, h3, h4, h5]
  | succ d ih =>
    intro v hd hv
    have hcl : ∀ x : Val, x.t.length < 4294967296 → run E (.call 168 [xV x, .dref [.int .i64 ((d : Int) + 1)]]) = some (.res [xB (!rightI d x)] []) := by
      intro x hx
      rw [run_call E 168 _ rfl Tryz.func168 rfl rfl rfl (by simp)]
      have hw1 : IntKind.i64.wrap ((d : Int) + 1 - 1) = (d : Int) := by rw [wrap_of (by omega) (by omega)]; omega
      have hw2 := wrap_nat (n := d) (by omega)
      have := ih x (by omega) hx
      simp [hw1, hw2, this]
    rw [run_call E 108 _ rfl Tryz.func108 rfl rfl rfl (by simp)]
    obtain ⟨k, n, t⟩ := v
    simp only at hv
    have h300 : ((t.length : Int) ≤ 300) = (t.length ≤ 300) := by simp; omega
    have he : (t == []) = t.isEmpty := by cases t <;> rfl
    have hin := implInner ⟨k, n, t⟩ hv
    obtain ⟨hs1, hs2⟩ := innerI_small ⟨k, n, t⟩
    have hd0 : (0 : Int) < (d : Int) + 1 := by omega
    have hcf := containsFunc_143_1 (innerI ⟨k, n, t⟩).1 168 [.int .i64 ((d : Int) + 1)] (fun x => !rightI d x) (by simp at hs1; omega) rfl (by simp) (fun x hx => hcl x (by have := hs2 x hx; omega))
    have hall : (!(innerI ⟨k, n, t⟩).1.any (fun x => !rightI d x)) = (innerI ⟨k, n, t⟩).1.all (rightI d) := by simp [List.any_eq_not_all_not]
    obtain ⟨z, z1, z2, z3⟩ := zcase n 0
    unfold rightI
    by_cases h0 : k = 0
    · subst h0; cases z <;> simp [z1, z2, z3, he]
    · by_cases h1 : k = 1
      · subst h1; by_cases hn : 0 ≤ n <;> by_cases hn' : n ≤ 1 <;> simp [hn, hn', inRange, he]
      · by_cases h2 : k = 2
        · subst h2; by_cases hn : -1000000000000 ≤ n <;> by_cases hn' : n ≤ 1000000000000 <;> simp [hn, hn', isNumber, he]
        · by_cases h3 : k = 3
          · subst h3; cases z <;> simp [z1, z2, z3, h300]
          · by_cases h4 : k = 4
            · subst h4
              cases hio : (innerI ⟨4, n, t⟩).2 <;> cases z <;> by_cases hl : t.length ≤ 300 <;> simp [hio] at hin <;> simp [hin, z1, z2, z3, h300, hl, hd0, hcf, hio, ← hall]
            · by_cases h5 : k = 5
              · subst h5
                cases hio : (innerI ⟨5, n, t⟩).2 <;> cases z <;> by_cases hl : t.length ≤ 300 <;> simp [hio] at hin <;> simp [hin, z1, z2, z3, h300, hl, hd0, hcf, hio, ← hall]
              · simp [h0, h1, h2, h3, h4, h5]
theorem implValueOK (v : Val) (hv : v.t.length < 4294967296) : run E (.call 47 [xV v]) = some (.res [xB (valueOK v)] []) := by
  rw [run_call E 47 _ rfl Tryz.func47 rfl rfl rfl (by simp)]
  have h := isRight 5 v (by omega) hv
  simp at h
  simp [h, valueOK, rightI_eq]
end Go.Zd
