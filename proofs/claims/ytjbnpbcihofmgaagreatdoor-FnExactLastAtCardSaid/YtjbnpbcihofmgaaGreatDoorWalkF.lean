/- Fields by name: spec's l02Field; impl's findField, field; ids. -/
import Derived.Test.YtjbnpbcihofmgaaGreatDoorWalkE
set_option linter.unusedSimpArgs false
set_option linter.unusedVariables false
namespace Go.Zd
open Go.Ev Go.Proofs Go.Pu
set_option maxRecDepth 100000
set_option maxHeartbeats 16000000
theorem compareBytes_lt : ∀ (a b : Bytes), (Lib.compareBytes a b < 0) = (Op.bytesLess a b = true)
  | [], [] => by simp [Lib.compareBytes, Op.bytesLess]
  | [], _ :: _ => by simp [Lib.compareBytes, Op.bytesLess]
  | _ :: _, [] => by simp [Lib.compareBytes, Op.bytesLess]
  | x :: a, y :: b => by
    have ih := compareBytes_lt a b
    unfold Lib.compareBytes Op.bytesLess
    by_cases h1 : x < y
    · simp [h1]
    · by_cases h2 : y < x
      · have : ¬ x = y := fun e => by subst e; exact h1 h2
        simp [h1, h2, this]
      · have e : x = y := UInt8.le_antisymm (UInt8.not_lt.1 h2) (UInt8.not_lt.1 h1)
        subst e
        simp [h1, ih]
theorem compareBytes_eq : ∀ (a b : Bytes), (Lib.compareBytes a b = 0) = (a = b)
  | [], [] => by simp [Lib.compareBytes]
  | [], _ :: _ => by simp [Lib.compareBytes]
  | _ :: _, [] => by simp [Lib.compareBytes]
  | x :: a, y :: b => by
    have ih := compareBytes_eq a b
    unfold Lib.compareBytes
    by_cases h1 : x < y
    · have : ¬ x = y := fun e => by subst e; exact absurd h1 (UInt8.lt_irrefl x)
      simp [h1, this]
    · by_cases h2 : y < x
      · have : ¬ x = y := fun e => by subst e; exact h1 h2
        simp [h1, h2, this]
      · have e : x = y := UInt8.le_antisymm (UInt8.not_lt.1 h2) (UInt8.not_lt.1 h1)
        subst e
        simp [h1, ih]
theorem compare (a b : Bytes) : run E (.call 198 [xS a, xS b]) = some (.res [xI (Lib.compareBytes a b)] []) := by
  have h : run E (.call 246 [xS a, xS b]) = some (.res [xI (Lib.compareBytes a b)] []) := by
    rw [run_ext E 246 _ (g := _) rfl]
    simp
  rw [run_call E 198 _ rfl Tryz.func198 rfl rfl rfl (by simp)]
  simp [h]
theorem findClosure (f : Fld) (name : Bytes) : run E (.call 265 [.t (fldT f), xS name]) = some (.res [xI (Lib.compareBytes f.name name)] []) := by
  rw [run_call E 265 _ rfl Tryz.func265 rfl rfl rfl (by simp)]
  simp [compare f.name name]
/-- Where a search by halves ends. -/
def seekI (fs : List Fld) (name : Bytes) : Nat := halves (fun k => match fs[k]? with
  | some f => Op.bytesLess f.name name
  | none => false) (fs.length + 1) 0 fs.length
def thereI (fs : List Fld) (name : Bytes) : Bool := match fs[seekI fs name]? with
  | some f => f.name == name
  | none => false
theorem wrap_u64 {n : Nat} (h : n < 18446744073709551616) : IntKind.u64.wrap (n : Int) = n := by
  simp [IntKind.wrap, IntKind.bits, IntKind.signed]
  omega
theorem pow_u64 : (2 : Int) ^ min 1 IntKind.u64.bits = 2 := by rfl
theorem binarySearch (fs : List Fld) (name : Bytes) (hl : fs.length < 4294967296) : run E (.call 264 [.t (.list (fs.map fldT)), xS name, .fn 265 []]) = some (.res [xI (seekI fs name : Nat), xB (thereI fs name)] []) := by
  rw [run_call E 264 _ rfl Tryz.func264 rfl rfl rfl (by simp)]
  have lp := sk (fun s o q hI => loop_wf (c := loopAt Tryz.f264 0) (N := 49)
    (fun k s o q => ∃ i j : Nat, s 0 = .t (.list (fs.map fldT)) ∧ s 1 = .t (.str name) ∧ s 2 = .fn 265 [] ∧ s 8 = .t (.int .i64 fs.length) ∧ s 9 = .t (.int .i64 i) ∧ s 10 = .t (.int .i64 j) ∧ j ≤ fs.length ∧ i ≤ j ∧ k = j - i ∧ ∃ n, k < n ∧ halves (fun k => match fs[k]? with
        | some f => Op.bytesLess f.name name
        | none => false) n i j = seekI fs name)
    (fun e s' o' q' => e = .exit 0 ∧ s' 0 = .t (.list (fs.map fldT)) ∧ s' 1 = .t (.str name) ∧ s' 2 = .fn 265 [] ∧ s' 8 = .t (.int .i64 fs.length) ∧ s' 9 = .t (.int .i64 (seekI fs name : Nat)))
    (by
      rintro k s o q ⟨i, j, h0, h1, h2, h8, h9, h10, hj, hij, hk, n, hn, hh⟩
      cases n with
      | zero => omega
      | succ n =>
        unfold halves at hh
        by_cases hlt : i < j
        · have hlt' : (i : Int) < (j : Int) := by omega
          have hw1 : IntKind.i64.wrap ((i : Int) + (j : Int)) = ((i + j : Nat) : Int) := by rw [wrap_of (by omega) (by omega)]; omega
          have hw2 := wrap_u64 (n := i + j) (by omega)
          obtain ⟨m, hme⟩ : ∃ m, m = (i + j) / 2 := ⟨_, rfl⟩
          have hm : m < fs.length := by omega
          have hw3 := wrap_nat (n := m) (by omega)
          have hw4 := wrap_succ (n := m) (by omega)
          have hfd : ((i : Int) + (j : Int)).fdiv 2 = (m : Int) := by rw [Int.fdiv_eq_ediv_of_nonneg _ (by omega)]; omega
          have hed : ((i : Int) + (j : Int)) / 2 = (m : Int) := by omega
          have hx : fs[m]? = some fs[m] := List.getElem?_eq_getElem hm
          have hc := findClosure fs[m] name
          rw [if_pos hlt, ← hme] at hh
          simp only [hx] at hh
          simp only [Int.natCast_add] at hw1 hw2
          cases hb : Op.bytesLess fs[m].name name with
          | true =>
            have hcl : Lib.compareBytes fs[m].name name < 0 := by rw [compareBytes_lt]; exact hb
            simp [hb] at hh
            simp [loopAt, loopsOf, Tryz.f264, h0, h1, h2, h8, h9, h10, hlt', pow_u64, hw1, hw2, hfd, hed, hw3, hw4, hx, hc, hcl, hm]
            exact ⟨j - (m + 1), by omega, m + 1, by simp, j, rfl, hj, by omega, rfl, n, by omega, hh⟩
          | false =>
            have hcl : ¬ Lib.compareBytes fs[m].name name < 0 := by rw [compareBytes_lt]; simp [hb]
            simp [hb] at hh
            simp [loopAt, loopsOf, Tryz.f264, h0, h1, h2, h8, h9, h10, hlt', pow_u64, hw1, hw2, hfd, hed, hw3, hw4, hx, hc, hcl, hm]
            exact ⟨m - i, by omega, i, rfl, m, rfl, by omega, by omega, rfl, n, by omega, hh⟩
        · have hlt' : ¬ (i : Int) < (j : Int) := by omega
          rw [if_neg hlt] at hh
          simp [loopAt, loopsOf, Tryz.f264, h0, h1, h2, h8, h9, h10, hlt', ← hh])
    fs.length s o q hI)
  simp only [loopAt, loopsOf, Tryz.f264] at lp
  obtain ⟨X, A, B, C, hx⟩ := lp
  have hx' := fun s o q a0 a1 a2 a8 a9 a10 => hx s o q ⟨0, fs.length, a0, a1, a2, a8, a9, a10, Nat.le_refl _, Nat.zero_le _, by omega, fs.length + 1, by omega, rfl⟩
  clear hx
  simp at hx'
  unfold thereI
  by_cases hs : seekI fs name < fs.length
  · have hs' : (seekI fs name : Int) < (fs.length : Int) := by omega
    have hg : fs[seekI fs name]? = some fs[seekI fs name] := List.getElem?_eq_getElem hs
    have hc := findClosure fs[seekI fs name] name
    have heq : (Lib.compareBytes fs[seekI fs name].name name == 0) = (fs[seekI fs name].name == name) := by
      rw [Bool.eq_iff_iff]; simp [compareBytes_eq]
    simp [hx', hs, hs', hg, hc, heq]
  · have hs' : ¬ (seekI fs name : Int) < (fs.length : Int) := by omega
    have hg : fs[seekI fs name]? = none := List.getElem?_eq_none (by omega)
    simp [hx', hs, hs', hg]
theorem findField (fs : List Fld) (name : Bytes) (hl : fs.length < 4294967296) : run E (.call 234 [.t (.list (fs.map fldT)), xS name]) = some (.res [xI (seekI fs name : Nat), xB (thereI fs name)] []) := by
  rw [run_call E 234 _ rfl Tryz.func234 rfl rfl rfl (by simp)]
  simp [binarySearch fs name hl]
def fieldI (v : Val) (name : Bytes) : Option Val := match (fieldsI v.t).1[seekI (fieldsI v.t).1 name]? with
  | some f => if f.name == name then some f.v else none
  | none => none
def optX : Option Val → List X
  | some v => [valX v, xB true]
  | none => [valX ⟨0, 0, []⟩, xB false]
theorem implField (v : Val) (name : Bytes) (hv : v.t.length < 4294967296) : run E (.call 180 [xV v, xS name]) = some (.res (optX (fieldI v name)) []) := by
  rw [run_call E 180 _ rfl Tryz.func180 rfl rfl rfl (by simp)]
  have h1 := implFields v hv
  obtain ⟨hs1, hs2⟩ := fieldsI_small v.t
  have h2 := findField (fieldsI v.t).1 name (by omega)
  unfold fieldI
  generalize (fieldsI v.t).1 = fs at *
  unfold thereI at h2
  cases hg : fs[seekI fs name]? with
  | none => simp [hg] at h2; simp [h1, h2, optX]
  | some f =>
    cases hn : f.name == name with
    | false => simp [hg, hn] at h2; simp [h1, h2, hn, optX]
    | true => simp [hg, hn] at h2; simp [h1, h2, hn, hg, optX]
theorem specField (v : Val) (name : Bytes) (hv : v.t.length < 4294967296) : run E (.call 209 [xV v, xS name]) = some (.res (optX (fieldP v name)) []) := by
  rw [run_call E 209 _ rfl Tryz.func209 rfl rfl rfl (by simp)]
  have h1 := l01Fields v.t hv
  have hfx : ∃ b, fieldsX (fieldsP v.t) = [.row 198 ((fieldsL v.t).map fldT), xB b] ∧ (fieldsL v.t).length ≤ v.t.length := by
    unfold fieldsL
    cases h : fieldsP v.t with
    | none => exact ⟨false, rfl, by simp⟩
    | some fs => exact ⟨true, rfl, by have := (fields_small h).1; simpa using this⟩
  obtain ⟨b, hfx, hl⟩ := hfx
  rw [hfx] at h1
  unfold fieldP
  generalize fieldsL v.t = fs at *
  have lp := fun (r : Option Fld) (hr : fs.find? (fun f => f.name == name) = r) => sk (fun s o q hI => loop_for (c := loopAt Tryz.f209 0) (N := 34)
    (fun i s o q => s 1 = .t (.str name) ∧ s 6 = .row 2 ∧ s 8 = .t (.int .i64 i) ∧ s 4 = .ptr 1 0 ∧ o 1 = .box 25 [.t (.int .i64 0), .t (.int .i64 0), .t (.str [])] ∧ o 2 = .row 198 (fs.map fldT) true ∧ (fs.drop i).find? (fun f => f.name == name) = r)
    (fun e s' o' q' => match (generalizing := false) r with
      | some f => e = .ret ∧ s' 4 = .ptr 1 0 ∧ s' 5 = .t (.bool true) ∧ o' 1 = .box 25 [.t (.int .i64 f.v.k), .t (.int .i64 f.v.n), .t (.str f.v.t)]
      | none => e = .exit 0 ∧ s' 4 = .ptr 1 0 ∧ o' 1 = .box 25 [.t (.int .i64 0), .t (.int .i64 0), .t (.str [])]) fs.length
    (by
      rintro i s o q hi ⟨g1, g6, g8, g4, ho1, ho2, hp⟩
      have hi' : (i : Int) < (fs.length : Int) := by omega
      have hw := wrap_succ (n := i) (by omega)
      have hxi : fs[i]? = some fs[i] := List.getElem?_eq_getElem hi
      rw [List.drop_eq_getElem_cons hi, List.find?_cons] at hp
      cases hn : fs[i].name == name with
      | true =>
        simp only [hn] at hp
        subst hp
        simp [loopAt, loopsOf, Tryz.f209, g1, g6, g8, g4, ho1, ho2, hi', hxi, hw, hn]
      | false =>
        simp only [hn] at hp
        simp [loopAt, loopsOf, Tryz.f209, g1, g6, g8, g4, ho1, ho2, hi', hxi, hw, hn, hp])
    (by
      rintro s o q ⟨g1, g6, g8, g4, ho1, ho2, hp⟩
      simp at hp
      subst hp
      simp [loopAt, loopsOf, Tryz.f209, g1, g6, g8, g4, ho1, ho2])
    fs.length 0 s o q (by omega) hI)
  simp only [loopAt, loopsOf, Tryz.f209] at lp
  cases hr : fs.find? (fun f => f.name == name) with
  | some f =>
    obtain ⟨X, A, B, C, hx⟩ := lp _ hr
    simp [hr, -List.find?_eq_none] at hx
    simp [h1, hx, optX]
  | none =>
    obtain ⟨X, A, B, C, hx⟩ := lp _ hr
    simp [hr, -List.find?_eq_none] at hx
    simp [h1, hx, optX]
end Go.Zd
/- Ids of documents; versions' documents. -/
set_option linter.unusedSimpArgs false
set_option linter.unusedVariables false
namespace Go.Zd
open Go.Ev Go.Proofs Go.Pu
set_option maxRecDepth 100000
set_option maxHeartbeats 16000000
abbrev idB : Bytes := [105, 100]
theorem fieldI_eq {v : Val} {fs : List Fld} (name : Bytes) (hf : fieldsP v.t = some fs) (hr : rising fs = true) : fieldI v name = fieldP v name := by
  have hs : seekI fs name = placeP fs name := by
    unfold seekI
    refine halves_ok (p := placeP fs name) (m := fs.length) ?_ ?_ _ _ _ (Nat.zero_le _) (place_le fs name) (Nat.le_refl _) (by omega)
    · intro k hk
      have hlt : k < fs.length := Nat.lt_of_lt_of_le hk (place_le fs name)
      have hg : fs[k]? = some fs[k] := List.getElem?_eq_getElem hlt
      simp only [hg]
      exact (rising_place name hr k _ hg).2 hk
    · intro k hk hkl
      have hg : fs[k]? = some fs[k] := List.getElem?_eq_getElem hkl
      simp only [hg]
      cases hb : Op.bytesLess fs[k].name name with
      | false => rfl
      | true =>
        have := (rising_place name hr k _ hg).1 hb
        omega
  unfold fieldI
  rw [fieldsI_some hf]
  simp only [hs]
  rw [field_place name hf hr]
  cases fs[placeP fs name]? with
  | none => rfl
  | some f => simp
def okId (x : Val) : Bool := decide (x.k = 2) && (decide (0 ≤ x.n) && decide (x.n ≤ 99))
def idI (v : Val) : Int × Bool := match fieldI v idB with
  | some x => (x.n, okId x)
  | none => (0, false)
def specId (v : Val) : Int := match fieldP v idB with
  | some x => if okId x then x.n else -1
  | none => -1
def isDocP (v : Val) : Bool := valueOK v && decide (v.k = 5)
def nullB (v : Val) : Bool := (v.k == 0) && ((v.n == 0) && (v.t == []))
theorem implIdOf (v : Val) (hv : v.t.length < 4294967296) : run E (.call 211 [xV v]) = some (.res [xI (idI v).1, xB (idI v).2] []) := by
  rw [run_call E 211 _ rfl Tryz.func211 rfl rfl rfl (by simp)]
  have h := implField v idB hv
  have d2 := d211_2
  simp [regionOf, findR, pick, Tryz.f211] at d2
  have dd := fun st => run_region_draw E st 2 _ d2
  clear d2
  unfold idI
  cases hf : fieldI v idB with
  | none => rw [hf] at h; simp only [optX] at h; simp [h, dd]
  | some x =>
    rw [hf] at h
    simp only [optX] at h
    have hr := inRange x.n 0 99
    obtain ⟨z, z1, z2, z3⟩ := zcase x.k 2
    unfold okId
    cases z <;> simp [h, dd, z1, z2, z3, hr]
theorem specIdOf (v : Val) (hv : v.t.length < 4294967296) : run E (.call 146 [xV v]) = some (.res [xI (specId v)] []) := by
  rw [run_call E 146 _ rfl Tryz.func146 rfl rfl rfl (by simp)]
  have h := specField v idB hv
  unfold specId
  cases hf : fieldP v idB with
  | none => rw [hf] at h; simp only [optX] at h; simp [h]
  | some x =>
    rw [hf] at h
    simp only [optX] at h
    have hr := l01In x.n 0 99
    obtain ⟨z, z1, z2, z3⟩ := zcase x.k 2
    unfold okId
    cases z with
    | false => simp [h, z1, z2, z3]
    | true =>
      cases hb : (decide (0 ≤ x.n) && decide (x.n ≤ 99)) with
      | false => rw [hb] at hr; simp at hb; simp [h, z1, z2, z3, hr]; intro a b; have := hb a; omega
      | true => rw [hb] at hr; simp at hb; simp [h, z1, z2, z3, hr]; intro a; have := a hb.1; omega
theorem isDoc (v : Val) (hv : v.t.length < 4294967296) : run E (.call 85 [xV v]) = some (.res [xB (isDocP v)] []) := by
  rw [run_call E 85 _ rfl Tryz.func85 rfl rfl rfl (by simp)]
  have h := implValueOK v hv
  obtain ⟨z, z1, z2, z3⟩ := zcase v.k 5
  unfold isDocP
  cases z <;> simp [h, z1, z2, z3]
theorem l03Doc (v : Val) (hv : v.t.length < 4294967296) : run E (.call 83 [xV v]) = some (.res [xB (isDocP v)] []) := by
  rw [run_call E 83 _ rfl Tryz.func83 rfl rfl rfl (by simp)]
  have h := specValueOK v hv
  unfold isDocP
  cases hb : valueOK v with
  | false => rw [hb] at h; simp [h]
  | true => rw [hb] at h; simp [h, beqd]
def verDoc (id : Int) (gone : Bool) (v : Val) : Bool := if gone then nullB v else isDocP v && (specId v == id)
def verDocI (gone : Bool) (v : Val) (id : Int) : Bool := if gone then nullB v else isDocP v && (idI v).2 && ((idI v).1 == id)
theorem verDocI_eq (gone : Bool) (v : Val) (id : Int) (h0 : 0 ≤ id) : verDocI gone v id = verDoc id gone v := by
  unfold verDocI verDoc
  cases gone with
  | true => rfl
  | false =>
    simp only [Bool.false_eq_true, if_false]
    cases hd : isDocP v with
    | false => rfl
    | true =>
      have hok : okP 5 v = true ∧ v.k = 5 := by simpa [isDocP, valueOK] using hd
      obtain ⟨e, fs, _, _, hf, hr, _⟩ := okP_doc hok.1 hok.2
      simp only [Bool.true_and]
      unfold idI specId
      rw [fieldI_eq idB hf hr]
      cases fieldP v idB with
      | none =>
        have : ((-1 : Int) == id) = false := by simp; omega
        simp [this]
      | some x =>
        cases hx : okId x with
        | false =>
          have : ((-1 : Int) == id) = false := by simp; omega
          simp [hx, this]
        | true => simp [hx]
theorem implDocOK (gone : Bool) (v : Val) (id : Int) (hv : v.t.length < 4294967296) : run E (.call 152 [xB gone, xV v, xI id]) = some (.res [xB (verDocI gone v id)] []) := by
  rw [run_call E 152 _ rfl Tryz.func152 rfl rfl rfl (by simp)]
  have h1 := implIdOf v hv
  have h2 := isDoc v hv
  unfold verDocI nullB
  cases gone with
  | true => simp
  | false =>
    cases hd : isDocP v with
    | false => rw [hd] at h2; simp [h1, h2]
    | true =>
      rw [hd] at h2
      cases hi : (idI v).2 with
      | false => rw [hi] at h1; simp [h1, h2]
      | true => rw [hi] at h1; simp [h1, h2]
theorem specDocOK (id : Int) (gone : Bool) (v : Val) (hv : v.t.length < 4294967296) : run E (.call 90 [xI id, xB gone, xV v]) = some (.res [xB (verDoc id gone v)] []) := by
  rw [run_call E 90 _ rfl Tryz.func90 rfl rfl rfl (by simp)]
  have h1 := specIdOf v hv
  have h2 := l03Doc v hv
  unfold verDoc nullB
  cases gone with
  | true => simp
  | false =>
    cases hd : isDocP v with
    | false => rw [hd] at h2; simp [h1, h2]
    | true => rw [hd] at h2; simp [h1, h2]
end Go.Zd
/- Definitions of indexes: both. -/
set_option linter.unusedSimpArgs false
set_option linter.unusedVariables false
namespace Go.Zd
open Go.Ev Go.Proofs Go.Pu
set_option maxRecDepth 100000
set_option maxHeartbeats 16000000
structure Dfn where
  name : Bytes
  parts : List Prt
abbrev dfnT (d : Dfn) : T := .agg [.str d.name, .list (d.parts.map prtT)]
structure Ver where
  at_ : Int
  gone : Bool
  v : Val
abbrev verT (x : Ver) : T := .agg [.int .i64 x.at_, .bool x.gone, .int .i64 x.v.k, .int .i64 x.v.n, .str x.v.t]
abbrev verX (x : Ver) : X := .agg [.t (.int .i64 x.at_), .t (.bool x.gone), .t (.int .i64 x.v.k), .t (.int .i64 x.v.n), .t (.str x.v.t)]
structure Chn where
  id : Int
  vs : List Ver
abbrev chnT (c : Chn) : T := .agg [.int .i64 c.id, .list (c.vs.map verT)]
structure Col where
  name : Bytes
  chains : List Chn
  defs : List Dfn
abbrev colT (c : Col) : T := .agg [.str c.name, .list (c.chains.map chnT), .list (c.defs.map dfnT)]
def Dfn.Sm (d : Dfn) : Prop := d.name.length < 4294967296 ∧ partsSm d.parts
def Ver.Sm (x : Ver) : Prop := x.v.t.length < 4294967296
def Chn.Sm (c : Chn) : Prop := c.vs.length < 4294967296 ∧ ∀ x ∈ c.vs, x.Sm
structure Col.Sm (c : Col) : Prop where
  name : c.name.length < 4294967296
  chains : c.chains.length < 4294967296 ∧ ∀ x ∈ c.chains, x.Sm
  defs : c.defs.length < 4294967296 ∧ ∀ x ∈ c.defs, x.Sm
def twoOK : List Prt → Bool
  | [p, q] => !(p.path == q.path)
  | _ => true
def in12 (n : Nat) : Bool := decide (1 ≤ n) && decide (n ≤ 2)
def defOK (d : Dfn) : Bool := nameP d.name && in12 d.parts.length && d.parts.all (fun p => pathOK p.path) && twoOK d.parts
theorem in12_cast (n : Nat) : (decide ((1 : Int) ≤ (n : Int)) && decide ((n : Int) ≤ 2)) = in12 n := by
  unfold in12
  congr 1 <;> (congr 1; simp; omega)
theorem in12_cases {α : Type} {l : List α} (h : in12 l.length = true) : (∃ p, l = [p]) ∨ ∃ p q, l = [p, q] := by
  simp [in12] at h
  match l, h with
  | [p], _ => exact .inl ⟨p, rfl⟩
  | [p, q], _ => exact .inr ⟨p, q, rfl⟩
  | [], h => simp at h
  | _ :: _ :: _ :: _, h => simp at h
theorem defClosure (p : Prt) (h : p.path.length < 4294967296) : run E (.call 148 [.t (prtT p)]) = some (.res [xB (!pathOK p.path)] []) := by
  rw [run_call E 148 _ rfl Tryz.func148 rfl rfl rfl (by simp)]
  simp [partOK p h]
theorem implDefOK (d : Dfn) (h : d.Sm) : run E (.call 93 [.t (dfnT d)]) = some (.res [xB (defOK d)] []) := by
  rw [run_call E 93 _ rfl Tryz.func93 rfl rfl rfl (by simp)]
  have h1 := isShort d.name (by have := h.1; omega)
  have h2 := inRange (d.parts.length : Int) 1 2
  rw [in12_cast] at h2
  have hc := containsFunc_136_0 d.parts 148 (fun p => !pathOK p.path) (by have := h.2.1; omega) rfl (by simp) (fun p hp => defClosure p (h.2.2 p hp))
  rw [any_not_all] at hc
  have d3 := d93_3
  simp [regionOf, findR, pick, Tryz.f93] at d3
  have dd := fun st => run_region_draw E st 3 _ d3
  clear d3
  unfold defOK
  cases hn : nameP d.name with
  | false => rw [hn] at h1; simp [h1]
  | true =>
    rw [hn] at h1
    cases hi : in12 d.parts.length with
    | false => rw [hi] at h2; simp [h1, h2]
    | true =>
      rw [hi] at h2
      cases ha : d.parts.all (fun p => pathOK p.path) with
      | false => rw [ha] at hc; simp [h1, h2, hc]
      | true =>
        rw [ha] at hc
        obtain ⟨nm, ps⟩ := d
        simp only at *
        rcases in12_cases hi with ⟨p, rfl⟩ | ⟨p, q, rfl⟩
        · simp at h2 hc
          simp [h1, h2, hc, dd, twoOK]
        · simp at h2 hc
          simp [h1, h2, hc, dd, twoOK]
theorem specDef_loop (d : Dfn) (h : d.Sm) (b : Bool) (hb : b = d.parts.all (fun p => pathOK p.path)) : ∀ s o n, (s 1 = .ptr 0 0 ∧ s 3 = .t (.int .i64 0) ∧ o 0 = .box 79 [.t (.str d.name), .t (.list (d.parts.map prtT))]) →
    ∃ e s' o' n', run E (.code (.loop (loopAt Tryz.f89 0)) ⟨s, o, n, 47⟩) = some (.st e ⟨s', o', n', 47⟩) ∧ e = (if b then .exit 0 else .ret) ∧ s' 1 = .ptr 0 0 ∧ o' 0 = .box 79 [.t (.str d.name), .t (.list (d.parts.map prtT))] ∧ (b = false → s' 2 = .t (.bool false)) := by
  intro s o n hI
  refine loop_for (c := loopAt Tryz.f89 0) (N := 47)
    (fun i s o n => s 1 = .ptr 0 0 ∧ s 3 = .t (.int .i64 i) ∧ o 0 = .box 79 [.t (.str d.name), .t (.list (d.parts.map prtT))] ∧ b = (d.parts.drop i).all (fun p => pathOK p.path))
    (fun e s' o' n' => e = (if b then .exit 0 else .ret) ∧ s' 1 = .ptr 0 0 ∧ o' 0 = .box 79 [.t (.str d.name), .t (.list (d.parts.map prtT))] ∧ (b = false → s' 2 = .t (.bool false))) d.parts.length ?_ ?_
    d.parts.length 0 s o n (by omega) ⟨hI.1, hI.2.1, hI.2.2, by simpa using hb⟩
  · rintro i s o n hi ⟨h1, h3, ho, hp⟩
    have hfi : d.parts[i]? = some d.parts[i] := List.getElem?_eq_getElem hi
    have hi' : (i : Int) < (d.parts.length : Int) := by omega
    have hw := wrap_succ (n := i) (by have := h.2.1; omega)
    have ht := specPathOK d.parts[i].path (h.2.2 _ (List.getElem_mem hi))
    rw [List.drop_eq_getElem_cons hi, List.all_cons] at hp
    cases hok : pathOK d.parts[i].path <;> simp [hok] at hp ht <;> simp [loopAt, loopsOf, Tryz.f89, h1, h3, ho, hi', hfi, hw, ht, hp]
  · rintro s o n ⟨h1, h3, ho, hp⟩
    simp at hp
    simp [loopAt, loopsOf, Tryz.f89, h1, h3, ho, hp]
theorem specDefOK (d : Dfn) (h : d.Sm) : run E (.call 89 [.t (dfnT d)]) = some (.res [xB (defOK d)] []) := by
  rw [run_call E 89 _ rfl Tryz.func89 rfl rfl rfl (by simp)]
  have h1 := l01Name d.name (by have := h.1; omega)
  have h2 := l01In (d.parts.length : Int) 1 2
  rw [in12_cast] at h2
  have d8 := d89_8
  simp [regionOf, findR, pick, Tryz.f89] at d8
  have dd := fun st => run_region_draw E st 8 _ d8
  clear d8
  have lp := specDef_loop d h
  unfold defOK
  cases hn : nameP d.name with
  | false => rw [hn] at h1; simp [h1]
  | true =>
    rw [hn] at h1
    cases hi : in12 d.parts.length with
    | false => rw [hi] at h2; simp [h1, h2]
    | true =>
      rw [hi] at h2
      cases ha : d.parts.all (fun p => pathOK p.path) with
      | false =>
        obtain ⟨X, A, B, C, hx⟩ := sk (lp false ha.symm)
        simp [loopAt, loopsOf, Tryz.f89] at hx
        simp [h1, h2, hx]
      | true =>
        obtain ⟨X, A, B, C, hx⟩ := sk (lp true ha.symm)
        simp [loopAt, loopsOf, Tryz.f89] at hx
        obtain ⟨nm, ps⟩ := d
        simp only at *
        rcases in12_cases hi with ⟨p, rfl⟩ | ⟨p, q, rfl⟩
        · simp at h2 hx
          simp [h1, h2, hx, dd, twoOK]
        · simp at h2 hx
          simp [h1, h2, hx, dd, twoOK]
theorem indexFunc_149_1 (xs : List Dfn) (g : Nat) (c : List T) (p : Dfn → Bool) (hl : xs.length < 9223372036854775807) (hm : E.md g = []) (hf : E.flat g = true) (hp : ∀ x ∈ xs, run E (.call g [.t (dfnT x), .dref c]) = some (.res [xB (p x)] [])) :
    run E (.call 149 [.t (.list (xs.map dfnT)), .fn g [c]]) = some (.res [xI (idxP p xs)] []) := by
  rw [run_call E 149 _ rfl Tryz.func149 rfl rfl rfl (by simp)]
  rw [E_md] at hm
  have lp := fun (r : Int) (hr : r = idxP p xs) => sk (fun s o q hI => loop_for (c := loopAt Tryz.f149 0) (N := 19)
    (fun i s o q => s 0 = .t (.list (xs.map dfnT)) ∧ s 1 = .fn g [.dptr c] ∧ s 7 = .t (.int .i64 xs.length) ∧ s 8 = .t (.int .i64 i) ∧ r = if idxP p (xs.drop i) < 0 then -1 else idxP p (xs.drop i) + i)
    (fun e s' o' q' => e = (if r < 0 then .exit 0 else .ret) ∧ (0 ≤ r → s' 4 = .t (.int .i64 r))) xs.length
    (by
      rintro i s o q hi ⟨h0, h1, h7, h8, hr⟩
      have hd : xs.drop i = xs[i] :: xs.drop (i + 1) := by rw [List.drop_eq_getElem_cons hi]
      have hi' : (i : Int) < (xs.length : Int) := by omega
      have hw := wrap_succ (n := i) (by omega)
      have hx := hp xs[i] (List.getElem_mem hi)
      rw [hd, idxP] at hr
      cases hpx : p xs[i] with
      | true =>
        simp [hpx] at hr hx
        have hr' : ¬ r < 0 := by omega
        simp [-mdOf, loopAt, loopsOf, Tryz.f149, h0, h1, h7, h8, hi, hi', hx, hw, hm, hf, hr', hr]
      | false =>
        simp [hpx] at hr hx
        have hr2 : r = if idxP p (xs.drop (i + 1)) < 0 then -1 else idxP p (xs.drop (i + 1)) + ((i : Int) + 1) := by
          rw [hr]
          by_cases hq : idxP p (xs.drop (i + 1)) < 0
          · simp [hq]
          · have : ¬ idxP p (xs.drop (i + 1)) + 1 < 0 := by omega
            simp [hq, this]; omega
        clear hr
        simp [-mdOf, loopAt, loopsOf, Tryz.f149, h0, h1, h7, h8, hi, hi', hx, hw, hm, hf]
        exact hr2)
    (by
      rintro s o q ⟨h0, h1, h7, h8, hr⟩
      simp [idxP] at hr
      simp [loopAt, loopsOf, Tryz.f149, h0, h1, h7, h8, hr])
    xs.length 0 s o q (by omega) hI)
  simp only [loopAt, loopsOf, Tryz.f149] at lp
  obtain ⟨X, A, B, C, hx⟩ := lp _ rfl
  have hz : idxP p xs = if idxP p xs < 0 then -1 else idxP p xs := by
    cases xs with
    | nil => simp [idxP]
    | cons x r =>
      unfold idxP
      split
      · simp
      · split
        · simp
        · have : ¬ idxP p r + 1 < 0 := by omega
          simp [this]
  simp [← hz] at hx
  by_cases h : idxP p xs < 0
  · have h1 : idxP p xs = -1 := by rw [hz]; simp [h]
    simp [h] at hx
    simp [hx, h1]
  · have h2 : 0 ≤ idxP p xs := by omega
    simp [h, h2] at hx
    simp [hx]
theorem defAtClosure (d : Dfn) (name : Bytes) : run E (.call 150 [.t (dfnT d), .dref [.str name]]) = some (.res [xB (d.name == name)] []) := by
  rw [run_call E 150 _ rfl Tryz.func150 rfl rfl rfl (by simp)]
  simp
theorem defAt (c : Col) (name : Bytes) (h : c.defs.length < 4294967296) : run E (.call 94 [.t (colT c), xS name]) = some (.res [xI (idxP (fun d => d.name == name) c.defs)] []) := by
  rw [run_call E 94 _ rfl Tryz.func94 rfl rfl rfl (by simp)]
  have hi := indexFunc_149_1 c.defs 150 [.str name] (fun d => d.name == name) (by omega) rfl (by simp) (fun d _ => defAtClosure d name)
  simp [hi]
end Go.Zd
/- Chains of versions: impl's chainOK, CollOK. -/
set_option linter.unusedSimpArgs false
set_option linter.unusedVariables false
namespace Go.Zd
open Go.Ev Go.Proofs Go.Pu
set_option maxRecDepth 100000
set_option maxHeartbeats 16000000
def in1 (lo hi n : Int) : Bool := decide (lo ≤ n) && decide (n ≤ hi)
def versGo (D : Bool → Val → Bool) : Option Int → List Ver → Bool
  | _, [] => true
  | p, x :: r => in1 1 10000 x.at_ && (match p with
      | none => true
      | some q => !decide (x.at_ ≤ q)) && D x.gone x.v && versGo D (some x.at_) r
def chainOK (c : Chn) : Bool := in1 0 19 c.id && in1 1 12 c.vs.length && versGo (fun g v => verDoc c.id g v) none c.vs
def chainsGo : Option Int → List Chn → Bool
  | _, [] => true
  | p, c :: r => chainOK c && (match p with
      | none => true
      | some q => !decide (c.id ≤ q)) && chainsGo (some c.id) r
def defsGo : List Dfn → List Dfn → Bool
  | _, [] => true
  | pre, d :: r => defOK d && !(pre.any (fun x => x.name == d.name)) && defsGo (pre ++ [d]) r
def collOK (c : Col) : Bool := nameP c.name && decide (c.chains.length ≤ 20) && decide (c.defs.length ≤ 3) && defsGo [] c.defs && chainsGo none c.chains
theorem isTime (n : Int) : run E (.call 151 [xI n]) = some (.res [xB (in1 1 10000 n)] []) := by
  rw [run_call E 151 _ rfl Tryz.func151 rfl rfl rfl (by simp)]
  simp [inRange, in1]
theorem chainOK_eq (c : Chn) : (versGo (fun g v => verDocI g v c.id) none c.vs && (in1 0 19 c.id && in1 1 12 c.vs.length)) = chainOK c := by
  unfold chainOK
  cases h : in1 0 19 c.id with
  | false => simp
  | true =>
    have h0 : 0 ≤ c.id := by simp [in1] at h; exact h.1
    have e : (fun g v => verDocI g v c.id) = (fun g v => verDoc c.id g v) := by
      funext g v; exact verDocI_eq g v c.id h0
    rw [e]
    cases in1 1 12 (c.vs.length : Int) <;> cases versGo (fun g v => verDoc c.id g v) none c.vs <;> rfl
theorem implChain_loop (c : Chn) (h : c.Sm) (b : Bool) (hb : b = versGo (fun g v => verDocI g v c.id) none c.vs) : ∀ s o q, (s 1 = .ptr 0 0 ∧ s 6 = .t (.list (c.vs.map verT)) ∧ s 7 = .t (.int .i64 c.vs.length) ∧ s 8 = .t (.int .i64 0) ∧ o 0 = .box 136 [.t (.int .i64 c.id), .t (.list (c.vs.map verT))] ∧ 0 < q) →
    ∃ e s' o' q', run E (.code (.loop (loopAt Tryz.f95 0)) ⟨s, o, q, 53⟩) = some (.st e ⟨s', o', q', 53⟩) ∧ e = (if b then .exit 0 else .ret) ∧ s' 1 = .ptr 0 0 ∧ o' 0 = .box 136 [.t (.int .i64 c.id), .t (.list (c.vs.map verT))] ∧ (b = false → s' 2 = .t (.bool false)) := by
  intro s o q hI
  have d4 := d95_4
  simp [regionOf, findR, pick, Tryz.f95] at d4
  have dd := fun st => run_region_draw E st 4 _ d4
  clear d4
  refine loop_for (c := loopAt Tryz.f95 0) (N := 53)
    (fun i s o q => s 1 = .ptr 0 0 ∧ s 6 = .t (.list (c.vs.map verT)) ∧ s 7 = .t (.int .i64 c.vs.length) ∧ s 8 = .t (.int .i64 i) ∧ o 0 = .box 136 [.t (.int .i64 c.id), .t (.list (c.vs.map verT))] ∧ 0 < q ∧ b = versGo (fun g v => verDocI g v c.id) (match i with | 0 => none | j + 1 => (c.vs[j]?).map (·.at_)) (c.vs.drop i))
    (fun e s' o' q' => e = (if b then .exit 0 else .ret) ∧ s' 1 = .ptr 0 0 ∧ o' 0 = .box 136 [.t (.int .i64 c.id), .t (.list (c.vs.map verT))] ∧ (b = false → s' 2 = .t (.bool false))) c.vs.length ?_ ?_
    c.vs.length 0 s o q (by omega) ⟨hI.1, hI.2.1, hI.2.2.1, hI.2.2.2.1, hI.2.2.2.2.1, hI.2.2.2.2.2, by simpa using hb⟩
  · rintro i s o q hi ⟨h1, h6, h7, h8, ho, hq, hp⟩
    have hq0 : q ≠ 0 := by omega
    have h0q : 0 ≠ q := by omega
    have hxi : c.vs[i]? = some c.vs[i] := List.getElem?_eq_getElem hi
    have hi' : (i : Int) < (c.vs.length : Int) := by omega
    have hw := wrap_succ (n := i) (by have := h.1; omega)
    have ht := isTime c.vs[i].at_
    have hdoc := implDocOK c.vs[i].gone c.vs[i].v c.id (h.2 _ (List.getElem_mem hi))
    rw [List.drop_eq_getElem_cons hi] at hp
    cases i with
    | zero =>
      simp only [versGo] at hp
      cases hT : in1 1 10000 c.vs[0].at_ <;> cases hD : verDocI c.vs[0].gone c.vs[0].v c.id <;> simp [hT, hD] at hp ht hdoc <;> simp [loopAt, loopsOf, Tryz.f95, dd, h1, h6, h7, h8, ho, hq0, h0q, hi, hi', hw, ht, hdoc, hp, hxi]
    | succ j =>
      have hj : j < c.vs.length := by omega
      have hxj : c.vs[j]? = some c.vs[j] := List.getElem?_eq_getElem hj
      have hpos : (0 : Int) < (j : Int) + 1 := by omega
      have hnn : (0 : Int) ≤ (j : Int) + 1 := by omega
      have hwj2 := wrap_nat (n := j) (by have := h.1; omega)
      simp only [hxj, Option.map_some, versGo] at hp
      simp at h8 hi' hw
      by_cases hge : c.vs[j + 1].at_ ≤ c.vs[j].at_ <;> cases hT : in1 1 10000 c.vs[j + 1].at_ <;> cases hD : verDocI c.vs[j + 1].gone c.vs[j + 1].v c.id <;> simp [hT, hD, hge] at hp ht hdoc <;> simp [loopAt, loopsOf, Tryz.f95, dd, h1, h6, h7, h8, ho, hq0, h0q, hi, hi', hw, ht, hdoc, hp, hxi, hxj, hj, hpos, hnn, hwj2, hge]
  · rintro s o q ⟨h1, h6, h7, h8, ho, hq, hp⟩
    simp [versGo] at hp
    simp [loopAt, loopsOf, Tryz.f95, h1, h6, h7, h8, ho, hp]
theorem implChainOK (c : Chn) (h : c.Sm) : run E (.call 95 [.t (chnT c)]) = some (.res [xB (chainOK c)] []) := by
  rw [run_call E 95 _ rfl Tryz.func95 rfl rfl rfl (by simp)]
  rw [← chainOK_eq]
  have lp := implChain_loop c h
  have h1 := inRange c.id 0 19
  have h2 := inRange (c.vs.length : Int) 1 12
  rw [show (decide (0 ≤ c.id) && decide (c.id ≤ 19)) = in1 0 19 c.id from rfl] at h1
  rw [show (decide ((1 : Int) ≤ (c.vs.length : Int)) && decide ((c.vs.length : Int) ≤ 12)) = in1 1 12 c.vs.length from rfl] at h2
  cases hb : versGo (fun g v => verDocI g v c.id) none c.vs with
  | false =>
    obtain ⟨X, A, B, C, hx⟩ := sk (lp false hb.symm)
    simp [loopAt, loopsOf, Tryz.f95] at hx
    simp [hx]
  | true =>
    obtain ⟨X, A, B, C, hx⟩ := sk (lp true hb.symm)
    simp [loopAt, loopsOf, Tryz.f95] at hx
    cases hi : in1 0 19 c.id with
    | false => rw [hi] at h1; simp [hx, h1]
    | true => rw [hi] at h1; simp [hx, h1, h2]
end Go.Zd
/- impl's CollOK. -/
set_option linter.unusedSimpArgs false
set_option linter.unusedVariables false
namespace Go.Zd
open Go.Ev Go.Proofs Go.Pu
set_option maxRecDepth 100000
set_option maxHeartbeats 16000000
abbrev colBox (c : Col) : Ob := .box 67 [.t (.str c.name), .t (.list (c.chains.map chnT)), .t (.list (c.defs.map dfnT))]
/-- Where the first one stands, ahead of a place that fits. -/
theorem idxP_take {α : Type} (p : α → Bool) : ∀ (l : List α) (i : Nat) (hi : i < l.length), p l[i] = true → ((idxP p l < (i : Int)) = ((l.take i).any p = true))
  | [], i, hi, _ => by simp at hi
  | x :: r, 0, hi, h => by
    simp at h
    simp [idxP, h]
  | x :: r, i + 1, hi, h => by
    have ih := idxP_take p r i (by simpa using hi) (by simpa using h)
    have hne : ¬ idxP p r < 0 := by
      rw [idxP_neg]
      have : r.any p = true := List.any_eq_true.2 ⟨r[i]'(by simpa using hi), List.getElem_mem _, by simpa using h⟩
      simp [this]
    unfold idxP
    cases hx : p x with
    | true => simp [hx]
    | false =>
      simp only [hx, Bool.false_eq_true, if_false, hne, List.take_succ_cons, List.any_cons, Bool.false_or]
      rw [← ih]
      simp
theorem implColl_defs (c : Col) (h : c.Sm) (b : Bool) (hb : b = defsGo [] c.defs) : ∀ s o q, (s 1 = .ptr 0 0 ∧ s 8 = .t (.list (c.defs.map dfnT)) ∧ s 9 = .t (.int .i64 c.defs.length) ∧ s 10 = .t (.int .i64 0) ∧ o 0 = colBox c ∧ 0 < q) →
    ∃ e s' o' q', run E (.code (.loop (loopAt Tryz.f30 0)) ⟨s, o, q, 64⟩) = some (.st e ⟨s', o', q', 64⟩) ∧ e = (if b then .exit 0 else .ret) ∧ s' 1 = .ptr 0 0 ∧ o' 0 = colBox c ∧ 0 < q' ∧ (b = false → s' 2 = .t (.bool false)) := by
  intro s o q hI
  refine loop_for (c := loopAt Tryz.f30 0) (N := 64)
    (fun i s o q => s 1 = .ptr 0 0 ∧ s 8 = .t (.list (c.defs.map dfnT)) ∧ s 9 = .t (.int .i64 c.defs.length) ∧ s 10 = .t (.int .i64 i) ∧ o 0 = colBox c ∧ 0 < q ∧ b = defsGo (c.defs.take i) (c.defs.drop i))
    (fun e s' o' q' => e = (if b then .exit 0 else .ret) ∧ s' 1 = .ptr 0 0 ∧ o' 0 = colBox c ∧ 0 < q' ∧ (b = false → s' 2 = .t (.bool false))) c.defs.length ?_ ?_
    c.defs.length 0 s o q (by omega) ⟨hI.1, hI.2.1, hI.2.2.1, hI.2.2.2.1, hI.2.2.2.2.1, hI.2.2.2.2.2, by simpa using hb⟩
  · rintro i s o q hi ⟨h1, h8, h9, h10, ho, hq, hp⟩
    have hq0 : q ≠ 0 := by omega
    have h0q : 0 ≠ q := by omega
    have hxi : c.defs[i]? = some c.defs[i] := List.getElem?_eq_getElem hi
    have hi' : (i : Int) < (c.defs.length : Int) := by omega
    have hw := wrap_succ (n := i) (by have := h.defs.1; omega)
    have hd := implDefOK c.defs[i] (h.defs.2 _ (List.getElem_mem hi))
    have ha := defAt c c.defs[i].name h.defs.1
    have hlt := idxP_take (fun d => d.name == c.defs[i].name) c.defs i hi (by simp)
    have htk : c.defs.take (i + 1) = c.defs.take i ++ [c.defs[i]] := by rw [List.take_add_one, hxi]; rfl
    rw [List.drop_eq_getElem_cons hi, defsGo, ← htk] at hp
    generalize hz : (c.defs.take i).any (fun d => d.name == c.defs[i].name) = z at *
    generalize hk : idxP (fun d => d.name == c.defs[i].name) c.defs = k at *
    cases hO : defOK c.defs[i] with
    | false =>
      simp [hO] at hp hd
      simp [loopAt, loopsOf, Tryz.f30, h1, h8, h9, h10, ho, hq0, h0q, hi', hxi, hw, hd, hp]
    | true =>
      cases z with
      | true =>
        have hk2 : k < (i : Int) := by rw [hlt]
        simp [hO] at hp hd
        simp [loopAt, loopsOf, Tryz.f30, h1, h8, h9, h10, ho, hq0, h0q, hi', hxi, hw, hd, hp, ha, hk2]
      | false =>
        have hk2 : ¬ k < (i : Int) := by rw [hlt]; simp
        simp [hO] at hp hd
        simp [loopAt, loopsOf, Tryz.f30, h1, h8, h9, h10, ho, hq0, h0q, hi', hxi, hw, hd, ha, hk2]
        rw [hp, htk]
  · rintro s o q ⟨h1, h8, h9, h10, ho, hq, hp⟩
    simp [defsGo] at hp
    simp [loopAt, loopsOf, Tryz.f30, h1, h8, h9, h10, ho, hp, hq]
theorem implColl_chains (c : Col) (h : c.Sm) (b : Bool) (hb : b = chainsGo none c.chains) : ∀ s o q, (s 1 = .ptr 0 0 ∧ s 28 = .t (.list (c.chains.map chnT)) ∧ s 29 = .t (.int .i64 c.chains.length) ∧ s 30 = .t (.int .i64 0) ∧ o 0 = colBox c ∧ 0 < q) →
    ∃ e s' o' q', run E (.code (.loop (loopAt Tryz.f30 1)) ⟨s, o, q, 64⟩) = some (.st e ⟨s', o', q', 64⟩) ∧ e = (if b then .exit 2 else .ret) ∧ s' 1 = .ptr 0 0 ∧ o' 0 = colBox c ∧ (b = false → s' 2 = .t (.bool false)) := by
  intro s o q hI
  have d10 := d30_10
  simp [regionOf, findR, pick, Tryz.f30] at d10
  have dd := fun st => run_region_draw E st 10 _ d10
  clear d10
  refine loop_for (c := loopAt Tryz.f30 1) (N := 64)
    (fun i s o q => s 1 = .ptr 0 0 ∧ s 28 = .t (.list (c.chains.map chnT)) ∧ s 29 = .t (.int .i64 c.chains.length) ∧ s 30 = .t (.int .i64 i) ∧ o 0 = colBox c ∧ 0 < q ∧ b = chainsGo (match i with | 0 => none | j + 1 => (c.chains[j]?).map (·.id)) (c.chains.drop i))
    (fun e s' o' q' => e = (if b then .exit 2 else .ret) ∧ s' 1 = .ptr 0 0 ∧ o' 0 = colBox c ∧ (b = false → s' 2 = .t (.bool false))) c.chains.length ?_ ?_
    c.chains.length 0 s o q (by omega) ⟨hI.1, hI.2.1, hI.2.2.1, hI.2.2.2.1, hI.2.2.2.2.1, hI.2.2.2.2.2, by simpa using hb⟩
  · rintro i s o q hi ⟨h1, h28, h29, h30, ho, hq, hp⟩
    have hq0 : q ≠ 0 := by omega
    have h0q : 0 ≠ q := by omega
    have hxi : c.chains[i]? = some c.chains[i] := List.getElem?_eq_getElem hi
    have hi' : (i : Int) < (c.chains.length : Int) := by omega
    have hw := wrap_succ (n := i) (by have := h.chains.1; omega)
    have hc := implChainOK c.chains[i] (h.chains.2 _ (List.getElem_mem hi))
    rw [List.drop_eq_getElem_cons hi] at hp
    cases i with
    | zero =>
      simp only [chainsGo] at hp
      cases hT : chainOK c.chains[0] <;> simp [hT] at hp hc <;> simp [loopAt, loopsOf, Tryz.f30, dd, h1, h28, h29, h30, ho, hq0, h0q, hi, hi', hw, hc, hp, hxi]
    | succ j =>
      have hj : j < c.chains.length := by omega
      have hxj : c.chains[j]? = some c.chains[j] := List.getElem?_eq_getElem hj
      have hpos : (0 : Int) < (j : Int) + 1 := by omega
      have hnn : (0 : Int) ≤ (j : Int) + 1 := by omega
      have hwj2 := wrap_nat (n := j) (by have := h.chains.1; omega)
      simp only [hxj, Option.map_some, chainsGo] at hp
      simp at h30 hi' hw
      by_cases hge : c.chains[j + 1].id ≤ c.chains[j].id <;> cases hT : chainOK c.chains[j + 1] <;> simp [hT, hge] at hp hc <;> simp [loopAt, loopsOf, Tryz.f30, dd, h1, h28, h29, h30, ho, hq0, h0q, hi, hi', hw, hc, hp, hxi, hxj, hj, hpos, hnn, hwj2, hge]
  · rintro s o q ⟨h1, h28, h29, h30, ho, hq, hp⟩
    simp [chainsGo] at hp
    simp [loopAt, loopsOf, Tryz.f30, h1, h28, h29, h30, ho, hp]
/-- Ids that rise are few. -/
theorem chains_few : ∀ (l : List Chn) (p : Option Int), chainsGo p l = true → (match p with
    | none => (l.length : Int) ≤ 20
    | some q => l ≠ [] → -1 ≤ q → (l.length : Int) ≤ 19 - q)
  | [], p, _ => by cases p <;> simp
  | c :: r, p, h => by
    simp only [chainsGo, Bool.and_eq_true] at h
    obtain ⟨⟨h1, h2⟩, h3⟩ := h
    have ih := chains_few r (some c.id) h3
    have hid : 0 ≤ c.id ∧ c.id ≤ 19 := by
      unfold chainOK in1 at h1
      simp at h1
      omega
    simp only at ih
    cases p with
    | none =>
      simp only
      by_cases hr : r = []
      · subst hr; simp
      · have := ih hr (by omega); simp; omega
    | some q =>
      simp at h2
      intro _ hq
      by_cases hr : r = []
      · subst hr; simp; omega
      · have := ih hr (by omega); simp; omega
theorem implCollOK (c : Col) (h : c.Sm) : run E (.call 30 [.t (colT c)]) = some (.res [xB (collOK c)] []) := by
  rw [run_call E 30 _ rfl Tryz.func30 rfl rfl rfl (by simp)]
  have h1 := isShort c.name (by have := h.name; omega)
  have h3 : ((c.defs.length : Int) ≤ 3) = (c.defs.length ≤ 3) := by simp; omega
  unfold collOK
  cases hD : defsGo [] c.defs with
  | false =>
    obtain ⟨X, A, B, C, hx⟩ := sk (implColl_defs c h false hD.symm)
    simp [loopAt, loopsOf, Tryz.f30] at hx
    simp [hx]
  | true =>
    obtain ⟨X, A, B, C, hx⟩ := sk (implColl_defs c h true hD.symm)
    simp [loopAt, loopsOf, Tryz.f30] at hx
    cases hC : chainsGo none c.chains with
    | false =>
      obtain ⟨X2, A2, B2, C2, hx2⟩ := sk (implColl_chains c h false hC.symm)
      simp [loopAt, loopsOf, Tryz.f30] at hx2
      simp [hx, hx2]
    | true =>
      obtain ⟨X2, A2, B2, C2, hx2⟩ := sk (implColl_chains c h true hC.symm)
      simp [loopAt, loopsOf, Tryz.f30] at hx2
      have hfew := chains_few c.chains none hC
      simp only at hfew
      have hfew' : c.chains.length ≤ 20 := by omega
      cases hN : nameP c.name with
      | false => rw [hN] at h1; simp [hx, hx2, h1]
      | true => rw [hN] at h1; simp [hx, hx2, h1, hfew', h3]
end Go.Zd
