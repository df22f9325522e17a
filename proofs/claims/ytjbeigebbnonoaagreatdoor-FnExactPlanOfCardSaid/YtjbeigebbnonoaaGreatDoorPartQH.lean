/- Fields by name: spec's l02Field; impl's findField, field; ids. -/
import Derived.Test.YtjbeigebbnonoaaGreatDoorPartQG
namespace Go.Md
open Go.Ev Go.Proofs Go.Pu
set_option linter.unusedSimpArgs false
set_option linter.unusedVariables false
set_option maxRecDepth 100000
set_option maxHeartbeats 16000000
theorem compareBytes_lt : ∀ (a b : Bytes), (Lib.compareBytes a b < 0) = (Op.bytesLess a b = true)
  | [], [] => by simp [Lib.compareBytes, Op.bytesLess]
  | [], _ :: _ => by simp [Lib.compareBytes, Op.bytesLess]
  | _ :: _, [] => by simp [Lib.compareBytes, Op.bytesLess]
  | x :: a, y :: b => by
    have ih := compareBytes_lt a b
    unfold Lib.compareBytes Op.bytesLess
    by_cases h1 : x < y
    · simp [h1]
    · by_cases h2 : y < x
      · have : ¬ x = y := fun e => by subst e; exact h1 h2
        simp [h1, h2, this]
      · have e : x = y := UInt8.le_antisymm (UInt8.not_lt.1 h2) (UInt8.not_lt.1 h1)
        subst e
        simp [h1, ih]
theorem compareBytes_eq : ∀ (a b : Bytes), (Lib.compareBytes a b = 0) = (a = b)
  | [], [] => by simp [Lib.compareBytes]
  | [], _ :: _ => by simp [Lib.compareBytes]
  | _ :: _, [] => by simp [Lib.compareBytes]
  | x :: a, y :: b => by
    have ih := compareBytes_eq a b
    unfold Lib.compareBytes
    by_cases h1 : x < y
    · have : ¬ x = y := fun e => by subst e; exact absurd h1 (UInt8.lt_irrefl x)
      simp [h1, this]
    · by_cases h2 : y < x
      · have : ¬ x = y := fun e => by subst e; exact h1 h2
        simp [h1, h2, this]
      · have e : x = y := UInt8.le_antisymm (UInt8.not_lt.1 h2) (UInt8.not_lt.1 h1)
        subst e
        simp [h1, ih]
theorem compare (a b : Bytes) : run E (.call 260 [xS a, xS b]) = some (.res [xI (Lib.compareBytes a b)] []) := by
  have h : run E (.call 289 [xS a, xS b]) = some (.res [xI (Lib.compareBytes a b)] []) := by
    rw [run_ext E 289 _ (g := _) rfl]
    simp
  rw [run_call E 260 _ rfl Tryz.func260 rfl rfl rfl (by simp)]
  simp [h]
theorem findClosure (f : Fld) (name : Bytes) : run E (.call 303 [.t (fldT f), xS name]) = some (.res [xI (Lib.compareBytes f.name name)] []) := by
  rw [run_call E 303 _ rfl Tryz.func303 rfl rfl rfl (by simp)]
  simp [compare f.name name]
/-- Where a search by halves ends. -/
def seekI (fs : List Fld) (name : Bytes) : Nat := halves (fun k => match fs[k]? with
  | some f => Op.bytesLess f.name name
  | none => false) (fs.length + 1) 0 fs.length
def thereI (fs : List Fld) (name : Bytes) : Bool := match fs[seekI fs name]? with
  | some f => f.name == name
  | none => false
theorem wrap_u64 {n : Nat} (h : n < 18446744073709551616) : IntKind.u64.wrap (n : Int) = n := by
  simp [IntKind.wrap, IntKind.bits, IntKind.signed]
  omega
theorem pow_u64 : (2 : Int) ^ min 1 IntKind.u64.bits = 2 := by rfl
theorem binarySearch (fs : List Fld) (name : Bytes) (hl : fs.length < 4294967296) : run E (.call 302 [.t (.list (fs.map fldT)), xS name, .fn 303 []]) = some (.res [xI (seekI fs name : Nat), xB (thereI fs name)] []) := by
  rw [run_call E 302 _ rfl Tryz.func302 rfl rfl rfl (by simp)]
  have lp := sk (fun s o q hI => loop_wf (c := loopAt Tryz.f302 0) (N := 49)
    (fun k s o q => ∃ i j : Nat, s 0 = .t (.list (fs.map fldT)) ∧ s 1 = .t (.str name) ∧ s 2 = .fn 303 [] ∧ s 8 = .t (.int .i64 fs.length) ∧ s 9 = .t (.int .i64 i) ∧ s 10 = .t (.int .i64 j) ∧ j ≤ fs.length ∧ i ≤ j ∧ k = j - i ∧ ∃ n, k < n ∧ halves (fun k => match fs[k]? with
        | some f => Op.bytesLess f.name name
        | none => false) n i j = seekI fs name)
    (fun e s' o' q' => e = .exit 0 ∧ s' 0 = .t (.list (fs.map fldT)) ∧ s' 1 = .t (.str name) ∧ s' 2 = .fn 303 [] ∧ s' 8 = .t (.int .i64 fs.length) ∧ s' 9 = .t (.int .i64 (seekI fs name : Nat)))
    (by
      rintro k s o q ⟨i, j, h0, h1, h2, h8, h9, h10, hj, hij, hk, n, hn, hh⟩
      cases n with
      | zero => omega
      | succ n =>
        unfold halves at hh
        by_cases hlt : i < j
        · have hlt' : (i : Int) < (j : Int) := by omega
          have hw1 : IntKind.i64.wrap ((i : Int) + (j : Int)) = ((i + j : Nat) : Int) := by rw [wrap_of (by omega) (by omega)]; omega
          have hw2 := wrap_u64 (n := i + j) (by omega)
          obtain ⟨m, hme⟩ : ∃ m, m = (i + j) / 2 := ⟨_, rfl⟩
          have hm : m < fs.length := by omega
          have hw3 := wrap_nat (n := m) (by omega)
          have hw4 := wrap_succ (n := m) (by omega)
          have hfd : ((i : Int) + (j : Int)).fdiv 2 = (m : Int) := by rw [Int.fdiv_eq_ediv_of_nonneg _ (by omega)]; omega
          have hed : ((i : Int) + (j : Int)) / 2 = (m : Int) := by omega
          have hx : fs[m]? = some fs[m] := List.getElem?_eq_getElem hm
          have hc := findClosure fs[m] name
          rw [if_pos hlt, ← hme] at hh
          simp only [hx] at hh
          simp only [Int.natCast_add] at hw1 hw2
          cases hb : Op.bytesLess fs[m].name name with
          | true =>
            have hcl : Lib.compareBytes fs[m].name name < 0 := by rw [compareBytes_lt]; exact hb
            simp [hb] at hh
            simp [loopAt, loopsOf, Tryz.f302, h0, h1, h2, h8, h9, h10, hlt', pow_u64, hw1, hw2, hfd, hed, hw3, hw4, hx, hc, hcl, hm]
            exact ⟨j - (m + 1), by omega, m + 1, by simp, j, rfl, hj, by omega, rfl, n, by omega, hh⟩
          | false =>
            have hcl : ¬ Lib.compareBytes fs[m].name name < 0 := by rw [compareBytes_lt]; simp [hb]
            simp [hb] at hh
            simp [loopAt, loopsOf, Tryz.f302, h0, h1, h2, h8, h9, h10, hlt', pow_u64, hw1, hw2, hfd, hed, hw3, hw4, hx, hc, hcl, hm]
            exact ⟨m - i, by omega, i, rfl, m, rfl, by omega, by omega, rfl, n, by omega, hh⟩
        · have hlt' : ¬ (i : Int) < (j : Int) := by omega
          rw [if_neg hlt] at hh
          simp [loopAt, loopsOf, Tryz.f302, h0, h1, h2, h8, h9, h10, hlt', ← hh])
    fs.length s o q hI)
  simp only [loopAt, loopsOf, Tryz.f302] at lp
  obtain ⟨X, A, B, C, hx⟩ := lp
  have hx' := fun s o q a0 a1 a2 a8 a9 a10 => hx s o q ⟨0, fs.length, a0, a1, a2, a8, a9, a10, Nat.le_refl _, Nat.zero_le _, by omega, fs.length + 1, by omega, rfl⟩
  clear hx
  simp at hx'
  unfold thereI
  by_cases hs : seekI fs name < fs.length
  · have hs' : (seekI fs name : Int) < (fs.length : Int) := by omega
    have hg : fs[seekI fs name]? = some fs[seekI fs name] := List.getElem?_eq_getElem hs
    have hc := findClosure fs[seekI fs name] name
    have heq : (Lib.compareBytes fs[seekI fs name].name name == 0) = (fs[seekI fs name].name == name) := by
      rw [Bool.eq_iff_iff]; simp [compareBytes_eq]
    simp [hx', hs, hs', hg, hc, heq]
  · have hs' : ¬ (seekI fs name : Int) < (fs.length : Int) := by omega
    have hg : fs[seekI fs name]? = none := List.getElem?_eq_none (by omega)
    simp [hx', hs, hs', hg]
theorem findField (fs : List Fld) (name : Bytes) (hl : fs.length < 4294967296) : run E (.call 280 [.t (.list (fs.map fldT)), xS name]) = some (.res [xI (seekI fs name : Nat), xB (thereI fs name)] []) := by
  rw [run_call E 280 _ rfl Tryz.func280 rfl rfl rfl (by simp)]
  simp [binarySearch fs name hl]
def fieldI (v : Val) (name : Bytes) : Option Val := match (fieldsI v.t).1[seekI (fieldsI v.t).1 name]? with
  | some f => if f.name == name then some f.v else none
  | none => none
def optX : Option Val → List X
  | some v => [valX v, xB true]
  | none => [valX ⟨0, 0, []⟩, xB false]
theorem implField (v : Val) (name : Bytes) (hv : v.t.length < 4294967296) : run E (.call 251 [xV v, xS name]) = some (.res (optX (fieldI v name)) []) := by
  rw [run_call E 251 _ rfl Tryz.func251 rfl rfl rfl (by simp)]
  have h1 := implFields v hv
  obtain ⟨hs1, hs2⟩ := fieldsI_small v.t
  have h2 := findField (fieldsI v.t).1 name (by omega)
  unfold fieldI
  generalize (fieldsI v.t).1 = fs at *
  unfold thereI at h2
  cases hg : fs[seekI fs name]? with
  | none => simp [hg] at h2; simp [h1, h2, optX]
  | some f =>
    cases hn : f.name == name with
    | false => simp [hg, hn] at h2; simp [h1, h2, hn, optX]
    | true => simp [hg, hn] at h2; simp [h1, h2, hn, hg, optX]
theorem specField (v : Val) (name : Bytes) (hv : v.t.length < 4294967296) : run E (.call 250 [xV v, xS name]) = some (.res (optX (fieldP v name)) []) := by
  rw [run_call E 250 _ rfl Tryz.func250 rfl rfl rfl (by simp)]
  have h1 := l01Fields v.t hv
  have hfx : ∃ b, fieldsX (fieldsP v.t) = [.row 237 ((fieldsL v.t).map fldT), xB b] ∧ (fieldsL v.t).length ≤ v.t.length := by
    unfold fieldsL
    cases h : fieldsP v.t with
    | none => exact ⟨false, rfl, by simp⟩
    | some fs => exact ⟨true, rfl, by have := (fields_small h).1; simpa using this⟩
  obtain ⟨b, hfx, hl⟩ := hfx
  rw [hfx] at h1
  unfold fieldP
  generalize fieldsL v.t = fs at *
  have lp := fun (r : Option Fld) (hr : fs.find? (fun f => f.name == name) = r) => sk (fun s o q hI => loop_for (c := loopAt Tryz.f250 0) (N := 34)
    (fun i s o q => s 1 = .t (.str name) ∧ s 6 = .row 2 ∧ s 8 = .t (.int .i64 i) ∧ s 4 = .ptr 1 0 ∧ o 1 = .box 38 [.t (.int .i64 0), .t (.int .i64 0), .t (.str [])] ∧ o 2 = .row 237 (fs.map fldT) true ∧ (fs.drop i).find? (fun f => f.name == name) = r)
    (fun e s' o' q' => match (generalizing := false) r with
      | some f => e = .ret ∧ s' 4 = .ptr 1 0 ∧ s' 5 = .t (.bool true) ∧ o' 1 = .box 38 [.t (.int .i64 f.v.k), .t (.int .i64 f.v.n), .t (.str f.v.t)]
      | none => e = .exit 0 ∧ s' 4 = .ptr 1 0 ∧ o' 1 = .box 38 [.t (.int .i64 0), .t (.int .i64 0), .t (.str [])]) fs.length
    (by
      rintro i s o q hi ⟨g1, g6, g8, g4, ho1, ho2, hp⟩
      have hi' : (i : Int) < (fs.length : Int) := by omega
      have hw := wrap_succ (n := i) (by omega)
      have hxi : fs[i]? = some fs[i] := List.getElem?_eq_getElem hi
      rw [List.drop_eq_getElem_cons hi, List.find?_cons] at hp
      cases hn : fs[i].name == name with
      | true =>
        simp only [hn] at hp
        subst hp
        simp [loopAt, loopsOf, Tryz.f250, g1, g6, g8, g4, ho1, ho2, hi', hxi, hw, hn]
      | false =>
        simp only [hn] at hp
        simp [loopAt, loopsOf, Tryz.f250, g1, g6, g8, g4, ho1, ho2, hi', hxi, hw, hn, hp])
    (by
      rintro s o q ⟨g1, g6, g8, g4, ho1, ho2, hp⟩
      simp at hp
      subst hp
      simp [loopAt, loopsOf, Tryz.f250, g1, g6, g8, g4, ho1, ho2])
    fs.length 0 s o q (by omega) hI)
  simp only [loopAt, loopsOf, Tryz.f250] at lp
  cases hr : fs.find? (fun f => f.name == name) with
  | some f =>
    obtain ⟨X, A, B, C, hx⟩ := lp _ hr
    simp [hr, -List.find?_eq_none] at hx
    simp [h1, hx, optX]
  | none =>
    obtain ⟨X, A, B, C, hx⟩ := lp _ hr
    simp [hr, -List.find?_eq_none] at hx
    simp [h1, hx, optX]
abbrev idB : Bytes := [105, 100]
theorem fieldI_eq {v : Val} {fs : List Fld} (name : Bytes) (hf : fieldsP v.t = some fs) (hr : rising fs = true) : fieldI v name = fieldP v name := by
  have hs : seekI fs name = placeP fs name := by
    unfold seekI
    refine halves_ok (p := placeP fs name) (m := fs.length) ?_ ?_ _ _ _ (Nat.zero_le _) (place_le fs name) (Nat.le_refl _) (by omega)
    · intro k hk
      have hlt : k < fs.length := Nat.lt_of_lt_of_le hk (place_le fs name)
      have hg : fs[k]? = some fs[k] := List.getElem?_eq_getElem hlt
      simp only [hg]
      exact (rising_place name hr k _ hg).2 hk
    · intro k hk hkl
      have hg : fs[k]? = some fs[k] := List.getElem?_eq_getElem hkl
      simp only [hg]
      cases hb : Op.bytesLess fs[k].name name with
      | false => rfl
      | true =>
        have := (rising_place name hr k _ hg).1 hb
        omega
  unfold fieldI
  rw [fieldsI_some hf]
  simp only [hs]
  rw [field_place name hf hr]
  cases fs[placeP fs name]? with
  | none => rfl
  | some f => simp
def okId (x : Val) : Bool := decide (x.k = 2) && (decide (0 ≤ x.n) && decide (x.n ≤ 99))
def idI (v : Val) : Int × Bool := match fieldI v idB with
  | some x => (x.n, okId x)
  | none => (0, false)
def specId (v : Val) : Int := match fieldP v idB with
  | some x => if okId x then x.n else -1
  | none => -1
def isDocP (v : Val) : Bool := valueOK v && decide (v.k = 5)
def nullB (v : Val) : Bool := (v.k == 0) && ((v.n == 0) && (v.t == []))
def verDoc (id : Int) (gone : Bool) (v : Val) : Bool := if gone then nullB v else isDocP v && (specId v == id)
def verDocI (gone : Bool) (v : Val) (id : Int) : Bool := if gone then nullB v else isDocP v && (idI v).2 && ((idI v).1 == id)
structure Dfn where
  name : Bytes
  parts : List Prt
abbrev dfnT (d : Dfn) : T := .agg [.str d.name, .list (d.parts.map prtT)]
structure Ver where
  at_ : Int
  gone : Bool
  v : Val
abbrev verT (x : Ver) : T := .agg [.int .i64 x.at_, .bool x.gone, .int .i64 x.v.k, .int .i64 x.v.n, .str x.v.t]
abbrev verX (x : Ver) : X := .agg [.t (.int .i64 x.at_), .t (.bool x.gone), .t (.int .i64 x.v.k), .t (.int .i64 x.v.n), .t (.str x.v.t)]
structure Chn where
  id : Int
  vs : List Ver
abbrev chnT (c : Chn) : T := .agg [.int .i64 c.id, .list (c.vs.map verT)]
structure Col where
  name : Bytes
  chains : List Chn
  defs : List Dfn
abbrev colT (c : Col) : T := .agg [.str c.name, .list (c.chains.map chnT), .list (c.defs.map dfnT)]
def Dfn.Sm (d : Dfn) : Prop := d.name.length < 4294967296 ∧ partsSm d.parts
def Ver.Sm (x : Ver) : Prop := x.v.t.length < 4294967296
def Chn.Sm (c : Chn) : Prop := c.vs.length < 4294967296 ∧ ∀ x ∈ c.vs, x.Sm
structure Col.Sm (c : Col) : Prop where
  name : c.name.length < 4294967296
  chains : c.chains.length < 4294967296 ∧ ∀ x ∈ c.chains, x.Sm
  defs : c.defs.length < 4294967296 ∧ ∀ x ∈ c.defs, x.Sm
def twoOK : List Prt → Bool
  | [p, q] => !(p.path == q.path)
  | _ => true
def in12 (n : Nat) : Bool := decide (1 ≤ n) && decide (n ≤ 2)
def defOK (d : Dfn) : Bool := nameP d.name && in12 d.parts.length && d.parts.all (fun p => pathOK p.path) && twoOK d.parts
theorem in12_cast (n : Nat) : (decide ((1 : Int) ≤ (n : Int)) && decide ((n : Int) ≤ 2)) = in12 n := by
  unfold in12
  congr 1 <;> (congr 1; simp; omega)
theorem in12_cases {α : Type} {l : List α} (h : in12 l.length = true) : (∃ p, l = [p]) ∨ ∃ p q, l = [p, q] := by
  simp [in12] at h
  match l, h with
  | [p], _ => exact .inl ⟨p, rfl⟩
  | [p, q], _ => exact .inr ⟨p, q, rfl⟩
  | [], h => simp at h
  | _ :: _ :: _ :: _, h => simp at h
theorem defClosure (p : Prt) (h : p.path.length < 4294967296) : run E (.call 235 [.t (prtT p)]) = some (.res [xB (!pathOK p.path)] []) := by
  rw [run_call E 235 _ rfl Tryz.func235 rfl rfl rfl (by simp)]
  simp [partOK p h]
theorem implDefOK (d : Dfn) (h : d.Sm) : run E (.call 193 [.t (dfnT d)]) = some (.res [xB (defOK d)] []) := by
  rw [run_call E 193 _ rfl Tryz.func193 rfl rfl rfl (by simp)]
  have h1 := isShort d.name (by have := h.1; omega)
  have h2 := inRange (d.parts.length : Int) 1 2
  rw [in12_cast] at h2
  have hc := containsFunc_136_0 d.parts 235 (fun p => !pathOK p.path) (by have := h.2.1; omega) rfl (by simp) (fun p hp => defClosure p (h.2.2 p hp))
  rw [any_not_all] at hc
  have d3 := d193_3
  simp [regionOf, findR, pick, Tryz.f193] at d3
  have dd := fun st => run_region_draw E st 3 _ d3
  clear d3
  unfold defOK
  cases hn : nameP d.name with
  | false => rw [hn] at h1; simp [h1]
  | true =>
    rw [hn] at h1
    cases hi : in12 d.parts.length with
    | false => rw [hi] at h2; simp [h1, h2]
    | true =>
      rw [hi] at h2
      cases ha : d.parts.all (fun p => pathOK p.path) with
      | false => rw [ha] at hc; simp [h1, h2, hc]
      | true =>
        rw [ha] at hc
        obtain ⟨nm, ps⟩ := d
        simp only at *
        rcases in12_cases hi with ⟨p, rfl⟩ | ⟨p, q, rfl⟩
        · simp at h2 hc
          simp [h1, h2, hc, dd, twoOK]
        · simp at h2 hc
          simp [h1, h2, hc, dd, twoOK]
theorem specDef_loop (d : Dfn) (h : d.Sm) (b : Bool) (hb : b = d.parts.all (fun p => pathOK p.path)) : ∀ s o n, (s 1 = .ptr 0 0 ∧ s 3 = .t (.int .i64 0) ∧ o 0 = .box 124 [.t (.str d.name), .t (.list (d.parts.map prtT))]) →
    ∃ e s' o' n', run E (.code (.loop (loopAt Tryz.f182 0)) ⟨s, o, n, 47⟩) = some (.st e ⟨s', o', n', 47⟩) ∧ e = (if b then .exit 0 else .ret) ∧ s' 1 = .ptr 0 0 ∧ o' 0 = .box 124 [.t (.str d.name), .t (.list (d.parts.map prtT))] ∧ (b = false → s' 2 = .t (.bool false)) := by
  intro s o n hI
  refine loop_for (c := loopAt Tryz.f182 0) (N := 47)
    (fun i s o n => s 1 = .ptr 0 0 ∧ s 3 = .t (.int .i64 i) ∧ o 0 = .box 124 [.t (.str d.name), .t (.list (d.parts.map prtT))] ∧ b = (d.parts.drop i).all (fun p => pathOK p.path))
    (fun e s' o' n' => e = (if b then .exit 0 else .ret) ∧ s' 1 = .ptr 0 0 ∧ o' 0 = .box 124 [.t (.str d.name), .t (.list (d.parts.map prtT))] ∧ (b = false → s' 2 = .t (.bool false))) d.parts.length ?_ ?_
    d.parts.length 0 s o n (by omega) ⟨hI.1, hI.2.1, hI.2.2, by simpa using hb⟩
  · rintro i s o n hi ⟨h1, h3, ho, hp⟩
    have hfi : d.parts[i]? = some d.parts[i] := List.getElem?_eq_getElem hi
    have hi' : (i : Int) < (d.parts.length : Int) := by omega
    have hw := wrap_succ (n := i) (by have := h.2.1; omega)
    have ht := specPathOK d.parts[i].path (h.2.2 _ (List.getElem_mem hi))
    rw [List.drop_eq_getElem_cons hi, List.all_cons] at hp
    cases hok : pathOK d.parts[i].path <;> simp [hok] at hp ht <;> simp [loopAt, loopsOf, Tryz.f182, h1, h3, ho, hi', hfi, hw, ht, hp]
  · rintro s o n ⟨h1, h3, ho, hp⟩
    simp at hp
    simp [loopAt, loopsOf, Tryz.f182, h1, h3, ho, hp]
theorem specDefOK (d : Dfn) (h : d.Sm) : run E (.call 182 [.t (dfnT d)]) = some (.res [xB (defOK d)] []) := by
  rw [run_call E 182 _ rfl Tryz.func182 rfl rfl rfl (by simp)]
  have h1 := l01Name d.name (by have := h.1; omega)
  have h2 := l01In (d.parts.length : Int) 1 2
  rw [in12_cast] at h2
  have d8 := d182_8
  simp [regionOf, findR, pick, Tryz.f182] at d8
  have dd := fun st => run_region_draw E st 8 _ d8
  clear d8
  have lp := specDef_loop d h
  unfold defOK
  cases hn : nameP d.name with
  | false => rw [hn] at h1; simp [h1]
  | true =>
    rw [hn] at h1
    cases hi : in12 d.parts.length with
    | false => rw [hi] at h2; simp [h1, h2]
    | true =>
      rw [hi] at h2
      cases ha : d.parts.all (fun p => pathOK p.path) with
      | false =>
        obtain ⟨X, A, B, C, hx⟩ := sk (lp false ha.symm)
        simp [loopAt, loopsOf, Tryz.f182] at hx
        simp [h1, h2, hx]
      | true =>
        obtain ⟨X, A, B, C, hx⟩ := sk (lp true ha.symm)
        simp [loopAt, loopsOf, Tryz.f182] at hx
        obtain ⟨nm, ps⟩ := d
        simp only at *
        rcases in12_cases hi with ⟨p, rfl⟩ | ⟨p, q, rfl⟩
        · simp at h2 hx
          simp [h1, h2, hx, dd, twoOK]
        · simp at h2 hx
          simp [h1, h2, hx, dd, twoOK]
def in1 (lo hi n : Int) : Bool := decide (lo ≤ n) && decide (n ≤ hi)
def versGo (D : Bool → Val → Bool) : Option Int → List Ver → Bool
  | _, [] => true
  | p, x :: r => in1 1 10000 x.at_ && (match p with
      | none => true
      | some q => !decide (x.at_ ≤ q)) && D x.gone x.v && versGo D (some x.at_) r
def chainOK (c : Chn) : Bool := in1 0 19 c.id && in1 1 12 c.vs.length && versGo (fun g v => verDoc c.id g v) none c.vs
def chainsGo : Option Int → List Chn → Bool
  | _, [] => true
  | p, c :: r => chainOK c && (match p with
      | none => true
      | some q => !decide (c.id ≤ q)) && chainsGo (some c.id) r
def defsGo : List Dfn → List Dfn → Bool
  | _, [] => true
  | pre, d :: r => defOK d && !(pre.any (fun x => x.name == d.name)) && defsGo (pre ++ [d]) r
def collOK (c : Col) : Bool := nameP c.name && decide (c.chains.length ≤ 20) && decide (c.defs.length ≤ 3) && defsGo [] c.defs && chainsGo none c.chains
/-- Where the first one stands, ahead of a place that fits. -/
theorem idxP_take {α : Type} (p : α → Bool) : ∀ (l : List α) (i : Nat) (hi : i < l.length), p l[i] = true → ((idxP p l < (i : Int)) = ((l.take i).any p = true))
  | [], i, hi, _ => by simp at hi
  | x :: r, 0, hi, h => by
    simp at h
    simp [idxP, h]
  | x :: r, i + 1, hi, h => by
    have ih := idxP_take p r i (by simpa using hi) (by simpa using h)
    have hne : ¬ idxP p r < 0 := by
      rw [idxP_neg]
      have : r.any p = true := List.any_eq_true.2 ⟨r[i]'(by simpa using hi), List.getElem_mem _, by simpa using h⟩
      simp [this]
    unfold idxP
    cases hx : p x with
    | true => simp [hx]
    | false =>
      simp only [hx, Bool.false_eq_true, if_false, hne, List.take_succ_cons, List.any_cons, Bool.false_or]
      rw [← ih]
      simp
theorem l01In1 (a b c : Int) : run E (.call 36 [xI a, xI b, xI c]) = some (.res [xB (in1 b c a)] []) := l01In a b c
def Dfn.Wd (d : Dfn) : Prop := W d.name.length ∧ prtsWd d.parts
def Ver.Wd (x : Ver) : Prop := W x.v.t.length
def Chn.Wd (c : Chn) : Prop := W c.vs.length ∧ ∀ x ∈ c.vs, x.Wd
structure Col.Wd (c : Col) : Prop where
  name : W c.name.length
  chains : W c.chains.length ∧ ∀ x ∈ c.chains, x.Wd
  defs : W c.defs.length ∧ ∀ x ∈ c.defs, x.Wd
def szDfn (d : Dfn) : Int → Int := thenSz (szB d.name.length) (thenSz (lstSz szPrt d.parts) (fun k => k))
def szVer (x : Ver) : Int → Int := thenSz (szVal x.v) (fun k => k)
def szChn (c : Chn) : Int → Int := thenSz (lstSz szVer c.vs) (fun k => k)
def szCol (c : Col) : Int → Int := thenSz (szB c.name.length) (thenSz (lstSz szChn c.chains) (thenSz (lstSz szDfn c.defs) (fun k => k)))
theorem szDfn_le (d : Dfn) (k : Int) (h : 0 ≤ k) : szDfn d k ≤ k := thenSz_le h (fun k hk => szB_le hk) (fun k hk => thenSz_le hk (fun k hk => lstPrt_le _ k hk) (fun k _ => Int.le_refl k))
theorem szDef (d : Dfn) (h : d.Wd) (l : Int) (h0 : 0 ≤ l) (hm : l ≤ 1048576) : run E (.call 128 [.t (dfnT d), xI l]) = some (.res [xI (szDfn d l)] []) := by
  rw [run_call E 128 _ rfl Tryz.func128 rfl rfl rfl (by simp)]
  have hw := wrap_sz h.1 h0 hm
  unfold szDfn thenSz
  by_cases hb : l - (d.name.length : Int) < 0
  · have e : szB d.name.length l = -1 := by simp [szB, hb]
    simp [hw, hb, e]
  · have e : szB d.name.length l = l - d.name.length := by simp [szB, hb]
    have hs := szPartS d.parts h.2 (l - d.name.length) (by omega) (by omega)
    by_cases hn : lstSz szPrt d.parts (l - d.name.length) < 0 <;> simp [hw, hb, e, hs, hn]
theorem szDfn_sm {d : Dfn} {k : Int} (h0 : 0 ≤ k) (hm : k ≤ 1048576) (h : ¬ szDfn d k < 0) : d.Sm := by
  obtain ⟨h1, h2⟩ := thenSz_neg h
  obtain ⟨h3, _⟩ := thenSz_neg h2
  have b1 := szB_bound h1
  have := szB_le (n := d.name.length) h0
  exact ⟨by omega, lstPrt_sm (by omega) (by omega) h3⟩
theorem toDef (d : Dfn) (h : d.Sm) : run E (.call 139 [.t (dfnT d)]) = some (.res [.agg [.t (.str d.name), .row 170 (d.parts.map prtT)]] []) := by
  rw [run_call E 139 _ rfl Tryz.func139 rfl rfl rfl (by simp)]
  simp [toPartS d.parts h.2.1]
theorem eqDef (d : Dfn) (h : d.Sm) : run E (.call 150 [.t (dfnT d), .t (dfnT d)]) = some (.res [xB true] []) := by
  rw [run_call E 150 _ rfl Tryz.func150 rfl rfl rfl (by simp)]
  simp [eqPartS d.parts h.2.1]
/-- A text's bytes with its zeros marked. -/
def escGo : Bytes → Bytes
  | [] => []
  | b :: r => (if b = 0 then [b, 255] else [b]) ++ escGo r
def escP (t : Bytes) : Bytes := escGo t ++ [0, 0]
def turnB (b : UInt8) : UInt8 := 255 - b
def turnP (t : Bytes) : Bytes := t.map turnB
theorem escGo_len : ∀ (t : Bytes), (escGo t).length ≤ 2 * t.length
  | [] => by simp [escGo]
  | b :: r => by
    have := escGo_len r
    unfold escGo
    split <;> simp <;> omega
theorem turn_wrap (b : UInt8) : IntKind.u8.wrap (255 - (b.toNat : Int)) = ((turnB b).toNat : Int) := by
  have hb : b.toNat < 256 := b.toNat_lt
  have h : (255 - b).toNat = 255 - b.toNat := by
    rw [UInt8.toNat_sub]
    simp
    omega
  unfold turnB
  rw [h]
  simp [IntKind.wrap, IntKind.bits, IntKind.signed]
  omega
theorem toBytes_app (l : Bytes) (m : List T) : toBytes (l.map byteT ++ m) = (toBytes m).map (l ++ ·) := by
  induction l with
  | nil => simp [toBytes]
  | cons b r ih =>
    simp only [List.map_cons, List.cons_append, toBytes, ih]
    cases toBytes m <;> simp
theorem toBytes_map (l : Bytes) : toBytes (l.map byteT) = some l := by
  have := toBytes_app l []
  simpa [toBytes] using this
theorem l04Turn (t : Bytes) (ht : t.length < 4294967296) : run E (.call 314 [xS t]) = some (.res [xS (turnP t)] []) := by
  rw [run_call E 314 _ rfl Tryz.func314 rfl rfl rfl (by simp)]
  have lp := sk1 (fun s o q hI => loop_for (c := loopAt Tryz.f314 0) (N := 21)
    (fun i s o q => ∃ r, s 0 = .t (.str t) ∧ s 3 = .row r ∧ s 4 = .t (.int .i64 i) ∧ o r = .row 5 ((turnP (t.take i)).map byteT) true ∧ r < q)
    (fun e s' o' q' => ∃ r, e = .exit 0 ∧ s' 3 = .row r ∧ o' r = .row 5 ((turnP t).map byteT) true) t.length
    (by
      rintro i s o q hi ⟨r, h0, h3, h4, ho, hrq⟩
      have hi' : (i : Int) < (t.length : Int) := by omega
      have hw := wrap_succ (n := i) (by omega)
      have hrn : r ≠ q := by omega
      have hrn2 : r ≠ q + 1 := by omega
      have hqn : q ≠ r := by omega
      have hl : (turnP (t.take i)).length = i := by simp [turnP]; omega
      have htw := turn_wrap t[i]
      have htk : (turnP (t.take (i + 1))).map byteT = (turnP (t.take i)).map byteT ++ [byteT (turnB t[i])] := by
        have e : t.take (i + 1) = t.take i ++ [t[i]] := by rw [List.take_add_one, List.getElem?_eq_getElem hi]; rfl
        rw [e]; simp only [turnP, List.map_append, List.map_cons, List.map_nil]
      have hpl : i + 1 ≤ 140737488355328 := by omega
      rw [htk]
      generalize turnP (t.take i) = l at *
      simp [loopAt, loopsOf, Tryz.f314, h0, h3, h4, hi, hi', hw, ho, hrn, hrn2, hqn, htw, hl, hpl]
      try omega)
    (by
      rintro s o q ⟨r, h0, h3, h4, ho, hrq⟩
      simp at ho
      simp [loopAt, loopsOf, Tryz.f314, h0, h3, h4, ho])
    t.length 0 s o q (by omega) hI)
  simp only [loopAt, loopsOf, Tryz.f314] at lp
  obtain ⟨X, A, B, C, M, hx⟩ := lp
  have hx' := fun s o q r a0 a3 a4 a5 a6 => hx s o q ⟨r, a0, a3, a4, a5, a6⟩
  clear hx
  simp [turnP] at hx'
  have hb := toBytes_map (turnP t)
  simp [turnP] at hb
  simp [hx', turnP, hb]
theorem l04Escape (t : Bytes) (ht : t.length < 4294967296) : run E (.call 330 [xS t]) = some (.res [xS (escP t)] []) := by
  rw [run_call E 330 _ rfl Tryz.func330 rfl rfl rfl (by simp)]
  have lp := sk1 (fun s o q hI => loop_for (c := loopAt Tryz.f330 0) (N := 29)
    (fun i s o q => ∃ r, s 0 = .t (.str t) ∧ s 3 = .row r ∧ s 4 = .t (.int .i64 i) ∧ o r = .row 5 ((escGo (t.take i)).map byteT) true ∧ r < q)
    (fun e s' o' q' => ∃ r, e = .exit 0 ∧ s' 3 = .row r ∧ o' r = .row 5 ((escGo t).map byteT) true ∧ ¬ r = q' ∧ ¬ r = q' + 1 ∧ ¬ q' = r) t.length
    (by
      rintro i s o q hi ⟨r, h0, h3, h4, ho, hrq⟩
      have hi' : (i : Int) < (t.length : Int) := by omega
      have hw := wrap_succ (n := i) (by omega)
      have hrn : r ≠ q := by omega
      have hrn2 : r ≠ q + 1 := by omega
      have hqn : q ≠ r := by omega
      have hl : (escGo (t.take i)).length ≤ 2 * i := by have := escGo_len (t.take i); simp at this; omega
      have hsnoc : ∀ (a : Bytes) (b : UInt8), escGo (a ++ [b]) = escGo a ++ (if b = 0 then [b, 255] else [b]) := by
        intro a b
        induction a with
        | nil => simp [escGo]
        | cons c a ih => simp [escGo, ih]
      have htk : escGo (t.take (i + 1)) = escGo (t.take i) ++ (if t[i] = 0 then [t[i], 255] else [t[i]]) := by
        have e : t.take (i + 1) = t.take i ++ [t[i]] := by rw [List.take_add_one, List.getElem?_eq_getElem hi]; rfl
        rw [e]; exact hsnoc _ _
      have hpl : (escGo (t.take i)).length + 1 ≤ 140737488355328 := by omega
      have hpl2 : (escGo (t.take i)).length + 1 + 1 ≤ 140737488355328 := by omega
      rw [htk]
      generalize escGo (t.take i) = l at *
      by_cases hz : t[i] = 0
      · simp [hz]
        simp [loopAt, loopsOf, Tryz.f330, h0, h3, h4, hi, hi', hw, ho, hrn, hrn2, hqn, hz, hpl, hpl2]
        try omega
      · have hzn : ¬ ((t[i].toNat : Int) = 0) := by
          intro h; exact hz (UInt8.toNat_inj.1 (by simp; omega))
        simp [hz]
        simp [loopAt, loopsOf, Tryz.f330, h0, h3, h4, hi, hi', hw, ho, hrn, hrn2, hqn, hz, hzn, hpl, hpl2]
        try omega)
    (by
      rintro s o q ⟨r, h0, h3, h4, ho, hrq⟩
      simp at ho
      have hrn : r ≠ q := by omega
      have hrn2 : r ≠ q + 1 := by omega
      have hqn : q ≠ r := by omega
      simp [loopAt, loopsOf, Tryz.f330, h0, h3, h4, ho, hrn, hrn2, hqn])
    t.length 0 s o q (by omega) hI)
  simp only [loopAt, loopsOf, Tryz.f330] at lp
  obtain ⟨X, A, B, C, M, hx⟩ := lp
  have hx' := fun s o q r a0 a3 a4 a5 a6 => hx s o q ⟨r, a0, a3, a4, a5, a6⟩
  clear hx
  simp [escGo] at hx'
  have hl : (escGo t).length + 2 ≤ 140737488355328 := by have := escGo_len t; omega
  have hb := toBytes_app (escGo t) [.int .u8 0, .int .u8 0]
  simp [toBytes] at hb
  have hr2 : List.range 2 = [0, 1] := rfl
  simp [hx', escP, hb, hl, hr2]
/-- A number's byte at a place. -/
def byteAt (n : Int) (j : Nat) : UInt8 := UInt8.ofNat (IntKind.u8.wrap (n.fdiv (2 ^ (8 * j)))).toNat
theorem byteAt_wrap (n : Int) (j : Nat) : IntKind.u8.wrap (n.fdiv (2 ^ (8 * j))) = ((byteAt n j).toNat : Int) := by
  unfold byteAt
  have h : 0 ≤ IntKind.u8.wrap (n.fdiv (2 ^ (8 * j))) ∧ IntKind.u8.wrap (n.fdiv (2 ^ (8 * j))) < 256 := by
    simp [IntKind.wrap, IntKind.bits, IntKind.signed]
    omega
  generalize IntKind.u8.wrap (n.fdiv (2 ^ (8 * j))) = m at *
  rw [UInt8.toNat_ofNat']
  omega
/-- A number's bytes from the place k - 1 downwards. -/
def numP (n : Int) : Nat → Bytes
  | 0 => []
  | k + 1 => byteAt n k :: numP n k
theorem numP_len (n : Int) : ∀ k, (numP n k).length = k
  | 0 => rfl
  | k + 1 => by simp [numP, numP_len n k]
theorem l01Number (n : Int) (k : Nat) (hk : k ≤ 8) : run E (.call 248 [xI n, xI k]) = some (.res [xS (numP n k)] []) := by
  rw [run_call E 248 _ rfl Tryz.func248 rfl rfl rfl (by simp)]
  have lp := sk1 (fun s o q hI => loop_for (c := loopAt Tryz.f248 0) (N := 25)
    (fun i s o q => ∃ r l, s 0 = .t (.int .i64 n) ∧ s 5 = .row r ∧ s 6 = .t (.int .i64 ((k : Int) - 1 - i)) ∧ o r = .row 5 (l.map byteT) true ∧ r < q ∧ l.length = i ∧ numP n k = l ++ numP n (k - i))
    (fun e s' o' q' => ∃ r, e = .exit 0 ∧ s' 5 = .row r ∧ o' r = .row 5 ((numP n k).map byteT) true) k
    (by
      rintro i s o q hi ⟨r, l, h0, h5, h6, ho, hrq, hl, hp⟩
      have hge : (0 : Int) ≤ (k : Int) - 1 - i := by omega
      obtain ⟨j, hj⟩ : ∃ j : Nat, k = j + 1 + i := ⟨k - 1 - i, by omega⟩
      have hjj : (k : Int) - 1 - i = j := by omega
      have hki : k - i = j + 1 := by omega
      have hki2 : k - (i + 1) = j := by omega
      rw [hki, numP] at hp
      rw [hjj] at h6
      have hw : IntKind.i64.wrap ((j : Int) - 1) = (k : Int) - 1 - ((i + 1 : Nat) : Int) := by rw [wrap_of (by omega) (by omega)]; omega
      have hw8 : IntKind.i64.wrap (8 * (j : Int)) = ((8 * j : Nat) : Int) := by rw [wrap_of (by omega) (by omega)]; omega
      have hwu := wrap_u64 (n := 8 * j) (by omega)
      have hmin : min (8 * j) IntKind.i64.bits = 8 * j := by simp [IntKind.bits]; omega
      have hj0 : (0 : Int) ≤ (j : Int) := by omega
      have hrn : r ≠ q := by omega
      have hrn2 : r ≠ q + 1 := by omega
      have hqn : q ≠ r := by omega
      have hpl : l.length + 1 ≤ 140737488355328 := by omega
      have hb := byteAt_wrap n j
      have hneg : ¬ (8 * (j : Int) < 0) := by omega
      have hnat : (8 * (j : Int)).toNat = 8 * j := by omega
      simp at hw hw8 hwu
      simp [loopAt, loopsOf, Tryz.f248, h0, h5, h6, ho, hrn, hrn2, hqn, hw, hw8, hwu, hmin, hb, hpl, hneg, hnat]
      exact ⟨l ++ [byteAt n j], by simp, by simp [hl], by rw [hp, hki2]; simp⟩)
    (by
      rintro s o q ⟨r, l, h0, h5, h6, ho, hrq, hl, hp⟩
      have h6' : s 6 = .t (.int .i64 (-1)) := by rw [h6]; congr 2; omega
      simp [numP] at hp
      simp [loopAt, loopsOf, Tryz.f248, h0, h5, h6', ho, hp])
    k 0 s o q (by omega) hI)
  simp only [loopAt, loopsOf, Tryz.f248] at lp
  obtain ⟨X, A, B, C, M, hx⟩ := lp
  have hx' := fun s o q r a0 a5 a6 a7 a8 => hx s o q ⟨r, [], a0, a5, a6, a7, a8, rfl, by simp⟩
  clear hx
  simp at hx'
  have hb := toBytes_map (numP n k)
  have hw : IntKind.i64.wrap ((k : Int) - 1) = (k : Int) - 1 := wrap_of (by omega) (by omega)
  simp [hx', hb, hw]
def headK (v : Val) : Bytes := numP (v.k + 1) 1
/-- A value's key. -/
def keyD : Nat → Val → Bytes
  | d, v =>
    if v.k = 0 then headK v
    else if v.k = 1 then headK v ++ numP v.n 1
    else if v.k = 2 then headK v ++ numP (v.n + 4611686018427387904) 8
    else if v.k = 3 then headK v ++ escP v.t
    else match d with
      | 0 => []
      | d + 1 =>
        if v.k = 4 then headK v ++ (itemsL v.t).flatMap (keyD d) ++ [0]
        else headK v ++ (fieldsL v.t).flatMap (fun f => [1] ++ escP f.name ++ keyD d f.v) ++ [0]
theorem escP_len (t : Bytes) : (escP t).length ≤ 2 * t.length + 2 := by
  have := escGo_len t
  simp [escP]; omega
def sumL {α : Type} (f : α → Nat) : List α → Nat
  | [] => 0
  | x :: r => f x + sumL f r
theorem flat_len {α : Type} {f : α → Bytes} {g : α → Nat} : ∀ {l : List α}, (∀ x ∈ l, (f x).length ≤ 11 * g x) → (l.flatMap f).length ≤ 11 * sumL g l
  | [], _ => by simp
  | x :: r, h => by
    have h1 := h x (by simp)
    have h2 := flat_len (f := f) (g := g) (l := r) (fun y hy => h y (by simp [hy]))
    simp [sumL]; simp at h2; omega
theorem items_sum : ∀ {xs : List Val} {t : Bytes}, itemsP t = some xs → sumL (fun x => x.t.length + 1) xs ≤ t.length
  | xs, t, h => by
    rcases items_cases h with ⟨rfl, rfl⟩ | ⟨v, r, ys, h1, h2, rfl⟩
    · simp [sumL]
    · have := nextP_len h1
      have := items_sum h2
      simp [sumL]; omega
  termination_by xs => xs.length
  decreasing_by simp_all
theorem fields_sum : ∀ {xs : List Fld} {t : Bytes}, fieldsP t = some xs → sumL (fun f => f.name.length + f.v.t.length + 2) xs ≤ t.length
  | xs, t, h => by
    rcases fields_cases h with ⟨rfl, rfl⟩ | ⟨b, q, v, r, ys, rfl, h0, h1, h2, rfl⟩
    · simp [sumL]
    · have := nextP_len h1
      have := fields_sum h2
      simp at *
      simp [sumL]; omega
  termination_by xs => xs.length
  decreasing_by simp_all
theorem keyD_len : ∀ (d : Nat) (v : Val), okP d v = true → (keyD d v).length ≤ 11 * (v.t.length + 1) := by
  intro d
  induction d with
  | zero =>
    intro v h
    unfold keyD headK
    have := escP_len v.t
    split
    · simp [numP_len]; omega
    · split
      · simp [numP_len]; omega
      · split
        · simp [numP_len]; omega
        · split
          · simp [numP_len]; omega
          · simp
  | succ d ih =>
    intro v h
    have he := escP_len v.t
    by_cases h0 : v.k = 0
    · simp [keyD, headK, h0, numP_len]; omega
    by_cases h1 : v.k = 1
    · simp [keyD, headK, h1, numP_len]; omega
    by_cases h2 : v.k = 2
    · simp [keyD, headK, h2, numP_len]; omega
    by_cases h3 : v.k = 3
    · simp [keyD, headK, h3, numP_len]; omega
    by_cases h4 : v.k = 4
    · obtain ⟨e, xs, hd, _, hi, hx⟩ := okP_list h h4
      obtain rfl : d = e := by omega
      have hf := flat_len (f := keyD d) (g := fun x => x.t.length + 1) (l := xs) (fun x hm => ih x (hx x hm))
      have hs := items_sum hi
      have e : itemsL v.t = xs := by simp [itemsL, hi]
      simp [keyD, headK, h4, e, numP_len]
      simp at hf
      omega
    · have h5 : v.k = 5 := by
        unfold okP at h
        simp [h0, h1, h2, h3, h4] at h
        exact h.1
      obtain ⟨e, fs, hd, _, hi, _, hx⟩ := okP_doc h h5
      obtain rfl : d = e := by omega
      have hf := flat_len (f := fun f : Fld => [1] ++ escP f.name ++ keyD d f.v) (g := fun f => f.name.length + f.v.t.length + 2) (l := fs) (fun f hm => by
        have h1 := ih f.v (hx f hm).2
        have h2 := escP_len f.name
        simp; omega)
      have hs := fields_sum hi
      have e : fieldsL v.t = fs := by simp [fieldsL, hi]
      simp [keyD, headK, h5, e, numP_len]
      simp at hf
      omega
theorem flat_drop {α : Type} (f : α → Bytes) (l : List α) (i : Nat) (hi : i < l.length) : (l.drop i).flatMap f = f l[i] ++ (l.drop (i + 1)).flatMap f := by
  rw [List.drop_eq_getElem_cons hi, List.flatMap_cons]
theorem l04Raw_small (d : Nat) (v : Val) (h : okP d v = true) (hv : v.t.length < 1048576) (hk : v.k = 0 ∨ v.k = 1 ∨ v.k = 2 ∨ v.k = 3) : run E (.call 315 [xV v]) = some (.res [xS (keyD d v)] []) := by
  rw [run_call E 315 _ rfl Tryz.func315 rfl rfl rfl (by simp)]
  unfold keyD headK
  have hw : IntKind.i64.wrap (v.k + 1) = v.k + 1 := wrap_of (by omega) (by omega)
  have hn := l01Number (v.k + 1) 1 (by omega)
  have hm := l01Number v.n 1 (by omega)
  simp at hn hm
  have hl1 := numP_len (v.k + 1) 1
  have hl2 := numP_len v.n 1
  rcases hk with hk | hk | hk | hk
  · have e0 : (v.k = 0) = True := by rw [hk]; simp
    have e1 : (v.k = 1) = False := by rw [hk]; simp
    have e2 : (v.k = 2) = False := by rw [hk]; simp
    have e3 : (v.k = 3) = False := by rw [hk]; simp
    have e4 : (v.k = 4) = False := by rw [hk]; simp
    have e5 : (v.k = 5) = False := by rw [hk]; simp
    clear hk
    simp [e0, e1, e2, e3, e4, e5, hw, hn]
  · have e0 : (v.k = 0) = False := by rw [hk]; simp
    have e1 : (v.k = 1) = True := by rw [hk]; simp
    have e2 : (v.k = 2) = False := by rw [hk]; simp
    have e3 : (v.k = 3) = False := by rw [hk]; simp
    have e4 : (v.k = 4) = False := by rw [hk]; simp
    have e5 : (v.k = 5) = False := by rw [hk]; simp
    clear hk
    simp [e0, e1, e2, e3, e4, e5, hw, hn, hm, hl1, hl2]
  · have hb : -1000000000000 ≤ v.n ∧ v.n ≤ 1000000000000 := by unfold okP at h; simp [hk] at h; exact h.1
    have hw2 : IntKind.i64.wrap (v.n + 4611686018427387904) = v.n + 4611686018427387904 := wrap_of (by omega) (by omega)
    have hm8 := l01Number (v.n + 4611686018427387904) 8 (by omega)
    have hl8 := numP_len (v.n + 4611686018427387904) 8
    simp at hm8
    have e0 : (v.k = 0) = False := by rw [hk]; simp
    have e1 : (v.k = 1) = False := by rw [hk]; simp
    have e2 : (v.k = 2) = True := by rw [hk]; simp
    have e3 : (v.k = 3) = False := by rw [hk]; simp
    have e4 : (v.k = 4) = False := by rw [hk]; simp
    have e5 : (v.k = 5) = False := by rw [hk]; simp
    clear hk
    simp [e0, e1, e2, e3, e4, e5, hw, hw2, hn, hm8, hl1, hl8]
  · have he := l04Escape v.t (by omega)
    have hel := escP_len v.t
    have hle : 1 + (escP v.t).length ≤ 140737488355328 := by omega
    have e0 : (v.k = 0) = False := by rw [hk]; simp
    have e1 : (v.k = 1) = False := by rw [hk]; simp
    have e2 : (v.k = 2) = False := by rw [hk]; simp
    have e3 : (v.k = 3) = True := by rw [hk]; simp
    have e4 : (v.k = 4) = False := by rw [hk]; simp
    have e5 : (v.k = 5) = False := by rw [hk]; simp
    clear hk
    simp [e0, e1, e2, e3, e4, e5, hw, hn, he, hl1, hle]
theorem l04Raw : ∀ (d : Nat) (v : Val), okP d v = true → v.t.length < 1048576 → run E (.call 315 [xV v]) = some (.res [xS (keyD d v)] []) := by
  intro d
  induction d with
  | zero =>
    intro v h hv
    refine l04Raw_small 0 v h hv ?_
    unfold okP at h
    by_cases h0 : v.k = 0; · omega
    by_cases h1 : v.k = 1; · omega
    by_cases h2 : v.k = 2; · omega
    by_cases h3 : v.k = 3; · omega
    simp [h0, h1, h2, h3] at h
  | succ d ih =>
    intro v h hv
    by_cases hs : v.k = 0 ∨ v.k = 1 ∨ v.k = 2 ∨ v.k = 3
    · exact l04Raw_small (d + 1) v h hv hs
    have e0 : (v.k = 0) = False := by simp; omega
    have e1 : (v.k = 1) = False := by simp; omega
    have e2 : (v.k = 2) = False := by simp; omega
    have e3 : (v.k = 3) = False := by simp; omega
    have hlen := keyD_len (d + 1) v h
    have hn := l01Number (v.k + 1) 1 (by omega)
    simp at hn
    have hl1 := numP_len (v.k + 1) 1
    rw [run_call E 315 _ rfl Tryz.func315 rfl rfl rfl (by simp)]
    by_cases hk : v.k = 4
    · obtain ⟨e, xs, hd, _, hit, hx⟩ := okP_list h hk
      obtain rfl : d = e := by omega
      have hw : IntKind.i64.wrap (v.k + 1) = v.k + 1 := wrap_of (by omega) (by omega)
      have hi := l01Items v.t (by omega)
      rw [hit] at hi
      simp only [itemsX] at hi
      obtain ⟨hs1, hs2⟩ := items_small hit
      have e4 : (v.k = 4) = True := eq_true hk
      have eL : itemsL v.t = xs := by simp [itemsL, hit]
      clear hk
      have ekey : keyD (d + 1) v = headK v ++ xs.flatMap (keyD d) ++ [0] := by simp [keyD, e0, e1, e2, e3, e4, eL]
      rw [ekey] at hlen ⊢
      have hhead : headK v = numP (v.k + 1) 1 := rfl
      generalize hW : headK v = W at *
      have lp := fun (R : Bytes) (hR : R = W ++ xs.flatMap (keyD d)) => sk (fun s o q hI => loop_for (c := loopAt Tryz.f315 0) (N := 94)
        (fun i s o q => ∃ acc, s 3 = .t (.str acc) ∧ s 4 = .row 1 ∧ s 6 = .t (.int .i64 i) ∧ o 1 = .row 38 (xs.map valT) true ∧ R = acc ++ (xs.drop i).flatMap (keyD d))
        (fun e s' o' q' => e = .exit 1 ∧ s' 3 = .t (.str R)) xs.length
        (by
          rintro i s o q hi ⟨acc, h3, h4, h6, ho, hp⟩
          have hi' : (i : Int) < (xs.length : Int) := by omega
          have hwi := wrap_succ (n := i) (by omega)
          have hxi : xs[i]? = some xs[i] := List.getElem?_eq_getElem hi
          have hr := ih xs[i] (hx _ (List.getElem_mem hi)) (by have := hs2 _ (List.getElem_mem hi); omega)
          rw [flat_drop _ _ _ hi, ← List.append_assoc] at hp
          have hcat : acc.length + (keyD d xs[i]).length ≤ 140737488355328 := by
            have h1 := congrArg List.length hp
            have h2 := congrArg List.length hR
            simp at h1 h2 hlen
            omega
          simp [loopAt, loopsOf, Tryz.f315, h3, h4, h6, ho, hi, hi', hwi, hr, hcat, hxi]
          rw [hp, List.append_assoc])
        (by
          rintro s o q ⟨acc, h3, h4, h6, ho, hp⟩
          simp at hp
          simp [loopAt, loopsOf, Tryz.f315, h3, h4, h6, ho, hp])
        xs.length 0 s o q (by omega) hI)
      simp only [loopAt, loopsOf, Tryz.f315] at lp
      obtain ⟨X, A, B, C, hl⟩ := lp _ rfl
      have hl' := fun s o q a3 a4 a6 a0 => hl s o q ⟨W, a3, a4, a6, a0, by simp⟩
      clear hl lp
      simp at hl' hlen
      have hcat : W.length + ((xs.flatMap (keyD d)).length + 1) ≤ 140737488355328 := by simp; omega
      simp [e0, e1, e2, e3, e4, hw, hn, ← hhead, hi, hl', hcat]
      try (intro hcon; exfalso; omega)
    · have h5 : v.k = 5 := by
        unfold okP at h
        simp [e0, e1, e2, e3, hk] at h
        exact h.1
      obtain ⟨e, xs, hd, _, hit, _, hx⟩ := okP_doc h h5
      obtain rfl : d = e := by omega
      have hw : IntKind.i64.wrap (v.k + 1) = v.k + 1 := wrap_of (by omega) (by omega)
      have hi := l01Fields v.t (by omega)
      rw [hit] at hi
      simp only [fieldsX] at hi
      obtain ⟨hs1, hs2⟩ := fields_small hit
      have e4 : (v.k = 4) = False := eq_false hk
      have eL : fieldsL v.t = xs := by simp [fieldsL, hit]
      clear hk h5
      have ekey : keyD (d + 1) v = headK v ++ xs.flatMap (fun f => [1] ++ escP f.name ++ keyD d f.v) ++ [0] := by simp [keyD, e0, e1, e2, e3, e4, eL]
      rw [ekey] at hlen ⊢
      have hhead : headK v = numP (v.k + 1) 1 := rfl
      generalize hW : headK v = W at *
      have d22 := d315_22
      simp [regionOf, findR, pick, Tryz.f315] at d22
      have dd := fun st => run_region_draw E st 22 _ d22
      clear d22
      obtain ⟨F, hF⟩ : ∃ F : Fld → Bytes, F = (fun f => [1] ++ escP f.name ++ keyD d f.v) := ⟨_, rfl⟩
      have hFx : ∀ f, [1] ++ (escP f.name ++ keyD d f.v) = F f := by intro f; rw [hF]; simp
      have hFl : ∀ f, (F f).length = 1 + (escP f.name).length + (keyD d f.v).length := by intro f; rw [hF]; simp; omega
      rw [← hF] at hlen ⊢
      clear hF
      have lp := fun (R : Bytes) (hR : R = W ++ xs.flatMap F) => sk (fun s o q hI => loop_for (c := loopAt Tryz.f315 1) (N := 94)
        (fun i s o q => ∃ acc, s 3 = .t (.str acc) ∧ s 7 = .row 1 ∧ s 9 = .t (.int .i64 i) ∧ o 1 = .row 237 (xs.map fldT) true ∧ R = acc ++ (xs.drop i).flatMap F)
        (fun e s' o' q' => e = .exit 3 ∧ s' 3 = .t (.str R)) xs.length
        (by
          rintro i s o q hi ⟨acc, h3, h7, h9, ho, hp⟩
          have hi' : (i : Int) < (xs.length : Int) := by omega
          have hwi := wrap_succ (n := i) (by omega)
          have hxi : xs[i]? = some xs[i] := List.getElem?_eq_getElem hi
          have hsm := hs2 _ (List.getElem_mem hi)
          have hr := ih xs[i].v (hx _ (List.getElem_mem hi)).2 (by omega)
          have hen := l04Escape xs[i].name (by omega)
          rw [flat_drop _ _ _ hi, ← List.append_assoc] at hp
          have hcat : acc.length + (1 + (escP xs[i].name).length + (keyD d xs[i].v).length) ≤ 140737488355328 := by
            have h1 := congrArg List.length hp
            have h2 := congrArg List.length hR
            simp [hFl] at h1 h2 hlen
            omega
          have hcat1 : 1 + (escP xs[i].name).length ≤ 140737488355328 := by omega
          have hcat2 : 1 + (escP xs[i].name).length + (keyD d xs[i].v).length ≤ 140737488355328 := by omega
          have hF1 := hFx xs[i]
          simp at hF1
          simp [loopAt, loopsOf, Tryz.f315, dd, h3, h7, h9, ho, hi, hi', hwi, hr, hen, hcat, hcat1, hcat2, hxi]
          rw [if_pos (by omega), if_pos (by omega), hp, ← hF1]
          simp)
        (by
          rintro s o q ⟨acc, h3, h7, h9, ho, hp⟩
          simp at hp
          simp [loopAt, loopsOf, Tryz.f315, h3, h7, h9, ho, hp])
        xs.length 0 s o q (by omega) hI)
      simp only [loopAt, loopsOf, Tryz.f315] at lp
      obtain ⟨X, A, B, C, hl⟩ := lp _ rfl
      have hl' := fun s o q a3 a4 a6 a0 => hl s o q ⟨W, a3, a4, a6, a0, by simp⟩
      clear hl lp
      simp at hl' hlen
      have hcat : W.length + ((xs.flatMap F).length + 1) ≤ 140737488355328 := by simp; omega
      simp [e0, e1, e2, e3, e4, hw, hn, ← hhead, hi, hl', hcat]
      try (intro hcon; exfalso; omega)
theorem l04Key (d : Nat) (v : Val) (f : Bool) (h : okP d v = true) (hv : v.t.length < 1048576) : run E (.call 294 [xV v, xB f]) = some (.res [xS (if f then turnP (keyD d v) else keyD d v)] []) := by
  rw [run_call E 294 _ rfl Tryz.func294 rfl rfl rfl (by simp)]
  have h1 := l04Raw d v h hv
  have hl := keyD_len d v h
  have h2 := l04Turn (keyD d v) (by omega)
  cases f <;> simp [h1, h2]
theorem escGo_snoc (a : Bytes) (b : UInt8) : escGo (a ++ [b]) = escGo a ++ (if b = 0 then [b, 255] else [b]) := by
  induction a with
  | nil => simp [escGo]
  | cons c a ih => simp [escGo, ih]
theorem putText (acc t : Bytes) (ht : t.length < 4294967296) (ha : acc.length ≤ 70368744177664) : run E (.call 317 [.row 5 (acc.map byteT), xS t]) = some (.res [.row 5 ((acc ++ escP t).map byteT)] [none]) := by
  rw [run_call E 317 _ rfl Tryz.func317 rfl rfl rfl (by simp)]
  have lp := sk1 (fun s o q hI => loop_for (c := loopAt Tryz.f317 0) (N := 28)
    (fun i s o q => ∃ r, s 0 = .row r ∧ s 1 = .t (.str t) ∧ s 7 = .t (.int .i64 t.length) ∧ s 8 = .t (.int .i64 i) ∧ o r = .row 5 ((acc ++ escGo (t.take i)).map byteT) true ∧ r < q ∧ (r = 0 ∨ o 0 = .dead))
    (fun e s' o' q' => ∃ r, e = .exit 0 ∧ s' 0 = .row r ∧ o' r = .row 5 ((acc ++ escGo t).map byteT) true ∧ ¬ r = q' ∧ ¬ r = q' + 1 ∧ ¬ q' = r ∧ ¬ q' = 0 ∧ ¬ 0 = q' ∧ (if 0 = r then Ob.dead else o' 0) = .dead) t.length
    (by
      rintro i s o q hi ⟨r, h0, h1, h7, h8, ho, hrq, hdd⟩
      have hq0 : ¬ q = 0 := by omega
      have hq1 : ¬ 0 = q := by omega
      have hi' : (i : Int) < (t.length : Int) := by omega
      have hw := wrap_succ (n := i) (by omega)
      have hrn : r ≠ q := by omega
      have hrn2 : r ≠ q + 1 := by omega
      have hqn : q ≠ r := by omega
      have hl : (escGo (t.take i)).length ≤ 2 * i := by have := escGo_len (t.take i); simp at this; omega
      have htk : escGo (t.take (i + 1)) = escGo (t.take i) ++ (if t[i] = 0 then [t[i], 255] else [t[i]]) := by
        have e : t.take (i + 1) = t.take i ++ [t[i]] := by rw [List.take_add_one, List.getElem?_eq_getElem hi]; rfl
        rw [e]; exact escGo_snoc _ _
      have hlen : (acc ++ escGo (t.take i)).length + 2 ≤ 140737488355328 := by simp; omega
      rw [htk, ← List.append_assoc]
      generalize acc ++ escGo (t.take i) = l at *
      have hpl : l.length + 1 ≤ 140737488355328 := by omega
      have hpl2 : l.length + 1 + 1 ≤ 140737488355328 := by omega
      by_cases hz : t[i] = 0
      · simp [hz]
        rcases hdd with rfl | hdd
        · simp [loopAt, loopsOf, Tryz.f317, h0, h1, h7, h8, hi, hi', hw, ho, hrn, hrn2, hqn, hz, hpl, hpl2, hq0, hq1]
          try omega
        · by_cases hr0 : r = 0
          · subst hr0; rw [hdd] at ho; cases ho
          · have hr1 : ¬ 0 = r := fun h => hr0 h.symm
            simp [loopAt, loopsOf, Tryz.f317, h0, h1, h7, h8, hi, hi', hw, ho, hrn, hrn2, hqn, hz, hpl, hpl2, hq0, hq1, hdd, hr0, hr1]
            try omega
      · have hzn : ¬ ((t[i].toNat : Int) = 0) := by
          intro h; exact hz (UInt8.toNat_inj.1 (by simp; omega))
        simp [hz]
        rcases hdd with rfl | hdd
        · simp [loopAt, loopsOf, Tryz.f317, h0, h1, h7, h8, hi, hi', hw, ho, hrn, hrn2, hqn, hz, hzn, hpl, hpl2, hq0, hq1]
          try omega
        · by_cases hr0 : r = 0
          · subst hr0; rw [hdd] at ho; cases ho
          · have hr1 : ¬ 0 = r := fun h => hr0 h.symm
            simp [loopAt, loopsOf, Tryz.f317, h0, h1, h7, h8, hi, hi', hw, ho, hrn, hrn2, hqn, hz, hzn, hpl, hpl2, hq0, hq1, hdd, hr0, hr1]
            try omega)
    (by
      rintro s o q ⟨r, h0, h1, h7, h8, ho, hrq, hdd⟩
      have hq0 : ¬ q = 0 := by omega
      have hq1 : ¬ 0 = q := by omega
      simp only [List.take_length] at ho
      have hrn : r ≠ q := by omega
      have hrn2 : r ≠ q + 1 := by omega
      have hqn : q ≠ r := by omega
      generalize acc ++ escGo t = l at *
      simp [loopAt, loopsOf, Tryz.f317, h0, h1, h7, h8, ho, hrn, hrn2, hqn, hq0, hq1]
      rcases hdd with rfl | hdd
      · simp
      · simp [hdd])
    t.length 0 s o q (by omega) hI)
  simp only [loopAt, loopsOf, Tryz.f317] at lp
  obtain ⟨X, A, B, C, M, hx⟩ := lp
  have hx' := fun s o q r a0 a1 a7 a8 a9 a6 a5 => hx s o q ⟨r, a0, a1, a7, a8, by simpa [escGo] using a9, a6, a5⟩
  clear hx
  have hlen : (acc ++ escGo t).length + 2 ≤ 140737488355328 := by have := escGo_len t; simp; omega
  have hfin : (acc ++ escP t).map byteT = (acc ++ escGo t).map byteT ++ [.int .u8 0, .int .u8 0] := by simp [escP]
  rw [hfin]
  generalize acc ++ escGo t = l at *
  have hr2 : List.range 2 = [0, 1] := rfl
  simp [-ite_eq_left_iff] at hx'
  simp [hx', hlen, hr2]
theorem numP_get (n : Int) : ∀ (k i : Nat), i < k → (numP n k)[i]? = some (byteAt n (k - 1 - i))
  | 0, i, h => by omega
  | k + 1, 0, h => by simp [numP]
  | k + 1, i + 1, h => by
    have := numP_get n k i (by omega)
    simp [numP, this]
    congr 1; omega
theorem eight (n : Int) : run E (.call 316 [xI n]) = some (.res [.row 5 ((numP n 8).map byteT)] []) := by
  rw [run_call E 316 _ rfl Tryz.func316 rfl rfl rfl (by simp)]
  obtain ⟨L, hL⟩ : ∃ L, L = (numP n 8).map byteT := ⟨_, rfl⟩
  have hLl : L.length = 8 := by rw [hL]; simp [numP_len]
  have lp := sk (fun s o q hI => loop_for (c := loopAt Tryz.f316 0) (N := 20)
    (fun i s o q => s 0 = .t (.int .i64 n) ∧ s 3 = .row 0 ∧ s 6 = .t (.int .i64 i) ∧ o 0 = .row 5 (L.take i ++ List.replicate (8 - i) (.int .u8 0)) true)
    (fun e s' o' q' => e = .exit 0 ∧ s' 3 = .row 0 ∧ o' 0 = .row 5 L true) 8
    (by
      rintro i s o q hi ⟨h0, h3, h6, ho⟩
      have hi' : (i : Int) < 8 := by omega
      have hw := wrap_succ (n := i) (by omega)
      obtain ⟨j, hj⟩ : ∃ j : Nat, j = 7 - i := ⟨_, rfl⟩
      have hw8 : IntKind.i64.wrap (8 * (i : Int)) = 8 * (i : Int) := wrap_of (by omega) (by omega)
      have hw56 : IntKind.i64.wrap (56 - 8 * (i : Int)) = 8 * (j : Int) := by rw [wrap_of (by omega) (by omega)]; omega
      have hneg : ¬ (8 * (j : Int) < 0) := by omega
      have hnat : (8 * (j : Int)).toNat = 8 * j := by omega
      have hmin : min (8 * j) IntKind.i64.bits = 8 * j := by simp [IntKind.bits]; omega
      have hb := byteAt_wrap n j
      have hx : L[i]? = some (byteT (byteAt n j)) := by
        rw [hL, List.getElem?_map, numP_get n 8 i hi, hj]; rfl
      have hget := mid_get L (T.int .u8 0) i 8 hi (by omega)
      have hset := mid_set L (T.int .u8 0) (byteT (byteAt n j)) i 8 hi hx
      have hge : (0 : Int) ≤ (i : Int) := by omega
      simp [loopAt, loopsOf, Tryz.f316, h0, h3, h6, hi', hw, ho, hw8, hw56, hneg, hnat, hmin, hb, hget, hset])
    (by
      rintro s o q ⟨h0, h3, h6, ho⟩
      have hfull : L.take 8 = L := List.take_of_length_le (by omega)
      simp [hfull] at ho
      simp [loopAt, loopsOf, Tryz.f316, h0, h3, h6, ho])
    8 0 s o q (by omega) hI)
  simp only [loopAt, loopsOf, Tryz.f316] at lp
  obtain ⟨X, A, B, C, hx⟩ := lp
  simp at hx
  rw [← hL]
  simp [hx]
theorem flats_bytes : ∀ (l : Bytes), T.flats (l.map byteT) = true
  | [] => rfl
  | b :: r => by simp [T.flats, T.flat, flats_bytes r]
theorem fallen (l : Bytes) (f : Bool) (hl : l.length < 4294967296) : run E (.call 274 [.row 5 (l.map byteT), xB f]) = some (.res [xS (if f then turnP l else l)] [some (.row 5 ((if f then turnP l else l).map byteT))]) := by
  rw [run_call E 274 _ rfl Tryz.func274 rfl rfl rfl (by simp)]
  cases f with
  | false =>
    have hb := toBytes_map l
    simp [hb, flats_bytes]
  | true =>
    have lp := sk (fun s o q hI => loop_for (c := loopAt Tryz.f274 0) (N := 23)
      (fun i s o q => s 0 = .row 0 ∧ s 8 = .row 0 ∧ s 9 = .t (.int .i64 l.length) ∧ s 10 = .t (.int .i64 i) ∧ o 0 = .row 5 ((turnP (l.take i) ++ l.drop i).map byteT) true)
      (fun e s' o' q' => e = .exit 0 ∧ s' 0 = .row 0 ∧ o' 0 = .row 5 ((turnP l).map byteT) true) l.length
      (by
        rintro i s o q hi ⟨h0, h8, h9, h10, ho⟩
        have hi' : (i : Int) < (l.length : Int) := by omega
        have hw := wrap_succ (n := i) (by omega)
        have htw := turn_wrap l[i]
        have e : l.take (i + 1) = l.take i ++ [l[i]] := by rw [List.take_add_one, List.getElem?_eq_getElem hi]; rfl
        have hli : (turnP (l.take i)).length = i := by simp [turnP]; omega
        have hget : ((turnP (l.take i) ++ l.drop i).map byteT)[i]? = some (byteT l[i]) := by
          rw [List.getElem?_map, List.getElem?_append_right (by omega), hli]
          simp [List.getElem?_eq_getElem hi]
        have hset : ((turnP (l.take i) ++ l.drop i).map byteT).set i (byteT (turnB l[i])) = (turnP (l.take (i + 1)) ++ l.drop (i + 1)).map byteT := by
          have et : turnP (l.take (i + 1)) = turnP (l.take i) ++ [turnB l[i]] := by rw [e]; simp only [turnP, List.map_append, List.map_cons, List.map_nil]
          rw [et, List.drop_eq_getElem_cons hi, List.map_append, List.set_append_right _ _ (by simp; omega)]
          have hd : (l[i] :: l.drop (i + 1)).map byteT = byteT l[i] :: (l.drop (i + 1)).map byteT := rfl
          have hz : i - ((turnP (l.take i)).map byteT).length = 0 := by simp; omega
          rw [hd, hz, List.set_cons_zero, List.map_append, List.map_append, List.map_cons, List.map_nil, List.append_assoc]
          rfl
        generalize (turnP (l.take i) ++ l.drop i).map byteT = m at *
        generalize (turnP (l.take (i + 1)) ++ l.drop (i + 1)).map byteT = m' at *
        simp [loopAt, loopsOf, Tryz.f274, h0, h8, h9, h10, hi', hw, ho, htw, hget, hset])
      (by
        rintro s o q ⟨h0, h8, h9, h10, ho⟩
        simp only [List.take_length, List.drop_length, List.append_nil] at ho
        simp [loopAt, loopsOf, Tryz.f274, h0, h8, h9, h10, ho])
      l.length 0 s o q (by omega) hI)
    simp only [loopAt, loopsOf, Tryz.f274] at lp
    obtain ⟨X, A, B, C, hx⟩ := lp
    have hb := toBytes_map (turnP l)
    have hf := flats_bytes (turnP l)
    simp only [turnP] at hf
    simp [turnP] at hx hb hf
    simp [hx, hb, turnP, hf]
theorem u8_wrap (n : Int) : IntKind.u8.wrap n = ((byteAt n 0).toNat : Int) := by
  have := byteAt_wrap n 0
  simpa using this
theorem numP_1 (n : Int) : numP n 1 = [byteAt n 0] := rfl
theorem putKey_small_row (d : Nat) (v : Val) (acc : Bytes) (h : okP d v = true) (ha : acc.length + 4096 ≤ 70368744177664) (hv : v.t.length < 1048576) (hk : v.k = 0 ∨ v.k = 1 ∨ v.k = 2 ∨ v.k = 3) : run E (.call 298 [.row 5 (acc.map byteT), xV v]) = some (.res [.row 5 ((acc ++ keyD d v).map byteT)] [none]) := by
  rw [run_call E 298 _ rfl Tryz.func298 rfl rfl rfl (by simp)]
  have hsz := okP_range h
  unfold keyD headK
  have hw : IntKind.i64.wrap (v.k + 1) = v.k + 1 := wrap_of (by omega) (by omega)
  have hu := u8_wrap (v.k + 1)
  have hu2 := u8_wrap v.n
  have hr1 : List.range 1 = [0] := rfl
  have hl1 : acc.length + 1 ≤ 140737488355328 := by omega
  have hl2 : acc.length + 1 + 1 ≤ 140737488355328 := by omega
  have hl8 : acc.length + 1 + 8 ≤ 140737488355328 := by omega
  rcases hk with hk | hk | hk | hk
  · have e0 : (v.k = 0) = True := by rw [hk]; simp
    have e1 : (v.k = 1) = False := by rw [hk]; simp
    have e2 : (v.k = 2) = False := by rw [hk]; simp
    have e3 : (v.k = 3) = False := by rw [hk]; simp
    have e4 : (v.k = 4) = False := by rw [hk]; simp
    have e5 : (v.k = 5) = False := by rw [hk]; simp
    clear hk
    simp [e0, e1, e2, e3, e4, e5, hw, hu, hr1, hl1, numP_1]
  · have e0 : (v.k = 0) = False := by rw [hk]; simp
    have e1 : (v.k = 1) = True := by rw [hk]; simp
    have e2 : (v.k = 2) = False := by rw [hk]; simp
    have e3 : (v.k = 3) = False := by rw [hk]; simp
    have e4 : (v.k = 4) = False := by rw [hk]; simp
    have e5 : (v.k = 5) = False := by rw [hk]; simp
    clear hk
    simp [e0, e1, e2, e3, e4, e5, hw, hu, hu2, hr1, hl1, hl2, numP_1]
  · have hw2 : IntKind.i64.wrap (v.n + 4611686018427387904) = v.n + 4611686018427387904 := wrap_of (by omega) (by omega)
    have he := eight (v.n + 4611686018427387904)
    have hlen := numP_len (v.n + 4611686018427387904) 8
    have e0 : (v.k = 0) = False := by rw [hk]; simp
    have e1 : (v.k = 1) = False := by rw [hk]; simp
    have e2 : (v.k = 2) = True := by rw [hk]; simp
    have e3 : (v.k = 3) = False := by rw [hk]; simp
    have e4 : (v.k = 4) = False := by rw [hk]; simp
    have e5 : (v.k = 5) = False := by rw [hk]; simp
    clear hk
    generalize numP (v.n + 4611686018427387904) 8 = w at *
    simp [e0, e1, e2, e3, e4, e5, hw, hw2, hu, he, hlen, hr1, hl1, hl8, numP_1]
  · have he := putText (acc ++ [byteAt (v.k + 1) 0]) v.t (by omega) (by simp <;> omega)
    simp at he
    have e0 : (v.k = 0) = False := by rw [hk]; simp
    have e1 : (v.k = 1) = False := by rw [hk]; simp
    have e2 : (v.k = 2) = False := by rw [hk]; simp
    have e3 : (v.k = 3) = True := by rw [hk]; simp
    have e4 : (v.k = 4) = False := by rw [hk]; simp
    have e5 : (v.k = 5) = False := by rw [hk]; simp
    clear hk
    simp [e0, e1, e2, e3, e4, e5, hw, hu, he, hr1, hl1, numP_1]
theorem putKey_small_nil (d : Nat) (v : Val)  (h : okP d v = true) (ha : ([] : Bytes).length + 4096 ≤ 70368744177664) (hv : v.t.length < 1048576) (hk : v.k = 0 ∨ v.k = 1 ∨ v.k = 2 ∨ v.k = 3) : run E (.call 298 [.nil, xV v]) = some (.res [.row 5 ((([] : Bytes) ++ keyD d v).map byteT)] [some .nil]) := by
  rw [run_call E 298 _ rfl Tryz.func298 rfl rfl rfl (by simp)]
  have hsz := okP_range h
  unfold keyD headK
  have hw : IntKind.i64.wrap (v.k + 1) = v.k + 1 := wrap_of (by omega) (by omega)
  have hu := u8_wrap (v.k + 1)
  have hu2 := u8_wrap v.n
  have hr1 : List.range 1 = [0] := rfl
  have hl1 : ([] : Bytes).length + 1 ≤ 140737488355328 := by omega
  have hl2 : ([] : Bytes).length + 1 + 1 ≤ 140737488355328 := by omega
  have hl8 : ([] : Bytes).length + 1 + 8 ≤ 140737488355328 := by omega
  rcases hk with hk | hk | hk | hk
  · have e0 : (v.k = 0) = True := by rw [hk]; simp
    have e1 : (v.k = 1) = False := by rw [hk]; simp
    have e2 : (v.k = 2) = False := by rw [hk]; simp
    have e3 : (v.k = 3) = False := by rw [hk]; simp
    have e4 : (v.k = 4) = False := by rw [hk]; simp
    have e5 : (v.k = 5) = False := by rw [hk]; simp
    clear hk
    simp [e0, e1, e2, e3, e4, e5, hw, hu, hr1, hl1, numP_1]
  · have e0 : (v.k = 0) = False := by rw [hk]; simp
    have e1 : (v.k = 1) = True := by rw [hk]; simp
    have e2 : (v.k = 2) = False := by rw [hk]; simp
    have e3 : (v.k = 3) = False := by rw [hk]; simp
    have e4 : (v.k = 4) = False := by rw [hk]; simp
    have e5 : (v.k = 5) = False := by rw [hk]; simp
    clear hk
    simp [e0, e1, e2, e3, e4, e5, hw, hu, hu2, hr1, hl1, hl2, numP_1]
  · have hw2 : IntKind.i64.wrap (v.n + 4611686018427387904) = v.n + 4611686018427387904 := wrap_of (by omega) (by omega)
    have he := eight (v.n + 4611686018427387904)
    have hlen := numP_len (v.n + 4611686018427387904) 8
    have e0 : (v.k = 0) = False := by rw [hk]; simp
    have e1 : (v.k = 1) = False := by rw [hk]; simp
    have e2 : (v.k = 2) = True := by rw [hk]; simp
    have e3 : (v.k = 3) = False := by rw [hk]; simp
    have e4 : (v.k = 4) = False := by rw [hk]; simp
    have e5 : (v.k = 5) = False := by rw [hk]; simp
    clear hk
    generalize numP (v.n + 4611686018427387904) 8 = w at *
    simp [e0, e1, e2, e3, e4, e5, hw, hw2, hu, he, hlen, hr1, hl1, hl8, numP_1]
  · have he := putText (([] : Bytes) ++ [byteAt (v.k + 1) 0]) v.t (by omega) (by simp <;> omega)
    simp at he
    have e0 : (v.k = 0) = False := by rw [hk]; simp
    have e1 : (v.k = 1) = False := by rw [hk]; simp
    have e2 : (v.k = 2) = False := by rw [hk]; simp
    have e3 : (v.k = 3) = True := by rw [hk]; simp
    have e4 : (v.k = 4) = False := by rw [hk]; simp
    have e5 : (v.k = 5) = False := by rw [hk]; simp
    clear hk
    simp [e0, e1, e2, e3, e4, e5, hw, hu, he, hr1, hl1, numP_1]
theorem putKey_items_row (d : Nat) (ih : ∀ (v : Val) (acc : Bytes), okP d v = true → acc.length + (keyD d v).length + 4096 ≤ 70368744177664 → v.t.length < 1048576 → run E (.call 298 [.row 5 (acc.map byteT), xV v]) = some (.res [.row 5 ((acc ++ keyD d v).map byteT)] [none]))
    (v : Val) (acc : Bytes) (h : okP (d + 1) v = true) (ha : acc.length + (keyD (d + 1) v).length + 4096 ≤ 70368744177664) (hv : v.t.length < 1048576) (hk : v.k = 4) : run E (.call 298 [.row 5 (acc.map byteT), xV v]) = some (.res [.row 5 ((acc ++ keyD (d + 1) v).map byteT)] [none]) := by
  rw [run_call E 298 _ rfl Tryz.func298 rfl rfl rfl (by simp)]
  obtain ⟨e, xs, hd, _, hit, hx⟩ := okP_list h hk
  obtain rfl : d = e := by omega
  have hi := implItems v (by omega)
  rw [itemsI_some hit] at hi
  simp at hi
  obtain ⟨hs1, hs2⟩ := items_small hit
  have hw : IntKind.i64.wrap (v.k + 1) = v.k + 1 := wrap_of (by omega) (by omega)
  have hu := u8_wrap (v.k + 1)
  have hr1 : List.range 1 = [0] := rfl
  have e0 : (v.k = 0) = False := by rw [hk]; simp
  have e1 : (v.k = 1) = False := by rw [hk]; simp
  have e2 : (v.k = 2) = False := by rw [hk]; simp
  have e3 : (v.k = 3) = False := by rw [hk]; simp
  have e4 : (v.k = 4) = True := by rw [hk]; simp
  have eL : itemsL v.t = xs := by simp [itemsL, hit]
  have ekey : keyD (d + 1) v = byteAt (v.k + 1) 0 :: (xs.flatMap (keyD d) ++ [0]) := by simp [keyD, e0, e1, e2, e3, e4, eL, headK, numP_1]
  rw [ekey] at ha ⊢
  clear hk
  have lp := fun (ri : Nat) (hri0 : 0 < ri) (R : Bytes) (hR : R = acc ++ [byteAt (v.k + 1) 0] ++ xs.flatMap (keyD d)) => sk1 (fun s o q hI => loop_for (c := loopAt Tryz.f298 0) (N := 91)
    (fun i s o q => ∃ r acc', s 0 = .row r ∧ o r = .row 5 (acc'.map byteT) true ∧ r < q ∧ s 51 = .row ri ∧ o ri = .row 38 (xs.map valT) true ∧ ri < q ∧ ri ≠ r ∧ 0 < r ∧ s 52 = .t (.int .i64 xs.length) ∧ s 53 = .t (.int .i64 i) ∧ o 0 = .dead ∧ R = acc' ++ (xs.drop i).flatMap (keyD d))
    (fun e s' o' q' => ∃ r, e = .exit 1 ∧ s' 0 = .row r ∧ o' r = .row 5 (R.map byteT) true ∧ ¬ r = q' ∧ ¬ q' = r ∧ ¬ r = q' + 1 ∧ ¬ q' = 0 ∧ ¬ 0 = q' ∧ ¬ r = 0 ∧ ¬ 0 = r ∧ o' 0 = .dead) xs.length
    (by
      rintro i s o q hi ⟨r, acc', h0, hor, hrq, h51, hori, hriq, hne, hr0, h52, h53, hdd, hp⟩
      have hi' : (i : Int) < (xs.length : Int) := by omega
      have hwi := wrap_succ (n := i) (by omega)
      have hxi : xs[i]? = some xs[i] := List.getElem?_eq_getElem hi
      rw [flat_drop _ _ _ hi, ← List.append_assoc] at hp
      have hlen : acc'.length + (keyD d xs[i]).length + 4096 ≤ 70368744177664 := by
        have h1 := congrArg List.length hp
        have h2 := congrArg List.length hR
        simp at h1 h2 ha
        omega
      have hr := ih xs[i] acc' (hx _ (List.getElem_mem hi)) hlen (by have := hs2 _ (List.getElem_mem hi); omega)
      have g1 : ¬ r = q := by omega
      have g2 : ¬ q = r := by omega
      have g3 : ¬ ri = q := by omega
      have g4 : ¬ q = ri := by omega
      have g5 : ¬ r = q + 1 := by omega
      have g6 : ¬ ri = q + 1 := by omega
      have g7 : ¬ q = 0 := by omega
      have g8 : ¬ 0 = q := by omega
      have g9 : ¬ r = ri := fun h => hne h.symm
      have g10 : ¬ 0 = r := by omega
      have g11 : ¬ r = 0 := by omega
      have g12 : ¬ ri = 0 := by omega
      have g13 : ¬ q + 1 = ri := by omega
      simp [loopAt, loopsOf, Tryz.f298, h0, hor, h51, hori, h52, h53, hi, hi', hwi, hxi, hr, g1, g2, g3, g4, g5, g6, g7, g8, g9, g10, g11, g12, g13, hne, hdd]
      exact ⟨acc' ++ keyD d xs[i], by simp, by omega, hp⟩)
    (by
      rintro s o q ⟨r, acc', h0, hor, hrq, h51, hori, hriq, hne, hr0, h52, h53, hdd, hp⟩
      simp at hp
      subst hp
      have g1 : ¬ r = q := by omega
      have g2 : ¬ q = r := by omega
      have g5 : ¬ r = q + 1 := by omega
      have g7 : ¬ q = 0 := by omega
      have g8 : ¬ 0 = q := by omega
      have g10 : ¬ 0 = r := by omega
      have g11 : ¬ r = 0 := by omega
      simp [loopAt, loopsOf, Tryz.f298, h0, hor, h51, hori, h52, h53, g1, g2, g5, g7, g8, g10, g11, hdd])
    xs.length 0 s o q (by omega) hI)
  simp only [loopAt, loopsOf, Tryz.f298] at lp
  obtain ⟨R, hR⟩ : ∃ R, R = acc ++ [byteAt (v.k + 1) 0] ++ xs.flatMap (keyD d) := ⟨_, rfl⟩
  obtain ⟨X, A, B, C, M, hl⟩ := lp 4 (by omega) R hR
  have hl' := fun s o q r a0 a1 a2 a3 a4 a5 a6 a7 a8 a9 a10 => hl s o q ⟨r, acc ++ [byteAt (v.k + 1) 0], a0, a1, a2, a3, a4, a5, a6, a7, a8, a9, a10, by simpa using hR⟩
  clear hl lp
  have hlR : R.length + 1 ≤ 140737488355328 := by
    have h2 := congrArg List.length hR
    simp at h2 ha
    omega
  have hl1 : acc.length + 1 ≤ 140737488355328 := by simp at ha ⊢ <;> omega
  have hfin : acc ++ byteAt (v.k + 1) 0 :: (xs.flatMap (keyD d) ++ [0]) = R ++ [0] := by rw [hR]; simp
  rw [hfin]
  clear hfin hR ekey
  simp at hl'
  simp [e0, e1, e2, e3, e4, hw, hu, hi, hl', hlR, hr1, hl1]
theorem putKey_items_nil (d : Nat) (ih : ∀ (v : Val) (acc : Bytes), okP d v = true → acc.length + (keyD d v).length + 4096 ≤ 70368744177664 → v.t.length < 1048576 → run E (.call 298 [.row 5 (acc.map byteT), xV v]) = some (.res [.row 5 ((acc ++ keyD d v).map byteT)] [none]))
    (v : Val)  (h : okP (d + 1) v = true) (ha : ([] : Bytes).length + (keyD (d + 1) v).length + 4096 ≤ 70368744177664) (hv : v.t.length < 1048576) (hk : v.k = 4) : run E (.call 298 [.nil, xV v]) = some (.res [.row 5 ((([] : Bytes) ++ keyD (d + 1) v).map byteT)] [some .nil]) := by
  rw [run_call E 298 _ rfl Tryz.func298 rfl rfl rfl (by simp)]
  obtain ⟨e, xs, hd, _, hit, hx⟩ := okP_list h hk
  obtain rfl : d = e := by omega
  have hi := implItems v (by omega)
  rw [itemsI_some hit] at hi
  simp at hi
  obtain ⟨hs1, hs2⟩ := items_small hit
  have hw : IntKind.i64.wrap (v.k + 1) = v.k + 1 := wrap_of (by omega) (by omega)
  have hu := u8_wrap (v.k + 1)
  have hr1 : List.range 1 = [0] := rfl
  have e0 : (v.k = 0) = False := by rw [hk]; simp
  have e1 : (v.k = 1) = False := by rw [hk]; simp
  have e2 : (v.k = 2) = False := by rw [hk]; simp
  have e3 : (v.k = 3) = False := by rw [hk]; simp
  have e4 : (v.k = 4) = True := by rw [hk]; simp
  have eL : itemsL v.t = xs := by simp [itemsL, hit]
  have ekey : keyD (d + 1) v = byteAt (v.k + 1) 0 :: (xs.flatMap (keyD d) ++ [0]) := by simp [keyD, e0, e1, e2, e3, e4, eL, headK, numP_1]
  rw [ekey] at ha ⊢
  clear hk
  have lp := fun (ri : Nat) (hri0 : 0 < ri) (R : Bytes) (hR : R = ([] : Bytes) ++ [byteAt (v.k + 1) 0] ++ xs.flatMap (keyD d)) => sk1 (fun s o q hI => loop_for (c := loopAt Tryz.f298 0) (N := 91)
    (fun i s o q => ∃ r acc', s 0 = .row r ∧ o r = .row 5 (acc'.map byteT) true ∧ r < q ∧ s 51 = .row ri ∧ o ri = .row 38 (xs.map valT) true ∧ ri < q ∧ ri ≠ r ∧ 0 < r ∧ s 52 = .t (.int .i64 xs.length) ∧ s 53 = .t (.int .i64 i) ∧ True ∧ R = acc' ++ (xs.drop i).flatMap (keyD d))
    (fun e s' o' q' => ∃ r, e = .exit 1 ∧ s' 0 = .row r ∧ o' r = .row 5 (R.map byteT) true ∧ ¬ r = q' ∧ ¬ q' = r ∧ ¬ r = q' + 1 ∧ ¬ q' = 0 ∧ ¬ 0 = q' ∧ ¬ r = 0 ∧ ¬ 0 = r ∧ True) xs.length
    (by
      rintro i s o q hi ⟨r, acc', h0, hor, hrq, h51, hori, hriq, hne, hr0, h52, h53, hdd, hp⟩
      have hi' : (i : Int) < (xs.length : Int) := by omega
      have hwi := wrap_succ (n := i) (by omega)
      have hxi : xs[i]? = some xs[i] := List.getElem?_eq_getElem hi
      rw [flat_drop _ _ _ hi, ← List.append_assoc] at hp
      have hlen : acc'.length + (keyD d xs[i]).length + 4096 ≤ 70368744177664 := by
        have h1 := congrArg List.length hp
        have h2 := congrArg List.length hR
        simp at h1 h2 ha
        omega
      have hr := ih xs[i] acc' (hx _ (List.getElem_mem hi)) hlen (by have := hs2 _ (List.getElem_mem hi); omega)
      have g1 : ¬ r = q := by omega
      have g2 : ¬ q = r := by omega
      have g3 : ¬ ri = q := by omega
      have g4 : ¬ q = ri := by omega
      have g5 : ¬ r = q + 1 := by omega
      have g6 : ¬ ri = q + 1 := by omega
      have g7 : ¬ q = 0 := by omega
      have g8 : ¬ 0 = q := by omega
      have g9 : ¬ r = ri := fun h => hne h.symm
      have g10 : ¬ 0 = r := by omega
      have g11 : ¬ r = 0 := by omega
      have g12 : ¬ ri = 0 := by omega
      have g13 : ¬ q + 1 = ri := by omega
      simp [loopAt, loopsOf, Tryz.f298, h0, hor, h51, hori, h52, h53, hi, hi', hwi, hxi, hr, g1, g2, g3, g4, g5, g6, g7, g8, g9, g10, g11, g12, g13, hne, hdd]
      exact ⟨acc' ++ keyD d xs[i], by simp, by omega, hp⟩)
    (by
      rintro s o q ⟨r, acc', h0, hor, hrq, h51, hori, hriq, hne, hr0, h52, h53, hdd, hp⟩
      simp at hp
      subst hp
      have g1 : ¬ r = q := by omega
      have g2 : ¬ q = r := by omega
      have g5 : ¬ r = q + 1 := by omega
      have g7 : ¬ q = 0 := by omega
      have g8 : ¬ 0 = q := by omega
      have g10 : ¬ 0 = r := by omega
      have g11 : ¬ r = 0 := by omega
      simp [loopAt, loopsOf, Tryz.f298, h0, hor, h51, hori, h52, h53, g1, g2, g5, g7, g8, g10, g11, hdd])
    xs.length 0 s o q (by omega) hI)
  simp only [loopAt, loopsOf, Tryz.f298] at lp
  obtain ⟨R, hR⟩ : ∃ R, R = ([] : Bytes) ++ [byteAt (v.k + 1) 0] ++ xs.flatMap (keyD d) := ⟨_, rfl⟩
  obtain ⟨X, A, B, C, M, hl⟩ := lp 3 (by omega) R hR
  have hl' := fun s o q r a0 a1 a2 a3 a4 a5 a6 a7 a8 a9 a10 => hl s o q ⟨r, ([] : Bytes) ++ [byteAt (v.k + 1) 0], a0, a1, a2, a3, a4, a5, a6, a7, a8, a9, a10, by simpa using hR⟩
  clear hl lp
  have hlR : R.length + 1 ≤ 140737488355328 := by
    have h2 := congrArg List.length hR
    simp at h2 ha
    omega
  have hl1 : ([] : Bytes).length + 1 ≤ 140737488355328 := by simp at ha ⊢ <;> omega
  have hfin : ([] : Bytes) ++ byteAt (v.k + 1) 0 :: (xs.flatMap (keyD d) ++ [0]) = R ++ [0] := by rw [hR]; simp
  rw [hfin]
  clear hfin hR ekey
  simp at hl'
  simp [e0, e1, e2, e3, e4, hw, hu, hi, hl', hlR, hr1, hl1]
theorem putKey_fields_row (d : Nat) (ih : ∀ (v : Val) (acc : Bytes), okP d v = true → acc.length + (keyD d v).length + 4096 ≤ 70368744177664 → v.t.length < 1048576 → run E (.call 298 [.row 5 (acc.map byteT), xV v]) = some (.res [.row 5 ((acc ++ keyD d v).map byteT)] [none]))
    (v : Val) (acc : Bytes) (h : okP (d + 1) v = true) (ha : acc.length + (keyD (d + 1) v).length + 4096 ≤ 70368744177664) (hv : v.t.length < 1048576) (hk : v.k = 5) : run E (.call 298 [.row 5 (acc.map byteT), xV v]) = some (.res [.row 5 ((acc ++ keyD (d + 1) v).map byteT)] [none]) := by
  rw [run_call E 298 _ rfl Tryz.func298 rfl rfl rfl (by simp)]
  obtain ⟨e, xs, hd, _, hit, _, hx⟩ := okP_doc h hk
  obtain rfl : d = e := by omega
  have hi := implFields v (by omega)
  rw [fieldsI_some hit] at hi
  simp at hi
  obtain ⟨hs1, hs2⟩ := fields_small hit
  have hw : IntKind.i64.wrap (v.k + 1) = v.k + 1 := wrap_of (by omega) (by omega)
  have hu := u8_wrap (v.k + 1)
  have hr1 : List.range 1 = [0] := rfl
  have e0 : (v.k = 0) = False := by rw [hk]; simp
  have e1 : (v.k = 1) = False := by rw [hk]; simp
  have e2 : (v.k = 2) = False := by rw [hk]; simp
  have e3 : (v.k = 3) = False := by rw [hk]; simp
  have e4 : (v.k = 4) = False := by rw [hk]; simp
  have e5 : (v.k = 5) = True := by rw [hk]; simp
  have eL : fieldsL v.t = xs := by simp [fieldsL, hit]
  obtain ⟨F, hF⟩ : ∃ F : Fld → Bytes, F = (fun f => [1] ++ escP f.name ++ keyD d f.v) := ⟨_, rfl⟩
  have hFx : ∀ f, F f = 1 :: (escP f.name ++ keyD d f.v) := by intro f; rw [hF]; simp
  have hFl : ∀ f, (F f).length = 1 + (escP f.name).length + (keyD d f.v).length := by intro f; rw [hF]; simp; omega
  have ekey : keyD (d + 1) v = byteAt (v.k + 1) 0 :: (xs.flatMap F ++ [0]) := by rw [hF]; simp [keyD, e0, e1, e2, e3, e4, eL, headK, numP_1]
  clear hF
  have n22 := n298_22
  have s22 := s298_22
  simp [regionOf, findR, pick, Tryz.f298] at n22 s22
  have dd := fun st => run_region_drawS E st 22 _ n22 s22
  clear n22 s22
  rw [ekey] at ha ⊢
  clear hk
  have lp := fun (ri : Nat) (hri0 : 0 < ri) (R : Bytes) (hR : R = acc ++ [byteAt (v.k + 1) 0] ++ xs.flatMap F) => sk1 (fun s o q hI => loop_for (c := loopAt Tryz.f298 1) (N := 91)
    (fun i s o q => ∃ r acc', s 0 = .row r ∧ o r = .row 5 (acc'.map byteT) true ∧ r < q ∧ s 71 = .row ri ∧ o ri = .row 237 (xs.map fldT) true ∧ ri < q ∧ ri ≠ r ∧ 0 < r ∧ s 72 = .t (.int .i64 xs.length) ∧ s 73 = .t (.int .i64 i) ∧ o 0 = .dead ∧ R = acc' ++ (xs.drop i).flatMap F)
    (fun e s' o' q' => ∃ r, e = .exit 3 ∧ s' 0 = .row r ∧ o' r = .row 5 (R.map byteT) true ∧ ¬ r = q' ∧ ¬ q' = r ∧ ¬ r = q' + 1 ∧ ¬ q' = 0 ∧ ¬ 0 = q' ∧ ¬ r = 0 ∧ ¬ 0 = r ∧ o' 0 = .dead) xs.length
    (by
      rintro i s o q hi ⟨r, acc', h0, hor, hrq, h51, hori, hriq, hne, hr0, h52, h53, hdd, hp⟩
      have hi' : (i : Int) < (xs.length : Int) := by omega
      have hwi := wrap_succ (n := i) (by omega)
      have hxi : xs[i]? = some xs[i] := List.getElem?_eq_getElem hi
      rw [flat_drop _ _ _ hi, ← List.append_assoc] at hp
      have hlen : acc'.length + (F xs[i]).length + 4096 ≤ 70368744177664 := by
        have h1 := congrArg List.length hp
        have h2 := congrArg List.length hR
        simp at h1 h2 ha
        omega
      have hsm := hs2 _ (List.getElem_mem hi)
      have hFi := hFx xs[i]
      have hFk := hFl xs[i]
      have hpt := putText (acc' ++ [1]) xs[i].name (by omega) (by simp; omega)
      have hr := ih xs[i].v (acc' ++ [1] ++ escP xs[i].name) (hx _ (List.getElem_mem hi)).2 (by simp; omega) (by omega)
      have hb1 : acc'.length + 1 ≤ 140737488355328 := by omega
      have hb1' : byteT 1 = T.int IntKind.u8 1 := rfl
      simp [hb1'] at hpt hr
      rw [hFi] at hp
      have g1 : ¬ r = q := by omega
      have g2 : ¬ q = r := by omega
      have g3 : ¬ ri = q := by omega
      have g4 : ¬ q = ri := by omega
      have g5 : ¬ r = q + 1 := by omega
      have g6 : ¬ ri = q + 1 := by omega
      have g7 : ¬ q = 0 := by omega
      have g8 : ¬ 0 = q := by omega
      have g9 : ¬ r = ri := fun h => hne h.symm
      have g10 : ¬ 0 = r := by omega
      have g11 : ¬ r = 0 := by omega
      have g12 : ¬ ri = 0 := by omega
      have g13 : ¬ q + 1 = ri := by omega
      have g14 : ¬ q + 1 + 1 = ri := by omega
      have g15 : ¬ q + 1 + 1 + 1 = ri := by omega
      have g16 : ¬ ri = q + 1 + 1 := by omega
      have g17 : ¬ ri = q + 1 + 1 + 1 := by omega
      have g18 : ¬ q = q + 1 + 1 := by omega
      simp [loopAt, loopsOf, Tryz.f298, h0, hor, h51, hori, h52, h53, hi, hi', hwi, hxi, hr, hpt, hb1, hr1, dd, g1, g2, g3, g4, g5, g6, g7, g8, g9, g10, g11, g12, g13, g14, g15, g16, g17, g18, hne, hdd]
      exact ⟨acc' ++ 1 :: (escP xs[i].name ++ keyD d xs[i].v), by simp [hb1'], by omega, hp⟩)
    (by
      rintro s o q ⟨r, acc', h0, hor, hrq, h51, hori, hriq, hne, hr0, h52, h53, hdd, hp⟩
      simp at hp
      subst hp
      have g1 : ¬ r = q := by omega
      have g2 : ¬ q = r := by omega
      have g5 : ¬ r = q + 1 := by omega
      have g7 : ¬ q = 0 := by omega
      have g8 : ¬ 0 = q := by omega
      have g10 : ¬ 0 = r := by omega
      have g11 : ¬ r = 0 := by omega
      simp [loopAt, loopsOf, Tryz.f298, h0, hor, h51, hori, h52, h53, g1, g2, g5, g7, g8, g10, g11, hdd])
    xs.length 0 s o q (by omega) hI)
  simp only [loopAt, loopsOf, Tryz.f298] at lp
  obtain ⟨R, hR⟩ : ∃ R, R = acc ++ [byteAt (v.k + 1) 0] ++ xs.flatMap F := ⟨_, rfl⟩
  obtain ⟨X, A, B, C, M, hl⟩ := lp 4 (by omega) R hR
  have hl' := fun s o q r a0 a1 a2 a3 a4 a5 a6 a7 a8 a9 a10 => hl s o q ⟨r, acc ++ [byteAt (v.k + 1) 0], a0, a1, a2, a3, a4, a5, a6, a7, a8, a9, a10, by simpa using hR⟩
  clear hl lp
  have hlR : R.length + 1 ≤ 140737488355328 := by
    have h2 := congrArg List.length hR
    simp at h2 ha
    omega
  have hl1 : acc.length + 1 ≤ 140737488355328 := by simp at ha ⊢ <;> omega
  have hfin : acc ++ byteAt (v.k + 1) 0 :: (xs.flatMap F ++ [0]) = R ++ [0] := by rw [hR]; simp
  rw [hfin]
  clear hfin hR ekey
  simp at hl'
  simp [e0, e1, e2, e3, e4, e5, hw, hu, hi, hl', hlR, hr1, hl1]
theorem putKey_fields_nil (d : Nat) (ih : ∀ (v : Val) (acc : Bytes), okP d v = true → acc.length + (keyD d v).length + 4096 ≤ 70368744177664 → v.t.length < 1048576 → run E (.call 298 [.row 5 (acc.map byteT), xV v]) = some (.res [.row 5 ((acc ++ keyD d v).map byteT)] [none]))
    (v : Val)  (h : okP (d + 1) v = true) (ha : ([] : Bytes).length + (keyD (d + 1) v).length + 4096 ≤ 70368744177664) (hv : v.t.length < 1048576) (hk : v.k = 5) : run E (.call 298 [.nil, xV v]) = some (.res [.row 5 ((([] : Bytes) ++ keyD (d + 1) v).map byteT)] [some .nil]) := by
  rw [run_call E 298 _ rfl Tryz.func298 rfl rfl rfl (by simp)]
  obtain ⟨e, xs, hd, _, hit, _, hx⟩ := okP_doc h hk
  obtain rfl : d = e := by omega
  have hi := implFields v (by omega)
  rw [fieldsI_some hit] at hi
  simp at hi
  obtain ⟨hs1, hs2⟩ := fields_small hit
  have hw : IntKind.i64.wrap (v.k + 1) = v.k + 1 := wrap_of (by omega) (by omega)
  have hu := u8_wrap (v.k + 1)
  have hr1 : List.range 1 = [0] := rfl
  have e0 : (v.k = 0) = False := by rw [hk]; simp
  have e1 : (v.k = 1) = False := by rw [hk]; simp
  have e2 : (v.k = 2) = False := by rw [hk]; simp
  have e3 : (v.k = 3) = False := by rw [hk]; simp
  have e4 : (v.k = 4) = False := by rw [hk]; simp
  have e5 : (v.k = 5) = True := by rw [hk]; simp
  have eL : fieldsL v.t = xs := by simp [fieldsL, hit]
  obtain ⟨F, hF⟩ : ∃ F : Fld → Bytes, F = (fun f => [1] ++ escP f.name ++ keyD d f.v) := ⟨_, rfl⟩
  have hFx : ∀ f, F f = 1 :: (escP f.name ++ keyD d f.v) := by intro f; rw [hF]; simp
  have hFl : ∀ f, (F f).length = 1 + (escP f.name).length + (keyD d f.v).length := by intro f; rw [hF]; simp; omega
  have ekey : keyD (d + 1) v = byteAt (v.k + 1) 0 :: (xs.flatMap F ++ [0]) := by rw [hF]; simp [keyD, e0, e1, e2, e3, e4, eL, headK, numP_1]
  clear hF
  have n22 := n298_22
  have s22 := s298_22
  simp [regionOf, findR, pick, Tryz.f298] at n22 s22
  have dd := fun st => run_region_drawS E st 22 _ n22 s22
  clear n22 s22
  rw [ekey] at ha ⊢
  clear hk
  have lp := fun (ri : Nat) (hri0 : 0 < ri) (R : Bytes) (hR : R = ([] : Bytes) ++ [byteAt (v.k + 1) 0] ++ xs.flatMap F) => sk1 (fun s o q hI => loop_for (c := loopAt Tryz.f298 1) (N := 91)
    (fun i s o q => ∃ r acc', s 0 = .row r ∧ o r = .row 5 (acc'.map byteT) true ∧ r < q ∧ s 71 = .row ri ∧ o ri = .row 237 (xs.map fldT) true ∧ ri < q ∧ ri ≠ r ∧ 0 < r ∧ s 72 = .t (.int .i64 xs.length) ∧ s 73 = .t (.int .i64 i) ∧ True ∧ R = acc' ++ (xs.drop i).flatMap F)
    (fun e s' o' q' => ∃ r, e = .exit 3 ∧ s' 0 = .row r ∧ o' r = .row 5 (R.map byteT) true ∧ ¬ r = q' ∧ ¬ q' = r ∧ ¬ r = q' + 1 ∧ ¬ q' = 0 ∧ ¬ 0 = q' ∧ ¬ r = 0 ∧ ¬ 0 = r ∧ True) xs.length
    (by
      rintro i s o q hi ⟨r, acc', h0, hor, hrq, h51, hori, hriq, hne, hr0, h52, h53, hdd, hp⟩
      have hi' : (i : Int) < (xs.length : Int) := by omega
      have hwi := wrap_succ (n := i) (by omega)
      have hxi : xs[i]? = some xs[i] := List.getElem?_eq_getElem hi
      rw [flat_drop _ _ _ hi, ← List.append_assoc] at hp
      have hlen : acc'.length + (F xs[i]).length + 4096 ≤ 70368744177664 := by
        have h1 := congrArg List.length hp
        have h2 := congrArg List.length hR
        simp at h1 h2 ha
        omega
      have hsm := hs2 _ (List.getElem_mem hi)
      have hFi := hFx xs[i]
      have hFk := hFl xs[i]
      have hpt := putText (acc' ++ [1]) xs[i].name (by omega) (by simp; omega)
      have hr := ih xs[i].v (acc' ++ [1] ++ escP xs[i].name) (hx _ (List.getElem_mem hi)).2 (by simp; omega) (by omega)
      have hb1 : acc'.length + 1 ≤ 140737488355328 := by omega
      have hb1' : byteT 1 = T.int IntKind.u8 1 := rfl
      simp [hb1'] at hpt hr
      rw [hFi] at hp
      have g1 : ¬ r = q := by omega
      have g2 : ¬ q = r := by omega
      have g3 : ¬ ri = q := by omega
      have g4 : ¬ q = ri := by omega
      have g5 : ¬ r = q + 1 := by omega
      have g6 : ¬ ri = q + 1 := by omega
      have g7 : ¬ q = 0 := by omega
      have g8 : ¬ 0 = q := by omega
      have g9 : ¬ r = ri := fun h => hne h.symm
      have g10 : ¬ 0 = r := by omega
      have g11 : ¬ r = 0 := by omega
      have g12 : ¬ ri = 0 := by omega
      have g13 : ¬ q + 1 = ri := by omega
      have g14 : ¬ q + 1 + 1 = ri := by omega
      have g15 : ¬ q + 1 + 1 + 1 = ri := by omega
      have g16 : ¬ ri = q + 1 + 1 := by omega
      have g17 : ¬ ri = q + 1 + 1 + 1 := by omega
      have g18 : ¬ q = q + 1 + 1 := by omega
      simp [loopAt, loopsOf, Tryz.f298, h0, hor, h51, hori, h52, h53, hi, hi', hwi, hxi, hr, hpt, hb1, hr1, dd, g1, g2, g3, g4, g5, g6, g7, g8, g9, g10, g11, g12, g13, g14, g15, g16, g17, g18, hne, hdd]
      exact ⟨acc' ++ 1 :: (escP xs[i].name ++ keyD d xs[i].v), by simp [hb1'], by omega, hp⟩)
    (by
      rintro s o q ⟨r, acc', h0, hor, hrq, h51, hori, hriq, hne, hr0, h52, h53, hdd, hp⟩
      simp at hp
      subst hp
      have g1 : ¬ r = q := by omega
      have g2 : ¬ q = r := by omega
      have g5 : ¬ r = q + 1 := by omega
      have g7 : ¬ q = 0 := by omega
      have g8 : ¬ 0 = q := by omega
      have g10 : ¬ 0 = r := by omega
      have g11 : ¬ r = 0 := by omega
      simp [loopAt, loopsOf, Tryz.f298, h0, hor, h51, hori, h52, h53, g1, g2, g5, g7, g8, g10, g11, hdd])
    xs.length 0 s o q (by omega) hI)
  simp only [loopAt, loopsOf, Tryz.f298] at lp
  obtain ⟨R, hR⟩ : ∃ R, R = ([] : Bytes) ++ [byteAt (v.k + 1) 0] ++ xs.flatMap F := ⟨_, rfl⟩
  obtain ⟨X, A, B, C, M, hl⟩ := lp 3 (by omega) R hR
  have hl' := fun s o q r a0 a1 a2 a3 a4 a5 a6 a7 a8 a9 a10 => hl s o q ⟨r, ([] : Bytes) ++ [byteAt (v.k + 1) 0], a0, a1, a2, a3, a4, a5, a6, a7, a8, a9, a10, by simpa using hR⟩
  clear hl lp
  have hlR : R.length + 1 ≤ 140737488355328 := by
    have h2 := congrArg List.length hR
    simp at h2 ha
    omega
  have hl1 : ([] : Bytes).length + 1 ≤ 140737488355328 := by simp at ha ⊢ <;> omega
  have hfin : ([] : Bytes) ++ byteAt (v.k + 1) 0 :: (xs.flatMap F ++ [0]) = R ++ [0] := by rw [hR]; simp
  rw [hfin]
  clear hfin hR ekey
  simp at hl'
  simp [e0, e1, e2, e3, e4, e5, hw, hu, hi, hl', hlR, hr1, hl1]
theorem putKey : ∀ (d : Nat) (v : Val) (acc : Bytes), okP d v = true → acc.length + (keyD d v).length + 4096 ≤ 70368744177664 → v.t.length < 1048576 → run E (.call 298 [.row 5 (acc.map byteT), xV v]) = some (.res [.row 5 ((acc ++ keyD d v).map byteT)] [none]) := by
  intro d
  induction d with
  | zero =>
    intro v acc h ha hv
    refine putKey_small_row 0 v acc h (by omega) hv ?_
    unfold okP at h
    by_cases h0 : v.k = 0; · omega
    by_cases h1 : v.k = 1; · omega
    by_cases h2 : v.k = 2; · omega
    by_cases h3 : v.k = 3; · omega
    simp [h0, h1, h2, h3] at h
  | succ d ih =>
    intro v acc h ha hv
    have hr := okP_range h
    by_cases h4 : v.k = 4
    · exact putKey_items_row d (fun v acc h1 h2 h3 => ih v acc h1 h2 h3) v acc h ha hv h4
    · by_cases h5 : v.k = 5
      · exact putKey_fields_row d (fun v acc h1 h2 h3 => ih v acc h1 h2 h3) v acc h ha hv h5
      · exact putKey_small_row (d + 1) v acc h (by omega) hv (by omega)
theorem putKeyNil (d : Nat) (v : Val) (h : okP d v = true) (hv : v.t.length < 1048576) : run E (.call 298 [.nil, xV v]) = some (.res [.row 5 ((keyD d v).map byteT)] [some .nil]) := by
  have hr := okP_range h
  have hl := keyD_len d v h
  cases d with
  | zero =>
    refine putKey_small_nil 0 v h (by simp) hv ?_
    unfold okP at h
    by_cases h0 : v.k = 0; · omega
    by_cases h1 : v.k = 1; · omega
    by_cases h2 : v.k = 2; · omega
    by_cases h3 : v.k = 3; · omega
    simp [h0, h1, h2, h3] at h
  | succ d =>
    by_cases h4 : v.k = 4
    · exact putKey_items_nil d (fun v acc h1 h2 h3 => putKey d v acc h1 h2 h3) v h (by simp; omega) hv h4
    · by_cases h5 : v.k = 5
      · exact putKey_fields_nil d (fun v acc h1 h2 h3 => putKey d v acc h1 h2 h3) v h (by simp; omega) hv h5
      · exact putKey_small_nil (d + 1) v h (by simp) hv (by omega)
theorem keyOf (d : Nat) (v : Val) (f : Bool) (h : okP d v = true) (hv : v.t.length < 1048576) : run E (.call 272 [xV v, xB f]) = some (.res [xS (if f then turnP (keyD d v) else keyD d v)] []) := by
  rw [run_call E 272 _ rfl Tryz.func272 rfl rfl rfl (by simp)]
  have h1 := putKeyNil d v h hv
  have hl := keyD_len d v h
  have h2 := fallen (keyD d v) f (by omega)
  cases f <;> simp at h2 <;> simp [h1, h2]
set_option maxHeartbeats 4000000
theorem byteAt_nat (n : Int) (j : Nat) (h0 : 0 ≤ n) : ((byteAt n j).toNat : Int) = n / 2 ^ (8 * j) % 256 := by
  rw [← byteAt_wrap]
  rw [Int.fdiv_eq_ediv_of_nonneg _ (Int.pow_nonneg (by omega))]
  simp [IntKind.wrap, IntKind.bits, IntKind.signed]
theorem key_cons {d : Nat} {v : Val} (h : okP d v = true) : ∃ r, keyD d v = byteAt (v.k + 1) 0 :: r := by
  have hr := okP_range h
  unfold keyD headK
  rw [numP_1]
  split
  · exact ⟨_, rfl⟩
  · split
    · exact ⟨_, rfl⟩
    · split
      · exact ⟨_, rfl⟩
      · split
        · exact ⟨_, rfl⟩
        · cases d with
          | zero =>
            exfalso
            unfold okP at h
            simp_all
          | succ d =>
            simp only
            split
            · exact ⟨_, by simp only [List.cons_append]; rfl⟩
            · exact ⟨_, by simp only [List.cons_append]; rfl⟩
theorem head_byte {d : Nat} {v : Val} (h : okP d v = true) : (byteAt (v.k + 1) 0).toNat = (v.k + 1).toNat := by
  have hr := okP_range h
  have := byteAt_nat (v.k + 1) 0 (by omega)
  simp at this
  omega
set_option maxHeartbeats 16000000
structure Ivl where
  low : Bytes
  high : Bytes
  opn : Bool
  deriving DecidableEq, Inhabited
abbrev ivlT (i : Ivl) : T := .agg [.str i.low, .str i.high, .bool i.opn]
abbrev ivlX (i : Ivl) : X := .agg [.t (.str i.low), .t (.str i.high), .t (.bool i.opn)]
/-- The least text behind all that begin with t, seen from its first n bytes. -/
def behindN (t : Bytes) : Nat → Option Bytes
  | 0 => none
  | n + 1 => match t[n]? with
    | some b => if b < 255 then some (t.take n ++ [b + 1]) else behindN t n
    | none => none
def behindP (t : Bytes) : Option Bytes := behindN t t.length
def beginP (t : Bytes) : Ivl := match behindP t with
  | some h => ⟨t, h, false⟩
  | none => ⟨t, [], true⟩
def minS (x y : Bytes) : Bytes := if (Op.bytesLess x y || x == y) = true then x else y
def maxS (x y : Bytes) : Bytes := if (!Op.bytesLess x y) = true then x else y
def meetP (a b : Ivl) : Ivl :=
  ⟨maxS a.low b.low, if a.opn && b.opn then [] else if a.opn then b.high else if b.opn then a.high else minS a.high b.high, a.opn && b.opn⟩
theorem lt255 (b : UInt8) : ((b.toNat : Int) < 255) = (b < 255) := by
  have : (255 : UInt8).toNat = 255 := rfl
  simp only [UInt8.lt_iff_toNat_lt, this, eq_iff_iff]
  omega
theorem add1 (b : UInt8) : UInt8.ofNat (IntKind.u8.wrap ((b.toNat : Int) + 1)).toNat = b + 1 := by
  have hw : IntKind.u8.wrap ((b.toNat : Int) + 1) = ((b.toNat : Int) + 1) % 256 := by simp [IntKind.wrap, IntKind.bits, IntKind.signed]
  rw [hw]
  apply UInt8.toNat_inj.1
  rw [UInt8.toNat_add, UInt8.toNat_ofNat']
  have : (1 : UInt8).toNat = 1 := rfl
  rw [this]
  omega
theorem l04Behind (t : Bytes) (ht : t.length < 4294967296) : run E (.call 313 [xS t]) = some (.res [xS ((behindP t).getD []), xB (behindP t).isSome] []) := by
  rw [run_call E 313 _ rfl Tryz.func313 rfl rfl rfl (by simp)]
  have d5 := d313_5
  simp [regionOf, findR, pick, Tryz.f313] at d5
  have dd := fun st => run_region_draw E st 5 _ d5
  clear d5
  have lp := fun (R : Option Bytes) (hR : R = behindP t) => sk (fun s o q hI => loop_for (c := loopAt Tryz.f313 0) (N := 28)
    (fun i s o q => i ≤ t.length ∧ s 0 = .t (.str t) ∧ s 4 = .t (.int .i64 ((t.length : Int) - i)) ∧ R = behindN t (t.length - i))
    (fun e s' o' q' => e = (if R.isSome then .ret else .exit 0) ∧ (R.isSome = true → s' 2 = .t (.str (R.getD [])) ∧ s' 3 = .t (.bool true))) t.length
    (by
      rintro i s o q hi ⟨hle, h0, h4, hp⟩
      obtain ⟨j, hj⟩ : ∃ j, t.length - i = j + 1 := ⟨t.length - i - 1, by omega⟩
      have hjl : j < t.length := by omega
      have e1 : (t.length : Int) - i = (j : Int) + 1 := by omega
      have e2 : t.length - (i + 1) = j := by omega
      have e3 : (t.length : Int) - ((i + 1 : Nat) : Int) = (j : Int) := by omega
      have hw := wrap_nat (n := j) (by omega)
      have hpos : (0 : Int) < (j : Int) + 1 := by omega
      have hjx : t[j]? = some t[j] := List.getElem?_eq_getElem hjl
      have hjle : j ≤ t.length := by omega
      rw [hj] at hp
      rw [e1] at h4
      rw [e2]
      simp only [e3]
      unfold behindN at hp
      simp only [hjx] at hp
      have h255 := lt255 t[j]
      by_cases hb : t[j] < 255
      · rw [if_pos hb] at hp
        have hadd := add1 t[j]
        rw [hp]
        simp [loopAt, loopsOf, Tryz.f313, h0, h4, hw, hpos, hjx, h255, hb, dd, hjle]
        rw [if_pos (by omega)]
        exact hadd
      · rw [if_neg hb] at hp
        simp [loopAt, loopsOf, Tryz.f313, h0, h4, hw, hpos, hjx, h255, hb, hjle]
        exact ⟨by omega, hp⟩)
    (by
      rintro s o q ⟨hle, h0, h4, hp⟩
      simp [behindN] at hp
      simp [loopAt, loopsOf, Tryz.f313, h0, h4, hp])
    t.length 0 s o q (by omega) hI)
  simp only [loopAt, loopsOf, Tryz.f313] at lp
  cases hb : behindP t with
  | none =>
    obtain ⟨X, A, B, C, hx⟩ := lp none hb.symm
    have hx' := fun s o q a0 a4 => hx s o q ⟨Nat.zero_le _, a0, a4, by simpa [behindP] using hb.symm⟩
    simp at hx'
    simp [hx']
  | some h =>
    obtain ⟨X, A, B, C, hx⟩ := lp (some h) hb.symm
    have hx' := fun s o q a0 a4 => hx s o q ⟨Nat.zero_le _, a0, a4, by simpa [behindP] using hb.symm⟩
    simp at hx'
    simp [hx']
theorem l04Begin (t : Bytes) (ht : t.length < 4294967296) : run E (.call 292 [xS t]) = some (.res [ivlX (beginP t)] []) := by
  rw [run_call E 292 _ rfl Tryz.func292 rfl rfl rfl (by simp)]
  have h := l04Behind t ht
  unfold beginP
  cases hb : behindP t with
  | none => rw [hb] at h; simp at h; simp [h]
  | some x => rw [hb] at h; simp at h; simp [h]
theorem implBegins (t : Bytes) (ht : t.length < 4294967296) : run E (.call 273 [xS t]) = some (.res [ivlX (beginP t)] []) := by
  rw [run_call E 273 _ rfl Tryz.func273 rfl rfl rfl (by simp)]
  have d5 := d273_5
  simp [regionOf, findR, pick, Tryz.f273] at d5
  have dd := fun st => run_region_draw E st 5 _ d5
  clear d5
  have lp := fun (R : Option Bytes) (hR : R = behindP t) => sk (fun s o q hI => loop_for (c := loopAt Tryz.f273 0) (N := 29)
    (fun i s o q => i ≤ t.length ∧ s 0 = .t (.str t) ∧ s 2 = .ptr 0 0 ∧ o 0 = .box 68 [.t (.str []), .t (.str []), .t (.bool false)] ∧ 0 < q ∧ s 3 = .t (.int .i64 ((t.length : Int) - 1 - i)) ∧ R = behindN t (t.length - i))
    (fun e s' o' q' => e = (if R.isSome then .ret else .exit 0) ∧ s' 0 = .t (.str t) ∧ s' 2 = .ptr 0 0 ∧ o' 0 = .box 68 (if R.isSome then [.t (.str t), .t (.str (R.getD [])), .t (.bool false)] else [.t (.str []), .t (.str []), .t (.bool false)])) t.length
    (by
      rintro i s o q hi ⟨hle, h0, h2, ho, hq, h3, hp⟩
      obtain ⟨j, hj⟩ : ∃ j, t.length - i = j + 1 := ⟨t.length - i - 1, by omega⟩
      have hjl : j < t.length := by omega
      have e1 : (t.length : Int) - 1 - i = (j : Int) := by omega
      have e2 : t.length - (i + 1) = j := by omega
      have e3 : (t.length : Int) - 1 - ((i + 1 : Nat) : Int) = (j : Int) - 1 := by omega
      have hw : IntKind.i64.wrap ((j : Int) - 1) = (j : Int) - 1 := by rw [wrap_of (by omega) (by omega)]
      have hjx : t[j]? = some t[j] := List.getElem?_eq_getElem hjl
      have hjle : j ≤ t.length := by omega
      have hq0 : ¬ q = 0 := by omega
      have hq1 : ¬ 0 = q := by omega
      rw [hj] at hp
      rw [e1] at h3
      rw [e2]
      simp only [e3]
      unfold behindN at hp
      simp only [hjx] at hp
      have h255 := lt255 t[j]
      by_cases hb : t[j] < 255
      · rw [if_pos hb] at hp
        have hadd := add1 t[j]
        have hr1 : List.range 1 = [0] := rfl
        rw [hp]
        simp [loopAt, loopsOf, Tryz.f273, h0, h2, h3, ho, hw, hjx, h255, hb, dd, hjle, hr1, hq0, hq1]
        rw [if_pos (by omega)]
        exact hadd
      · rw [if_neg hb] at hp
        simp [loopAt, loopsOf, Tryz.f273, h0, h2, h3, ho, hw, hjx, h255, hb, hjle, hq, hq0, hq1]
        exact ⟨by omega, hp⟩)
    (by
      rintro s o q ⟨hle, h0, h2, ho, hq, h3, hp⟩
      simp [behindN] at hp
      have h3' : s 3 = .t (.int .i64 (-1)) := by rw [h3]; congr 2; omega
      simp [loopAt, loopsOf, Tryz.f273, h0, h2, h3', ho, hp])
    t.length 0 s o q (by omega) hI)
  simp only [loopAt, loopsOf, Tryz.f273] at lp
  unfold beginP
  have hw0 : IntKind.i64.wrap ((t.length : Int) - 1) = (t.length : Int) - 1 := wrap_of (by omega) (by omega)
  cases hb : behindP t with
  | none =>
    obtain ⟨X, A, B, C, hx⟩ := lp none hb.symm
    have hx' := fun s o q a0 a2 b1 hq (a3 : s 3 = .t (.int .i64 ((t.length : Int) - 1))) => hx s o q ⟨Nat.zero_le _, a0, a2, b1, hq, by rw [a3]; congr 2; omega, by simpa [behindP] using hb.symm⟩
    simp at hx'
    simp [hx', hw0]
  | some h =>
    obtain ⟨X, A, B, C, hx⟩ := lp (some h) hb.symm
    have hx' := fun s o q a0 a2 b1 hq (a3 : s 3 = .t (.int .i64 ((t.length : Int) - 1))) => hx s o q ⟨Nat.zero_le _, a0, a2, b1, hq, by rw [a3]; congr 2; omega, by simpa [behindP] using hb.symm⟩
    simp at hx'
    simp [hx', hw0]
theorem l04Turned (t : Bytes) (f : Bool) (ht : t.length < 4294967296) : run E (.call 293 [xS t, xB f]) = some (.res [xS (if f then turnP t else t)] []) := by
  rw [run_call E 293 _ rfl Tryz.func293 rfl rfl rfl (by simp)]
  have h := l04Turn t ht
  cases f <;> simp [h]
theorem l04Meet (a b : Ivl) : run E (.call 295 [.t (ivlT a), .t (ivlT b)]) = some (.res [ivlX (meetP a b)] []) := by
  rw [run_call E 295 _ rfl Tryz.func295 rfl rfl rfl (by simp)]
  obtain ⟨l, h, p⟩ := a
  obtain ⟨l', h', p'⟩ := b
  unfold meetP
  generalize hm : maxS l l' = m
  generalize hn : minS h h' = n
  simp [maxS] at hm
  simp [minS] at hn
  cases p <;> cases p' <;> simp [hm, hn]
theorem saysAll (t : Trm) : run E (.call 239 [.t (trmT t)]) = some (.res [xB (decide (t.op = 2) || decide (t.op = 7) || decide (t.op = 8) || decide (t.op = 10))] []) := by
  rw [run_call E 239 _ rfl Tryz.func239 rfl rfl rfl (by simp)]
  obtain ⟨a, a1, a2, a3⟩ := zcase t.op 2
  obtain ⟨b, b1, b2, b3⟩ := zcase t.op 7
  obtain ⟨c, c1, c2, c3⟩ := zcase t.op 8
  obtain ⟨e, e1, e2, e3⟩ := zcase t.op 10
  cases a <;> cases b <;> cases c <;> cases e <;> simp [a1, a2, a3, b1, b2, b3, c1, c2, c3, e1, e2, e3]
abbrev zeroV : Ver := ⟨0, false, ⟨0, 0, []⟩⟩
abbrev goneV : Ver := ⟨0, true, ⟨0, 0, []⟩⟩
def lastLe (t : Int) : Ver → List Ver → Ver
  | d, [] => d
  | d, x :: r => lastLe t (if x.at_ ≤ t then x else d) r
def findC (cs : List Chn) (id : Int) : Option Chn := cs.find? (fun x => x.id == id)
def cmpI (a b : Int) : Int := if a < b then -1 else if b < a then 1 else 0
theorem cmpI_lt (a b : Int) : (cmpI a b < 0) = (a < b) := by
  unfold cmpI
  by_cases h : a < b
  · simp [h]
  · by_cases h2 : b < a <;> simp [h, h2]
theorem cmpI_eq (a b : Int) : (cmpI a b = 0) = (a = b) := by
  unfold cmpI
  by_cases h : a < b
  · have : a ≠ b := by omega
    simp [h, this]
  · by_cases h2 : b < a
    · have : a ≠ b := by omega
      simp [h, h2, this]
    · have : a = b := by omega
      simp [h, h2, this]
theorem isNaNInt (a : Int) : run E (.call 288 [xI a]) = some (.res [xB false] []) := by
  rw [run_call E 288 _ rfl Tryz.func288 rfl rfl rfl (by simp)]
  simp
theorem compareInt (a b : Int) : run E (.call 256 [xI a, xI b]) = some (.res [xI (cmpI a b)] []) := by
  rw [run_call E 256 _ rfl Tryz.func256 rfl rfl rfl (by simp)]
  have h1 := isNaNInt a
  have h2 := isNaNInt b
  unfold cmpI
  by_cases h : a < b
  · simp [h1, h2, h]
  · by_cases h' : b < a <;> simp [h1, h2, h, h']
def seekC (fs : List Chn) (id : Int) : Nat := halves (fun k => match fs[k]? with
  | some f => decide (f.id < id)
  | none => false) (fs.length + 1) 0 fs.length
def thereC (fs : List Chn) (id : Int) : Bool := match fs[seekC fs id]? with
  | some f => f.id == id
  | none => false
def placeC (fs : List Chn) (id : Int) : Nat := (fs.takeWhile (fun f => decide (f.id < id))).length
/-- Lists in order, item by item. -/
def ordL {α : Type} (f : α → α → Int) : List α → List α → Int
  | [], [] => 0
  | [], _ :: _ => -1
  | _ :: _, [] => 1
  | x :: xs, y :: ys => if f x y = 0 then ordL f xs ys else f x y
/-- The first list is gone through with nothing told apart. -/
def thru {α : Type} (f : α → α → Int) : List α → List α → Bool
  | [], _ => true
  | _ :: _, [] => false
  | x :: xs, y :: ys => decide (f x y = 0) && thru f xs ys
def orI (a b : Int) : Int := if a = 0 then b else a
theorem cmpOr (a b : Int) : run E (.call 255 [.t (.list [.int .i64 a, .int .i64 b])]) = some (.res [xI (orI a b)] []) := by
  rw [run_call E 255 _ rfl Tryz.func255 rfl rfl rfl (by simp)]
  have lp := sk (fun s o q hI => loop_for (c := loopAt Tryz.f255 0) (N := 18)
    (fun i s o q => s 3 = .t (.int .i64 0) ∧ s 6 = .t (.list [.int .i64 a, .int .i64 b]) ∧ s 7 = .t (.int .i64 2) ∧ s 8 = .t (.int .i64 i) ∧ (i = 1 → a = 0) ∧ (i = 2 → a = 0 ∧ b = 0))
    (fun e s' o' q' => e = (if orI a b = 0 then .exit 0 else .ret) ∧ s' 3 = .t (.int .i64 0) ∧ (¬ orI a b = 0 → s' 2 = .t (.int .i64 (orI a b)))) 2
    (by
      rintro i s o q hi ⟨h3, h6, h7, h8, hp, hp2⟩
      have hw := wrap_succ (n := i) (by omega)
      match i, hi with
      | 0, _ =>
        by_cases ha : a = 0
        · subst ha
          simp [loopAt, loopsOf, Tryz.f255, h3, h6, h7, h8]
        · have hb : orI a b = a := by simp [orI, ha]
          simp [loopAt, loopsOf, Tryz.f255, h3, h6, h7, h8, ha, hb]
      | 1, _ =>
        have ha := hp rfl
        subst ha
        have hb : orI 0 b = b := by simp [orI]
        simp at hw
        by_cases h : b = 0
        · subst h
          simp [loopAt, loopsOf, Tryz.f255, h3, h6, h7, h8, hw]
        · simp [loopAt, loopsOf, Tryz.f255, h3, h6, h7, h8, hb, h, hw])
    (by
      rintro s o q ⟨h3, h6, h7, h8, hp, hp2⟩
      obtain ⟨ha, hb⟩ := hp2 rfl
      subst ha hb
      simp [loopAt, loopsOf, Tryz.f255, h3, h6, h7, h8, orI])
    2 0 s o q (by omega) hI)
  simp only [loopAt, loopsOf, Tryz.f255] at lp
  obtain ⟨X, A, B, C, hx⟩ := lp
  generalize orI a b = r at *
  by_cases h : r = 0
  · subst h
    simp at hx
    simp [hx]
  · simp [h] at hx
    simp [hx]
/-- Values in order. -/
def ordD : Nat → Val → Val → Int
  | d, a, b =>
    if orI (cmpI a.k b.k) (cmpI a.n b.n) = 0 then
      (if a.k = 4 then (match d with
        | 0 => 0
        | d + 1 => ordL (ordD d) (itemsL a.t) (itemsL b.t))
      else if a.k = 5 then (match d with
        | 0 => 0
        | d + 1 => ordL (fun f g => orI (Lib.compareBytes f.name g.name) (ordD d f.v g.v)) (fieldsL a.t) (fieldsL b.t))
      else Lib.compareBytes a.t b.t)
    else orI (cmpI a.k b.k) (cmpI a.n b.n)
theorem orI_zero {a b : Int} (h : orI a b = 0) : a = 0 ∧ b = 0 := by
  unfold orI at h
  split at h
  · exact ⟨by assumption, h⟩
  · contradiction
/-- One of the two is gone through with nothing told apart. -/
def cutB {α : Type} (f : α → α → Int) : List α → List α → Bool
  | [], _ => true
  | _ :: _, [] => true
  | x :: xs, y :: ys => decide (f x y = 0) && cutB f xs ys
def fldO (d : Nat) (f g : Fld) : Int := orI (Lib.compareBytes f.name g.name) (ordD d f.v g.v)
theorem flat_le {α β : Type} {f : α → List β} {g : α → Nat} : ∀ {l : List α}, (∀ x ∈ l, (f x).length ≤ g x) → (l.flatMap f).length ≤ sumL g l
  | [], _ => by simp
  | x :: r, h => by
    have h1 := h x (by simp)
    have h2 := flat_le (f := f) (g := g) (l := r) (fun y hy => h y (by simp [hy]))
    simp [sumL]; simp at h2; omega
theorem itemsL_sum (t : Bytes) : sumL (fun x => x.t.length + 1) (itemsL t) ≤ t.length := by
  unfold itemsL
  cases h : itemsP t with
  | none => simp [sumL]
  | some xs => exact items_sum h
theorem itemsL_len (t : Bytes) : (itemsL t).length ≤ t.length ∧ ∀ x ∈ itemsL t, x.t.length < t.length := by
  unfold itemsL
  cases h : itemsP t with
  | none => simp
  | some xs => exact items_small h
theorem fieldP_len {v x : Val} {w : Bytes} (h : fieldP v w = some x) : x.t.length < v.t.length := by
  unfold fieldP fieldsL at h
  cases hf : fieldsP v.t with
  | none => simp [hf] at h
  | some fs =>
    rw [hf] at h
    simp only [Option.getD_some, Option.map_eq_some_iff] at h
    obtain ⟨f, h1, rfl⟩ := h
    exact ((fields_small hf).2 f (List.mem_of_find?_eq_some h1)).1
/-- A name, then the rest of a path. -/
def oneP (w : Bytes) (ws : List Bytes) (x : Val) : List Val := match fieldP x w with
  | none => []
  | some y => getP ws y
theorem getP_cons (w : Bytes) (ws : List Bytes) (v : Val) : getP (w :: ws) v = if v.k = 5 then oneP w ws v else if v.k = 4 then (itemsL v.t).flatMap (fun x => if x.k = 5 then oneP w ws x else []) else [] := rfl
theorem getP_len : ∀ (ws : List Bytes) (v : Val), (getP ws v).length ≤ v.t.length + 1
  | [], v => by
    unfold getP
    have := (itemsL_len v.t).1
    split <;> simp <;> omega
  | w :: ws, v => by
    have one : ∀ x : Val, (oneP w ws x).length ≤ x.t.length + 1 := by
      intro x
      unfold oneP
      cases h : fieldP x w with
      | none => simp
      | some y =>
        have := fieldP_len h
        have := getP_len ws y
        simp only; omega
    rw [getP_cons]
    split
    · exact one v
    · split
      · have := flat_le (f := fun x : Val => if x.k = 5 then oneP w ws x else []) (g := fun x => x.t.length + 1) (l := itemsL v.t) (fun x _ => by
          by_cases h : x.k = 5
          · rw [if_pos h]; exact one x
          · rw [if_neg h]; simp)
        have := itemsL_sum v.t
        omega
      · simp
theorem itemsX_L (t : Bytes) : ∃ b, itemsX (itemsP t) = [.row 38 ((itemsL t).map valT), xB b] := by
  unfold itemsL
  cases itemsP t with
  | none => exact ⟨false, rfl⟩
  | some xs => exact ⟨true, rfl⟩
theorem l02Get_nil (v : Val) (hv : v.t.length < 1048576) : run E (.call 304 [xV v, .t (.list [])]) = some (.res [.row 38 ((getP [] v).map valT)] []) := by
  rw [run_call E 304 _ rfl Tryz.func304 rfl rfl rfl (by simp)]
  have hi := l01Items v.t (by omega)
  obtain ⟨b, hb⟩ := itemsX_L v.t
  rw [hb] at hi
  have hl := (itemsL_len v.t).1
  have h1 : 1 + (itemsL v.t).length ≤ 140737488355328 := by omega
  have h2 : (1 + (itemsL v.t).length) * 32 ≤ 140737488355328 := by omega
  by_cases h4 : v.k = 4
  · have e4 : (v.k = 4) = True := eq_true h4
    have eg : getP [] v = v :: itemsL v.t := by simp [getP, h4]
    rw [eg]
    clear h4 eg
    simp [e4, hi, h1, h2]
  · have e4 : (v.k = 4) = False := eq_false h4
    have eg : getP [] v = [v] := by simp [getP, h4]
    rw [eg]
    clear h4 eg
    simp [e4]
theorem l02Get_doc (w : Bytes) (ws : List Bytes) (hws : ws.length < 4294967296) (ih : ∀ v : Val, v.t.length < 1048576 → run E (.call 304 [xV v, .t (.list (ws.map strT))]) = some (.res [.row 38 ((getP ws v).map valT)] []))
    (v : Val) (hv : v.t.length < 1048576) (hk : v.k = 5) : run E (.call 304 [xV v, .t (.list ((w :: ws).map strT))]) = some (.res [.row 38 ((oneP w ws v).map valT)] []) := by
  rw [run_call E 304 _ rfl Tryz.func304 rfl rfl rfl (by simp)]
  have d9 := d304_9
  simp [regionOf, findR, pick, Tryz.f304] at d9
  have dd := fun st => run_region_draw E st 9 _ d9
  clear d9
  have d12 := d304_12
  simp [regionOf, findR, pick, Tryz.f304] at d12
  have de := fun st => run_region_draw E st 12 _ d12
  clear d12
  have e5 : (v.k = 5) = True := eq_true hk
  have hf := specField v w (by omega)
  have hpos : ¬ ((ws.length : Int) + 1 = 0) := by omega
  have hle : (1 : Int) ≤ (ws.length : Int) + 1 := by omega
  clear hk
  unfold oneP
  cases hx : fieldP v w with
  | none =>
    rw [hx] at hf
    simp only [optX] at hf
    simp [dd, de, e5, hf, hpos, hle]
  | some y =>
    have hl := fieldP_len hx
    have hy := ih y (by omega)
    rw [hx] at hf
    simp only [optX] at hf
    have htk : List.take ws.length (List.map strT ws) = List.map strT ws := List.take_of_length_le (by simp)
    simp [dd, de, e5, hf, hpos, hle, hy, htk]
theorem l02Get_cons (w : Bytes) (ws : List Bytes) (hws : ws.length < 4294967296) (ih : ∀ v : Val, v.t.length < 1048576 → run E (.call 304 [xV v, .t (.list (ws.map strT))]) = some (.res [.row 38 ((getP ws v).map valT)] []))
    (v : Val) (hv : v.t.length < 1048576) : run E (.call 304 [xV v, .t (.list ((w :: ws).map strT))]) = some (.res [.row 38 ((getP (w :: ws) v).map valT)] []) := by
  rw [getP_cons]
  by_cases hk : v.k = 5
  · rw [if_pos hk]; exact l02Get_doc w ws hws ih v hv hk
  rw [if_neg hk]
  rw [run_call E 304 _ rfl Tryz.func304 rfl rfl rfl (by simp)]
  have e5 : (v.k = 5) = False := eq_false hk
  have hpos : ¬ ((ws.length : Int) + 1 = 0) := by omega
  by_cases h4 : v.k = 4
  · rw [if_pos h4]
    have e4 : (v.k = 4) = True := eq_true h4
    clear h4 hk
    have hi := l01Items v.t (by omega)
    obtain ⟨b, hb⟩ := itemsX_L v.t
    rw [hb] at hi
    obtain ⟨hl, hs⟩ := itemsL_len v.t
    generalize hxs : itemsL v.t = xs at *
    have hsum := itemsL_sum v.t
    rw [hxs] at hsum
    obtain ⟨F, hF⟩ : ∃ F : Val → List Val, F = (fun x => if x.k = 5 then oneP w ws x else []) := ⟨_, rfl⟩
    have hF5 : ∀ x : Val, x.k = 5 → F x = oneP w ws x := by intro x h; rw [hF]; simp [h]
    have hFn : ∀ x : Val, ¬ x.k = 5 → F x = [] := by intro x h; rw [hF]; simp [h]
    have hFl : (xs.flatMap F).length ≤ 1048576 := by
      have := flat_le (f := F) (g := fun x => x.t.length + 1) (l := xs) (fun x _ => by
        by_cases h : x.k = 5
        · have h1 := getP_len (w :: ws) x
          rw [getP_cons, if_pos h] at h1
          rw [hF5 x h]; exact h1
        · rw [hFn x h]; simp)
      omega
    rw [← hF]
    clear hF
    have lp := fun (R : List Val) (hR : R = xs.flatMap F) => sk1 (fun s o q hI => loop_for (c := loopAt Tryz.f304 0) (N := 82)
      (fun i s o q => ∃ r acc, s 1 = .t (.list ((w :: ws).map strT)) ∧ s 10 = .row r ∧ s 11 = .row 2 ∧ s 13 = .t (.int .i64 i) ∧ o r = .row 38 (acc.map valT) true ∧ o 2 = .row 38 (xs.map valT) true ∧ r < q ∧ r ≠ 2 ∧ 2 < q ∧ R = acc ++ (xs.drop i).flatMap F)
      (fun e s' o' q' => ∃ r, e = .exit 1 ∧ s' 10 = .row r ∧ o' r = .row 38 (R.map valT) true) xs.length
      (by
        rintro i s o q hi ⟨r, acc, h1, h10, h11, h13, ho, ho2, hrq, hr2, h2q, hp⟩
        have hi' : (i : Int) < (xs.length : Int) := by omega
        have hwi := wrap_succ (n := i) (by omega)
        have hxi : xs[i]? = some xs[i] := List.getElem?_eq_getElem hi
        have hrn : r ≠ q := by omega
        have hrn2 : r ≠ q + 1 := by omega
        have hqn : q ≠ r := by omega
        have h2n : 2 ≠ q := by omega
        have h2n1 : 2 ≠ q + 1 := by omega
        have h2r : 2 ≠ r := fun h => hr2 h.symm
        have hxl := hs _ (List.getElem_mem hi)
        rw [List.drop_eq_getElem_cons hi, List.flatMap_cons, ← List.append_assoc] at hp
        by_cases h5 : xs[i].k = 5
        · have hd := l02Get_doc w ws hws ih xs[i] (by omega) h5
          have e5 : (xs[i].k = 5) = True := eq_true h5
          have hf := hF5 _ h5
          rw [← hf] at hd
          rw [List.map_cons] at hd
          have hcat : (acc.map valT).length + ((F xs[i]).map valT).length ≤ 140737488355328 := by
            have h1 := congrArg List.length hp
            simp [hR] at h1 hFl ⊢
            omega
          have hcat2 : ((acc.map valT).length + ((F xs[i]).map valT).length) * 32 ≤ 140737488355328 := by
            have h1 := congrArg List.length hp
            simp [hR] at h1 hFl ⊢
            omega
          simp only [List.length_map] at hcat hcat2
          clear h5
          simp [loopAt, loopsOf, Tryz.f304, h1, h10, h11, h13, ho, ho2, hi, hi', hwi, hxi, hrn, hrn2, hqn, h2n, h2n1, h2r, hr2, e5, hd, hcat, hcat2]
          exact ⟨acc ++ F xs[i], by simp, by omega, by omega, hp⟩
        · have e5 : (xs[i].k = 5) = False := eq_false h5
          rw [hFn _ h5, List.append_nil] at hp
          clear h5
          simp [loopAt, loopsOf, Tryz.f304, h1, h10, h11, h13, ho, ho2, hi, hi', hwi, hxi, hrn, hrn2, hqn, h2n, h2n1, h2r, hr2, e5]
          exact ⟨acc, rfl, hrq, h2q, hp⟩)
      (by
        rintro s o q ⟨r, acc, h1, h10, h11, h13, ho, ho2, hrq, hr2, h2q, hp⟩
        simp at hp
        simp [loopAt, loopsOf, Tryz.f304, h1, h10, h11, h13, ho, ho2, hp])
      xs.length 0 s o q (by omega) hI)
    simp only [loopAt, loopsOf, Tryz.f304] at lp
    obtain ⟨X, A, B, C, M, hx⟩ := lp _ rfl
    have hx' := fun s o q r a1 a10 a11 a13 ao ao2 arq ar2 a2q => hx s o q ⟨r, [], a1, a10, a11, a13, ao, ao2, arq, ar2, a2q, by simp⟩
    clear hx lp
    simp at hx'
    simp [e5, e4, hpos, hi, hx']
  · rw [if_neg h4]
    have e4 : (v.k = 4) = False := eq_false h4
    simp [e5, e4, hpos]
theorem l02Get : ∀ (ws : List Bytes) (v : Val), ws.length < 4294967296 → v.t.length < 1048576 → run E (.call 304 [xV v, .t (.list (ws.map strT))]) = some (.res [.row 38 ((getP ws v).map valT)] [])
  | [], v, _, hv => l02Get_nil v hv
  | w :: ws, v, hws, hv => l02Get_cons w ws (by simp at hws; omega) (fun v hv => l02Get ws v (by simp at hws; omega) hv) v hv
theorem l02Values (v : Val) (p : Bytes) (hv : v.t.length < 1048576) (hp : p.length < 4294967295) : run E (.call 281 [xV v, xS p]) = some (.res [.row 38 ((getP (cutP 46 p) v).map valT)] []) := by
  rw [run_call E 281 _ rfl Tryz.func281 rfl rfl rfl (by simp)]
  have d1 := d281_1
  simp [regionOf, findR, pick, Tryz.f281] at d1
  have dd := fun st => run_region_draw E st 1 _ d1
  clear d1
  have e46 : ((46 : UInt8).toNat : Int) = 46 := rfl
  have hc := l00Cut p 46 (by omega) (by omega)
  rw [xU, e46] at hc
  have hcl := cutP_length 46 p
  have hct : p.count 46 ≤ p.length := List.count_le_length
  have hg := l02Get (cutP 46 p) v (by omega) hv
  simp [dd, hc, hg]
theorem fieldI_ok {d : Nat} {v : Val} (h : okP d v = true) (hk : v.k = 5) (w : Bytes) : fieldI v w = fieldP v w := by
  obtain ⟨e, fs, _, _, hf, hr, _⟩ := okP_doc h hk
  exact fieldI_eq w hf hr
theorem fieldP_ok {d : Nat} {v y : Val} {w : Bytes} (h : okP d v = true) (hk : v.k = 5) (hx : fieldP v w = some y) : ∃ e, okP e y = true := by
  obtain ⟨e, fs, _, _, hf, hr, hall⟩ := okP_doc h hk
  unfold fieldP fieldsL at hx
  rw [hf] at hx
  simp only [Option.getD_some, Option.map_eq_some_iff] at hx
  obtain ⟨f, h1, rfl⟩ := hx
  exact ⟨e, (hall f (List.mem_of_find?_eq_some h1)).2⟩
theorem comesTo_nil (d : Nat) (v : Val) (hok : okP d v = true) (hv : v.t.length < 1048576) : run E (.call 217 [xV v, .t (.list [])]) = some (.res [.row 38 ((getP [] v).map valT)] []) := by
  rw [run_call E 217 _ rfl Tryz.func217 rfl rfl rfl (by simp)]
  by_cases h4 : v.k = 4
  · obtain ⟨e, xs, _, _, hit, _⟩ := okP_list hok h4
    have hi := implItems v (by omega)
    rw [itemsI_some hit] at hi
    have hl := (items_small hit).1
    have h1 : 1 + xs.length ≤ 140737488355328 := by omega
    have h2 : (1 + xs.length) * 32 ≤ 140737488355328 := by omega
    have e4 : (v.k = 4) = True := eq_true h4
    have eg : getP [] v = v :: xs := by simp [getP, h4, itemsL, hit]
    rw [eg]
    clear h4 eg
    simp at hi
    simp [e4, hi, h1, h2]
  · have e4 : (v.k = 4) = False := eq_false h4
    have eg : getP [] v = [v] := by simp [getP, h4]
    rw [eg]
    clear h4 eg
    simp [e4]
theorem comesTo_doc (w : Bytes) (ws : List Bytes) (hws : ws.length < 4294967296) (ih : ∀ (d : Nat) (v : Val), okP d v = true → v.t.length < 1048576 → run E (.call 217 [xV v, .t (.list (ws.map strT))]) = some (.res [.row 38 ((getP ws v).map valT)] []))
    (d : Nat) (v : Val) (hok : okP d v = true) (hv : v.t.length < 1048576) (hk : v.k = 5) : run E (.call 217 [xV v, .t (.list ((w :: ws).map strT))]) = some (.res [.row 38 ((oneP w ws v).map valT)] []) := by
  rw [run_call E 217 _ rfl Tryz.func217 rfl rfl rfl (by simp)]
  have d9 := d217_10
  simp [regionOf, findR, pick, Tryz.f217] at d9
  have dd := fun st => run_region_draw E st 10 _ d9
  clear d9
  have d12 := d217_12
  simp [regionOf, findR, pick, Tryz.f217] at d12
  have de := fun st => run_region_draw E st 12 _ d12
  clear d12
  have hf := implField v w (by omega)
  rw [fieldI_ok hok hk] at hf
  have hpos : ¬ ((ws.length : Int) + 1 = 0) := by omega
  have hle : (1 : Int) ≤ (ws.length : Int) + 1 := by omega
  unfold oneP
  cases hx : fieldP v w with
  | none =>
    rw [hx] at hf
    simp only [optX] at hf
    have e5 : (v.k = 5) = True := eq_true hk
    clear hk
    simp [dd, de, e5, hf, hpos, hle]
  | some y =>
    have hl := fieldP_len hx
    obtain ⟨e, he⟩ := fieldP_ok hok hk hx
    have hy := ih e y he (by omega)
    rw [hx] at hf
    simp only [optX] at hf
    have htk : List.take ws.length (List.map strT ws) = List.map strT ws := List.take_of_length_le (by simp)
    have e5 : (v.k = 5) = True := eq_true hk
    clear hk
    simp [dd, de, e5, hf, hpos, hle, hy, htk]
theorem comesTo_cons (w : Bytes) (ws : List Bytes) (hws : ws.length < 4294967296) (ih : ∀ (d : Nat) (v : Val), okP d v = true → v.t.length < 1048576 → run E (.call 217 [xV v, .t (.list (ws.map strT))]) = some (.res [.row 38 ((getP ws v).map valT)] []))
    (d : Nat) (v : Val) (hok : okP d v = true) (hv : v.t.length < 1048576) : run E (.call 217 [xV v, .t (.list ((w :: ws).map strT))]) = some (.res [.row 38 ((getP (w :: ws) v).map valT)] []) := by
  rw [getP_cons]
  by_cases hk : v.k = 5
  · rw [if_pos hk]; exact comesTo_doc w ws hws ih d v hok hv hk
  rw [if_neg hk]
  rw [run_call E 217 _ rfl Tryz.func217 rfl rfl rfl (by simp)]
  have e5 : (v.k = 5) = False := eq_false hk
  have hpos : ¬ ((ws.length : Int) + 1 = 0) := by omega
  by_cases h4 : v.k = 4
  · rw [if_pos h4]
    obtain ⟨e, xs, _, _, hit, hxok⟩ := okP_list hok h4
    have hi := implItems v (by omega)
    rw [itemsI_some hit] at hi
    simp at hi
    obtain ⟨hl, hs⟩ := items_small hit
    have hsum := items_sum hit
    have hxs : itemsL v.t = xs := by simp [itemsL, hit]
    rw [hxs]
    have e4 : (v.k = 4) = True := eq_true h4
    clear h4 hk hxs
    obtain ⟨F, hF⟩ : ∃ F : Val → List Val, F = (fun x => if x.k = 5 then oneP w ws x else []) := ⟨_, rfl⟩
    have hF5 : ∀ x : Val, x.k = 5 → F x = oneP w ws x := by intro x h; rw [hF]; simp [h]
    have hFn : ∀ x : Val, ¬ x.k = 5 → F x = [] := by intro x h; rw [hF]; simp [h]
    have hFl : (xs.flatMap F).length ≤ 1048576 := by
      have := flat_le (f := F) (g := fun x => x.t.length + 1) (l := xs) (fun x _ => by
        by_cases h : x.k = 5
        · have h1 := getP_len (w :: ws) x
          rw [getP_cons, if_pos h] at h1
          rw [hF5 x h]; exact h1
        · rw [hFn x h]; simp)
      omega
    rw [← hF]
    clear hF
    have lp := fun (R : List Val) (hR : R = xs.flatMap F) => sk1 (fun s o q hI => loop_for (c := loopAt Tryz.f217 0) (N := 74)
      (fun i s o q => ∃ r acc, s 1 = .t (.list ((w :: ws).map strT)) ∧ s 5 = .row r ∧ s 58 = .row 2 ∧ s 59 = .t (.int .i64 xs.length) ∧ s 60 = .t (.int .i64 i) ∧ o r = .row 38 (acc.map valT) true ∧ o 2 = .row 38 (xs.map valT) true ∧ r < q ∧ r ≠ 2 ∧ 2 < q ∧ R = acc ++ (xs.drop i).flatMap F)
      (fun e s' o' q' => ∃ r, e = .exit 1 ∧ s' 5 = .row r ∧ o' r = .row 38 (R.map valT) true) xs.length
      (by
        rintro i s o q hi ⟨r, acc, h1, h5s, h58, h59, h60, ho, ho2, hrq, hr2, h2q, hp⟩
        have hi' : (i : Int) < (xs.length : Int) := by omega
        have hwi := wrap_succ (n := i) (by omega)
        have hxi : xs[i]? = some xs[i] := List.getElem?_eq_getElem hi
        have hrn : r ≠ q := by omega
        have hrn2 : r ≠ q + 1 := by omega
        have hqn : q ≠ r := by omega
        have hqn1 : q + 1 ≠ r := by omega
        have h2n : 2 ≠ q := by omega
        have h2n1 : 2 ≠ q + 1 := by omega
        have h2r : 2 ≠ r := fun h => hr2 h.symm
        have hxl := hs _ (List.getElem_mem hi)
        rw [List.drop_eq_getElem_cons hi, List.flatMap_cons, ← List.append_assoc] at hp
        by_cases h5 : xs[i].k = 5
        · have hd := comesTo_doc w ws hws ih e xs[i] (hxok _ (List.getElem_mem hi)) (by omega) h5
          have e5 : (xs[i].k = 5) = True := eq_true h5
          have hf := hF5 _ h5
          rw [← hf] at hd
          rw [List.map_cons] at hd
          have hcat : (acc.map valT).length + ((F xs[i]).map valT).length ≤ 140737488355328 := by
            have h1 := congrArg List.length hp
            simp [hR] at h1 hFl ⊢
            omega
          have hcat2 : ((acc.map valT).length + ((F xs[i]).map valT).length) * 32 ≤ 140737488355328 := by
            have h1 := congrArg List.length hp
            simp [hR] at h1 hFl ⊢
            omega
          simp only [List.length_map] at hcat hcat2
          clear h5
          simp [loopAt, loopsOf, Tryz.f217, h1, h5s, h58, h59, h60, ho, ho2, hi, hi', hwi, hxi, hrn, hrn2, hqn, hqn1, h2n, h2n1, h2r, hr2, e5, hd, hcat, hcat2]
          exact ⟨acc ++ F xs[i], by simp, by omega, by omega, hp⟩
        · have e5 : (xs[i].k = 5) = False := eq_false h5
          rw [hFn _ h5, List.append_nil] at hp
          clear h5
          simp [loopAt, loopsOf, Tryz.f217, h1, h5s, h58, h59, h60, ho, ho2, hi, hi', hwi, hxi, hrn, hrn2, hqn, hqn1, h2n, h2n1, h2r, hr2, e5]
          exact ⟨acc, rfl, by omega, by omega, hp⟩)
      (by
        rintro s o q ⟨r, acc, h1, h5s, h58, h59, h60, ho, ho2, hrq, hr2, h2q, hp⟩
        simp at hp
        simp [loopAt, loopsOf, Tryz.f217, h1, h5s, h58, h59, h60, ho, ho2, hp])
      xs.length 0 s o q (by omega) hI)
    simp only [loopAt, loopsOf, Tryz.f217] at lp
    obtain ⟨X, A, B, C, M, hx⟩ := lp _ rfl
    have hx' := fun s o q r a1 a5 a58 a59 a60 ao ao2 arq ar2 a2q => hx s o q ⟨r, [], a1, a5, a58, a59, a60, ao, ao2, arq, ar2, a2q, by simp⟩
    clear hx lp
    simp at hx'
    simp [e5, e4, hpos, hi, hx']
  · rw [if_neg h4]
    have e4 : (v.k = 4) = False := eq_false h4
    simp [e5, e4, hpos]
theorem comesTo : ∀ (ws : List Bytes) (d : Nat) (v : Val), ws.length < 4294967296 → okP d v = true → v.t.length < 1048576 → run E (.call 217 [xV v, .t (.list (ws.map strT))]) = some (.res [.row 38 ((getP ws v).map valT)] [])
  | [], d, v, _, hok, hv => comesTo_nil d v hok hv
  | w :: ws, d, v, hws, hok, hv => comesTo_cons w ws (by simp at hws; omega) (fun d v hok hv => comesTo ws d v (by simp at hws; omega) hok hv) d v hok hv
def sameV (a b : Val) : Bool := (a.k == b.k) && ((a.n == b.n) && (a.t == b.t))
/-- One value against a term whose value is v. -/
def oneT (op : Int) (v x : Val) : Bool :=
  if op = 1 then sameV x v
  else if op = 2 then sameV x v
  else if op = 3 then (x.k == v.k) && decide (ordD 5 x v < 0)
  else if op = 4 then (x.k == v.k) && decide (ordD 5 x v ≤ 0)
  else if op = 5 then (x.k == v.k) && decide (0 < ordD 5 x v)
  else if op = 6 then (x.k == v.k) && decide (0 ≤ ordD 5 x v)
  else if op = 7 then (itemsL v.t).any (fun y => sameV y x)
  else if op = 9 then x.k == v.n
  else (x.k == 4) && (((itemsL x.t).length : Int) == v.n)
abbrev valBox (x : Val) : Ob := .box 38 [.t (.int .i64 x.k), .t (.int .i64 x.n), .t (.str x.t)]
theorem okP_size {d : Nat} {v : Val} (h : okP d v = true) : v.t.length ≤ 300 := by
  by_cases h3 : v.k = 3
  · unfold okP at h; simp [h3] at h; exact h.2
  by_cases h4 : v.k = 4
  · obtain ⟨e, _, rfl, _⟩ := okP_list h h4
    unfold okP at h; simp [h4] at h; exact h.1.2
  by_cases h5 : v.k = 5
  · obtain ⟨e, _, rfl, _⟩ := okP_doc h h5
    unfold okP at h; simp [h5] at h; exact h.1.2
  rw [okP_small h h3 h4 h5]; simp
def keyI (v : Val) (f : Bool) : Bytes := if f then turnP (keyD 5 v) else keyD 5 v
def kindB (n : Int) (f : Bool) : Bytes := if f then turnP [byteAt n 0] else [byteAt n 0]
abbrev opnI : Ivl := ⟨[], [], true⟩
def flipO (op : Int) (f : Bool) : Int := if f then (if op = 3 then 5 else if op = 4 then 6 else if op = 5 then 3 else if op = 6 then 4 else op) else op
def implIv (t : Trm) (f : Bool) : Ivl :=
  if flipO t.op f = 1 then beginP (keyI t.v f)
  else if flipO t.op f = 9 then beginP (kindB (t.v.n + 1) f)
  else if flipO t.op f = 5 then { beginP ((keyI t.v f).take 1) with low := (beginP (keyI t.v f)).high }
  else if flipO t.op f = 6 then { beginP ((keyI t.v f).take 1) with low := keyI t.v f }
  else if flipO t.op f = 3 then { beginP ((keyI t.v f).take 1) with high := keyI t.v f }
  else if flipO t.op f = 4 then { beginP ((keyI t.v f).take 1) with high := (beginP (keyI t.v f)).high }
  else opnI
def specIv (t : Trm) (f : Bool) : Ivl :=
  if t.op = 1 then beginP (keyI t.v f)
  else if t.op = 3 ∨ t.op = 5 ∨ t.op = 4 ∨ t.op = 6 then
    if ((decide (t.op = 5) || decide (t.op = 6)) != f) = true then
      if t.op = 4 ∨ t.op = 6 then { beginP (kindB (t.v.k + 1) f) with low := (beginP (keyI t.v f)).low }
      else if (beginP (keyI t.v f)).opn then ⟨[], [], false⟩ else { beginP (kindB (t.v.k + 1) f) with low := (beginP (keyI t.v f)).high }
    else if t.op = 4 ∨ t.op = 6 then meetP (beginP (kindB (t.v.k + 1) f)) ⟨[], (beginP (keyI t.v f)).high, (beginP (keyI t.v f)).opn⟩
    else meetP (beginP (kindB (t.v.k + 1) f)) ⟨[], (beginP (keyI t.v f)).low, false⟩
  else if t.op = 9 then beginP (kindB (t.v.n + 1) f)
  else opnI
theorem keyI_len (v : Val) (f : Bool) (h : okP 5 v = true) : (keyI v f).length ≤ 3311 := by
  have h1 := keyD_len 5 v h
  have h2 := okP_size h
  unfold keyI
  cases f <;> simp [turnP] <;> omega
theorem specTermIv (t : Trm) (f : Bool) (hv : okP 5 t.v = true) (hn : -1000000000000 ≤ t.v.n ∧ t.v.n ≤ 1000000000000) : run E (.call 268 [.t (trmT t), xB f]) = some (.res [ivlX (specIv t f)] []) := by
  rw [run_call E 268 _ rfl Tryz.func268 rfl rfl rfl (by simp)]
  have hr := okP_range hv
  have hs := okP_size hv
  have hw : IntKind.i64.wrap (t.v.k + 1) = t.v.k + 1 := wrap_of (by omega) (by omega)
  have hw2 : IntKind.i64.wrap (t.v.n + 1) = t.v.n + 1 := wrap_of (by omega) (by omega)
  have h1 := l01Number (t.v.k + 1) 1 (by omega)
  have h2 := l01Number (t.v.n + 1) 1 (by omega)
  rw [numP_1] at h1 h2
  have hc1 : ((1 : Nat) : Int) = 1 := rfl
  rw [hc1] at h1 h2
  have h3 := l04Turned [byteAt (t.v.k + 1) 0] f (by simp)
  have h4 := l04Turned [byteAt (t.v.n + 1) 0] f (by simp)
  have h5 := l04Key 5 t.v f hv (by omega)
  have e3 : (if f then turnP [byteAt (t.v.k + 1) 0] else [byteAt (t.v.k + 1) 0]) = kindB (t.v.k + 1) f := rfl
  have e4 : (if f then turnP [byteAt (t.v.n + 1) 0] else [byteAt (t.v.n + 1) 0]) = kindB (t.v.n + 1) f := rfl
  have e5 : (if f then turnP (keyD 5 t.v) else keyD 5 t.v) = keyI t.v f := rfl
  rw [e3] at h3
  rw [e4] at h4
  rw [e5] at h5
  clear e3 e4 e5
  have hkl := keyI_len t.v f hv
  have hb1 : (kindB (t.v.k + 1) f).length = 1 := by unfold kindB; cases f <;> simp [turnP]
  have hb2 : (kindB (t.v.n + 1) f).length = 1 := by unfold kindB; cases f <;> simp [turnP]
  have h6 := l04Begin (kindB (t.v.k + 1) f) (by omega)
  have h7 := l04Begin (kindB (t.v.n + 1) f) (by omega)
  have h8 := l04Begin (keyI t.v f) (by omega)
  have m1 := l04Meet (beginP (kindB (t.v.k + 1) f)) ⟨[], (beginP (keyI t.v f)).high, (beginP (keyI t.v f)).opn⟩
  have m2 := l04Meet (beginP (kindB (t.v.k + 1) f)) ⟨[], (beginP (keyI t.v f)).low, false⟩
  unfold specIv
  generalize beginP (kindB (t.v.k + 1) f) = kd at *
  generalize beginP (kindB (t.v.n + 1) f) = kn at *
  generalize beginP (keyI t.v f) = on at *
  generalize meetP kd ⟨[], on.high, on.opn⟩ = mm1 at *
  generalize meetP kd ⟨[], on.low, false⟩ = mm2 at *
  obtain ⟨kl, kh, ko⟩ := kd
  obtain ⟨ol, oh, oo⟩ := on
  simp at m1 m2
  by_cases o1 : t.op = 1
  · have o3 : ¬ t.op = 3 := by omega
    simp [o1, hw, h1, h3, h5, h6, h8]
  · by_cases o3 : t.op = 3
    · cases f <;> simp [o3, hw, h1, h3, h5, h6, h8, m2] <;> try (cases oo <;> simp)
    · by_cases o5 : t.op = 5
      · cases f <;> simp [o5, hw, h1, h3, h5, h6, h8, m2] <;> try (cases oo <;> simp)
      · by_cases o4 : t.op = 4
        · cases f <;> simp [o4, hw, h1, h3, h5, h6, h8, m1]
        · by_cases o6 : t.op = 6
          · cases f <;> simp [o6, hw, h1, h3, h5, h6, h8, m1]
          · by_cases o9 : t.op = 9
            · simp [o9, hw, hw2, h1, h2, h3, h4, h5, h6, h7, h8]
            · have q1 : (t.op = 1) = False := eq_false o1
              have q3 : (t.op = 3) = False := eq_false o3
              have q4 : (t.op = 4) = False := eq_false o4
              have q5 : (t.op = 5) = False := eq_false o5
              have q6 : (t.op = 6) = False := eq_false o6
              have q9 : (t.op = 9) = False := eq_false o9
              simp [q1, q3, q4, q5, q6, q9, hw, h1, h3, h5, h6, h8]
theorem keyI_cons (v : Val) (f : Bool) (h : okP 5 v = true) : ∃ r, keyI v f = kindB (v.k + 1) f ++ r := by
  obtain ⟨r, hr⟩ := key_cons h
  unfold keyI kindB
  rw [hr]
  cases f
  · exact ⟨r, by simp⟩
  · exact ⟨turnP r, by simp [turnP]⟩
theorem kindB_len (n : Int) (f : Bool) : (kindB n f).length = 1 := by unfold kindB; cases f <;> simp [turnP]
theorem keyI_take (v : Val) (f : Bool) (h : okP 5 v = true) : (keyI v f).take 1 = kindB (v.k + 1) f := by
  obtain ⟨r, hr⟩ := keyI_cons v f h
  rw [hr, List.take_append_of_le_length (by rw [kindB_len]; omega), List.take_of_length_le (by rw [kindB_len]; omega)]
theorem implTermIv (t : Trm) (f : Bool) (hv : okP 5 t.v = true) (hn : -1000000000000 ≤ t.v.n ∧ t.v.n ≤ 1000000000000) : run E (.call 240 [.t (trmT t), xB f]) = some (.res [ivlX (implIv t f)] []) := by
  rw [run_call E 240 _ rfl Tryz.func240 rfl rfl rfl (by simp)]
  have hs := okP_size hv
  have hw2 : IntKind.i64.wrap (t.v.n + 1) = t.v.n + 1 := wrap_of (by omega) (by omega)
  have hu := u8_wrap (t.v.n + 1)
  have h1 := keyOf 5 t.v f hv (by omega)
  have e5 : (if f then turnP (keyD 5 t.v) else keyD 5 t.v) = keyI t.v f := rfl
  rw [e5] at h1
  clear e5
  have hkl := keyI_len t.v f hv
  have ht1 := keyI_take t.v f hv
  have hb1 := kindB_len (t.v.k + 1) f
  have hb2 := kindB_len (t.v.n + 1) f
  have hge : 1 ≤ (keyI t.v f).length := by
    have := congrArg List.length ht1
    simp at this
    omega
  have h2 := implBegins ((keyI t.v f).take 1) (by rw [ht1]; omega)
  have h3 := implBegins (keyI t.v f) (by omega)
  have h4 := fallen [byteAt (t.v.n + 1) 0] f (by simp)
  have e4 : (if f then turnP [byteAt (t.v.n + 1) 0] else [byteAt (t.v.n + 1) 0]) = kindB (t.v.n + 1) f := rfl
  rw [e4] at h4
  clear e4
  have h5 := implBegins (kindB (t.v.n + 1) f) (by omega)
  have hr1 : List.range 1 = [0] := rfl
  have n2 := n240_2
  have s2 := s240_2
  simp [regionOf, findR, pick, Tryz.f240] at n2 s2
  have dd := fun st => run_region_drawS E st 2 _ n2 s2
  clear n2 s2
  unfold implIv
  clear ht1
  generalize beginP ((keyI t.v f).take 1) = kd at *
  generalize beginP (kindB (t.v.n + 1) f) = kn at *
  generalize beginP (keyI t.v f) = on at *
  obtain ⟨kl, kh, ko⟩ := kd
  obtain ⟨ol, oh, oo⟩ := on
  simp at h4
  by_cases o1 : t.op = 1
  · cases f <;> simp [flipO, o1, h1, h2, h3, dd, hge]
  · by_cases o3 : t.op = 3
    · cases f <;> simp [flipO, o3, h1, h2, h3, dd, hge]
    · by_cases o5 : t.op = 5
      · cases f <;> simp [flipO, o5, h1, h2, h3, dd, hge]
      · by_cases o4 : t.op = 4
        · cases f <;> simp [flipO, o4, h1, h2, h3, dd, hge]
        · by_cases o6 : t.op = 6
          · cases f <;> simp [flipO, o6, h1, h2, h3, dd, hge]
          · by_cases o9 : t.op = 9
            · cases f <;> simp [flipO, o9, h1, h2, h3, h4, h5, dd, hge, hw2, hu, hr1]
            · have q1 : (t.op = 1) = False := eq_false o1
              have q3 : (t.op = 3) = False := eq_false o3
              have q4 : (t.op = 4) = False := eq_false o4
              have q5 : (t.op = 5) = False := eq_false o5
              have q6 : (t.op = 6) = False := eq_false o6
              have q9 : (t.op = 9) = False := eq_false o9
              cases f <;> simp [flipO, q1, q3, q4, q5, q6, q9, h1, h2, h3, dd, hge]
set_option maxHeartbeats 4000000
theorem behind_cons (h : UInt8) (r : Bytes) (hh : h < 255) : ∀ n, n ≤ r.length → ∃ x, behindN (h :: r) (n + 1) = some x ∧ (x = [h + 1] ∨ ∃ y, x = h :: y)
  | 0, _ => ⟨[h + 1], by simp [behindN, hh], .inl rfl⟩
  | n + 1, hn => by
    obtain ⟨x, h1, h2⟩ := behind_cons h r hh n (by omega)
    have hg : (h :: r)[n + 1]? = some r[n] := by simp [List.getElem?_eq_getElem (show n < r.length by omega)]
    by_cases hb : r[n] < 255
    · refine ⟨(h :: r).take (n + 1) ++ [r[n] + 1], ?_, .inr ⟨r.take n ++ [r[n] + 1], by simp⟩⟩
      rw [behindN]
      simp only [hg, if_pos hb]
    · refine ⟨x, ?_, h2⟩
      rw [behindN]
      simp only [hg, if_neg hb]
      exact h1
theorem begin_cons (h : UInt8) (r : Bytes) (hh : h < 255) : ∃ x, beginP (h :: r) = ⟨h :: r, x, false⟩ ∧ (x = [h + 1] ∨ ∃ y, x = h :: y) := by
  obtain ⟨x, h1, h2⟩ := behind_cons h r hh r.length (Nat.le_refl _)
  refine ⟨x, ?_, h2⟩
  have : behindP (h :: r) = some x := h1
  unfold beginP
  rw [this]
theorem begin_one (h : UInt8) (hh : h < 255) : beginP [h] = ⟨[h], [h + 1], false⟩ := by
  have : behindP [h] = some [h + 1] := by simp [behindP, behindN, hh]
  unfold beginP
  rw [this]
theorem less_cons (h : UInt8) (y : Bytes) (hh : h < 255) : Op.bytesLess [h + 1] (h :: y) = false := by
  cases hb : Op.bytesLess [h + 1] (h :: y) with
  | false => rfl
  | true =>
    exfalso
    have h1 := (bytesLess_iff _ _).1 hb
    have h3 : h.toNat < 255 := by simpa [UInt8.lt_iff_toNat_lt] using hh
    have h2 : h < h + 1 := by
      rw [UInt8.lt_iff_toNat_lt, UInt8.toNat_add]
      have : (1 : UInt8).toNat = 1 := rfl
      omega
    rcases List.cons_lt_cons_iff.1 h1 with h4 | ⟨h4, _⟩
    · rw [UInt8.lt_iff_toNat_lt] at h4 h2
      omega
    · have e := congrArg UInt8.toNat h4
      rw [UInt8.lt_iff_toNat_lt] at h2
      omega
theorem min_cons (h : UInt8) (x : Bytes) (hh : h < 255) (hx : x = [h + 1] ∨ ∃ y, x = h :: y) : minS [h + 1] x = x := by
  unfold minS
  rcases hx with rfl | ⟨y, rfl⟩
  · simp
  · have h3 : h.toNat < 255 := by simpa [UInt8.lt_iff_toNat_lt] using hh
    have hne : ([h + 1] == h :: y) = false := by
      rw [beq_eq_false_iff_ne]
      intro e
      injection e with e _
      have := congrArg UInt8.toNat e
      rw [UInt8.toNat_add] at this
      have h1 : (1 : UInt8).toNat = 1 := rfl
      omega
    rw [less_cons h y hh, hne]
    simp
theorem max_one (h : UInt8) : maxS [h] [] = [h] := by
  unfold maxS
  have : Op.bytesLess [h] [] = false := rfl
  rw [this]; rfl
theorem specIv_eq (t : Trm) (f : Bool) (hv : okP 5 t.v = true) : specIv t f = implIv t f := by
  have hr := okP_range hv
  obtain ⟨r, hk⟩ := keyI_cons t.v f hv
  obtain ⟨h, hh, hb⟩ : ∃ h : UInt8, h < 255 ∧ kindB (t.v.k + 1) f = [h] := by
    have hn := head_byte hv
    cases f with
    | false =>
      refine ⟨_, ?_, rfl⟩
      rw [UInt8.lt_iff_toNat_lt, hn]
      have : (255 : UInt8).toNat = 255 := rfl
      omega
    | true =>
      refine ⟨turnB (byteAt (t.v.k + 1) 0), ?_, rfl⟩
      rw [UInt8.lt_iff_toNat_lt]
      have h1 : (255 : UInt8).toNat = 255 := rfl
      have h2 : (turnB (byteAt (t.v.k + 1) 0)).toNat = 255 - (byteAt (t.v.k + 1) 0).toNat := by
        unfold turnB
        rw [UInt8.toNat_sub]
        have := (byteAt (t.v.k + 1) 0).toNat_lt
        omega
      omega
  have ht := keyI_take t.v f hv
  rw [hb] at hk ht
  have hk' : keyI t.v f = h :: r := by simpa using hk
  obtain ⟨x, hx, hx2⟩ := begin_cons h r hh
  have b1 := begin_one h hh
  have m1 := min_cons h x hh hx2
  have m2 := min_cons h (h :: r) hh (.inr ⟨r, rfl⟩)
  have m3 := max_one h
  unfold specIv implIv
  rw [ht, hb, hk', hx, b1]
  by_cases o1 : t.op = 1
  · cases f <;> simp [flipO, o1]
  · by_cases o3 : t.op = 3
    · cases f <;> simp [flipO, o3, meetP, m1, m2, m3]
    · by_cases o5 : t.op = 5
      · cases f <;> simp [flipO, o5, meetP, m1, m2, m3]
      · by_cases o4 : t.op = 4
        · cases f <;> simp [flipO, o4, meetP, m1, m2, m3]
        · by_cases o6 : t.op = 6
          · cases f <;> simp [flipO, o6, meetP, m1, m2, m3]
          · by_cases o9 : t.op = 9
            · cases f <;> simp [flipO, o9]
            · cases f <;> simp [flipO, o1, o3, o4, o5, o6, o9]
set_option maxHeartbeats 16000000
def saysB (t : Trm) : Bool := decide (t.op = 2) || decide (t.op = 7) || decide (t.op = 8) || decide (t.op = 10)
def hitB (p : Prt) (t : Trm) : Bool := t.path == p.path && !saysB t
def clauseI (p : Prt) (c : List Trm) : Ivl := match c.find? (hitB p) with
  | some t => implIv t p.desc
  | none => opnI
def clStep (p : Prt) (out : Ivl) (t : Trm) : Ivl := if ((t.path == p.path) && out.opn && (out.low == [])) = true then specIv t p.desc else out
theorem implIv_closed (t : Trm) (f : Bool) (hv : okP 5 t.v = true) (ho : opOK t.op t.v = true) (hs : saysB t = false) : (implIv t f).opn = false := by
  obtain ⟨r, hk⟩ := keyI_cons t.v f hv
  have ht := keyI_take t.v f hv
  have hr := okP_range hv
  have hb : ∀ n : Int, 1 ≤ n → n ≤ 6 → ∃ h : UInt8, h < 255 ∧ kindB n f = [h] := by
    intro n h1 h6
    have hn : (byteAt n 0).toNat = n.toNat := by
      have := byteAt_nat n 0 (by omega)
      simp at this
      omega
    cases f with
    | false =>
      refine ⟨_, ?_, rfl⟩
      rw [UInt8.lt_iff_toNat_lt, hn]
      have : (255 : UInt8).toNat = 255 := rfl
      omega
    | true =>
      refine ⟨turnB (byteAt n 0), ?_, rfl⟩
      rw [UInt8.lt_iff_toNat_lt]
      have h1 : (255 : UInt8).toNat = 255 := rfl
      have h2 : (turnB (byteAt n 0)).toNat = 255 - (byteAt n 0).toNat := by
        unfold turnB
        rw [UInt8.toNat_sub]
        have := (byteAt n 0).toNat_lt
        omega
      omega
  obtain ⟨h, hh, hkb⟩ := hb (t.v.k + 1) (by omega) (by omega)
  rw [hkb] at hk ht
  have hk' : keyI t.v f = h :: r := by simpa using hk
  obtain ⟨x, hx, _⟩ := begin_cons h r hh
  have b1 := begin_one h hh
  have hop : 1 ≤ t.op ∧ t.op ≤ 10 := by
    unfold opOK at ho
    split at ho
    · omega
    · split at ho
      · omega
      · split at ho
        · omega
        · split at ho
          · omega
          · simp at ho; omega
  unfold saysB at hs
  simp at hs
  obtain ⟨⟨⟨s2, s7⟩, s8⟩, s10⟩ := hs
  unfold implIv
  rw [ht, hk', hx, b1]
  by_cases o9 : t.op = 9
  · have hn9 : 0 ≤ t.v.n ∧ t.v.n ≤ 5 := by
      rw [o9] at ho
      simp [opOK] at ho
      exact ho.2
    obtain ⟨h2, hh2, hkb2⟩ := hb (t.v.n + 1) (by omega) (by omega)
    have b2 := begin_one h2 hh2
    have e : flipO t.op f = 9 := by cases f <;> simp [flipO, o9]
    simp [e, hkb2, b2]
  · have h6 : t.op = 1 ∨ t.op = 3 ∨ t.op = 4 ∨ t.op = 5 ∨ t.op = 6 := by omega
    rcases h6 with o | o | o | o | o <;> cases f <;> simp [flipO, o]
theorem fold_closed (p : Prt) : ∀ (c : List Trm) (out : Ivl), out.opn = false → c.foldl (clStep p) out = out
  | [], out, h => rfl
  | t :: r, out, h => by
    have : clStep p out t = out := by unfold clStep; simp [h]
    rw [List.foldl_cons, this]
    exact fold_closed p r out h
theorem specIv_says (t : Trm) (f : Bool) (h : saysB t = true) : specIv t f = opnI := by
  unfold saysB at h
  simp at h
  unfold specIv
  have h1 : ¬ t.op = 1 := by omega
  have h2 : ¬ (t.op = 3 ∨ t.op = 5 ∨ t.op = 4 ∨ t.op = 6) := by omega
  have h3 : ¬ t.op = 9 := by omega
  rw [if_neg h1, if_neg h2, if_neg h3]
theorem clause_eq (p : Prt) : ∀ (c : List Trm), (∀ t ∈ c, okP 5 t.v = true ∧ opOK t.op t.v = true) → c.foldl (clStep p) opnI = clauseI p c
  | [], _ => rfl
  | t :: r, h => by
    have ih := clause_eq p r (fun x hx => h x (by simp [hx]))
    obtain ⟨hv, ho⟩ := h t (by simp)
    rw [List.foldl_cons]
    unfold clauseI
    rw [List.find?_cons]
    cases hp : (t.path == p.path) with
    | false =>
      have e1 : clStep p opnI t = opnI := by unfold clStep; simp [hp]
      have e2 : hitB p t = false := by unfold hitB; simp [hp]
      rw [e1, e2]
      exact ih
    | true =>
      have e1 : clStep p opnI t = specIv t p.desc := by unfold clStep; simp [hp]
      rw [e1]
      cases hs : saysB t with
      | true =>
        have e2 : hitB p t = false := by unfold hitB; simp [hs]
        rw [e2, specIv_says t _ hs]
        exact ih
      | false =>
        have e2 : hitB p t = true := by unfold hitB; simp [hp, hs]
        rw [e2, specIv_eq t _ hv]
        simp only
        exact fold_closed p r _ (implIv_closed t _ hv ho hs)
abbrev ivlS (i : Ivl) : List SV := [.t (.str i.low), .t (.str i.high), .t (.bool i.opn)]
def trmS (t : Trm) : List SV := [.t (.int .i64 t.op), .t (.str t.path), .t (.int .i64 t.v.k), .t (.int .i64 t.v.n), .t (.str t.v.t)]
def termsOK (c : List Trm) : Prop := ∀ t ∈ c, okP 5 t.v = true ∧ opOK t.op t.v = true ∧ t.path.length < 4294967296
theorem specClause (c : List Trm) (p : Prt) (hl : c.length < 4294967296) (h : termsOK c) : run E (.call 228 [.t (clsT c), .t (prtT p)]) = some (.res [ivlX (clauseI p c)] []) := by
  rw [run_call E 228 _ rfl Tryz.func228 rfl rfl rfl (by simp)]
  have lp := fun (R : Ivl) (hR : R = c.foldl (clStep p) opnI) => sk (fun s o q hI => loop_for (c := loopAt Tryz.f228 0) (N := 40)
    (fun i s o q => ∃ cur : Ivl, s 2 = .ptr 0 0 ∧ s 3 = .ptr 1 0 ∧ s 4 = .ptr 2 0 ∧ s 5 = .ptr 3 0 ∧ s 6 = .t (.int .i64 i) ∧ o 0 = .box 151 [.t (.list (c.map trmT))] ∧ o 1 = .box 170 [.t (.str p.path), .t (.bool p.desc)] ∧ o 2 = .box 68 (ivlS ⟨[], [], false⟩) ∧ o 3 = .box 68 (ivlS cur) ∧ 3 < q ∧ R = (c.drop i).foldl (clStep p) cur)
    (fun e s' o' q' => e = .exit 0 ∧ s' 4 = .ptr 2 0 ∧ s' 5 = .ptr 3 0 ∧ o' 2 = .box 68 (ivlS ⟨[], [], false⟩) ∧ o' 3 = .box 68 (ivlS R)) c.length
    (by
      rintro i s o q hi ⟨cur, h2, h3, h4, h5, h6, o0, o1, o2, o3, hq, hp⟩
      have hi' : (i : Int) < (c.length : Int) := by omega
      have hwi := wrap_succ (n := i) (by omega)
      have hxi : c[i]? = some c[i] := List.getElem?_eq_getElem hi
      have g0 : ¬ 0 = q := by omega
      have g1 : ¬ 1 = q := by omega
      have g2 : ¬ 2 = q := by omega
      have g3 : ¬ 3 = q := by omega
      have g4 : 3 < q + 1 := by omega
      obtain ⟨hv, ho, hpl⟩ := h c[i] (List.getElem_mem hi)
      have hr := okP_range hv
      have hsp := specTermIv c[i] p.desc hv (by omega)
      rw [List.drop_eq_getElem_cons hi, List.foldl_cons] at hp
      obtain ⟨cl, ch, co⟩ := cur
      cases hpe : (c[i].path == p.path) with
      | false =>
        have e1 : clStep p ⟨cl, ch, co⟩ c[i] = ⟨cl, ch, co⟩ := by unfold clStep; simp [hpe]
        rw [e1] at hp
        simp [loopAt, loopsOf, Tryz.f228, h2, h3, h4, h5, h6, o0, o1, o2, o3, hi, hi', hwi, hxi, hpe, g0, g1, g2, g3, g4]
        exact ⟨⟨cl, ch, co⟩, ⟨rfl, rfl, rfl⟩, hp⟩
      | true =>
        cases co with
        | false =>
          have e1 : clStep p ⟨cl, ch, false⟩ c[i] = ⟨cl, ch, false⟩ := by unfold clStep; simp
          rw [e1] at hp
          simp [loopAt, loopsOf, Tryz.f228, h2, h3, h4, h5, h6, o0, o1, o2, o3, hi, hi', hwi, hxi, hpe, g0, g1, g2, g3, g4]
          exact ⟨⟨cl, ch, false⟩, ⟨rfl, rfl, rfl⟩, hp⟩
        | true =>
          cases hle : (cl == []) with
          | false =>
            have e1 : clStep p ⟨cl, ch, true⟩ c[i] = ⟨cl, ch, true⟩ := by unfold clStep; simp [hle]
            rw [e1] at hp
            simp [loopAt, loopsOf, Tryz.f228, h2, h3, h4, h5, h6, o0, o1, o2, o3, hi, hi', hwi, hxi, hpe, hle, g0, g1, g2, g3, g4]
            exact ⟨⟨cl, ch, true⟩, ⟨rfl, rfl, rfl⟩, hp⟩
          | true =>
            have e1 : clStep p ⟨cl, ch, true⟩ c[i] = specIv c[i] p.desc := by unfold clStep; simp [hle, hpe]
            rw [e1] at hp
            generalize specIv c[i] p.desc = iv at *
            obtain ⟨il, ih, io⟩ := iv
            simp [loopAt, loopsOf, Tryz.f228, h2, h3, h4, h5, h6, o0, o1, o2, o3, hi, hi', hwi, hxi, hpe, hle, hsp, g0, g1, g2, g3, g4]
            exact ⟨⟨il, ih, io⟩, ⟨rfl, rfl, rfl⟩, hp⟩)
    (by
      rintro s o q ⟨cur, h2, h3, h4, h5, h6, o0, o1, o2, o3, hq, hp⟩
      simp at hp
      subst hp
      simp [loopAt, loopsOf, Tryz.f228, h2, h3, h4, h5, h6, o0, o1, o2, o3])
    c.length 0 s o q (by omega) hI)
  simp only [loopAt, loopsOf, Tryz.f228] at lp
  obtain ⟨X, A, B, C, hl⟩ := lp _ rfl
  have hl' := fun s o q a0 a1 a2 a3 a4 a5 a6 a7 a8 a9 => hl s o q ⟨opnI, a0, a1, a2, a3, a4, a5, a6, a7, a8, a9, rfl⟩
  clear hl lp
  rw [clause_eq p c (fun t ht => ⟨(h t ht).1, (h t ht).2.1⟩)] at hl'
  generalize clauseI p c = R at *
  obtain ⟨rl, rh, ro⟩ := R
  simp at hl'
  simp [hl']
theorem implClause (c : List Trm) (p : Prt) (hl : c.length < 4294967296) (h : termsOK c) : run E (.call 195 [.t (clsT c), .t (prtT p)]) = some (.res [ivlX (clauseI p c)] []) := by
  rw [run_call E 195 _ rfl Tryz.func195 rfl rfl rfl (by simp)]
  have lp := fun (R : Option Trm) (hR : R = c.find? (hitB p)) => sk (fun s o q hI => loop_for (c := loopAt Tryz.f195 0) (N := 30)
    (fun i s o q => s 2 = .ptr 0 0 ∧ s 3 = .ptr 1 0 ∧ s 4 = .ptr 2 0 ∧ s 8 = .t (.list (c.map trmT)) ∧ s 9 = .t (.int .i64 c.length) ∧ s 10 = .t (.int .i64 i) ∧ o 1 = .box 170 [.t (.str p.path), .t (.bool p.desc)] ∧ o 2 = .box 68 (ivlS ⟨[], [], false⟩) ∧ 2 < q ∧ R = (c.drop i).find? (hitB p))
    (fun e s' o' q' => e = (if R.isSome then .ret else .exit 0) ∧ s' 4 = .ptr 2 0 ∧ o' 2 = .box 68 (ivlS (match R with
      | some t => implIv t p.desc
      | none => ⟨[], [], false⟩))) c.length
    (by
      rintro i s o q hi ⟨h2, h3, h4, h8, h9, h10, o1, o2, hq, hp⟩
      have hi' : (i : Int) < (c.length : Int) := by omega
      have hwi := wrap_succ (n := i) (by omega)
      have hxi : c[i]? = some c[i] := List.getElem?_eq_getElem hi
      have g1 : ¬ 1 = q := by omega
      have g2 : ¬ 2 = q := by omega
      have g4 : 2 < q + 1 := by omega
      obtain ⟨hv, ho, hpl⟩ := h c[i] (List.getElem_mem hi)
      have hr := okP_range hv
      have hsp := implTermIv c[i] p.desc hv (by omega)
      have hsa := saysAll c[i]
      have e0 : (decide (c[i].op = 2) || decide (c[i].op = 7) || decide (c[i].op = 8) || decide (c[i].op = 10)) = saysB c[i] := rfl
      rw [e0] at hsa
      clear e0
      rw [List.drop_eq_getElem_cons hi, List.find?_cons] at hp
      cases hpe : (c[i].path == p.path) with
      | false =>
        have e1 : hitB p c[i] = false := by unfold hitB; simp [hpe]
        rw [e1] at hp
        simp [loopAt, loopsOf, Tryz.f195, h2, h3, h4, h8, h9, h10, o1, o2, hi, hi', hwi, hxi, hpe, g1, g2, g4]
        exact hp
      | true =>
        cases hs : saysB c[i] with
        | true =>
          rw [hs] at hsa
          have e1 : hitB p c[i] = false := by unfold hitB; simp [hs]
          rw [e1] at hp
          simp [loopAt, loopsOf, Tryz.f195, h2, h3, h4, h8, h9, h10, o1, o2, hi, hi', hwi, hxi, hpe, hsa, g1, g2, g4]
          exact hp
        | false =>
          rw [hs] at hsa
          have e1 : hitB p c[i] = true := by unfold hitB; simp [hs, hpe]
          rw [e1] at hp
          simp only at hp
          rw [hp]
          simp [loopAt, loopsOf, Tryz.f195, h2, h3, h4, h8, h9, h10, o1, o2, hi, hi', hwi, hxi, hpe, hsa, hsp, g1, g2, g4])
    (by
      rintro s o q ⟨h2, h3, h4, h8, h9, h10, o1, o2, hq, hp⟩
      simp at hp
      subst hp
      simp [loopAt, loopsOf, Tryz.f195, h2, h3, h4, h8, h9, h10, o1, o2])
    c.length 0 s o q (by omega) hI)
  simp only [loopAt, loopsOf, Tryz.f195] at lp
  unfold clauseI
  cases hf : c.find? (hitB p) with
  | none =>
    obtain ⟨X, A, B, C, hx⟩ := lp none hf.symm
    have hx' := fun s o q a0 a1 a2 a3 a4 a5 a6 a7 a8 => hx s o q ⟨a0, a1, a2, a3, a4, a5, a6, a7, a8, hf.symm⟩
    simp at hx'
    simp [hx']
  | some t =>
    obtain ⟨X, A, B, C, hx⟩ := lp (some t) hf.symm
    have hx' := fun s o q a0 a1 a2 a3 a4 a5 a6 a7 a8 => hx s o q ⟨a0, a1, a2, a3, a4, a5, a6, a7, a8, hf.symm⟩
    simp at hx'
    simp [hx']
end Go.Md
