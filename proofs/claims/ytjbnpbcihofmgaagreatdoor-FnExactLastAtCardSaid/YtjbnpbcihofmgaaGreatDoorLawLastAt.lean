/- The last version of a document, by spec and by impl. -/
import Derived.Test.YtjbnpbcihofmgaaGreatDoorLawCollOK
set_option linter.unusedSimpArgs false
set_option linter.unusedVariables false
namespace Go.Zd
open Go.Ev Go.Proofs Go.Pu
set_option maxRecDepth 100000
set_option maxHeartbeats 16000000
abbrev zeroV : Ver := ⟨0, false, ⟨0, 0, []⟩⟩
abbrev goneV : Ver := ⟨0, true, ⟨0, 0, []⟩⟩
abbrev verBox (d : Ver) : Ob := .box 94 [.t (.int .i64 d.at_), .t (.bool d.gone), .t (.int .i64 d.v.k), .t (.int .i64 d.v.n), .t (.str d.v.t)]
abbrev chnBox (x : Chn) : Ob := .box 136 [.t (.int .i64 x.id), .t (.list (x.vs.map verT))]
def lastLe (t : Int) : Ver → List Ver → Ver
  | d, [] => d
  | d, x :: r => lastLe t (if x.at_ ≤ t then x else d) r
theorem specAt (x : Chn) (h : x.Sm) (t : Int) : run E (.call 170 [.t (chnT x), xI t]) = some (.res [verX (lastLe t goneV x.vs)] []) := by
  rw [run_call E 170 _ rfl Tryz.func170 rfl rfl rfl (by simp)]
  obtain ⟨m, hm⟩ : ∃ m, m = lastLe t goneV x.vs := ⟨_, rfl⟩
  have lp := sk (fun s o q hI => loop_for (c := loopAt Tryz.f170 0) (N := 29)
    (fun i s o q => ∃ d : Ver, s 1 = .t (.int .i64 t) ∧ s 2 = .ptr 0 0 ∧ s 4 = .ptr 1 0 ∧ s 5 = .ptr 2 0 ∧ s 6 = .t (.int .i64 i) ∧ o 0 = chnBox x ∧ o 1 = verBox zeroV ∧ o 2 = verBox d ∧ m = lastLe t d (x.vs.drop i))
    (fun e s' o' q' => e = .exit 0 ∧ s' 4 = .ptr 1 0 ∧ s' 5 = .ptr 2 0 ∧ o' 1 = verBox zeroV ∧ o' 2 = verBox m) x.vs.length
    (by
      rintro i s o q hi ⟨d, g1, g2, g4, g5, g6, o0, o1, o2, hp⟩
      have hi' : (i : Int) < (x.vs.length : Int) := by omega
      have hwi := wrap_succ (n := i) (by have := h.1; omega)
      have hxi : x.vs[i]? = some x.vs[i] := List.getElem?_eq_getElem hi
      rw [List.drop_eq_getElem_cons hi, lastLe] at hp
      by_cases hle : x.vs[i].at_ ≤ t
      · simp [hle] at hp
        simp [loopAt, loopsOf, Tryz.f170, g1, g2, g4, g5, g6, o0, o1, o2, hi', hxi, hwi, hle]
        exact ⟨x.vs[i], by simp, hp⟩
      · simp [hle] at hp
        simp [loopAt, loopsOf, Tryz.f170, g1, g2, g4, g5, g6, o0, o1, o2, hi', hxi, hwi, hle]
        exact ⟨d, by simp, hp⟩)
    (by
      rintro s o q ⟨d, g1, g2, g4, g5, g6, o0, o1, o2, hp⟩
      simp [lastLe] at hp
      simp [loopAt, loopsOf, Tryz.f170, g1, g2, g4, g5, g6, o0, o1, o2, hp])
    x.vs.length 0 s o q (by omega) hI)
  simp only [loopAt, loopsOf, Tryz.f170] at lp
  obtain ⟨X, A, B, C, hx⟩ := lp
  have hx' := fun s o q a1 a2 a4 a5 a6 b0 b1 b2 => hx s o q ⟨goneV, a1, a2, a4, a5, a6, b0, b1, b2, by simpa using hm⟩
  clear hx
  simp at hx'
  simp [hx', ← hm]
def findC (cs : List Chn) (id : Int) : Option Chn := cs.find? (fun x => x.id == id)
theorem specLast (c : Col) (h : c.Sm) (id : Int) : run E (.call 110 [.t (colT c), xI id]) = some (.res [verX (match findC c.chains id with
    | some x => lastLe 10000 goneV x.vs
    | none => goneV)] []) := by
  rw [run_call E 110 _ rfl Tryz.func110 rfl rfl rfl (by simp)]
  obtain ⟨m, hm⟩ : ∃ m, m = findC c.chains id := ⟨_, rfl⟩
  have lp := sk (fun s o q hI => loop_for (c := loopAt Tryz.f110 0) (N := 28)
    (fun i s o q => s 1 = .t (.int .i64 id) ∧ s 2 = .ptr 0 0 ∧ s 4 = .ptr 1 0 ∧ s 5 = .t (.int .i64 i) ∧ o 0 = colBox c ∧ o 1 = verBox zeroV ∧ m = findC (c.chains.drop i) id)
    (fun e s' o' q' => e = (match m with | some _ => .ret | none => .exit 0) ∧ s' 4 = .ptr 1 0 ∧ o' 1 = verBox (match m with | some x => lastLe 10000 goneV x.vs | none => zeroV)) c.chains.length
    (by
      rintro i s o q hi ⟨g1, g2, g4, g5, o0, o1, hp⟩
      have hi' : (i : Int) < (c.chains.length : Int) := by omega
      have hwi := wrap_succ (n := i) (by have := h.chains.1; omega)
      have hxi : c.chains[i]? = some c.chains[i] := List.getElem?_eq_getElem hi
      have hat := specAt c.chains[i] (h.chains.2 _ (List.getElem_mem hi)) 10000
      rw [List.drop_eq_getElem_cons hi, findC, List.find?_cons] at hp
      by_cases hid : c.chains[i].id = id
      · have hid' : (c.chains[i].id = id) = True := eq_true hid
        simp [hid] at hp
        clear hid
        simp [loopAt, loopsOf, Tryz.f110, g1, g2, g4, g5, o0, o1, hi', hxi, hwi, hid', hat, hp]
      · rw [show (c.chains[i].id == id) = false from by simp [hid]] at hp
        simp [loopAt, loopsOf, Tryz.f110, g1, g2, g4, g5, o0, o1, hi', hxi, hwi, hid]
        exact hp)
    (by
      rintro s o q ⟨g1, g2, g4, g5, o0, o1, hp⟩
      simp [findC] at hp
      simp [loopAt, loopsOf, Tryz.f110, g1, g2, g4, g5, o0, o1, hp])
    c.chains.length 0 s o q (by omega) hI)
  simp only [loopAt, loopsOf, Tryz.f110] at lp
  obtain ⟨X, A, B, C, hx⟩ := lp
  have hx' := fun s o q a1 a2 a4 a5 b0 b1 => hx s o q ⟨a1, a2, a4, a5, b0, b1, by simpa using hm⟩
  clear hx
  rw [← hm]
  clear hm
  cases m with
  | none => simp at hx'; simp [hx']
  | some x => simp at hx'; simp [hx']
end Go.Zd
/- impl's search by halves over chains. -/
set_option linter.unusedSimpArgs false
set_option linter.unusedVariables false
namespace Go.Zd
open Go.Ev Go.Proofs Go.Pu
set_option maxRecDepth 100000
set_option maxHeartbeats 16000000
def cmpI (a b : Int) : Int := if a < b then -1 else if b < a then 1 else 0
theorem cmpI_lt (a b : Int) : (cmpI a b < 0) = (a < b) := by
  unfold cmpI
  by_cases h : a < b
  · simp [h]
  · by_cases h2 : b < a <;> simp [h, h2]
theorem cmpI_eq (a b : Int) : (cmpI a b = 0) = (a = b) := by
  unfold cmpI
  by_cases h : a < b
  · have : a ≠ b := by omega
    simp [h, this]
  · by_cases h2 : b < a
    · have : a ≠ b := by omega
      simp [h, h2, this]
    · have : a = b := by omega
      simp [h, h2, this]
theorem isNaNInt (a : Int) : run E (.call 245 [xI a]) = some (.res [xB false] []) := by
  rw [run_call E 245 _ rfl Tryz.func245 rfl rfl rfl (by simp)]
  simp
theorem compareInt (a b : Int) : run E (.call 193 [xI a, xI b]) = some (.res [xI (cmpI a b)] []) := by
  rw [run_call E 193 _ rfl Tryz.func193 rfl rfl rfl (by simp)]
  have h1 := isNaNInt a
  have h2 := isNaNInt b
  unfold cmpI
  by_cases h : a < b
  · simp [h1, h2, h]
  · by_cases h' : b < a <;> simp [h1, h2, h, h']
theorem chainClosure (c : Chn) (id : Int) : run E (.call 222 [.t (chnT c), xI id]) = some (.res [xI (cmpI c.id id)] []) := by
  rw [run_call E 222 _ rfl Tryz.func222 rfl rfl rfl (by simp)]
  simp [compareInt c.id id]
def seekC (fs : List Chn) (id : Int) : Nat := halves (fun k => match fs[k]? with
  | some f => decide (f.id < id)
  | none => false) (fs.length + 1) 0 fs.length
def thereC (fs : List Chn) (id : Int) : Bool := match fs[seekC fs id]? with
  | some f => f.id == id
  | none => false
theorem binaryChains (fs : List Chn) (id : Int) (hl : fs.length < 4294967296) : run E (.call 221 [.t (.list (fs.map chnT)), xI id, .fn 222 []]) = some (.res [xI (seekC fs id : Nat), xB (thereC fs id)] []) := by
  rw [run_call E 221 _ rfl Tryz.func221 rfl rfl rfl (by simp)]
  have lp := sk (fun s o q hI => loop_wf (c := loopAt Tryz.f221 0) (N := 49)
    (fun k s o q => ∃ i j : Nat, s 0 = .t (.list (fs.map chnT)) ∧ s 1 = .t (.int .i64 id) ∧ s 2 = .fn 222 [] ∧ s 8 = .t (.int .i64 fs.length) ∧ s 9 = .t (.int .i64 i) ∧ s 10 = .t (.int .i64 j) ∧ j ≤ fs.length ∧ i ≤ j ∧ k = j - i ∧ ∃ n, k < n ∧ halves (fun k => match fs[k]? with
        | some f => decide (f.id < id)
        | none => false) n i j = seekC fs id)
    (fun e s' o' q' => e = .exit 0 ∧ s' 0 = .t (.list (fs.map chnT)) ∧ s' 1 = .t (.int .i64 id) ∧ s' 2 = .fn 222 [] ∧ s' 8 = .t (.int .i64 fs.length) ∧ s' 9 = .t (.int .i64 (seekC fs id : Nat)))
    (by
      rintro k s o q ⟨i, j, h0, h1, h2, h8, h9, h10, hj, hij, hk, n, hn, hh⟩
      cases n with
      | zero => omega
      | succ n =>
        unfold halves at hh
        by_cases hlt : i < j
        · have hlt' : (i : Int) < (j : Int) := by omega
          have hw1 : IntKind.i64.wrap ((i : Int) + (j : Int)) = ((i + j : Nat) : Int) := by rw [wrap_of (by omega) (by omega)]; omega
          have hw2 := wrap_u64 (n := i + j) (by omega)
          obtain ⟨m, hme⟩ : ∃ m, m = (i + j) / 2 := ⟨_, rfl⟩
          have hm : m < fs.length := by omega
          have hw3 := wrap_nat (n := m) (by omega)
          have hw4 := wrap_succ (n := m) (by omega)
          have hfd : ((i : Int) + (j : Int)).fdiv 2 = (m : Int) := by rw [Int.fdiv_eq_ediv_of_nonneg _ (by omega)]; omega
          have hed : ((i : Int) + (j : Int)) / 2 = (m : Int) := by omega
          have hx : fs[m]? = some fs[m] := List.getElem?_eq_getElem hm
          have hc := chainClosure fs[m] id
          rw [if_pos hlt, ← hme] at hh
          simp only [hx] at hh
          simp only [Int.natCast_add] at hw1 hw2
          by_cases hb : fs[m].id < id
          · have hcl : cmpI fs[m].id id < 0 := by rw [cmpI_lt]; exact hb
            simp [hb] at hh
            simp [loopAt, loopsOf, Tryz.f221, h0, h1, h2, h8, h9, h10, hlt', pow_u64, hw1, hw2, hfd, hed, hw3, hw4, hx, hc, hcl, hm]
            exact ⟨j - (m + 1), by omega, m + 1, by simp, j, rfl, hj, by omega, rfl, n, by omega, hh⟩
          · have hcl : ¬ cmpI fs[m].id id < 0 := by rw [cmpI_lt]; exact hb
            simp [hb] at hh
            simp [loopAt, loopsOf, Tryz.f221, h0, h1, h2, h8, h9, h10, hlt', pow_u64, hw1, hw2, hfd, hed, hw3, hw4, hx, hc, hcl, hm]
            exact ⟨m - i, by omega, i, rfl, m, rfl, by omega, by omega, rfl, n, by omega, hh⟩
        · have hlt' : ¬ (i : Int) < (j : Int) := by omega
          rw [if_neg hlt] at hh
          simp [loopAt, loopsOf, Tryz.f221, h0, h1, h2, h8, h9, h10, hlt', ← hh])
    fs.length s o q hI)
  simp only [loopAt, loopsOf, Tryz.f221] at lp
  obtain ⟨X, A, B, C, hx⟩ := lp
  have hx' := fun s o q a0 a1 a2 a8 a9 a10 => hx s o q ⟨0, fs.length, a0, a1, a2, a8, a9, a10, Nat.le_refl _, Nat.zero_le _, by omega, fs.length + 1, by omega, rfl⟩
  clear hx
  simp at hx'
  unfold thereC
  by_cases hs : seekC fs id < fs.length
  · have hs' : (seekC fs id : Int) < (fs.length : Int) := by omega
    have hg : fs[seekC fs id]? = some fs[seekC fs id] := List.getElem?_eq_getElem hs
    have hc := chainClosure fs[seekC fs id] id
    have heq : (cmpI fs[seekC fs id].id id == 0) = (fs[seekC fs id].id == id) := by
      rw [Bool.eq_iff_iff]; simp [cmpI_eq]
    simp [hx', hs, hs', hg, hc, heq]
  · have hs' : ¬ (seekC fs id : Int) < (fs.length : Int) := by omega
    have hg : fs[seekC fs id]? = none := List.getElem?_eq_none (by omega)
    simp [hx', hs, hs', hg]
theorem chains_rise : ∀ (l : List Chn) (p : Option Int), chainsGo p l = true → (∀ q, p = some q → ∀ c ∈ l, q < c.id) ∧ l.Pairwise (fun a b => a.id < b.id)
  | [], p, _ => by simp
  | c :: r, p, h => by
    simp only [chainsGo, Bool.and_eq_true] at h
    obtain ⟨⟨_, h2⟩, h3⟩ := h
    obtain ⟨i1, i2⟩ := chains_rise r _ h3
    have i1' := i1 c.id rfl
    refine ⟨?_, List.pairwise_cons.2 ⟨i1', i2⟩⟩
    rintro q rfl d hd
    simp at h2
    rcases List.mem_cons.1 hd with rfl | hd
    · omega
    · have := i1' d hd; omega
def placeC (fs : List Chn) (id : Int) : Nat := (fs.takeWhile (fun f => decide (f.id < id))).length
theorem placeC_le (fs : List Chn) (id : Int) : placeC fs id ≤ fs.length := (List.takeWhile_sublist _).length_le
theorem place_there : ∀ (l : List Chn) (id : Int), l.Pairwise (fun a b => a.id < b.id) → (match l[placeC l id]? with
    | some c => if c.id == id then some c else none
    | none => none) = findC l id
  | [], id, _ => rfl
  | x :: r, id, h => by
    obtain ⟨h1, h2⟩ := List.pairwise_cons.1 h
    have ih := place_there r id h2
    unfold placeC findC at *
    by_cases hlt : x.id < id
    · have hne : (x.id == id) = false := by simp; omega
      simp only [List.takeWhile_cons, hlt, decide_true, if_true, List.length_cons, List.getElem?_cons_succ, List.find?_cons, hne]
      exact ih
    · simp only [List.takeWhile_cons, hlt, decide_false, Bool.false_eq_true, if_false, List.length_nil, List.getElem?_cons_zero, List.find?_cons]
      by_cases he : x.id = id
      · simp [he]
      · have hne : (x.id == id) = false := by simp [he]
        simp only [hne, Bool.false_eq_true, if_false]
        symm
        rw [List.find?_eq_none]
        intro y hy
        have := h1 y hy
        simp; omega
theorem place_lt : ∀ (l : List Chn) (id : Int), l.Pairwise (fun a b => a.id < b.id) → ∀ k c, l[k]? = some c → (c.id < id ↔ k < placeC l id)
  | [], id, _, k, c, h => by simp at h
  | x :: r, id, h, k, c, hk => by
    obtain ⟨h1, h2⟩ := List.pairwise_cons.1 h
    unfold placeC
    by_cases hlt : x.id < id
    · cases k with
      | zero => simp at hk; subst hk; simp [hlt]
      | succ k =>
        have ih := place_lt r id h2 k c (by simpa using hk)
        unfold placeC at ih
        simp [hlt, ih]
    · cases k with
      | zero => simp at hk; subst hk; simp [hlt]
      | succ k =>
        have := h1 c (List.mem_of_getElem? (by simpa using hk))
        simp [hlt]; omega
theorem seekC_eq (l : List Chn) (id : Int) (h : l.Pairwise (fun a b => a.id < b.id)) : seekC l id = placeC l id := by
  unfold seekC
  refine halves_ok (p := placeC l id) (m := l.length) ?_ ?_ _ _ _ (Nat.zero_le _) (placeC_le l id) (Nat.le_refl _) (by omega)
  · intro k hk
    have hlt : k < l.length := Nat.lt_of_lt_of_le hk (placeC_le l id)
    have hg : l[k]? = some l[k] := List.getElem?_eq_getElem hlt
    simp only [hg]
    exact decide_eq_true ((place_lt l id h k _ hg).2 hk)
  · intro k hk hkl
    have hg : l[k]? = some l[k] := List.getElem?_eq_getElem hkl
    simp only [hg]
    refine decide_eq_false fun hb => ?_
    have := (place_lt l id h k _ hg).1 hb
    omega
/-- What a search by halves finds is what a plain search finds. -/
theorem seek_find (l : List Chn) (id : Int) (h : l.Pairwise (fun a b => a.id < b.id)) : (thereC l id = true → l[seekC l id]? = findC l id ∧ seekC l id < l.length) ∧ (thereC l id = false → findC l id = none) := by
  have hp := place_there l id h
  unfold thereC
  rw [seekC_eq l id h]
  cases hg : l[placeC l id]? with
  | none => rw [hg] at hp; simp at hp; simp [← hp]
  | some c =>
    rw [hg] at hp
    simp only at hp
    by_cases he : c.id = id
    · simp [he] at hp
      have := (List.getElem?_eq_some_iff.1 hg).1
      simp [he, ← hp, this]
    · simp [he] at hp
      simp [he, ← hp]
end Go.Zd
/- The law FnExactLastAt, run over plain data: it answers true. -/
set_option linter.unusedSimpArgs false
set_option linter.unusedVariables false
namespace Go.Zd
open Go.Ev Go.Proofs Go.Pu
set_option maxRecDepth 100000
set_option maxHeartbeats 16000000
theorem lastLe_all : ∀ (vs : List Ver) (d : Ver) (t : Int), (∀ x ∈ vs, x.at_ ≤ t) → lastLe t d vs = vs.getLastD d
  | [], d, t, _ => rfl
  | x :: r, d, t, h => by
    have := h x (by simp)
    rw [lastLe, if_pos this, lastLe_all r x t (fun y hy => h y (by simp [hy])), List.getLastD_cons]
theorem vers_in : ∀ (D : Bool → Val → Bool) (vs : List Ver) (p : Option Int), versGo D p vs = true → ∀ x ∈ vs, 1 ≤ x.at_ ∧ x.at_ ≤ 10000
  | D, [], p, _, x, hx => by simp at hx
  | D, y :: r, p, h, x, hx => by
    simp only [versGo, Bool.and_eq_true] at h
    obtain ⟨⟨⟨h1, _⟩, _⟩, h4⟩ := h
    rcases List.mem_cons.1 hx with rfl | hx
    · simp [in1] at h1; exact h1
    · exact vers_in D r _ h4 x hx
theorem chains_ok : ∀ (l : List Chn) (p : Option Int), chainsGo p l = true → ∀ x ∈ l, chainOK x = true
  | [], p, _, x, hx => by simp at hx
  | c :: r, p, h, x, hx => by
    simp only [chainsGo, Bool.and_eq_true] at h
    rcases List.mem_cons.1 hx with rfl | hx
    · exact h.1.1
    · exact chains_ok r _ h.2 x hx
/-- A chain that fits has a last version, which has a time. -/
theorem chain_last {x : Chn} (h : chainOK x = true) : ∃ y, x.vs[x.vs.length - 1]? = some y ∧ 0 < x.vs.length ∧ lastLe 10000 goneV x.vs = y ∧ y.at_ ≠ 0 := by
  unfold chainOK at h
  simp only [Bool.and_eq_true] at h
  obtain ⟨⟨_, h2⟩, h3⟩ := h
  simp [in1] at h2
  have hin := vers_in _ _ _ h3
  have hpos : 0 < x.vs.length := by omega
  obtain ⟨y, hy⟩ : ∃ y, x.vs.getLast? = some y := by
    cases hl : x.vs.getLast? with
    | none => simp at hl; simp [hl] at hpos
    | some y => exact ⟨y, rfl⟩
  have hm : y ∈ x.vs := List.mem_of_getLast? hy
  refine ⟨y, by rw [← List.getLast?_eq_getElem?]; exact hy, hpos, ?_, by have := (hin y hm).1; omega⟩
  rw [lastLe_all x.vs goneV 10000 (fun z hz => (hin z hz).2), List.getLastD_eq_getLast?, hy]
  rfl
def lastOut (c : Col) (id : Int) : Ver × Int := if collOK c then (match findC c.chains id with
  | some x => (lastLe 10000 goneV x.vs, 0)
  | none => (zeroV, 5)) else (zeroV, 1)
theorem coll_chains {c : Col} (h : collOK c = true) : chainsGo none c.chains = true := by
  unfold collOK at h
  simp only [Bool.and_eq_true] at h
  exact h.2
theorem findC_ok {c : Col} {id : Int} {x : Chn} (h : collOK c = true) (hx : findC c.chains id = some x) : chainOK x = true :=
  chains_ok _ _ (coll_chains h) x (List.mem_of_find?_eq_some hx)
theorem specLastAt (c : Col) (h : c.Sm) (id : Int) : run E (.call 49 [.t (colT c), xI id]) = some (.res [verX (lastOut c id).1, xI (lastOut c id).2] []) := by
  rw [run_call E 49 _ rfl Tryz.func49 rfl rfl rfl (by simp)]
  have h1 := specCollOK c h
  have h2 := specLast c h id
  unfold lastOut
  cases hok : collOK c with
  | false => rw [hok] at h1; simp [h1]
  | true =>
    rw [hok] at h1
    cases hf : findC c.chains id with
    | none => rw [hf] at h2; simp [h1, h2]
    | some x =>
      obtain ⟨y, _, _, hy, hne⟩ := chain_last (findC_ok hok hf)
      rw [hf] at h2
      simp [hy] at h2
      simp [h1, h2, hy, hne]
theorem chainAt (c : Col) (h : c.Sm) (id : Int) : run E (.call 171 [.t (colT c), xI id]) = some (.res [xI (seekC c.chains id : Nat), xB (thereC c.chains id)] []) := by
  rw [run_call E 171 _ rfl Tryz.func171 rfl rfl rfl (by simp)]
  simp [binaryChains c.chains id h.chains.1]
theorem implLast (c : Col) (h : c.Sm) (id : Int) (hok : collOK c = true) : run E (.call 111 [.t (colT c), xI id]) = some (.res [verX (match findC c.chains id with
    | some x => lastLe 10000 goneV x.vs
    | none => zeroV), xB (findC c.chains id).isSome] []) := by
  rw [run_call E 111 _ rfl Tryz.func111 rfl rfl rfl (by simp)]
  have h1 := chainAt c h id
  obtain ⟨s1, s2⟩ := seek_find c.chains id (chains_rise _ _ (coll_chains hok)).2
  cases ht : thereC c.chains id with
  | false =>
    rw [ht] at h1
    have hf := s2 ht
    simp [h1, hf]
  | true =>
    rw [ht] at h1
    obtain ⟨hg, hlt⟩ := s1 ht
    cases hf : findC c.chains id with
    | none => rw [hf, List.getElem?_eq_getElem hlt] at hg; cases hg
    | some x =>
      rw [hf] at hg
      obtain ⟨y, hy, hpos, hl, _⟩ := chain_last (findC_ok hok hf)
      have hxs : x.vs.length < 4294967296 := by
        have : x ∈ c.chains := List.mem_of_getElem? hg
        exact (h.chains.2 x this).1
      have hlt' : (seekC c.chains id : Int) < (c.chains.length : Int) := by omega
      have hw : IntKind.i64.wrap ((x.vs.length : Int) - 1) = ((x.vs.length - 1 : Nat) : Int) := by rw [wrap_of (by omega) (by omega)]; omega
      have hlt2 : x.vs.length - 1 < x.vs.length := by omega
      have hlt3 : ((x.vs.length - 1 : Nat) : Int) < (x.vs.length : Int) := by omega
      have hge : c.chains[seekC c.chains id] = x := (List.getElem?_eq_some_iff.1 hg).2
      generalize x.vs.length - 1 = k at *
      have hye : x.vs[k] = y := (List.getElem?_eq_some_iff.1 hy).2
      simp [hye, h1, hg, hge, hlt, hlt', hw, hy, hl, hlt2, hlt3]
theorem implLastAt (c : Col) (h : c.Sm) (id : Int) : run E (.call 50 [.t (colT c), xI id]) = some (.res [verX (lastOut c id).1, xI (lastOut c id).2] []) := by
  rw [run_call E 50 _ rfl Tryz.func50 rfl rfl rfl (by simp)]
  have h1 := implCollOK c h
  unfold lastOut
  cases hok : collOK c with
  | false => rw [hok] at h1; simp [h1]
  | true =>
    rw [hok] at h1
    have h2 := implLast c h id hok
    cases hf : findC c.chains id with
    | none => rw [hf] at h2; simp at h2; simp [h1, h2]
    | some x => rw [hf] at h2; simp at h2; simp [h1, h2]
theorem lawLastAt (c : Col) (h : c.Wd) (id : Int) : run E (.call 10 [.t (colT c), xI id]) = some (.res [xB true] []) := by
  rw [run_call E 10 _ rfl Tryz.func10 rfl rfl rfl (by simp)]
  have h1 := szColl c h 1048576 (by omega) (by omega)
  by_cases hn : szCol c 1048576 < 0
  · simp [h1, hn]
  · have hs := szCol_sm (by omega) (by omega) hn
    have h2 := toColl c hs
    have h3 := specLastAt c hs id
    have h4 := implLastAt c hs id
    have h5 := eqColl c hs
    have h6 := eqVersion (lastOut c id).1
    have d10 := d10_10
    simp [regionOf, findR, pick, Tryz.f10] at d10
    have dd := fun st => run_region_draw E st 10 _ d10
    clear d10
    generalize lastOut c id = r at *
    obtain ⟨a, b⟩ := r
    simp at h3 h4 h6
    simp [h1, hn, h2, h3, h4, h5, h6, dd]
end Go.Zd
