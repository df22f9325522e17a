/- Chains of versions: impl's chainOK, CollOK. -/
import Derived.Test.YtjbnpbcihofmgaaGreatDoorPartG
set_option linter.unusedSimpArgs false
set_option linter.unusedVariables false
namespace Go.Zd
open Go.Ev Go.Proofs Go.Pu
set_option maxRecDepth 100000
set_option maxHeartbeats 16000000
def in1 (lo hi n : Int) : Bool := decide (lo ≤ n) && decide (n ≤ hi)
def versGo (D : Bool → Val → Bool) : Option Int → List Ver → Bool
  | _, [] => true
  | p, x :: r => in1 1 10000 x.at_ && (match p with
      | none => true
      | some q => !decide (x.at_ ≤ q)) && D x.gone x.v && versGo D (some x.at_) r
def chainOK (c : Chn) : Bool := in1 0 19 c.id && in1 1 12 c.vs.length && versGo (fun g v => verDoc c.id g v) none c.vs
def chainsGo : Option Int → List Chn → Bool
  | _, [] => true
  | p, c :: r => chainOK c && (match p with
      | none => true
      | some q => !decide (c.id ≤ q)) && chainsGo (some c.id) r
def defsGo : List Dfn → List Dfn → Bool
  | _, [] => true
  | pre, d :: r => defOK d && !(pre.any (fun x => x.name == d.name)) && defsGo (pre ++ [d]) r
def collOK (c : Col) : Bool := nameP c.name && decide (c.chains.length ≤ 20) && decide (c.defs.length ≤ 3) && defsGo [] c.defs && chainsGo none c.chains
theorem isTime (n : Int) : run E (.call 151 [xI n]) = some (.res [xB (in1 1 10000 n)] []) := by
  rw [run_call E 151 _ rfl Tryz.func151 rfl rfl rfl (by simp)]
  simp [inRange, in1]
theorem chainOK_eq (c : Chn) : (versGo (fun g v => verDocI g v c.id) none c.vs && (in1 0 19 c.id && in1 1 12 c.vs.length)) = chainOK c := by
  unfold chainOK
  cases h : in1 0 19 c.id with
  | false => simp
  | true =>
    have h0 : 0 ≤ c.id := by simp [in1] at h; exact h.1
    have e : (fun g v => verDocI g v c.id) = (fun g v => verDoc c.id g v) := by
      funext g v; exact verDocI_eq g v c.id h0
    rw [e]
    cases in1 1 12 (c.vs.length : Int) <;> cases versGo (fun g v => verDoc c.id g v) none c.vs <;> rfl
theorem implChain_loop (c : Chn) (h : c.Sm) (b : Bool) (hb : b = versGo (fun g v => verDocI g v c.id) none c.vs) : ∀ s o q, (s 1 = .ptr 0 0 ∧ s 6 = .t (.list (c.vs.map verT)) ∧ s 7 = .t (.int .i64 c.vs.length) ∧ s 8 = .t (.int .i64 0) ∧ o 0 = .box 136 [.t (.int .i64 c.id), .t (.list (c.vs.map verT))] ∧ 0 < q) →
    ∃ e s' o' q', run E (.code (.loop (loopAt Tryz.f95 0)) ⟨s, o, q, 53⟩) = some (.st e ⟨s', o', q', 53⟩) ∧ e = (if b then .exit 0 else .ret) ∧ s' 1 = .ptr 0 0 ∧ o' 0 = .box 136 [.t (.int .i64 c.id), .t (.list (c.vs.map verT))] ∧ (b = false → s' 2 = .t (.bool false)) := by
  intro s o q hI
  have d4 := d95_4
  simp [regionOf, findR, pick, Tryz.f95] at d4
  have dd := fun st => run_region_draw E st 4 _ d4
  clear d4
  refine loop_for (c := loopAt Tryz.f95 0) (N := 53)
    (fun i s o q => s 1 = .ptr 0 0 ∧ s 6 = .t (.list (c.vs.map verT)) ∧ s 7 = .t (.int .i64 c.vs.length) ∧ s 8 = .t (.int .i64 i) ∧ o 0 = .box 136 [.t (.int .i64 c.id), .t (.list (c.vs.map verT))] ∧ 0 < q ∧ b = versGo (fun g v => verDocI g v c.id) (match i with | 0 => none | j + 1 => (c.vs[j]?).map (·.at_)) (c.vs.drop i))
    (fun e s' o' q' => e = (if b then .exit 0 else .ret) ∧ s' 1 = .ptr 0 0 ∧ o' 0 = .box 136 [.t (.int .i64 c.id), .t (.list (c.vs.map verT))] ∧ (b = false → s' 2 = .t (.bool false))) c.vs.length ?_ ?_
    c.vs.length 0 s o q (by omega) ⟨hI.1, hI.2.1, hI.2.2.1, hI.2.2.2.1, hI.2.2.2.2.1, hI.2.2.2.2.2, by simpa using hb⟩
  · rintro i s o q hi ⟨h1, h6, h7, h8, ho, hq, hp⟩
    have hq0 : q ≠ 0 := by omega
    have h0q : 0 ≠ q := by omega
    have hxi : c.vs[i]? = some c.vs[i] := List.getElem?_eq_getElem hi
    have hi' : (i : Int) < (c.vs.length : Int) := by omega
    have hw := wrap_succ (n := i) (by have := h.1; omega)
    have ht := isTime c.vs[i].at_
    have hdoc := implDocOK c.vs[i].gone c.vs[i].v c.id (h.2 _ (List.getElem_mem hi))
    rw [List.drop_eq_getElem_cons hi] at hp
    cases i with
    | zero =>
      simp only [versGo] at hp
      cases hT : in1 1 10000 c.vs[0].at_ <;> cases hD : verDocI c.vs[0].gone c.vs[0].v c.id <;> simp [hT, hD] at hp ht hdoc <;> simp [loopAt, loopsOf, Tryz.f95, dd, h1, h6, h7, h8, ho, hq0, h0q, hi, hi', hw, ht, hdoc, hp, hxi]
    | succ j =>
      have hj : j < c.vs.length := by omega
      have hxj : c.vs[j]? = some c.vs[j] := List.getElem?_eq_getElem hj
      have hpos : (0 : Int) < (j : Int) + 1 := by omega
      have hnn : (0 : Int) ≤ (j : Int) + 1 := by omega
      have hwj2 := wrap_nat (n := j) (by have := h.1; omega)
      simp only [hxj, Option.map_some, versGo] at hp
      simp at h8 hi' hw
      by_cases hge : c.vs[j + 1].at_ ≤ c.vs[j].at_ <;> cases hT : in1 1 10000 c.vs[j + 1].at_ <;> cases hD : verDocI c.vs[j + 1].gone c.vs[j + 1].v c.id <;> simp [hT, hD, hge] at hp ht hdoc <;> simp [loopAt, loopsOf, Tryz.f95, dd, h1, h6, h7, h8, ho, hq0, h0q, hi, hi', hw, ht, hdoc, hp, hxi, hxj, hj, hpos, hnn, hwj2, hge]
  · rintro s o q ⟨h1, h6, h7, h8, ho, hq, hp⟩
    simp [versGo] at hp
    simp [loopAt, loopsOf, Tryz.f95, h1, h6, h7, h8, ho, hp]
theorem implChainOK (c : Chn) (h : c.Sm) : run E (.call 95 [.t (chnT c)]) = some (.res [xB (chainOK c)] []) := by
  rw [run_call E 95 _ rfl Tryz.func95 rfl rfl rfl (by simp)]
  rw [← chainOK_eq]
  have lp := implChain_loop c h
  have h1 := inRange c.id 0 19
  have h2 := inRange (c.vs.length : Int) 1 12
  rw [show (decide (0 ≤ c.id) && decide (c.id ≤ 19)) = in1 0 19 c.id from rfl] at h1
  rw [show (decide ((1 : Int) ≤ (c.vs.length : Int)) && decide ((c.vs.length : Int) ≤ 12)) = in1 1 12 c.vs.length from rfl] at h2
  cases hb : versGo (fun g v => verDocI g v c.id) none c.vs with
  | false =>
    obtain ⟨X, A, B, C, hx⟩ := sk (lp false hb.symm)
    simp [loopAt, loopsOf, Tryz.f95] at hx
    simp [hx]
  | true =>
    obtain ⟨X, A, B, C, hx⟩ := sk (lp true hb.symm)
    simp [loopAt, loopsOf, Tryz.f95] at hx
    cases hi : in1 0 19 c.id with
    | false => rw [hi] at h1; simp [hx, h1]
    | true => rw [hi] at h1; simp [hx, h1, h2]
end Go.Zd
/- impl's CollOK. -/
set_option linter.unusedSimpArgs false
set_option linter.unusedVariables false
namespace Go.Zd
open Go.Ev Go.Proofs Go.Pu
set_option maxRecDepth 100000
set_option maxHeartbeats 16000000
abbrev colBox (c : Col) : Ob := .box 67 [.t (.str c.name), .t (.list (c.chains.map chnT)), .t (.list (c.defs.map dfnT))]
/-- Where the first one stands, ahead of a place that fits. -/
theorem idxP_take {α : Type} (p : α → Bool) : ∀ (l : List α) (i : Nat) (hi : i < l.length), p l[i] = true → ((idxP p l < (i : Int)) = ((l.take i).any p = true))
  | [], i, hi, _ => by simp at hi
  | x :: r, 0, hi, h => by
    simp at h
    simp [idxP, h]
  | x :: r, i + 1, hi, h => by
    have ih := idxP_take p r i (by simpa using hi) (by simpa using h)
    have hne : ¬ idxP p r < 0 := by
      rw [idxP_neg]
      have : r.any p = true := List.any_eq_true.2 ⟨r[i]'(by simpa using hi), List.getElem_mem _, by simpa using h⟩
      simp [this]
    unfold idxP
    cases hx : p x with
    | true => simp [hx]
    | false =>
      simp only [hx, Bool.false_eq_true, if_false, hne, List.take_succ_cons, List.any_cons, Bool.false_or]
      rw [← ih]
      simp
theorem implColl_defs (c : Col) (h : c.Sm) (b : Bool) (hb : b = defsGo [] c.defs) : ∀ s o q, (s 1 = .ptr 0 0 ∧ s 8 = .t (.list (c.defs.map dfnT)) ∧ s 9 = .t (.int .i64 c.defs.length) ∧ s 10 = .t (.int .i64 0) ∧ o 0 = colBox c ∧ 0 < q) →
    ∃ e s' o' q', run E (.code (.loop (loopAt Tryz.f30 0)) ⟨s, o, q, 64⟩) = some (.st e ⟨s', o', q', 64⟩) ∧ e = (if b then .exit 0 else .ret) ∧ s' 1 = .ptr 0 0 ∧ o' 0 = colBox c ∧ 0 < q' ∧ (b = false → s' 2 = .t (.bool false)) := by
  intro s o q hI
  refine loop_for (c := loopAt Tryz.f30 0) (N := 64)
    (fun i s o q => s 1 = .ptr 0 0 ∧ s 8 = .t (.list (c.defs.map dfnT)) ∧ s 9 = .t (.int .i64 c.defs.length) ∧ s 10 = .t (.int .i64 i) ∧ o 0 = colBox c ∧ 0 < q ∧ b = defsGo (c.defs.take i) (c.defs.drop i))
    (fun e s' o' q' => e = (if b then .exit 0 else .ret) ∧ s' 1 = .ptr 0 0 ∧ o' 0 = colBox c ∧ 0 < q' ∧ (b = false → s' 2 = .t (.bool false))) c.defs.length ?_ ?_
    c.defs.length 0 s o q (by omega) ⟨hI.1, hI.2.1, hI.2.2.1, hI.2.2.2.1, hI.2.2.2.2.1, hI.2.2.2.2.2, by simpa using hb⟩
  · rintro i s o q hi ⟨h1, h8, h9, h10, ho, hq, hp⟩
    have hq0 : q ≠ 0 := by omega
    have h0q : 0 ≠ q := by omega
    have hxi : c.defs[i]? = some c.defs[i] := List.getElem?_eq_getElem hi
    have hi' : (i : Int) < (c.defs.length : Int) := by omega
    have hw := wrap_succ (n := i) (by have := h.defs.1; omega)
    have hd := implDefOK c.defs[i] (h.defs.2 _ (List.getElem_mem hi))
    have ha := defAt c c.defs[i].name h.defs.1
    have hlt := idxP_take (fun d => d.name == c.defs[i].name) c.defs i hi (by simp)
    have htk : c.defs.take (i + 1) = c.defs.take i ++ [c.defs[i]] := by rw [List.take_add_one, hxi]; rfl
    rw [List.drop_eq_getElem_cons hi, defsGo, ← htk] at hp
    generalize hz : (c.defs.take i).any (fun d => d.name == c.defs[i].name) = z at *
    generalize hk : idxP (fun d => d.name == c.defs[i].name) c.defs = k at *
    cases hO : defOK c.defs[i] with
    | false =>
      simp [hO] at hp hd
      simp [loopAt, loopsOf, Tryz.f30, h1, h8, h9, h10, ho, hq0, h0q, hi', hxi, hw, hd, hp]
    | true =>
      cases z with
      | true =>
        have hk2 : k < (i : Int) := by rw [hlt]
        simp [hO] at hp hd
        simp [loopAt, loopsOf, Tryz.f30, h1, h8, h9, h10, ho, hq0, h0q, hi', hxi, hw, hd, hp, ha, hk2]
      | false =>
        have hk2 : ¬ k < (i : Int) := by rw [hlt]; simp
        simp [hO] at hp hd
        simp [loopAt, loopsOf, Tryz.f30, h1, h8, h9, h10, ho, hq0, h0q, hi', hxi, hw, hd, ha, hk2]
        rw [hp, htk]
  · rintro s o q ⟨h1, h8, h9, h10, ho, hq, hp⟩
    simp [defsGo] at hp
    simp [loopAt, loopsOf, Tryz.f30, h1, h8, h9, h10, ho, hp, hq]
theorem implColl_chains (c : Col) (h : c.Sm) (b : Bool) (hb : b = chainsGo none c.chains) : ∀ s o q, (s 1 = .ptr 0 0 ∧ s 28 = .t (.list (c.chains.map chnT)) ∧ s 29 = .t (.int .i64 c.chains.length) ∧ s 30 = .t (.int .i64 0) ∧ o 0 = colBox c ∧ 0 < q) →
    ∃ e s' o' q', run E (.code (.loop (loopAt Tryz.f30 1)) ⟨s, o, q, 64⟩) = some (.st e ⟨s', o', q', 64⟩) ∧ e = (if b then .exit 2 else .ret) ∧ s' 1 = .ptr 0 0 ∧ o' 0 = colBox c ∧ (b = false → s' 2 = .t (.bool false)) := by
  intro s o q hI
  have d10 := d30_10
  simp [regionOf, findR, pick, Tryz.f30] at d10
  have dd := fun st => run_region_draw E st 10 _ d10
  clear d10
  refine loop_for (c := loopAt Tryz.f30 1) (N := 64)
    (fun i s o q => s 1 = .ptr 0 0 ∧ s 28 = .t (.list (c.chains.map chnT)) ∧ s 29 = .t (.int .i64 c.chains.length) ∧ s 30 = .t (.int .i64 i) ∧ o 0 = colBox c ∧ 0 < q ∧ b = chainsGo (match i with | 0 => none | j + 1 => (c.chains[j]?).map (·.id)) (c.chains.drop i))
    (fun e s' o' q' => e = (if b then .exit 2 else .ret) ∧ s' 1 = .ptr 0 0 ∧ o' 0 = colBox c ∧ (b = false → s' 2 = .t (.bool false))) c.chains.length ?_ ?_
    c.chains.length 0 s o q (by omega) ⟨hI.1, hI.2.1, hI.2.2.1, hI.2.2.2.1, hI.2.2.2.2.1, hI.2.2.2.2.2, by simpa using hb⟩
  · rintro i s o q hi ⟨h1, h28, h29, h30, ho, hq, hp⟩
    have hq0 : q ≠ 0 := by omega
    have h0q : 0 ≠ q := by omega
    have hxi : c.chains[i]? = some c.chains[i] := List.getElem?_eq_getElem hi
    have hi' : (i : Int) < (c.chains.length : Int) := by omega
    have hw := wrap_succ (n := i) (by have := h.chains.1; omega)
    have hc := implChainOK c.chains[i] (h.chains.2 _ (List.getElem_mem hi))
    rw [List.drop_eq_getElem_cons hi] at hp
    cases i with
    | zero =>
      simp only [chainsGo] at hp
      cases hT : chainOK c.chains[0] <;> simp [hT] at hp hc <;> simp [loopAt, loopsOf, Tryz.f30, dd, h1, h28, h29, h30, ho, hq0, h0q, hi, hi', hw, hc, hp, hxi]
    | succ j =>
      have hj : j < c.chains.length := by omega
      have hxj : c.chains[j]? = some c.chains[j] := List.getElem?_eq_getElem hj
      have hpos : (0 : Int) < (j : Int) + 1 := by omega
      have hnn : (0 : Int) ≤ (j : Int) + 1 := by omega
      have hwj2 := wrap_nat (n := j) (by have := h.chains.1; omega)
      simp only [hxj, Option.map_some, chainsGo] at hp
      simp at h30 hi' hw
      by_cases hge : c.chains[j + 1].id ≤ c.chains[j].id <;> cases hT : chainOK c.chains[j + 1] <;> simp [hT, hge] at hp hc <;> simp [loopAt, loopsOf, Tryz.f30, dd, h1, h28, h29, h30, ho, hq0, h0q, hi, hi', hw, hc, hp, hxi, hxj, hj, hpos, hnn, hwj2, hge]
  · rintro s o q ⟨h1, h28, h29, h30, ho, hq, hp⟩
    simp [chainsGo] at hp
    simp [loopAt, loopsOf, Tryz.f30, h1, h28, h29, h30, ho, hp]
/-- Ids that rise are few. -/
theorem chains_few : ∀ (l : List Chn) (p : Option Int), chainsGo p l = true → (match p with
    | none => (l.length : Int) ≤ 20
    | some q => l ≠ [] → -1 ≤ q → (l.length : Int) ≤ 19 - q)
  | [], p, _ => by cases p <;> simp
  | c :: r, p, h => by
    simp only [chainsGo, Bool.and_eq_true] at h
    obtain ⟨⟨h1, h2⟩, h3⟩ := h
    have ih := chains_few r (some c.id) h3
    have hid : 0 ≤ c.id ∧ c.id ≤ 19 := by
      unfold chainOK in1 at h1
      simp at h1
      omega
    simp only at ih
    cases p with
    | none =>
      simp only
      by_cases hr : r = []
      · subst hr; simp
      · have := ih hr (by omega); simp; omega
    | some q =>
      simp at h2
      intro _ hq
      by_cases hr : r = []
      · subst hr; simp; omega
      · have := ih hr (by omega); simp; omega
theorem implCollOK (c : Col) (h : c.Sm) : run E (.call 30 [.t (colT c)]) = some (.res [xB (collOK c)] []) := by
  rw [run_call E 30 _ rfl Tryz.func30 rfl rfl rfl (by simp)]
  have h1 := isShort c.name (by have := h.name; omega)
  have h3 : ((c.defs.length : Int) ≤ 3) = (c.defs.length ≤ 3) := by simp; omega
  unfold collOK
  cases hD : defsGo [] c.defs with
  | false =>
    obtain ⟨X, A, B, C, hx⟩ := sk (implColl_defs c h false hD.symm)
    simp [loopAt, loopsOf, Tryz.f30] at hx
    simp [hx]
  | true =>
    obtain ⟨X, A, B, C, hx⟩ := sk (implColl_defs c h true hD.symm)
    simp [loopAt, loopsOf, Tryz.f30] at hx
    cases hC : chainsGo none c.chains with
    | false =>
      obtain ⟨X2, A2, B2, C2, hx2⟩ := sk (implColl_chains c h false hC.symm)
      simp [loopAt, loopsOf, Tryz.f30] at hx2
      simp [hx, hx2]
    | true =>
      obtain ⟨X2, A2, B2, C2, hx2⟩ := sk (implColl_chains c h true hC.symm)
      simp [loopAt, loopsOf, Tryz.f30] at hx2
      have hfew := chains_few c.chains none hC
      simp only at hfew
      have hfew' : c.chains.length ≤ 20 := by omega
      cases hN : nameP c.name with
      | false => rw [hN] at h1; simp [hx, hx2, h1]
      | true => rw [hN] at h1; simp [hx, hx2, h1, hfew', h3]
end Go.Zd
/- spec's CollOK. -/
set_option linter.unusedSimpArgs false
set_option linter.unusedVariables false
namespace Go.Zd
open Go.Ev Go.Proofs Go.Pu
set_option maxRecDepth 100000
set_option maxHeartbeats 16000000
theorem l01In1 (a b c : Int) : run E (.call 71 [xI a, xI b, xI c]) = some (.res [xB (in1 b c a)] []) := l01In a b c
theorem specColl_inner (c : Col) (h : c.Sm) (i : Nat) (hi : i < c.defs.length) (z : Bool) (hz : z = (c.defs.take i).any (fun d => d.name == c.defs[i].name)) : ∀ s o q, (s 1 = .ptr 0 0 ∧ s 3 = .t (.int .i64 i) ∧ s 4 = .t (.int .i64 0) ∧ o 0 = colBox c ∧ 0 < q) →
    ∃ e s' o' q', run E (.code (.loop (loopAt Tryz.f28 1)) ⟨s, o, q, 138⟩) = some (.st e ⟨s', o', q', 138⟩) ∧ e = (if z then .ret else .exit 2) ∧ s' 1 = .ptr 0 0 ∧ s' 3 = .t (.int .i64 i) ∧ o' 0 = colBox c ∧ 0 < q' ∧ (z = true → s' 2 = .t (.bool false)) := by
  intro s o q hI
  have d11 := d28_11
  simp [regionOf, findR, pick, Tryz.f28] at d11
  have dd := fun st => run_region_draw E st 11 _ d11
  clear d11
  refine loop_for (c := loopAt Tryz.f28 1) (N := 138)
    (fun j s o q => s 1 = .ptr 0 0 ∧ s 3 = .t (.int .i64 i) ∧ s 4 = .t (.int .i64 j) ∧ o 0 = colBox c ∧ 0 < q ∧ z = ((c.defs.take i).drop j).any (fun d => d.name == c.defs[i].name))
    (fun e s' o' q' => e = (if z then .ret else .exit 2) ∧ s' 1 = .ptr 0 0 ∧ s' 3 = .t (.int .i64 i) ∧ o' 0 = colBox c ∧ 0 < q' ∧ (z = true → s' 2 = .t (.bool false))) i ?_ ?_
    i 0 s o q (by omega) ⟨hI.1, hI.2.1, hI.2.2.1, hI.2.2.2.1, hI.2.2.2.2, by simpa using hz⟩
  · rintro j s o q hj ⟨h1, h3, h4, ho, hq, hp⟩
    have hjd : j < c.defs.length := by omega
    have hxi : c.defs[i]? = some c.defs[i] := List.getElem?_eq_getElem hi
    have hxj : c.defs[j]? = some c.defs[j] := List.getElem?_eq_getElem hjd
    have hi' : (i : Int) < (c.defs.length : Int) := by omega
    have hj' : (j : Int) < (c.defs.length : Int) := by omega
    have hji : (j : Int) < (i : Int) := by omega
    have hw := wrap_succ (n := j) (by have := h.defs.1; omega)
    rw [List.drop_eq_getElem_cons (by simp; omega), List.any_cons, List.getElem_take] at hp
    by_cases he : c.defs[j].name = c.defs[i].name
    · simp [he] at hp
      simp [loopAt, loopsOf, Tryz.f28, dd, h1, h3, h4, ho, hxi, hxj, hi', hj', hji, hw, he, hp, hq, -List.any_eq_true, -List.any_eq_false]
    · rw [show (c.defs[j].name == c.defs[i].name) = false from by simp [he], Bool.false_or] at hp
      simp [loopAt, loopsOf, Tryz.f28, dd, h1, h3, h4, ho, hxi, hxj, hi', hj', hji, hw, he, hq, -List.any_eq_true, -List.any_eq_false]
      exact hp
  · rintro s o q ⟨h1, h3, h4, ho, hq, hp⟩
    simp at hp
    simp [loopAt, loopsOf, Tryz.f28, h1, h3, h4, ho, hp, hq]
theorem specColl_defs (c : Col) (h : c.Sm) (b : Bool) (hb : b = defsGo [] c.defs) : ∀ s o q, (s 1 = .ptr 0 0 ∧ s 3 = .t (.int .i64 0) ∧ o 0 = colBox c ∧ 0 < q) →
    ∃ e s' o' q', run E (.code (.loop (loopAt Tryz.f28 0)) ⟨s, o, q, 138⟩) = some (.st e ⟨s', o', q', 138⟩) ∧ e = (if b then .exit 0 else .ret) ∧ s' 1 = .ptr 0 0 ∧ o' 0 = colBox c ∧ 0 < q' ∧ (b = false → s' 2 = .t (.bool false)) := by
  intro s o q hI
  refine loop_for (c := loopAt Tryz.f28 0) (N := 138)
    (fun i s o q => s 1 = .ptr 0 0 ∧ s 3 = .t (.int .i64 i) ∧ o 0 = colBox c ∧ 0 < q ∧ b = defsGo (c.defs.take i) (c.defs.drop i))
    (fun e s' o' q' => e = (if b then .exit 0 else .ret) ∧ s' 1 = .ptr 0 0 ∧ o' 0 = colBox c ∧ 0 < q' ∧ (b = false → s' 2 = .t (.bool false))) c.defs.length ?_ ?_
    c.defs.length 0 s o q (by omega) ⟨hI.1, hI.2.1, hI.2.2.1, hI.2.2.2, by simpa using hb⟩
  · rintro i s o q hi ⟨h1, h3, ho, hq, hp⟩
    have hxi : c.defs[i]? = some c.defs[i] := List.getElem?_eq_getElem hi
    have hi' : (i : Int) < (c.defs.length : Int) := by omega
    have hw := wrap_succ (n := i) (by have := h.defs.1; omega)
    have hd := specDefOK c.defs[i] (h.defs.2 _ (List.getElem_mem hi))
    have htk : c.defs.take (i + 1) = c.defs.take i ++ [c.defs[i]] := by rw [List.take_add_one, hxi]; rfl
    obtain ⟨z, hz⟩ : ∃ z, z = (c.defs.take i).any (fun d => d.name == c.defs[i].name) := ⟨_, rfl⟩
    obtain ⟨X, A, B, C, hx⟩ := sk (specColl_inner c h i hi z hz)
    simp only [loopAt, loopsOf, Tryz.f28] at hx
    rw [List.drop_eq_getElem_cons hi, defsGo, ← htk, ← hz] at hp
    clear hz
    cases hO : defOK c.defs[i] with
    | false =>
      simp [hO] at hp hd
      simp [loopAt, loopsOf, Tryz.f28, h1, h3, ho, hq, hi', hxi, hw, hd, hp]
    | true =>
      cases z with
      | true =>
        simp [hO] at hp hd hx
        simp [loopAt, loopsOf, Tryz.f28, h1, h3, ho, hq, hi', hxi, hw, hd, hp, hx]
      | false =>
        simp [hO] at hp hd hx
        simp [loopAt, loopsOf, Tryz.f28, h1, h3, ho, hq, hi', hxi, hw, hd, hx]
        exact hp
  · rintro s o q ⟨h1, h3, ho, hq, hp⟩
    simp [defsGo] at hp
    simp [loopAt, loopsOf, Tryz.f28, h1, h3, ho, hp, hq]
theorem specColl_vers (c : Col) (h : c.Sm) (m r : Nat) (x : Chn) (hx : x.Sm) (b : Bool) (hb : b = versGo (fun g v => verDoc x.id g v) none x.vs) : ∀ s o q, (s 1 = .ptr 0 0 ∧ s 5 = .t (.int .i64 m) ∧ s 6 = .ptr r 0 ∧ s 7 = .t (.int .i64 0) ∧ o 0 = colBox c ∧ o r = .box 136 [.t (.int .i64 x.id), .t (.list (x.vs.map verT))] ∧ 0 < r ∧ r < q) →
    ∃ e s' o' q', run E (.code (.loop (loopAt Tryz.f28 3)) ⟨s, o, q, 138⟩) = some (.st e ⟨s', o', q', 138⟩) ∧ e = (if b then .exit 6 else .ret) ∧ s' 1 = .ptr 0 0 ∧ s' 5 = .t (.int .i64 m) ∧ o' 0 = colBox c ∧ 0 < q' ∧ (b = false → s' 2 = .t (.bool false)) := by
  intro s o q hI
  have d23 := d28_23
  simp [regionOf, findR, pick, Tryz.f28] at d23
  have dd := fun st => run_region_draw E st 23 _ d23
  clear d23
  refine loop_for (c := loopAt Tryz.f28 3) (N := 138)
    (fun i s o q => s 1 = .ptr 0 0 ∧ s 5 = .t (.int .i64 m) ∧ s 6 = .ptr r 0 ∧ s 7 = .t (.int .i64 i) ∧ o 0 = colBox c ∧ o r = .box 136 [.t (.int .i64 x.id), .t (.list (x.vs.map verT))] ∧ 0 < r ∧ r < q ∧ b = versGo (fun g v => verDoc x.id g v) (match i with | 0 => none | j + 1 => (x.vs[j]?).map (·.at_)) (x.vs.drop i))
    (fun e s' o' q' => e = (if b then .exit 6 else .ret) ∧ s' 1 = .ptr 0 0 ∧ s' 5 = .t (.int .i64 m) ∧ o' 0 = colBox c ∧ 0 < q' ∧ (b = false → s' 2 = .t (.bool false))) x.vs.length ?_ ?_
    x.vs.length 0 s o q (by omega) ⟨hI.1, hI.2.1, hI.2.2.1, hI.2.2.2.1, hI.2.2.2.2.1, hI.2.2.2.2.2.1, hI.2.2.2.2.2.2.1, hI.2.2.2.2.2.2.2, by simpa using hb⟩
  · rintro i s o q hi ⟨h1, h5, h6, h7, ho, hr, hr0, hrq, hp⟩
    have hq0 : q ≠ 0 := by omega
    have h0q : 0 ≠ q := by omega
    have hqr : q ≠ r := by omega
    have hrq' : r ≠ q := by omega
    have hrq1 : r < q + 1 := by omega
    have hxi : x.vs[i]? = some x.vs[i] := List.getElem?_eq_getElem hi
    have hi' : (i : Int) < (x.vs.length : Int) := by omega
    have hw := wrap_succ (n := i) (by have := hx.1; omega)
    have ht := l01In1 x.vs[i].at_ 1 10000
    have hdoc := specDocOK x.id x.vs[i].gone x.vs[i].v (hx.2 _ (List.getElem_mem hi))
    rw [List.drop_eq_getElem_cons hi] at hp
    cases i with
    | zero =>
      simp only [versGo] at hp
      cases hT : in1 1 10000 x.vs[0].at_ <;> cases hD : verDoc x.id x.vs[0].gone x.vs[0].v <;> simp [hT, hD] at hp ht hdoc <;> simp [loopAt, loopsOf, Tryz.f28, dd, h1, h5, h6, h7, ho, hr, hq0, h0q, hqr, hrq', hrq1, hr0, hi, hi', hw, ht, hdoc, hp, hxi]
    | succ j =>
      have hj : j < x.vs.length := by omega
      have hxj : x.vs[j]? = some x.vs[j] := List.getElem?_eq_getElem hj
      have hpos : (0 : Int) < (j : Int) + 1 := by omega
      have hnn : (0 : Int) ≤ (j : Int) + 1 := by omega
      have hwj2 := wrap_nat (n := j) (by have := hx.1; omega)
      simp only [hxj, Option.map_some, versGo] at hp
      simp at h7 hi' hw
      by_cases hge : x.vs[j + 1].at_ ≤ x.vs[j].at_ <;> cases hT : in1 1 10000 x.vs[j + 1].at_ <;> cases hD : verDoc x.id x.vs[j + 1].gone x.vs[j + 1].v <;> simp [hT, hD, hge] at hp ht hdoc <;> simp [loopAt, loopsOf, Tryz.f28, dd, h1, h5, h6, h7, ho, hr, hq0, h0q, hqr, hrq', hrq1, hr0, hi, hi', hw, ht, hdoc, hp, hxi, hxj, hj, hpos, hnn, hwj2, hge]
  · rintro s o q ⟨h1, h5, h6, h7, ho, hr, hr0, hrq, hp⟩
    have hq : 0 < q := by omega
    simp [versGo] at hp
    simp [loopAt, loopsOf, Tryz.f28, h1, h5, h6, h7, ho, hr, hp, hq]
end Go.Zd
/- The laws' own functions over lists of versions, chains and definitions. -/
set_option linter.unusedSimpArgs false
set_option linter.unusedVariables false
namespace Go.Zd
open Go.Ev Go.Proofs Go.Pu
set_option maxRecDepth 100000
set_option maxHeartbeats 16000000
theorem sz_208 (xs : List Ver) (f : Ver → Int → Int) (hl : xs.length < 9223372036854775807) (hf : ∀ x ∈ xs, ∀ l, 0 ≤ l → l ≤ 1048576 → run E (.call 250 [.t (verT x), xI l]) = some (.res [xI (f x l)] [])) (hle : ∀ x ∈ xs, ∀ k, 0 ≤ k → f x k ≤ k) (l : Int) (h0 : 0 ≤ l) (hm : l ≤ 1048576) :
    run E (.call 208 [.t (.list (xs.map verT)), xI l]) = some (.res [xI (lstSz f xs l)] []) := by
  rw [run_call E 208 _ rfl Tryz.func208 rfl rfl rfl (by simp)]
  have hw : IntKind.i64.wrap (l - (xs.length : Int)) = l - xs.length := wrap_of (by omega) (by omega)
  unfold lstSz szB
  by_cases hb : l - (xs.length : Int) < 0
  · simp [hw, hb]
  · have hb0 : ¬ l < (xs.length : Int) := by omega
    have lp := fun (r : Int) (hr : r = goSz f xs (l - xs.length)) => sk (fun s o q hI => loop_for (c := loopAt Tryz.f208 0) (N := 27)
      (fun i s o q => ∃ k : Int, s 0 = .t (.list (xs.map verT)) ∧ s 1 = .t (.int .i64 k) ∧ s 5 = .t (.int .i64 i) ∧ 0 ≤ k ∧ k ≤ 1048576 ∧ r = goSz f (xs.drop i) k)
      (fun e s' o' q' => e = (if r < 0 then .ret else .exit 0) ∧ (r < 0 → s' 4 = .t (.int .i64 r)) ∧ (0 ≤ r → s' 1 = .t (.int .i64 r))) xs.length
      (by
        rintro i s o q hi ⟨k, g0, g1, g5, hk0, hkm, hp⟩
        have hi' : (i : Int) < (xs.length : Int) := by omega
        have hwi := wrap_succ (n := i) (by omega)
        have hxi : xs[i]? = some xs[i] := List.getElem?_eq_getElem hi
        have hx := hf _ (List.getElem_mem hi) k hk0 hkm
        have hxl := hle _ (List.getElem_mem hi) k hk0
        rw [List.drop_eq_getElem_cons hi, goSz] at hp
        by_cases hn : f xs[i] k < 0
        · simp [hn] at hp
          simp [loopAt, loopsOf, Tryz.f208, g0, g1, g5, hi', hxi, hwi, hx, hn, hp]
        · simp [hn] at hp
          simp [loopAt, loopsOf, Tryz.f208, g0, g1, g5, hi', hxi, hwi, hx, hn]
          exact ⟨by omega, by omega, hp⟩)
      (by
        rintro s o q ⟨k, g0, g1, g5, hk0, hkm, hp⟩
        simp [goSz] at hp
        have hn : ¬ r < 0 := by omega
        have hn' : 0 ≤ r := by omega
        have hk1 : ¬ k < 0 := by omega
        simp [loopAt, loopsOf, Tryz.f208, g0, g1, g5, hp, hk1]
        try omega)
      xs.length 0 s o q (by omega) hI)
    simp only [loopAt, loopsOf, Tryz.f208] at lp
    obtain ⟨r, hr⟩ : ∃ r, r = goSz f xs (l - xs.length) := ⟨_, rfl⟩
    obtain ⟨X, A, B, C, hx⟩ := lp r hr
    have hx' := fun s o q a0 a1 a5 => hx s o q ⟨l - xs.length, a0, a1, a5, by omega, by omega, by simpa using hr⟩
    clear hx
    by_cases hn : r < 0
    · have hn' : ¬ 0 ≤ r := by omega
      simp [hn, hn'] at hx'
      simp [hw, hb, hb0, hx', hn, ← hr]
    · have hn' : 0 ≤ r := by omega
      simp [hn, hn'] at hx'
      simp [hw, hb, hb0, hx', hn, ← hr]
theorem sz_87 (xs : List Chn) (f : Chn → Int → Int) (hl : xs.length < 9223372036854775807) (hf : ∀ x ∈ xs, ∀ l, 0 ≤ l → l ≤ 1048576 → run E (.call 145 [.t (chnT x), xI l]) = some (.res [xI (f x l)] [])) (hle : ∀ x ∈ xs, ∀ k, 0 ≤ k → f x k ≤ k) (l : Int) (h0 : 0 ≤ l) (hm : l ≤ 1048576) :
    run E (.call 87 [.t (.list (xs.map chnT)), xI l]) = some (.res [xI (lstSz f xs l)] []) := by
  rw [run_call E 87 _ rfl Tryz.func87 rfl rfl rfl (by simp)]
  have hw : IntKind.i64.wrap (l - (xs.length : Int)) = l - xs.length := wrap_of (by omega) (by omega)
  unfold lstSz szB
  by_cases hb : l - (xs.length : Int) < 0
  · simp [hw, hb]
  · have hb0 : ¬ l < (xs.length : Int) := by omega
    have lp := fun (r : Int) (hr : r = goSz f xs (l - xs.length)) => sk (fun s o q hI => loop_for (c := loopAt Tryz.f87 0) (N := 27)
      (fun i s o q => ∃ k : Int, s 0 = .t (.list (xs.map chnT)) ∧ s 1 = .t (.int .i64 k) ∧ s 5 = .t (.int .i64 i) ∧ 0 ≤ k ∧ k ≤ 1048576 ∧ r = goSz f (xs.drop i) k)
      (fun e s' o' q' => e = (if r < 0 then .ret else .exit 0) ∧ (r < 0 → s' 4 = .t (.int .i64 r)) ∧ (0 ≤ r → s' 1 = .t (.int .i64 r))) xs.length
      (by
        rintro i s o q hi ⟨k, g0, g1, g5, hk0, hkm, hp⟩
        have hi' : (i : Int) < (xs.length : Int) := by omega
        have hwi := wrap_succ (n := i) (by omega)
        have hxi : xs[i]? = some xs[i] := List.getElem?_eq_getElem hi
        have hx := hf _ (List.getElem_mem hi) k hk0 hkm
        have hxl := hle _ (List.getElem_mem hi) k hk0
        rw [List.drop_eq_getElem_cons hi, goSz] at hp
        by_cases hn : f xs[i] k < 0
        · simp [hn] at hp
          simp [loopAt, loopsOf, Tryz.f87, g0, g1, g5, hi', hxi, hwi, hx, hn, hp]
        · simp [hn] at hp
          simp [loopAt, loopsOf, Tryz.f87, g0, g1, g5, hi', hxi, hwi, hx, hn]
          exact ⟨by omega, by omega, hp⟩)
      (by
        rintro s o q ⟨k, g0, g1, g5, hk0, hkm, hp⟩
        simp [goSz] at hp
        have hn : ¬ r < 0 := by omega
        have hn' : 0 ≤ r := by omega
        have hk1 : ¬ k < 0 := by omega
        simp [loopAt, loopsOf, Tryz.f87, g0, g1, g5, hp, hk1]
        try omega)
      xs.length 0 s o q (by omega) hI)
    simp only [loopAt, loopsOf, Tryz.f87] at lp
    obtain ⟨r, hr⟩ : ∃ r, r = goSz f xs (l - xs.length) := ⟨_, rfl⟩
    obtain ⟨X, A, B, C, hx⟩ := lp r hr
    have hx' := fun s o q a0 a1 a5 => hx s o q ⟨l - xs.length, a0, a1, a5, by omega, by omega, by simpa using hr⟩
    clear hx
    by_cases hn : r < 0
    · have hn' : ¬ 0 ≤ r := by omega
      simp [hn, hn'] at hx'
      simp [hw, hb, hb0, hx', hn, ← hr]
    · have hn' : 0 ≤ r := by omega
      simp [hn, hn'] at hx'
      simp [hw, hb, hb0, hx', hn, ← hr]
theorem sz_88 (xs : List Dfn) (f : Dfn → Int → Int) (hl : xs.length < 9223372036854775807) (hf : ∀ x ∈ xs, ∀ l, 0 ≤ l → l ≤ 1048576 → run E (.call 34 [.t (dfnT x), xI l]) = some (.res [xI (f x l)] [])) (hle : ∀ x ∈ xs, ∀ k, 0 ≤ k → f x k ≤ k) (l : Int) (h0 : 0 ≤ l) (hm : l ≤ 1048576) :
    run E (.call 88 [.t (.list (xs.map dfnT)), xI l]) = some (.res [xI (lstSz f xs l)] []) := by
  rw [run_call E 88 _ rfl Tryz.func88 rfl rfl rfl (by simp)]
  have hw : IntKind.i64.wrap (l - (xs.length : Int)) = l - xs.length := wrap_of (by omega) (by omega)
  unfold lstSz szB
  by_cases hb : l - (xs.length : Int) < 0
  · simp [hw, hb]
  · have hb0 : ¬ l < (xs.length : Int) := by omega
    have lp := fun (r : Int) (hr : r = goSz f xs (l - xs.length)) => sk (fun s o q hI => loop_for (c := loopAt Tryz.f88 0) (N := 27)
      (fun i s o q => ∃ k : Int, s 0 = .t (.list (xs.map dfnT)) ∧ s 1 = .t (.int .i64 k) ∧ s 5 = .t (.int .i64 i) ∧ 0 ≤ k ∧ k ≤ 1048576 ∧ r = goSz f (xs.drop i) k)
      (fun e s' o' q' => e = (if r < 0 then .ret else .exit 0) ∧ (r < 0 → s' 4 = .t (.int .i64 r)) ∧ (0 ≤ r → s' 1 = .t (.int .i64 r))) xs.length
      (by
        rintro i s o q hi ⟨k, g0, g1, g5, hk0, hkm, hp⟩
        have hi' : (i : Int) < (xs.length : Int) := by omega
        have hwi := wrap_succ (n := i) (by omega)
        have hxi : xs[i]? = some xs[i] := List.getElem?_eq_getElem hi
        have hx := hf _ (List.getElem_mem hi) k hk0 hkm
        have hxl := hle _ (List.getElem_mem hi) k hk0
        rw [List.drop_eq_getElem_cons hi, goSz] at hp
        by_cases hn : f xs[i] k < 0
        · simp [hn] at hp
          simp [loopAt, loopsOf, Tryz.f88, g0, g1, g5, hi', hxi, hwi, hx, hn, hp]
        · simp [hn] at hp
          simp [loopAt, loopsOf, Tryz.f88, g0, g1, g5, hi', hxi, hwi, hx, hn]
          exact ⟨by omega, by omega, hp⟩)
      (by
        rintro s o q ⟨k, g0, g1, g5, hk0, hkm, hp⟩
        simp [goSz] at hp
        have hn : ¬ r < 0 := by omega
        have hn' : 0 ≤ r := by omega
        have hk1 : ¬ k < 0 := by omega
        simp [loopAt, loopsOf, Tryz.f88, g0, g1, g5, hp, hk1]
        try omega)
      xs.length 0 s o q (by omega) hI)
    simp only [loopAt, loopsOf, Tryz.f88] at lp
    obtain ⟨r, hr⟩ : ∃ r, r = goSz f xs (l - xs.length) := ⟨_, rfl⟩
    obtain ⟨X, A, B, C, hx⟩ := lp r hr
    have hx' := fun s o q a0 a1 a5 => hx s o q ⟨l - xs.length, a0, a1, a5, by omega, by omega, by simpa using hr⟩
    clear hx
    by_cases hn : r < 0
    · have hn' : ¬ 0 ≤ r := by omega
      simp [hn, hn'] at hx'
      simp [hw, hb, hb0, hx', hn, ← hr]
    · have hn' : 0 ≤ r := by omega
      simp [hn, hn'] at hx'
      simp [hw, hb, hb0, hx', hn, ← hr]
theorem to_210 (xs : List Ver) (hl : xs.length < 4294967296) (hf : ∀ x ∈ xs, run E (.call 251 [.t (verT x)]) = some (.res [verX x] [])) :
    run E (.call 210 [.t (.list (xs.map verT))]) = some (.res [.row 94 (xs.map verT)] []) := by
  rw [run_call E 210 _ rfl Tryz.func210 rfl rfl rfl (by simp)]
  have lp := sk (fun s o q hI => loop_for (c := loopAt Tryz.f210 0) (N := 23)
    (fun i s o q => s 0 = .t (.list (xs.map verT)) ∧ s 3 = .row 0 ∧ s 4 = .t (.int .i64 i) ∧ 0 < q ∧ o 0 = .row 94 ((xs.map verT).take i ++ List.replicate (xs.length - i) (.agg [.int .i64 0, .bool false, .int .i64 0, .int .i64 0, .str []])) true)
    (fun e s' o' q' => e = .exit 0 ∧ s' 3 = .row 0 ∧ o' 0 = .row 94 (xs.map verT) true) xs.length
    (by
      rintro i s o q hi ⟨g0, g3, g4, hq, ho⟩
      have hi' : (i : Int) < (xs.length : Int) := by omega
      have hwi := wrap_succ (n := i) (by omega)
      have hxi : xs[i]? = some xs[i] := List.getElem?_eq_getElem hi
      have hx := hf _ (List.getElem_mem hi)
      have hq0 : q ≠ 0 := by omega
      have h0q : 0 ≠ q := by omega
      have hget := mid_get (xs.map verT) (.agg [.int .i64 0, .bool false, .int .i64 0, .int .i64 0, .str []]) i xs.length hi (by simp; omega)
      have hset := mid_set (xs.map verT) (.agg [.int .i64 0, .bool false, .int .i64 0, .int .i64 0, .str []]) (verT xs[i]) i xs.length hi (by simp [hxi])
      simp [loopAt, loopsOf, Tryz.f210, g0, g3, g4, hi', hxi, hwi, hx, ho, hget, hset, hq0, h0q]
      try omega)
    (by
      rintro s o q ⟨g0, g3, g4, hq, ho⟩
      have hfull : (xs.map verT).take xs.length = xs.map verT := List.take_of_length_le (by simp)
      simp [hfull] at ho
      simp [loopAt, loopsOf, Tryz.f210, g0, g3, g4, ho])
    xs.length 0 s o q (by omega) hI)
  simp only [loopAt, loopsOf, Tryz.f210] at lp
  obtain ⟨X, A, B, C, hx⟩ := lp
  simp at hx
  have h1 : xs.length ≤ 140737488355328 := by omega
  have h2 : xs.length * 48 ≤ 140737488355328 := by omega
  simp [h1, h2, hx]
theorem to_91 (xs : List Chn) (hl : xs.length < 4294967296) (hf : ∀ x ∈ xs, run E (.call 147 [.t (chnT x)]) = some (.res [.agg [.t (.int .i64 x.id), .row 94 (x.vs.map verT)]] [])) :
    run E (.call 91 [.t (.list (xs.map chnT))]) = some (.res [.row 136 (xs.map chnT)] []) := by
  rw [run_call E 91 _ rfl Tryz.func91 rfl rfl rfl (by simp)]
  have lp := sk (fun s o q hI => loop_for (c := loopAt Tryz.f91 0) (N := 23)
    (fun i s o q => s 0 = .t (.list (xs.map chnT)) ∧ s 3 = .row 0 ∧ s 4 = .t (.int .i64 i) ∧ 0 < q ∧ o 0 = .row 136 ((xs.map chnT).take i ++ List.replicate (xs.length - i) (.agg [.int .i64 0, .list []])) true)
    (fun e s' o' q' => e = .exit 0 ∧ s' 3 = .row 0 ∧ o' 0 = .row 136 (xs.map chnT) true) xs.length
    (by
      rintro i s o q hi ⟨g0, g3, g4, hq, ho⟩
      have hi' : (i : Int) < (xs.length : Int) := by omega
      have hwi := wrap_succ (n := i) (by omega)
      have hxi : xs[i]? = some xs[i] := List.getElem?_eq_getElem hi
      have hx := hf _ (List.getElem_mem hi)
      have hq0 : q ≠ 0 := by omega
      have h0q : 0 ≠ q := by omega
      have hget := mid_get (xs.map chnT) (.agg [.int .i64 0, .list []]) i xs.length hi (by simp; omega)
      have hset := mid_set (xs.map chnT) (.agg [.int .i64 0, .list []]) (chnT xs[i]) i xs.length hi (by simp [hxi])
      simp [loopAt, loopsOf, Tryz.f91, g0, g3, g4, hi', hxi, hwi, hx, ho, hget, hset, hq0, h0q]
      try omega)
    (by
      rintro s o q ⟨g0, g3, g4, hq, ho⟩
      have hfull : (xs.map chnT).take xs.length = xs.map chnT := List.take_of_length_le (by simp)
      simp [hfull] at ho
      simp [loopAt, loopsOf, Tryz.f91, g0, g3, g4, ho])
    xs.length 0 s o q (by omega) hI)
  simp only [loopAt, loopsOf, Tryz.f91] at lp
  obtain ⟨X, A, B, C, hx⟩ := lp
  simp at hx
  have h1 : xs.length ≤ 140737488355328 := by omega
  have h2 : xs.length * 32 ≤ 140737488355328 := by omega
  simp [h1, h2, hx]
theorem to_92 (xs : List Dfn) (hl : xs.length < 4294967296) (hf : ∀ x ∈ xs, run E (.call 36 [.t (dfnT x)]) = some (.res [.agg [.t (.str x.name), .row 108 (x.parts.map prtT)]] [])) :
    run E (.call 92 [.t (.list (xs.map dfnT))]) = some (.res [.row 79 (xs.map dfnT)] []) := by
  rw [run_call E 92 _ rfl Tryz.func92 rfl rfl rfl (by simp)]
  have lp := sk (fun s o q hI => loop_for (c := loopAt Tryz.f92 0) (N := 23)
    (fun i s o q => s 0 = .t (.list (xs.map dfnT)) ∧ s 3 = .row 0 ∧ s 4 = .t (.int .i64 i) ∧ 0 < q ∧ o 0 = .row 79 ((xs.map dfnT).take i ++ List.replicate (xs.length - i) (.agg [.str [], .list []])) true)
    (fun e s' o' q' => e = .exit 0 ∧ s' 3 = .row 0 ∧ o' 0 = .row 79 (xs.map dfnT) true) xs.length
    (by
      rintro i s o q hi ⟨g0, g3, g4, hq, ho⟩
      have hi' : (i : Int) < (xs.length : Int) := by omega
      have hwi := wrap_succ (n := i) (by omega)
      have hxi : xs[i]? = some xs[i] := List.getElem?_eq_getElem hi
      have hx := hf _ (List.getElem_mem hi)
      have hq0 : q ≠ 0 := by omega
      have h0q : 0 ≠ q := by omega
      have hget := mid_get (xs.map dfnT) (.agg [.str [], .list []]) i xs.length hi (by simp; omega)
      have hset := mid_set (xs.map dfnT) (.agg [.str [], .list []]) (dfnT xs[i]) i xs.length hi (by simp [hxi])
      simp [loopAt, loopsOf, Tryz.f92, g0, g3, g4, hi', hxi, hwi, hx, ho, hget, hset, hq0, h0q]
      try omega)
    (by
      rintro s o q ⟨g0, g3, g4, hq, ho⟩
      have hfull : (xs.map dfnT).take xs.length = xs.map dfnT := List.take_of_length_le (by simp)
      simp [hfull] at ho
      simp [loopAt, loopsOf, Tryz.f92, g0, g3, g4, ho])
    xs.length 0 s o q (by omega) hI)
  simp only [loopAt, loopsOf, Tryz.f92] at lp
  obtain ⟨X, A, B, C, hx⟩ := lp
  simp at hx
  have h1 : xs.length ≤ 140737488355328 := by omega
  have h2 : xs.length * 40 ≤ 140737488355328 := by omega
  simp [h1, h2, hx]
theorem eq_212 (xs : List Ver) (hl : xs.length < 9223372036854775807) (hf : ∀ x ∈ xs, run E (.call 51 [.t (verT x), .t (verT x)]) = some (.res [xB true] [])) :
    run E (.call 212 [.t (.list (xs.map verT)), .t (.list (xs.map verT))]) = some (.res [xB true] []) := by
  rw [run_call E 212 _ rfl Tryz.func212 rfl rfl rfl (by simp)]
  have d6 := d212_6
  simp [regionOf, findR, pick, Tryz.f212] at d6
  have dd := fun st => run_region_draw E st 6 _ d6
  clear d6
  have lp := sk (fun s o q hI => loop_for (c := loopAt Tryz.f212 0) (N := 27)
    (fun i s o q => s 0 = .t (.list (xs.map verT)) ∧ s 1 = .t (.list (xs.map verT)) ∧ s 5 = .t (.int .i64 i))
    (fun e s' o' q' => e = .exit 0) xs.length
    (by
      rintro i s o q hi ⟨g0, g1, g5⟩
      have hi' : (i : Int) < (xs.length : Int) := by omega
      have hwi := wrap_succ (n := i) (by omega)
      have hxi : xs[i]? = some xs[i] := List.getElem?_eq_getElem hi
      have hx := hf _ (List.getElem_mem hi)
      simp [loopAt, loopsOf, Tryz.f212, dd, g0, g1, g5, hi', hxi, hwi, hx])
    (by
      rintro s o q ⟨g0, g1, g5⟩
      simp [loopAt, loopsOf, Tryz.f212, g0, g1, g5])
    xs.length 0 s o q (by omega) hI)
  simp only [loopAt, loopsOf, Tryz.f212] at lp
  obtain ⟨X, A, B, C, hx⟩ := lp
  simp at hx
  simp [hx]
theorem eq_96 (xs : List Chn) (hl : xs.length < 9223372036854775807) (hf : ∀ x ∈ xs, run E (.call 153 [.t (chnT x), .t (chnT x)]) = some (.res [xB true] [])) :
    run E (.call 96 [.t (.list (xs.map chnT)), .t (.list (xs.map chnT))]) = some (.res [xB true] []) := by
  rw [run_call E 96 _ rfl Tryz.func96 rfl rfl rfl (by simp)]
  have d6 := d96_6
  simp [regionOf, findR, pick, Tryz.f96] at d6
  have dd := fun st => run_region_draw E st 6 _ d6
  clear d6
  have lp := sk (fun s o q hI => loop_for (c := loopAt Tryz.f96 0) (N := 27)
    (fun i s o q => s 0 = .t (.list (xs.map chnT)) ∧ s 1 = .t (.list (xs.map chnT)) ∧ s 5 = .t (.int .i64 i))
    (fun e s' o' q' => e = .exit 0) xs.length
    (by
      rintro i s o q hi ⟨g0, g1, g5⟩
      have hi' : (i : Int) < (xs.length : Int) := by omega
      have hwi := wrap_succ (n := i) (by omega)
      have hxi : xs[i]? = some xs[i] := List.getElem?_eq_getElem hi
      have hx := hf _ (List.getElem_mem hi)
      simp [loopAt, loopsOf, Tryz.f96, dd, g0, g1, g5, hi', hxi, hwi, hx])
    (by
      rintro s o q ⟨g0, g1, g5⟩
      simp [loopAt, loopsOf, Tryz.f96, g0, g1, g5])
    xs.length 0 s o q (by omega) hI)
  simp only [loopAt, loopsOf, Tryz.f96] at lp
  obtain ⟨X, A, B, C, hx⟩ := lp
  simp at hx
  simp [hx]
theorem eq_97 (xs : List Dfn) (hl : xs.length < 9223372036854775807) (hf : ∀ x ∈ xs, run E (.call 39 [.t (dfnT x), .t (dfnT x)]) = some (.res [xB true] [])) :
    run E (.call 97 [.t (.list (xs.map dfnT)), .t (.list (xs.map dfnT))]) = some (.res [xB true] []) := by
  rw [run_call E 97 _ rfl Tryz.func97 rfl rfl rfl (by simp)]
  have d6 := d97_6
  simp [regionOf, findR, pick, Tryz.f97] at d6
  have dd := fun st => run_region_draw E st 6 _ d6
  clear d6
  have lp := sk (fun s o q hI => loop_for (c := loopAt Tryz.f97 0) (N := 27)
    (fun i s o q => s 0 = .t (.list (xs.map dfnT)) ∧ s 1 = .t (.list (xs.map dfnT)) ∧ s 5 = .t (.int .i64 i))
    (fun e s' o' q' => e = .exit 0) xs.length
    (by
      rintro i s o q hi ⟨g0, g1, g5⟩
      have hi' : (i : Int) < (xs.length : Int) := by omega
      have hwi := wrap_succ (n := i) (by omega)
      have hxi : xs[i]? = some xs[i] := List.getElem?_eq_getElem hi
      have hx := hf _ (List.getElem_mem hi)
      simp [loopAt, loopsOf, Tryz.f97, dd, g0, g1, g5, hi', hxi, hwi, hx])
    (by
      rintro s o q ⟨g0, g1, g5⟩
      simp [loopAt, loopsOf, Tryz.f97, g0, g1, g5])
    xs.length 0 s o q (by omega) hI)
  simp only [loopAt, loopsOf, Tryz.f97] at lp
  obtain ⟨X, A, B, C, hx⟩ := lp
  simp at hx
  simp [hx]
end Go.Zd
/- spec's CollOK: the chains, and the whole. -/
set_option linter.unusedSimpArgs false
set_option linter.unusedVariables false
namespace Go.Zd
open Go.Ev Go.Proofs Go.Pu
set_option maxRecDepth 100000
set_option maxHeartbeats 16000000
/-- spec's CollOK: the chains. -/
theorem specColl_chains (c : Col) (h : c.Sm) (b : Bool) (hb : b = chainsGo none c.chains) : ∀ s o q, (s 1 = .ptr 0 0 ∧ s 5 = .t (.int .i64 0) ∧ o 0 = colBox c ∧ 0 < q) →
    ∃ e s' o' q', run E (.code (.loop (loopAt Tryz.f28 2)) ⟨s, o, q, 138⟩) = some (.st e ⟨s', o', q', 138⟩) ∧ e = (if b then .exit 4 else .ret) ∧ s' 1 = .ptr 0 0 ∧ o' 0 = colBox c ∧ (b = false → s' 2 = .t (.bool false)) := by
  intro s o q hI
  have d17 := d28_17
  simp [regionOf, findR, pick, Tryz.f28] at d17
  have dd := fun st => run_region_draw E st 17 _ d17
  clear d17
  refine loop_for (c := loopAt Tryz.f28 2) (N := 138)
    (fun i s o q => s 1 = .ptr 0 0 ∧ s 5 = .t (.int .i64 i) ∧ o 0 = colBox c ∧ 0 < q ∧ b = chainsGo (match i with | 0 => none | j + 1 => (c.chains[j]?).map (·.id)) (c.chains.drop i))
    (fun e s' o' q' => e = (if b then .exit 4 else .ret) ∧ s' 1 = .ptr 0 0 ∧ o' 0 = colBox c ∧ (b = false → s' 2 = .t (.bool false))) c.chains.length ?_ ?_
    c.chains.length 0 s o q (by omega) ⟨hI.1, hI.2.1, hI.2.2.1, hI.2.2.2, by simpa using hb⟩
  · rintro i s o q hi ⟨h1, h5, ho, hq, hp⟩
    have hq0 : q ≠ 0 := by omega
    have h0q : 0 ≠ q := by omega
    have hxi : c.chains[i]? = some c.chains[i] := List.getElem?_eq_getElem hi
    have hi' : (i : Int) < (c.chains.length : Int) := by omega
    have hw := wrap_succ (n := i) (by have := h.chains.1; omega)
    have hid := l01In1 c.chains[i].id 0 19
    have hlen := l01In1 (c.chains[i].vs.length : Int) 1 12
    obtain ⟨z, hz⟩ : ∃ z, z = versGo (fun g v => verDoc c.chains[i].id g v) none c.chains[i].vs := ⟨_, rfl⟩
    obtain ⟨X, A, B, C, hx⟩ := sk (specColl_vers c h i q c.chains[i] (h.chains.2 _ (List.getElem_mem hi)) z hz)
    simp only [loopAt, loopsOf, Tryz.f28] at hx
    have hok : chainOK c.chains[i] = (in1 0 19 c.chains[i].id && in1 1 12 c.chains[i].vs.length && z) := by rw [hz]; rfl
    clear hz
    rw [List.drop_eq_getElem_cons hi] at hp
    cases i with
    | zero =>
      simp only [chainsGo, hok] at hp
      cases hT : in1 0 19 c.chains[0].id <;> cases hL : in1 1 12 (c.chains[0].vs.length : Int) <;> cases z <;> simp [hT, hL] at hp hid hlen hx <;> simp [loopAt, loopsOf, Tryz.f28, dd, h1, h5, ho, hq, hq0, h0q, hi, hi', hw, hid, hlen, hp, hxi, hx]
    | succ j =>
      have hj : j < c.chains.length := by omega
      have hxj : c.chains[j]? = some c.chains[j] := List.getElem?_eq_getElem hj
      have hpos : (0 : Int) < (j : Int) + 1 := by omega
      have hnn : (0 : Int) ≤ (j : Int) + 1 := by omega
      have hwj2 := wrap_nat (n := j) (by have := h.chains.1; omega)
      simp only [hxj, Option.map_some, chainsGo, hok] at hp
      simp at h5 hi' hw
      by_cases hge : c.chains[j + 1].id ≤ c.chains[j].id <;> cases hT : in1 0 19 c.chains[j + 1].id <;> cases hL : in1 1 12 (c.chains[j + 1].vs.length : Int) <;> cases z <;> simp [hT, hL, hge] at hp hid hlen hx <;> simp [loopAt, loopsOf, Tryz.f28, dd, h1, h5, ho, hq, hq0, h0q, hi, hi', hw, hid, hlen, hp, hxi, hxj, hj, hpos, hnn, hwj2, hge, hx]
  · rintro s o q ⟨h1, h5, ho, hq, hp⟩
    simp [chainsGo] at hp
    simp [loopAt, loopsOf, Tryz.f28, h1, h5, ho, hp]
theorem specCollOK (c : Col) (h : c.Sm) : run E (.call 28 [.t (colT c)]) = some (.res [xB (collOK c)] []) := by
  rw [run_call E 28 _ rfl Tryz.func28 rfl rfl rfl (by simp)]
  have h1 := l01Name c.name (by have := h.name; omega)
  have h3 : (3 < (c.defs.length : Int)) = ¬ (c.defs.length ≤ 3) := by simp; omega
  have h2 : (20 < (c.chains.length : Int)) = ¬ (c.chains.length ≤ 20) := by simp; omega
  unfold collOK
  cases hN : nameP c.name with
  | false => rw [hN] at h1; simp [h1]
  | true =>
    rw [hN] at h1
    by_cases n2 : c.chains.length ≤ 20
    · by_cases n3 : c.defs.length ≤ 3
      · cases hD : defsGo [] c.defs with
        | false =>
          obtain ⟨X, A, B, C, hx⟩ := sk (specColl_defs c h false hD.symm)
          simp [loopAt, loopsOf, Tryz.f28] at hx
          simp [h1, h2, h3, n2, n3, hx]
        | true =>
          obtain ⟨X, A, B, C, hx⟩ := sk (specColl_defs c h true hD.symm)
          simp [loopAt, loopsOf, Tryz.f28] at hx
          cases hC : chainsGo none c.chains with
          | false =>
            obtain ⟨X2, A2, B2, C2, hx2⟩ := sk (specColl_chains c h false hC.symm)
            simp [loopAt, loopsOf, Tryz.f28] at hx2
            simp [h1, h2, h3, n2, n3, hx, hx2]
          | true =>
            obtain ⟨X2, A2, B2, C2, hx2⟩ := sk (specColl_chains c h true hC.symm)
            simp [loopAt, loopsOf, Tryz.f28] at hx2
            simp [h1, h2, h3, n2, n3, hx, hx2]
      · simp [h1, h2, h3, n2, n3]
    · simp [h1, h2, h3, n2]
end Go.Zd
/- The last version of a document, by spec and by impl. -/
set_option linter.unusedSimpArgs false
set_option linter.unusedVariables false
namespace Go.Zd
open Go.Ev Go.Proofs Go.Pu
set_option maxRecDepth 100000
set_option maxHeartbeats 16000000
abbrev zeroV : Ver := ⟨0, false, ⟨0, 0, []⟩⟩
abbrev goneV : Ver := ⟨0, true, ⟨0, 0, []⟩⟩
abbrev verBox (d : Ver) : Ob := .box 94 [.t (.int .i64 d.at_), .t (.bool d.gone), .t (.int .i64 d.v.k), .t (.int .i64 d.v.n), .t (.str d.v.t)]
abbrev chnBox (x : Chn) : Ob := .box 136 [.t (.int .i64 x.id), .t (.list (x.vs.map verT))]
def lastLe (t : Int) : Ver → List Ver → Ver
  | d, [] => d
  | d, x :: r => lastLe t (if x.at_ ≤ t then x else d) r
theorem specAt (x : Chn) (h : x.Sm) (t : Int) : run E (.call 170 [.t (chnT x), xI t]) = some (.res [verX (lastLe t goneV x.vs)] []) := by
  rw [run_call E 170 _ rfl Tryz.func170 rfl rfl rfl (by simp)]
  obtain ⟨m, hm⟩ : ∃ m, m = lastLe t goneV x.vs := ⟨_, rfl⟩
  have lp := sk (fun s o q hI => loop_for (c := loopAt Tryz.f170 0) (N := 29)
    (fun i s o q => ∃ d : Ver, s 1 = .t (.int .i64 t) ∧ s 2 = .ptr 0 0 ∧ s 4 = .ptr 1 0 ∧ s 5 = .ptr 2 0 ∧ s 6 = .t (.int .i64 i) ∧ o 0 = chnBox x ∧ o 1 = verBox zeroV ∧ o 2 = verBox d ∧ m = lastLe t d (x.vs.drop i))
    (fun e s' o' q' => e = .exit 0 ∧ s' 4 = .ptr 1 0 ∧ s' 5 = .ptr 2 0 ∧ o' 1 = verBox zeroV ∧ o' 2 = verBox m) x.vs.length
    (by
      rintro i s o q hi ⟨d, g1, g2, g4, g5, g6, o0, o1, o2, hp⟩
      have hi' : (i : Int) < (x.vs.length : Int) := by omega
      have hwi := wrap_succ (n := i) (by have := h.1; omega)
      have hxi : x.vs[i]? = some x.vs[i] := List.getElem?_eq_getElem hi
      rw [List.drop_eq_getElem_cons hi, lastLe] at hp
      by_cases hle : x.vs[i].at_ ≤ t
      · simp [hle] at hp
        simp [loopAt, loopsOf, Tryz.f170, g1, g2, g4, g5, g6, o0, o1, o2, hi', hxi, hwi, hle]
        exact ⟨x.vs[i], by simp, hp⟩
      · simp [hle] at hp
        simp [loopAt, loopsOf, Tryz.f170, g1, g2, g4, g5, g6, o0, o1, o2, hi', hxi, hwi, hle]
        exact ⟨d, by simp, hp⟩)
    (by
      rintro s o q ⟨d, g1, g2, g4, g5, g6, o0, o1, o2, hp⟩
      simp [lastLe] at hp
      simp [loopAt, loopsOf, Tryz.f170, g1, g2, g4, g5, g6, o0, o1, o2, hp])
    x.vs.length 0 s o q (by omega) hI)
  simp only [loopAt, loopsOf, Tryz.f170] at lp
  obtain ⟨X, A, B, C, hx⟩ := lp
  have hx' := fun s o q a1 a2 a4 a5 a6 b0 b1 b2 => hx s o q ⟨goneV, a1, a2, a4, a5, a6, b0, b1, b2, by simpa using hm⟩
  clear hx
  simp at hx'
  simp [hx', ← hm]
def findC (cs : List Chn) (id : Int) : Option Chn := cs.find? (fun x => x.id == id)
theorem specLast (c : Col) (h : c.Sm) (id : Int) : run E (.call 110 [.t (colT c), xI id]) = some (.res [verX (match findC c.chains id with
    | some x => lastLe 10000 goneV x.vs
    | none => goneV)] []) := by
  rw [run_call E 110 _ rfl Tryz.func110 rfl rfl rfl (by simp)]
  obtain ⟨m, hm⟩ : ∃ m, m = findC c.chains id := ⟨_, rfl⟩
  have lp := sk (fun s o q hI => loop_for (c := loopAt Tryz.f110 0) (N := 28)
    (fun i s o q => s 1 = .t (.int .i64 id) ∧ s 2 = .ptr 0 0 ∧ s 4 = .ptr 1 0 ∧ s 5 = .t (.int .i64 i) ∧ o 0 = colBox c ∧ o 1 = verBox zeroV ∧ m = findC (c.chains.drop i) id)
    (fun e s' o' q' => e = (match m with | some _ => .ret | none => .exit 0) ∧ s' 4 = .ptr 1 0 ∧ o' 1 = verBox (match m with | some x => lastLe 10000 goneV x.vs | none => zeroV)) c.chains.length
    (by
      rintro i s o q hi ⟨g1, g2, g4, g5, o0, o1, hp⟩
      have hi' : (i : Int) < (c.chains.length : Int) := by omega
      have hwi := wrap_succ (n := i) (by have := h.chains.1; omega)
      have hxi : c.chains[i]? = some c.chains[i] := List.getElem?_eq_getElem hi
      have hat := specAt c.chains[i] (h.chains.2 _ (List.getElem_mem hi)) 10000
      rw [List.drop_eq_getElem_cons hi, findC, List.find?_cons] at hp
      by_cases hid : c.chains[i].id = id
      · have hid' : (c.chains[i].id = id) = True := eq_true hid
        simp [hid] at hp
        clear hid
        simp [loopAt, loopsOf, Tryz.f110, g1, g2, g4, g5, o0, o1, hi', hxi, hwi, hid', hat, hp]
      · rw [show (c.chains[i].id == id) = false from by simp [hid]] at hp
        simp [loopAt, loopsOf, Tryz.f110, g1, g2, g4, g5, o0, o1, hi', hxi, hwi, hid]
        exact hp)
    (by
      rintro s o q ⟨g1, g2, g4, g5, o0, o1, hp⟩
      simp [findC] at hp
      simp [loopAt, loopsOf, Tryz.f110, g1, g2, g4, g5, o0, o1, hp])
    c.chains.length 0 s o q (by omega) hI)
  simp only [loopAt, loopsOf, Tryz.f110] at lp
  obtain ⟨X, A, B, C, hx⟩ := lp
  have hx' := fun s o q a1 a2 a4 a5 b0 b1 => hx s o q ⟨a1, a2, a4, a5, b0, b1, by simpa using hm⟩
  clear hx
  rw [← hm]
  clear hm
  cases m with
  | none => simp at hx'; simp [hx']
  | some x => simp at hx'; simp [hx']
end Go.Zd
/- impl's search by halves over chains. -/
set_option linter.unusedSimpArgs false
set_option linter.unusedVariables false
namespace Go.Zd
open Go.Ev Go.Proofs Go.Pu
set_option maxRecDepth 100000
set_option maxHeartbeats 16000000
def cmpI (a b : Int) : Int := if a < b then -1 else if b < a then 1 else 0
theorem cmpI_lt (a b : Int) : (cmpI a b < 0) = (a < b) := by
  unfold cmpI
  by_cases h : a < b
  · simp [h]
  · by_cases h2 : b < a <;> simp [h, h2]
theorem cmpI_eq (a b : Int) : (cmpI a b = 0) = (a = b) := by
  unfold cmpI
  by_cases h : a < b
  · have : a ≠ b := by omega
    simp [h, this]
  · by_cases h2 : b < a
    · have : a ≠ b := by omega
      simp [h, h2, this]
    · have : a = b := by omega
      simp [h, h2, this]
theorem isNaNInt (a : Int) : run E (.call 245 [xI a]) = some (.res [xB false] []) := by
  rw [run_call E 245 _ rfl Tryz.func245 rfl rfl rfl (by simp)]
  simp
theorem compareInt (a b : Int) : run E (.call 193 [xI a, xI b]) = some (.res [xI (cmpI a b)] []) := by
  rw [run_call E 193 _ rfl Tryz.func193 rfl rfl rfl (by simp)]
  have h1 := isNaNInt a
  have h2 := isNaNInt b
  unfold cmpI
  by_cases h : a < b
  · simp [h1, h2, h]
  · by_cases h' : b < a <;> simp [h1, h2, h, h']
theorem chainClosure (c : Chn) (id : Int) : run E (.call 222 [.t (chnT c), xI id]) = some (.res [xI (cmpI c.id id)] []) := by
  rw [run_call E 222 _ rfl Tryz.func222 rfl rfl rfl (by simp)]
  simp [compareInt c.id id]
def seekC (fs : List Chn) (id : Int) : Nat := halves (fun k => match fs[k]? with
  | some f => decide (f.id < id)
  | none => false) (fs.length + 1) 0 fs.length
def thereC (fs : List Chn) (id : Int) : Bool := match fs[seekC fs id]? with
  | some f => f.id == id
  | none => false
theorem binaryChains (fs : List Chn) (id : Int) (hl : fs.length < 4294967296) : run E (.call 221 [.t (.list (fs.map chnT)), xI id, .fn 222 []]) = some (.res [xI (seekC fs id : Nat), xB (thereC fs id)] []) := by
  rw [run_call E 221 _ rfl Tryz.func221 rfl rfl rfl (by simp)]
  have lp := sk (fun s o q hI => loop_wf (c := loopAt Tryz.f221 0) (N := 49)
    (fun k s o q => ∃ i j : Nat, s 0 = .t (.list (fs.map chnT)) ∧ s 1 = .t (.int .i64 id) ∧ s 2 = .fn 222 [] ∧ s 8 = .t (.int .i64 fs.length) ∧ s 9 = .t (.int .i64 i) ∧ s 10 = .t (.int .i64 j) ∧ j ≤ fs.length ∧ i ≤ j ∧ k = j - i ∧ ∃ n, k < n ∧ halves (fun k => match fs[k]? with
        | some f => decide (f.id < id)
        | none => false) n i j = seekC fs id)
    (fun e s' o' q' => e = .exit 0 ∧ s' 0 = .t (.list (fs.map chnT)) ∧ s' 1 = .t (.int .i64 id) ∧ s' 2 = .fn 222 [] ∧ s' 8 = .t (.int .i64 fs.length) ∧ s' 9 = .t (.int .i64 (seekC fs id : Nat)))
    (by
      rintro k s o q ⟨i, j, h0, h1, h2, h8, h9, h10, hj, hij, hk, n, hn, hh⟩
      cases n with
      | zero => omega
      | succ n =>
        unfold halves at hh
        by_cases hlt : i < j
        · have hlt' : (i : Int) < (j : Int) := by omega
          have hw1 : IntKind.i64.wrap ((i : Int) + (j : Int)) = ((i + j : Nat) : Int) := by rw [wrap_of (by omega) (by omega)]; omega
          have hw2 := wrap_u64 (n := i + j) (by omega)
          obtain ⟨m, hme⟩ : ∃ m, m = (i + j) / 2 := ⟨_, rfl⟩
          have hm : m < fs.length := by omega
          have hw3 := wrap_nat (n := m) (by omega)
          have hw4 := wrap_succ (n := m) (by omega)
          have hfd : ((i : Int) + (j : Int)).fdiv 2 = (m : Int) := by rw [Int.fdiv_eq_ediv_of_nonneg _ (by omega)]; omega
          have hed : ((i : Int) + (j : Int)) / 2 = (m : Int) := by omega
          have hx : fs[m]? = some fs[m] := List.getElem?_eq_getElem hm
          have hc := chainClosure fs[m] id
          rw [if_pos hlt, ← hme] at hh
          simp only [hx] at hh
          simp only [Int.natCast_add] at hw1 hw2
          by_cases hb : fs[m].id < id
          · have hcl : cmpI fs[m].id id < 0 := by rw [cmpI_lt]; exact hb
            simp [hb] at hh
            simp [loopAt, loopsOf, Tryz.f221, h0, h1, h2, h8, h9, h10, hlt', pow_u64, hw1, hw2, hfd, hed, hw3, hw4, hx, hc, hcl, hm]
            exact ⟨j - (m + 1), by omega, m + 1, by simp, j, rfl, hj, by omega, rfl, n, by omega, hh⟩
          · have hcl : ¬ cmpI fs[m].id id < 0 := by rw [cmpI_lt]; exact hb
            simp [hb] at hh
            simp [loopAt, loopsOf, Tryz.f221, h0, h1, h2, h8, h9, h10, hlt', pow_u64, hw1, hw2, hfd, hed, hw3, hw4, hx, hc, hcl, hm]
            exact ⟨m - i, by omega, i, rfl, m, rfl, by omega, by omega, rfl, n, by omega, hh⟩
        · have hlt' : ¬ (i : Int) < (j : Int) := by omega
          rw [if_neg hlt] at hh
          simp [loopAt, loopsOf, Tryz.f221, h0, h1, h2, h8, h9, h10, hlt', ← hh])
    fs.length s o q hI)
  simp only [loopAt, loopsOf, Tryz.f221] at lp
  obtain ⟨X, A, B, C, hx⟩ := lp
  have hx' := fun s o q a0 a1 a2 a8 a9 a10 => hx s o q ⟨0, fs.length, a0, a1, a2, a8, a9, a10, Nat.le_refl _, Nat.zero_le _, by omega, fs.length + 1, by omega, rfl⟩
  clear hx
  simp at hx'
  unfold thereC
  by_cases hs : seekC fs id < fs.length
  · have hs' : (seekC fs id : Int) < (fs.length : Int) := by omega
    have hg : fs[seekC fs id]? = some fs[seekC fs id] := List.getElem?_eq_getElem hs
    have hc := chainClosure fs[seekC fs id] id
    have heq : (cmpI fs[seekC fs id].id id == 0) = (fs[seekC fs id].id == id) := by
      rw [Bool.eq_iff_iff]; simp [cmpI_eq]
    simp [hx', hs, hs', hg, hc, heq]
  · have hs' : ¬ (seekC fs id : Int) < (fs.length : Int) := by omega
    have hg : fs[seekC fs id]? = none := List.getElem?_eq_none (by omega)
    simp [hx', hs, hs', hg]
theorem chains_rise : ∀ (l : List Chn) (p : Option Int), chainsGo p l = true → (∀ q, p = some q → ∀ c ∈ l, q < c.id) ∧ l.Pairwise (fun a b => a.id < b.id)
  | [], p, _ => by simp
  | c :: r, p, h => by
    simp only [chainsGo, Bool.and_eq_true] at h
    obtain ⟨⟨_, h2⟩, h3⟩ := h
    obtain ⟨i1, i2⟩ := chains_rise r _ h3
    have i1' := i1 c.id rfl
    refine ⟨?_, List.pairwise_cons.2 ⟨i1', i2⟩⟩
    rintro q rfl d hd
    simp at h2
    rcases List.mem_cons.1 hd with rfl | hd
    · omega
    · have := i1' d hd; omega
def placeC (fs : List Chn) (id : Int) : Nat := (fs.takeWhile (fun f => decide (f.id < id))).length
theorem placeC_le (fs : List Chn) (id : Int) : placeC fs id ≤ fs.length := (List.takeWhile_sublist _).length_le
theorem place_there : ∀ (l : List Chn) (id : Int), l.Pairwise (fun a b => a.id < b.id) → (match l[placeC l id]? with
    | some c => if c.id == id then some c else none
    | none => none) = findC l id
  | [], id, _ => rfl
  | x :: r, id, h => by
    obtain ⟨h1, h2⟩ := List.pairwise_cons.1 h
    have ih := place_there r id h2
    unfold placeC findC at *
    by_cases hlt : x.id < id
    · have hne : (x.id == id) = false := by simp; omega
      simp only [List.takeWhile_cons, hlt, decide_true, if_true, List.length_cons, List.getElem?_cons_succ, List.find?_cons, hne]
      exact ih
    · simp only [List.takeWhile_cons, hlt, decide_false, Bool.false_eq_true, if_false, List.length_nil, List.getElem?_cons_zero, List.find?_cons]
      by_cases he : x.id = id
      · simp [he]
      · have hne : (x.id == id) = false := by simp [he]
        simp only [hne, Bool.false_eq_true, if_false]
        symm
        rw [List.find?_eq_none]
        intro y hy
        have := h1 y hy
        simp; omega
theorem place_lt : ∀ (l : List Chn) (id : Int), l.Pairwise (fun a b => a.id < b.id) → ∀ k c, l[k]? = some c → (c.id < id ↔ k < placeC l id)
  | [], id, _, k, c, h => by simp at h
  | x :: r, id, h, k, c, hk => by
    obtain ⟨h1, h2⟩ := List.pairwise_cons.1 h
    unfold placeC
    by_cases hlt : x.id < id
    · cases k with
      | zero => simp at hk; subst hk; simp [hlt]
      | succ k =>
        have ih := place_lt r id h2 k c (by simpa using hk)
        unfold placeC at ih
        simp [hlt, ih]
    · cases k with
      | zero => simp at hk; subst hk; simp [hlt]
      | succ k =>
        have := h1 c (List.mem_of_getElem? (by simpa using hk))
        simp [hlt]; omega
theorem seekC_eq (l : List Chn) (id : Int) (h : l.Pairwise (fun a b => a.id < b.id)) : seekC l id = placeC l id := by
  unfold seekC
  refine halves_ok (p := placeC l id) (m := l.length) ?_ ?_ _ _ _ (Nat.zero_le _) (placeC_le l id) (Nat.le_refl _) (by omega)
  · intro k hk
    have hlt : k < l.length := Nat.lt_of_lt_of_le hk (placeC_le l id)
    have hg : l[k]? = some l[k] := List.getElem?_eq_getElem hlt
    simp only [hg]
    exact decide_eq_true ((place_lt l id h k _ hg).2 hk)
  · intro k hk hkl
    have hg : l[k]? = some l[k] := List.getElem?_eq_getElem hkl
    simp only [hg]
    refine decide_eq_false fun hb => ?_
    have := (place_lt l id h k _ hg).1 hb
    omega
/-- What a search by halves finds is what a plain search finds. -/
theorem seek_find (l : List Chn) (id : Int) (h : l.Pairwise (fun a b => a.id < b.id)) : (thereC l id = true → l[seekC l id]? = findC l id ∧ seekC l id < l.length) ∧ (thereC l id = false → findC l id = none) := by
  have hp := place_there l id h
  unfold thereC
  rw [seekC_eq l id h]
  cases hg : l[placeC l id]? with
  | none => rw [hg] at hp; simp at hp; simp [← hp]
  | some c =>
    rw [hg] at hp
    simp only at hp
    by_cases he : c.id = id
    · simp [he] at hp
      have := (List.getElem?_eq_some_iff.1 hg).1
      simp [he, ← hp, this]
    · simp [he] at hp
      simp [he, ← hp]
end Go.Zd
/- Orders of lists: slices.CompareFunc, cmp.Or. -/
set_option linter.unusedSimpArgs false
set_option linter.unusedVariables false
namespace Go.Zd
open Go.Ev Go.Proofs Go.Pu
set_option maxRecDepth 100000
set_option maxHeartbeats 16000000
/-- Lists in order, item by item. -/
def ordL {α : Type} (f : α → α → Int) : List α → List α → Int
  | [], [] => 0
  | [], _ :: _ => -1
  | _ :: _, [] => 1
  | x :: xs, y :: ys => if f x y = 0 then ordL f xs ys else f x y
/-- The first list is gone through with nothing told apart. -/
def thru {α : Type} (f : α → α → Int) : List α → List α → Bool
  | [], _ => true
  | _ :: _, [] => false
  | x :: xs, y :: ys => decide (f x y = 0) && thru f xs ys
theorem thru_ord {α : Type} {f : α → α → Int} : ∀ {xs ys : List α}, thru f xs ys = true → ordL f xs ys = if xs.length < ys.length then -1 else 0
  | [], [], _ => by simp [ordL]
  | [], _ :: _, _ => by simp [ordL]
  | _ :: _, [], h => by simp [thru] at h
  | x :: xs, y :: ys, h => by
    simp [thru] at h
    have := thru_ord h.2
    simp [ordL, h.1, this]
def orI (a b : Int) : Int := if a = 0 then b else a
theorem cmpOr (a b : Int) : run E (.call 192 [.t (.list [.int .i64 a, .int .i64 b])]) = some (.res [xI (orI a b)] []) := by
  rw [run_call E 192 _ rfl Tryz.func192 rfl rfl rfl (by simp)]
  have lp := sk (fun s o q hI => loop_for (c := loopAt Tryz.f192 0) (N := 18)
    (fun i s o q => s 3 = .t (.int .i64 0) ∧ s 6 = .t (.list [.int .i64 a, .int .i64 b]) ∧ s 7 = .t (.int .i64 2) ∧ s 8 = .t (.int .i64 i) ∧ (i = 1 → a = 0) ∧ (i = 2 → a = 0 ∧ b = 0))
    (fun e s' o' q' => e = (if orI a b = 0 then .exit 0 else .ret) ∧ s' 3 = .t (.int .i64 0) ∧ (¬ orI a b = 0 → s' 2 = .t (.int .i64 (orI a b)))) 2
    (by
      rintro i s o q hi ⟨h3, h6, h7, h8, hp, hp2⟩
      have hw := wrap_succ (n := i) (by omega)
      match i, hi with
      | 0, _ =>
        by_cases ha : a = 0
        · subst ha
          simp [loopAt, loopsOf, Tryz.f192, h3, h6, h7, h8]
        · have hb : orI a b = a := by simp [orI, ha]
          simp [loopAt, loopsOf, Tryz.f192, h3, h6, h7, h8, ha, hb]
      | 1, _ =>
        have ha := hp rfl
        subst ha
        have hb : orI 0 b = b := by simp [orI]
        simp at hw
        by_cases h : b = 0
        · subst h
          simp [loopAt, loopsOf, Tryz.f192, h3, h6, h7, h8, hw]
        · simp [loopAt, loopsOf, Tryz.f192, h3, h6, h7, h8, hb, h, hw])
    (by
      rintro s o q ⟨h3, h6, h7, h8, hp, hp2⟩
      obtain ⟨ha, hb⟩ := hp2 rfl
      subst ha hb
      simp [loopAt, loopsOf, Tryz.f192, h3, h6, h7, h8, orI])
    2 0 s o q (by omega) hI)
  simp only [loopAt, loopsOf, Tryz.f192] at lp
  obtain ⟨X, A, B, C, hx⟩ := lp
  generalize orI a b = r at *
  by_cases h : r = 0
  · subst h
    simp at hx
    simp [hx]
  · simp [h] at hx
    simp [hx]
theorem compareFunc_195 (xs ys : List Val) (g : Nat) (f : Val → Val → Int) (hl : xs.length < 4294967296) (hl2 : ys.length < 4294967296) (hm : E.md g = []) (hf : E.flat g = true) (hp : ∀ x ∈ xs, ∀ y ∈ ys, run E (.call g [.t (valT x), .t (valT y)]) = some (.res [xI (f x y)] [])) :
    run E (.call 195 [.t (.list (xs.map valT)), .t (.list (ys.map valT)), .fn g []]) = some (.res [xI (ordL f xs ys)] []) := by
  rw [run_call E 195 _ rfl Tryz.func195 rfl rfl rfl (by simp)]
  rw [E_md] at hm
  have lp := fun (r : Int) (w : Bool) (hr : r = ordL f xs ys) (hw : w = thru f xs ys) => sk (fun s o q hI => loop_for (c := loopAt Tryz.f195 0) (N := 39)
    (fun i s o q => s 0 = .t (.list (xs.map valT)) ∧ s 1 = .t (.list (ys.map valT)) ∧ s 2 = .fn g [] ∧ s 11 = .t (.list (xs.map valT)) ∧ s 12 = .t (.int .i64 xs.length) ∧ s 13 = .t (.int .i64 i) ∧ i ≤ ys.length ∧ r = ordL f (xs.drop i) (ys.drop i) ∧ w = thru f (xs.drop i) (ys.drop i))
    (fun e s' o' q' => e = (if w then .exit 0 else .ret) ∧ s' 0 = .t (.list (xs.map valT)) ∧ s' 1 = .t (.list (ys.map valT)) ∧ (w = false → s' 6 = .t (.int .i64 r))) xs.length
    (by
      rintro i s o q hi ⟨h0, h1, h2, h11, h12, h13, hiy, hr, hwr⟩
      have hi' : (i : Int) < (xs.length : Int) := by omega
      have hw := wrap_succ (n := i) (by omega)
      have hxi : xs[i]? = some xs[i] := List.getElem?_eq_getElem hi
      have hqq : q ≠ q + 1 := by omega
      have hqq2 : q + 1 ≠ q := by omega
      rw [List.drop_eq_getElem_cons hi] at hr hwr
      by_cases hy : i < ys.length
      · have hy' : ¬ (ys.length : Int) ≤ (i : Int) := by omega
        have hyi : ys[i]? = some ys[i] := List.getElem?_eq_getElem hy
        have hx := hp xs[i] (List.getElem_mem hi) ys[i] (List.getElem_mem hy)
        rw [List.drop_eq_getElem_cons hy] at hr hwr
        rw [ordL] at hr
        rw [thru] at hwr
        by_cases hz : f xs[i] ys[i] = 0
        · rw [hz] at hx
          simp [hz] at hr hwr
          simp [-mdOf, loopAt, loopsOf, Tryz.f195, h0, h1, h2, h11, h12, h13, hi', hxi, hyi, hx, hw, hm, hf, hy, hy', hqq, hqq2]
          exact ⟨by omega, hr, hwr⟩
        · simp [hz] at hr hwr
          simp [-mdOf, loopAt, loopsOf, Tryz.f195, h0, h1, h2, h11, h12, h13, hi', hxi, hyi, hx, hw, hm, hf, hy, hy', hqq, hqq2, hz, hr, hwr]
      · have hy' : (ys.length : Int) ≤ (i : Int) := by omega
        have he : ys.drop i = [] := List.drop_eq_nil_of_le (by omega)
        rw [he] at hr hwr
        rw [ordL] at hr
        rw [thru] at hwr
        simp [-mdOf, loopAt, loopsOf, Tryz.f195, h0, h1, h2, h11, h12, h13, hi', hxi, hw, hm, hf, hy, hy', hqq, hqq2, hr, hwr])
    (by
      rintro s o q ⟨h0, h1, h2, h11, h12, h13, hiy, hr, hwr⟩
      rw [List.drop_length, thru] at hwr
      simp [loopAt, loopsOf, Tryz.f195, h0, h1, h2, h11, h12, h13, hwr])
    xs.length 0 s o q (by omega) hI)
  simp only [loopAt, loopsOf, Tryz.f195] at lp
  obtain ⟨w, hw⟩ : ∃ w, w = thru f xs ys := ⟨_, rfl⟩
  obtain ⟨r, hr⟩ : ∃ r, r = ordL f xs ys := ⟨_, rfl⟩
  obtain ⟨X, A, B, C, hx⟩ := lp r w hr hw
  have hx' := fun s o q a0 a1 a2 a11 a12 a13 => hx s o q ⟨a0, a1, a2, a11, a12, a13, Nat.zero_le _, by simpa using hr, by simpa using hw⟩
  clear hx lp
  rw [← hr]
  cases w with
  | true =>
    have ho := thru_ord hw.symm
    rw [← hr] at ho
    have hlt : ((xs.length : Int) < (ys.length : Int)) = (xs.length < ys.length) := by simp
    by_cases h : xs.length < ys.length
    · simp [h] at ho
      simp at hx'
      simp [hx', h, ho]
    · simp [h] at ho
      simp at hx'
      simp [hx', h, ho]
  | false =>
    simp at hx'
    simp [hx']
theorem compareFunc_196 (xs ys : List Fld) (g : Nat) (f : Fld → Fld → Int) (hl : xs.length < 4294967296) (hl2 : ys.length < 4294967296) (hm : E.md g = []) (hf : E.flat g = true) (hp : ∀ x ∈ xs, ∀ y ∈ ys, run E (.call g [.t (fldT x), .t (fldT y)]) = some (.res [xI (f x y)] [])) :
    run E (.call 196 [.t (.list (xs.map fldT)), .t (.list (ys.map fldT)), .fn g []]) = some (.res [xI (ordL f xs ys)] []) := by
  rw [run_call E 196 _ rfl Tryz.func196 rfl rfl rfl (by simp)]
  rw [E_md] at hm
  have lp := fun (r : Int) (w : Bool) (hr : r = ordL f xs ys) (hw : w = thru f xs ys) => sk (fun s o q hI => loop_for (c := loopAt Tryz.f196 0) (N := 39)
    (fun i s o q => s 0 = .t (.list (xs.map fldT)) ∧ s 1 = .t (.list (ys.map fldT)) ∧ s 2 = .fn g [] ∧ s 11 = .t (.list (xs.map fldT)) ∧ s 12 = .t (.int .i64 xs.length) ∧ s 13 = .t (.int .i64 i) ∧ i ≤ ys.length ∧ r = ordL f (xs.drop i) (ys.drop i) ∧ w = thru f (xs.drop i) (ys.drop i))
    (fun e s' o' q' => e = (if w then .exit 0 else .ret) ∧ s' 0 = .t (.list (xs.map fldT)) ∧ s' 1 = .t (.list (ys.map fldT)) ∧ (w = false → s' 6 = .t (.int .i64 r))) xs.length
    (by
      rintro i s o q hi ⟨h0, h1, h2, h11, h12, h13, hiy, hr, hwr⟩
      have hi' : (i : Int) < (xs.length : Int) := by omega
      have hw := wrap_succ (n := i) (by omega)
      have hxi : xs[i]? = some xs[i] := List.getElem?_eq_getElem hi
      have hqq : q ≠ q + 1 := by omega
      have hqq2 : q + 1 ≠ q := by omega
      rw [List.drop_eq_getElem_cons hi] at hr hwr
      by_cases hy : i < ys.length
      · have hy' : ¬ (ys.length : Int) ≤ (i : Int) := by omega
        have hyi : ys[i]? = some ys[i] := List.getElem?_eq_getElem hy
        have hx := hp xs[i] (List.getElem_mem hi) ys[i] (List.getElem_mem hy)
        rw [List.drop_eq_getElem_cons hy] at hr hwr
        rw [ordL] at hr
        rw [thru] at hwr
        by_cases hz : f xs[i] ys[i] = 0
        · rw [hz] at hx
          simp [hz] at hr hwr
          simp [-mdOf, loopAt, loopsOf, Tryz.f196, h0, h1, h2, h11, h12, h13, hi', hxi, hyi, hx, hw, hm, hf, hy, hy', hqq, hqq2]
          exact ⟨by omega, hr, hwr⟩
        · simp [hz] at hr hwr
          simp [-mdOf, loopAt, loopsOf, Tryz.f196, h0, h1, h2, h11, h12, h13, hi', hxi, hyi, hx, hw, hm, hf, hy, hy', hqq, hqq2, hz, hr, hwr]
      · have hy' : (ys.length : Int) ≤ (i : Int) := by omega
        have he : ys.drop i = [] := List.drop_eq_nil_of_le (by omega)
        rw [he] at hr hwr
        rw [ordL] at hr
        rw [thru] at hwr
        simp [-mdOf, loopAt, loopsOf, Tryz.f196, h0, h1, h2, h11, h12, h13, hi', hxi, hw, hm, hf, hy, hy', hqq, hqq2, hr, hwr])
    (by
      rintro s o q ⟨h0, h1, h2, h11, h12, h13, hiy, hr, hwr⟩
      rw [List.drop_length, thru] at hwr
      simp [loopAt, loopsOf, Tryz.f196, h0, h1, h2, h11, h12, h13, hwr])
    xs.length 0 s o q (by omega) hI)
  simp only [loopAt, loopsOf, Tryz.f196] at lp
  obtain ⟨w, hw⟩ : ∃ w, w = thru f xs ys := ⟨_, rfl⟩
  obtain ⟨r, hr⟩ : ∃ r, r = ordL f xs ys := ⟨_, rfl⟩
  obtain ⟨X, A, B, C, hx⟩ := lp r w hr hw
  have hx' := fun s o q a0 a1 a2 a11 a12 a13 => hx s o q ⟨a0, a1, a2, a11, a12, a13, Nat.zero_le _, by simpa using hr, by simpa using hw⟩
  clear hx lp
  rw [← hr]
  cases w with
  | true =>
    have ho := thru_ord hw.symm
    rw [← hr] at ho
    have hlt : ((xs.length : Int) < (ys.length : Int)) = (xs.length < ys.length) := by simp
    by_cases h : xs.length < ys.length
    · simp [h] at ho
      simp at hx'
      simp [hx', h, ho]
    · simp [h] at ho
      simp at hx'
      simp [hx', h, ho]
  | false =>
    simp at hx'
    simp [hx']
end Go.Zd
/- impl's order of values. -/
set_option linter.unusedSimpArgs false
set_option linter.unusedVariables false
namespace Go.Zd
open Go.Ev Go.Proofs Go.Pu
set_option maxRecDepth 100000
set_option maxHeartbeats 16000000
/-- Values in order. -/
def ordD : Nat → Val → Val → Int
  | d, a, b =>
    if orI (cmpI a.k b.k) (cmpI a.n b.n) = 0 then
      (if a.k = 4 then (match d with
        | 0 => 0
        | d + 1 => ordL (ordD d) (itemsL a.t) (itemsL b.t))
      else if a.k = 5 then (match d with
        | 0 => 0
        | d + 1 => ordL (fun f g => orI (Lib.compareBytes f.name g.name) (ordD d f.v g.v)) (fieldsL a.t) (fieldsL b.t))
      else Lib.compareBytes a.t b.t)
    else orI (cmpI a.k b.k) (cmpI a.n b.n)
theorem orI_zero {a b : Int} (h : orI a b = 0) : a = 0 ∧ b = 0 := by
  unfold orI at h
  split at h
  · exact ⟨by assumption, h⟩
  · contradiction
theorem orderFields (f g : Fld) (n : Int) (h : run E (.call 129 [xV f.v, xV g.v]) = some (.res [xI n] [])) : run E (.call 197 [.t (fldT f), .t (fldT g)]) = some (.res [xI (orI (Lib.compareBytes f.name g.name) n)] []) := by
  rw [run_call E 197 _ rfl Tryz.func197 rfl rfl rfl (by simp)]
  have d1 := d197_1
  simp [regionOf, findR, pick, Tryz.f197] at d1
  have dd := fun st => run_region_draw E st 1 _ d1
  clear d1
  have hr2 : List.range 2 = [0, 1] := rfl
  simp [dd, compare f.name g.name, h, cmpOr, hr2]
theorem implOrder : ∀ (d : Nat) (a b : Val), okP d a = true → okP d b = true → a.t.length < 4294967296 → b.t.length < 4294967296 → run E (.call 129 [xV a, xV b]) = some (.res [xI (ordD d a b)] []) := by
  intro d
  induction d with
  | zero =>
    intro a b ha hb hal hbl
    rw [run_call E 129 _ rfl Tryz.func129 rfl rfl rfl (by simp)]
    have d1 := d129_1
    simp [regionOf, findR, pick, Tryz.f129] at d1
    have dd := fun st => run_region_draw E st 1 _ d1
    clear d1
    have hr2 : List.range 2 = [0, 1] := rfl
    have e4 : (a.k = 4) = False := by
      simp; intro h; obtain ⟨e, _, hd, _⟩ := okP_list ha h; omega
    have e5 : (a.k = 5) = False := by
      simp; intro h; obtain ⟨e, _, hd, _⟩ := okP_doc ha h; omega
    have c1 := compareInt a.k b.k
    have c2 := compareInt a.n b.n
    have c3 := cmpOr (cmpI a.k b.k) (cmpI a.n b.n)
    have c4 := compare a.t b.t
    unfold ordD
    generalize orI (cmpI a.k b.k) (cmpI a.n b.n) = z at *
    by_cases hz : z = 0
    · subst hz
      simp [dd, hr2, c1, c2, c3, c4, e4, e5]
    · simp [dd, hr2, c1, c2, c3, c4, e4, e5, hz]
  | succ d ih =>
    intro a b ha hb hal hbl
    rw [run_call E 129 _ rfl Tryz.func129 rfl rfl rfl (by simp)]
    have d1 := d129_1
    simp [regionOf, findR, pick, Tryz.f129] at d1
    have dd := fun st => run_region_draw E st 1 _ d1
    clear d1
    have hr2 : List.range 2 = [0, 1] := rfl
    have c1 := compareInt a.k b.k
    have c2 := compareInt a.n b.n
    have c3 := cmpOr (cmpI a.k b.k) (cmpI a.n b.n)
    have c4 := compare a.t b.t
    have hkk : orI (cmpI a.k b.k) (cmpI a.n b.n) = 0 → b.k = a.k := by
      intro h
      have := (orI_zero h).1
      rw [cmpI_eq] at this
      exact this.symm
    unfold ordD
    generalize orI (cmpI a.k b.k) (cmpI a.n b.n) = z at *
    by_cases hz : z = 0
    · subst hz
      have hk := hkk rfl
      clear hkk
      by_cases h4 : a.k = 4
      · obtain ⟨e, xs, hd, _, hi, hx⟩ := okP_list ha h4
        obtain ⟨e', ys, hd', _, hi', hy⟩ := okP_list hb (by omega)
        obtain rfl : d = e := by omega
        obtain rfl : d = e' := by omega
        obtain ⟨s1, s2⟩ := items_small hi
        obtain ⟨t1, t2⟩ := items_small hi'
        have i1 := implItems a hal
        have i2 := implItems b hbl
        rw [itemsI_some hi] at i1
        rw [itemsI_some hi'] at i2
        have hc := compareFunc_195 xs ys 129 (ordD d) (by omega) (by omega) (by simp) (by simp) (fun x hx' y hy' => ih x y (hx x hx') (hy y hy') (by have := s2 x hx'; omega) (by have := t2 y hy'; omega))
        have e4 : (a.k = 4) = True := eq_true h4
        have eL : itemsL a.t = xs := by simp [itemsL, hi]
        have eL' : itemsL b.t = ys := by simp [itemsL, hi']
        clear h4
        simp at i1 i2
        simp [dd, hr2, c1, c2, c3, c4, e4, i1, i2, hc, eL, eL']
      · have e4 : (a.k = 4) = False := eq_false h4
        by_cases h5 : a.k = 5
        · obtain ⟨e, xs, hd, _, hi, _, hx⟩ := okP_doc ha h5
          obtain ⟨e', ys, hd', _, hi', _, hy⟩ := okP_doc hb (by omega)
          obtain rfl : d = e := by omega
          obtain rfl : d = e' := by omega
          obtain ⟨s1, s2⟩ := fields_small hi
          obtain ⟨t1, t2⟩ := fields_small hi'
          have i1 := implFields a hal
          have i2 := implFields b hbl
          rw [fieldsI_some hi] at i1
          rw [fieldsI_some hi'] at i2
          have hc := compareFunc_196 xs ys 197 (fun f g => orI (Lib.compareBytes f.name g.name) (ordD d f.v g.v)) (by omega) (by omega) (by simp) (by simp) (fun x hx' y hy' => orderFields x y _ (ih x.v y.v (hx x hx').2 (hy y hy').2 (by have := s2 x hx'; omega) (by have := t2 y hy'; omega)))
          have e5 : (a.k = 5) = True := eq_true h5
          have eL : fieldsL a.t = xs := by simp [fieldsL, hi]
          have eL' : fieldsL b.t = ys := by simp [fieldsL, hi']
          clear h5
          simp at i1 i2
          simp [dd, hr2, c1, c2, c3, c4, e4, e5, i1, i2, hc, eL, eL']
        · have e5 : (a.k = 5) = False := eq_false h5
          simp [dd, hr2, c1, c2, c3, c4, e4, e5]
    · simp [dd, hr2, c1, c2, c3, c4, hz]
end Go.Zd
/- spec's order of values. -/
set_option linter.unusedSimpArgs false
set_option linter.unusedVariables false
namespace Go.Zd
open Go.Ev Go.Proofs Go.Pu
set_option maxRecDepth 100000
set_option maxHeartbeats 16000000
theorem ordL_zero {α : Type} {f : α → α → Int} : ∀ {xs ys : List α}, (∀ x ∈ xs, ∀ y ∈ ys, f x y = 0 → x = y) → ordL f xs ys = 0 → xs = ys
  | [], [], _, _ => rfl
  | [], _ :: _, _, h => by simp [ordL] at h
  | _ :: _, [], _, h => by simp [ordL] at h
  | x :: xs, y :: ys, hf, h => by
    unfold ordL at h
    split at h
    · rename_i hz
      rw [hf x (by simp) y (by simp) hz, ordL_zero (fun a ha b hb => hf a (by simp [ha]) b (by simp [hb])) h]
    · contradiction
theorem ordL_refl {α : Type} {f : α → α → Int} : ∀ {xs : List α}, (∀ x ∈ xs, f x x = 0) → ordL f xs xs = 0
  | [], _ => rfl
  | x :: xs, h => by
    unfold ordL
    rw [if_pos (h x (by simp))]
    exact ordL_refl (fun y hy => h y (by simp [hy]))
theorem val_eq {a b : Val} (h1 : a.k = b.k) (h2 : a.n = b.n) (h3 : a.t = b.t) : a = b := by
  cases a; cases b; simp_all
theorem fld_eq {a b : Fld} (h1 : a.name = b.name) (h2 : a.v = b.v) : a = b := by
  cases a; cases b; simp_all
theorem ordD_zero : ∀ (d : Nat) (a b : Val), okP d a = true → okP d b = true → ordD d a b = 0 → a = b := by
  intro d
  induction d with
  | zero =>
    intro a b ha hb h
    unfold ordD at h
    split at h
    · rename_i hz
      obtain ⟨h1, h2⟩ := orI_zero hz
      rw [cmpI_eq] at h1 h2
      refine val_eq h1 h2 ?_
      split at h
      · rename_i h4; obtain ⟨e, _, hd, _⟩ := okP_list ha h4; omega
      · split at h
        · rename_i h5; obtain ⟨e, _, hd, _⟩ := okP_doc ha h5; omega
        · rwa [compareBytes_eq] at h
    · contradiction
  | succ d ih =>
    intro a b ha hb h
    unfold ordD at h
    split at h
    · rename_i hz
      obtain ⟨h1, h2⟩ := orI_zero hz
      rw [cmpI_eq] at h1 h2
      refine val_eq h1 h2 ?_
      split at h
      · rename_i h4
        obtain ⟨e, xs, hd, _, hi, hx⟩ := okP_list ha h4
        obtain ⟨e', ys, hd', _, hi', hy⟩ := okP_list hb (by omega)
        obtain rfl : d = e := by omega
        obtain rfl : d = e' := by omega
        simp [itemsL, hi, hi'] at h
        have := ordL_zero (fun x hx' y hy' hz => ih x y (hx x hx') (hy y hy') hz) h
        subst this
        exact items_inj hi hi'
      · split at h
        · rename_i h5
          obtain ⟨e, xs, hd, _, hi, _, hx⟩ := okP_doc ha h5
          obtain ⟨e', ys, hd', _, hi', _, hy⟩ := okP_doc hb (by omega)
          obtain rfl : d = e := by omega
          obtain rfl : d = e' := by omega
          simp [fieldsL, hi, hi'] at h
          have := ordL_zero (fun x hx' y hy' hz => by
            obtain ⟨z1, z2⟩ := orI_zero hz
            rw [compareBytes_eq] at z1
            exact fld_eq z1 (ih x.v y.v (hx x hx').2 (hy y hy').2 z2)) h
          subst this
          exact fields_inj hi hi'
        · rwa [compareBytes_eq] at h
    · contradiction
theorem cmpI_refl (a : Int) : cmpI a a = 0 := by simp [cmpI]
theorem cmpB_refl (a : Bytes) : Lib.compareBytes a a = 0 := by rw [compareBytes_eq]
theorem ordD_refl : ∀ (d : Nat) (a : Val), okP d a = true → ordD d a a = 0 := by
  intro d
  induction d with
  | zero =>
    intro a ha
    unfold ordD
    simp [cmpI_refl, orI, cmpB_refl]
  | succ d ih =>
    intro a ha
    unfold ordD
    simp only [cmpI_refl, orI, if_true]
    by_cases h4 : a.k = 4
    · obtain ⟨e, xs, hd, _, hi, hx⟩ := okP_list ha h4
      obtain rfl : d = e := by omega
      simp [h4, itemsL, hi]
      exact ordL_refl (fun x hx' => ih x (hx x hx'))
    · by_cases h5 : a.k = 5
      · obtain ⟨e, xs, hd, _, hi, _, hx⟩ := okP_doc ha h5
        obtain rfl : d = e := by omega
        simp [h5, fieldsL, hi]
        exact ordL_refl (fun x hx' => by simp [cmpB_refl, ih x.v (hx x hx').2])
      · simp [h4, h5, cmpB_refl]
end Go.Zd
/- spec's order of values is impl's. -/
set_option linter.unusedSimpArgs false
set_option linter.unusedVariables false
namespace Go.Zd
open Go.Ev Go.Proofs Go.Pu
set_option maxRecDepth 100000
set_option maxHeartbeats 16000000
theorem cmpB_sign : ∀ (a b : Bytes), a ≠ b → Lib.compareBytes a b = if Op.bytesLess a b = true then -1 else 1
  | [], [], h => absurd rfl h
  | [], _ :: _, _ => by simp [Lib.compareBytes, Op.bytesLess]
  | _ :: _, [], _ => by simp [Lib.compareBytes, Op.bytesLess]
  | x :: a, y :: b, h => by
    unfold Lib.compareBytes Op.bytesLess
    by_cases h1 : x < y
    · simp [h1]
    · by_cases h2 : y < x
      · have : ¬ x = y := fun e => by subst e; exact absurd h2 (UInt8.lt_irrefl x)
        simp [h1, h2, this]
      · have e : x = y := UInt8.le_antisymm (UInt8.not_lt.1 h2) (UInt8.not_lt.1 h1)
        subst e
        have hab : a ≠ b := fun e => h (by rw [e])
        simp [h1, cmpB_sign a b hab]
/-- One of the two is gone through with nothing told apart. -/
def cutB {α : Type} (f : α → α → Int) : List α → List α → Bool
  | [], _ => true
  | _ :: _, [] => true
  | x :: xs, y :: ys => decide (f x y = 0) && cutB f xs ys
theorem cutB_ord {α : Type} {f : α → α → Int} : ∀ {xs ys : List α}, cutB f xs ys = true → ordL f xs ys = if xs.length < ys.length then -1 else if ys.length < xs.length then 1 else 0
  | [], [], _ => by simp [ordL]
  | [], _ :: _, _ => by simp [ordL]
  | _ :: _, [], h => by simp [ordL]
  | x :: xs, y :: ys, h => by
    simp [cutB] at h
    have := cutB_ord h.2
    simp [ordL, h.1, this]
theorem specItems_loop (d : Nat) (xs ys : List Val) (hl : xs.length < 4294967296) (hl2 : ys.length < 4294967296) (hp : ∀ x ∈ xs, ∀ y ∈ ys, run E (.call 125 [xV x, xV y]) = some (.res [xI (ordD d x y)] []))
    (r : Int) (w : Bool) (hr : r = ordL (ordD d) xs ys) (hw : w = cutB (ordD d) xs ys) : ∀ s o q, (s 5 = .row 2 ∧ s 7 = .row 3 ∧ s 9 = .t (.int .i64 0) ∧ o 2 = .row 25 (xs.map valT) true ∧ o 3 = .row 25 (ys.map valT) true) →
    ∃ e s' o' q', run E (.code (.loop (loopAt Tryz.f125 0)) ⟨s, o, q, 182⟩) = some (.st e ⟨s', o', q', 182⟩) ∧ e = (if w then .exit 1 else .ret) ∧ s' 5 = .row 2 ∧ s' 7 = .row 3 ∧ o' 2 = .row 25 (xs.map valT) true ∧ o' 3 = .row 25 (ys.map valT) true ∧ (w = false → s' 4 = .t (.int .i64 r)) := by
  intro s o q hI
  have d15 := d125_15
  simp [regionOf, findR, pick, Tryz.f125] at d15
  have dd := fun st => run_region_draw E st 15 _ d15
  clear d15
  refine loop_wf (c := loopAt Tryz.f125 0) (N := 182)
    (fun k s o q => ∃ i : Nat, k = xs.length - i ∧ s 5 = .row 2 ∧ s 7 = .row 3 ∧ s 9 = .t (.int .i64 i) ∧ o 2 = .row 25 (xs.map valT) true ∧ o 3 = .row 25 (ys.map valT) true ∧ i ≤ xs.length ∧ i ≤ ys.length ∧ r = ordL (ordD d) (xs.drop i) (ys.drop i) ∧ w = cutB (ordD d) (xs.drop i) (ys.drop i))
    (fun e s' o' q' => e = (if w then .exit 1 else .ret) ∧ s' 5 = .row 2 ∧ s' 7 = .row 3 ∧ o' 2 = .row 25 (xs.map valT) true ∧ o' 3 = .row 25 (ys.map valT) true ∧ (w = false → s' 4 = .t (.int .i64 r)))
    ?_ xs.length s o q ⟨0, by omega, hI.1, hI.2.1, hI.2.2.1, hI.2.2.2.1, hI.2.2.2.2, Nat.zero_le _, Nat.zero_le _, by simpa using hr, by simpa using hw⟩
  rintro k s o q ⟨i, hk, h5, h7, h9, ho, ho2, hix, hiy, hr, hwr⟩
  have hwi := wrap_succ (n := i) (by omega)
  by_cases hx : i < xs.length
  · have hx' : (i : Int) < (xs.length : Int) := by omega
    have hxi : xs[i]? = some xs[i] := List.getElem?_eq_getElem hx
    rw [List.drop_eq_getElem_cons hx] at hr hwr
    by_cases hy : i < ys.length
    · have hy' : (i : Int) < (ys.length : Int) := by omega
      have hyi : ys[i]? = some ys[i] := List.getElem?_eq_getElem hy
      have hc := hp xs[i] (List.getElem_mem hx) ys[i] (List.getElem_mem hy)
      rw [List.drop_eq_getElem_cons hy] at hr hwr
      rw [ordL] at hr
      rw [cutB] at hwr
      by_cases hz : ordD d xs[i] ys[i] = 0
      · rw [hz] at hc
        simp [hz] at hr hwr
        simp [loopAt, loopsOf, Tryz.f125, dd, h5, h7, h9, ho, ho2, hx, hy, hx', hy', hxi, hyi, hc, hwi]
        exact ⟨xs.length - (i + 1), by omega, i + 1, rfl, by simp, by omega, by omega, hr, hwr⟩
      · simp [hz] at hr hwr
        simp [loopAt, loopsOf, Tryz.f125, dd, h5, h7, h9, ho, ho2, hx, hy, hx', hy', hxi, hyi, hc, hwi, hz, hr, hwr]
    · have hy' : ¬ (i : Int) < (ys.length : Int) := by omega
      have he : ys.drop i = [] := List.drop_eq_nil_of_le (by omega)
      rw [he, cutB] at hwr
      simp [loopAt, loopsOf, Tryz.f125, dd, h5, h7, h9, ho, ho2, hx, hy, hx', hy', hxi, hwi, hwr]
  · have hx' : ¬ (i : Int) < (xs.length : Int) := by omega
    have he : xs.drop i = [] := List.drop_eq_nil_of_le (by omega)
    rw [he, cutB] at hwr
    simp [loopAt, loopsOf, Tryz.f125, dd, h5, h7, h9, ho, ho2, hx, hx', hwi, hwr]
end Go.Zd
/- spec's order of values: documents, and the whole. -/
set_option linter.unusedSimpArgs false
set_option linter.unusedVariables false
namespace Go.Zd
open Go.Ev Go.Proofs Go.Pu
set_option maxRecDepth 100000
set_option maxHeartbeats 16000000
def fldO (d : Nat) (f g : Fld) : Int := orI (Lib.compareBytes f.name g.name) (ordD d f.v g.v)
theorem specFields_loop (d : Nat) (xs ys : List Fld) (hl : xs.length < 4294967296) (hl2 : ys.length < 4294967296) (hp : ∀ x ∈ xs, ∀ y ∈ ys, run E (.call 125 [xV x.v, xV y.v]) = some (.res [xI (ordD d x.v y.v)] []))
    (r : Int) (w : Bool) (hr : r = ordL (fldO d) xs ys) (hw : w = cutB (fldO d) xs ys) : ∀ s o q, (s 11 = .row 2 ∧ s 13 = .row 3 ∧ s 15 = .t (.int .i64 0) ∧ o 2 = .row 198 (xs.map fldT) true ∧ o 3 = .row 198 (ys.map fldT) true) →
    ∃ e s' o' q', run E (.code (.loop (loopAt Tryz.f125 1)) ⟨s, o, q, 182⟩) = some (.st e ⟨s', o', q', 182⟩) ∧ e = (if w then .exit 3 else .ret) ∧ s' 11 = .row 2 ∧ s' 13 = .row 3 ∧ o' 2 = .row 198 (xs.map fldT) true ∧ o' 3 = .row 198 (ys.map fldT) true ∧ (w = false → s' 4 = .t (.int .i64 r)) := by
  intro s o q hI
  have d24 := d125_24
  simp [regionOf, findR, pick, Tryz.f125] at d24
  have dd := fun st => run_region_draw E st 24 _ d24
  clear d24
  have d25 := d125_25
  simp [regionOf, findR, pick, Tryz.f125] at d25
  have de := fun st => run_region_draw E st 25 _ d25
  clear d25
  have d26 := d125_26
  simp [regionOf, findR, pick, Tryz.f125] at d26
  have df := fun st => run_region_draw E st 26 _ d26
  clear d26
  have b1 := l01Bit true
  have b0 := l01Bit false
  simp at b1 b0
  have w2 : IntKind.i64.wrap 2 = 2 := rfl
  have wm : IntKind.i64.wrap (-1) = -1 := rfl
  refine loop_wf (c := loopAt Tryz.f125 1) (N := 182)
    (fun k s o q => ∃ i : Nat, k = xs.length - i ∧ s 11 = .row 2 ∧ s 13 = .row 3 ∧ s 15 = .t (.int .i64 i) ∧ o 2 = .row 198 (xs.map fldT) true ∧ o 3 = .row 198 (ys.map fldT) true ∧ i ≤ xs.length ∧ i ≤ ys.length ∧ r = ordL (fldO d) (xs.drop i) (ys.drop i) ∧ w = cutB (fldO d) (xs.drop i) (ys.drop i))
    (fun e s' o' q' => e = (if w then .exit 3 else .ret) ∧ s' 11 = .row 2 ∧ s' 13 = .row 3 ∧ o' 2 = .row 198 (xs.map fldT) true ∧ o' 3 = .row 198 (ys.map fldT) true ∧ (w = false → s' 4 = .t (.int .i64 r)))
    ?_ xs.length s o q ⟨0, by omega, hI.1, hI.2.1, hI.2.2.1, hI.2.2.2.1, hI.2.2.2.2, Nat.zero_le _, Nat.zero_le _, by simpa using hr, by simpa using hw⟩
  rintro k s o q ⟨i, hk, h5, h7, h9, ho, ho2, hix, hiy, hr, hwr⟩
  have hwi := wrap_succ (n := i) (by omega)
  by_cases hx : i < xs.length
  · have hx' : (i : Int) < (xs.length : Int) := by omega
    have hxi : xs[i]? = some xs[i] := List.getElem?_eq_getElem hx
    rw [List.drop_eq_getElem_cons hx] at hr hwr
    by_cases hy : i < ys.length
    · have hy' : (i : Int) < (ys.length : Int) := by omega
      have hyi : ys[i]? = some ys[i] := List.getElem?_eq_getElem hy
      have hc := hp xs[i] (List.getElem_mem hx) ys[i] (List.getElem_mem hy)
      rw [List.drop_eq_getElem_cons hy] at hr hwr
      rw [ordL] at hr
      rw [cutB] at hwr
      by_cases hn : xs[i].name = ys[i].name
      · have hn' : (xs[i].name = ys[i].name) = True := eq_true hn
        have hf : fldO d xs[i] ys[i] = ordD d xs[i].v ys[i].v := by simp [fldO, hn, cmpB_refl, orI]
        rw [hf] at hr hwr
        clear hn
        by_cases hz : ordD d xs[i].v ys[i].v = 0
        · rw [hz] at hc
          simp [hz] at hr hwr
          simp [loopAt, loopsOf, Tryz.f125, dd, de, df, h5, h7, h9, ho, ho2, hx, hy, hx', hy', hxi, hyi, hc, hwi, hn']
          exact ⟨xs.length - (i + 1), by omega, i + 1, rfl, by simp, by omega, by omega, hr, hwr⟩
        · simp [hz] at hr hwr
          simp [loopAt, loopsOf, Tryz.f125, dd, de, df, h5, h7, h9, ho, ho2, hx, hy, hx', hy', hxi, hyi, hc, hwi, hz, hr, hwr, hn']
      · have hs := cmpB_sign _ _ hn
        have hn' : (xs[i].name = ys[i].name) = False := eq_false hn
        have hne : (xs[i].name == ys[i].name) = false := by simpa using hn
        cases hb : Op.bytesLess xs[i].name ys[i].name with
        | false =>
          have hf : fldO d xs[i] ys[i] = 1 := by simp [fldO, hs, hb, orI]
          simp [hf] at hr hwr
          simp [loopAt, loopsOf, Tryz.f125, dd, de, df, h5, h7, h9, ho, ho2, hx, hy, hx', hy', hxi, hyi, hc, hwi, hn', hne, hb, b1, b0, w2, wm, hr, hwr]
        | true =>
          have hf : fldO d xs[i] ys[i] = -1 := by simp [fldO, hs, hb, orI]
          simp [hf] at hr hwr
          simp [loopAt, loopsOf, Tryz.f125, dd, de, df, h5, h7, h9, ho, ho2, hx, hy, hx', hy', hxi, hyi, hc, hwi, hn', hne, hb, b1, b0, w2, wm, hr, hwr]
    · have hy' : ¬ (i : Int) < (ys.length : Int) := by omega
      have he : ys.drop i = [] := List.drop_eq_nil_of_le (by omega)
      rw [he, cutB] at hwr
      simp [loopAt, loopsOf, Tryz.f125, dd, h5, h7, h9, ho, ho2, hx, hy, hx', hy', hxi, hwi, hwr]
  · have hx' : ¬ (i : Int) < (xs.length : Int) := by omega
    have he : xs.drop i = [] := List.drop_eq_nil_of_le (by omega)
    rw [he, cutB] at hwr
    simp [loopAt, loopsOf, Tryz.f125, dd, h5, h7, h9, ho, ho2, hx, hx', hwi, hwr]
end Go.Zd
/- spec's order of values is impl's: the whole. -/
set_option linter.unusedSimpArgs false
set_option linter.unusedVariables false
namespace Go.Zd
open Go.Ev Go.Proofs Go.Pu
set_option maxRecDepth 100000
set_option maxHeartbeats 16000000
theorem cmpI_ne {a b : Int} (h : a ≠ b) : cmpI a b = if b < a then 1 else -1 := by
  unfold cmpI
  by_cases h1 : a < b
  · have : ¬ b < a := by omega
    simp [h1, this]
  · have : b < a := by omega
    simp [h1, this]
/-- Ahead of the bodies: kinds, numbers, one and the same text. -/
theorem specOrder_head (d : Nat) (a b : Val) (ha : okP d a = true) (hb : okP d b = true) (hal : a.t.length < 4294967296) (hbl : b.t.length < 4294967296) (h : ¬ (a.k = b.k ∧ a.n = b.n ∧ a.t ≠ b.t ∧ (a.k = 4 ∨ a.k = 5))) : run E (.call 125 [xV a, xV b]) = some (.res [xI (ordD d a b)] []) := by
  rw [run_call E 125 _ rfl Tryz.func125 rfl rfl rfl (by simp)]
  have b1 := l01Bit true
  have b0 := l01Bit false
  simp at b1 b0
  have w2 : IntKind.i64.wrap 2 = 2 := rfl
  have wm : IntKind.i64.wrap (-1) = -1 := rfl
  by_cases hk : a.k = b.k
  · by_cases hn : a.n = b.n
    · by_cases ht : a.t = b.t
      · have e : a = b := val_eq hk hn ht
        subst e
        rw [ordD_refl d a ha]
        simp
      · have hk4 : ¬ a.k = 4 := fun h4 => h ⟨hk, hn, ht, .inl h4⟩
        have hk5 : ¬ a.k = 5 := fun h5 => h ⟨hk, hn, ht, .inr h5⟩
        have h3 : a.k = 3 := by
          by_cases h3 : a.k = 3
          · exact h3
          · exact absurd ((okP_small ha h3 hk4 hk5).trans (okP_small hb (by omega) (by omega) (by omega)).symm) ht
        have ho : ordD d a b = Lib.compareBytes a.t b.t := by
          unfold ordD
          simp [hk, hn, cmpI_refl, orI]
          have e4 : ¬ b.k = 4 := by omega
          have e5 : ¬ b.k = 5 := by omega
          simp [e4, e5]
        rw [ho, cmpB_sign _ _ ht]
        have e3 : (a.k = 3) = True := eq_true h3
        have ek : (a.k = b.k) = True := eq_true hk
        have en : (a.n = b.n) = True := eq_true hn
        have et : (a.t = b.t) = False := eq_false ht
        have hne : (a.t == b.t) = false := by simpa using ht
        clear h3 hk hn ho
        cases hbl : Op.bytesLess a.t b.t <;> simp [e3, ek, en, et, hne, hbl, b1, b0, w2, wm]
    · have ho : ordD d a b = cmpI a.n b.n := by
        have : ¬ cmpI a.n b.n = 0 := by rw [cmpI_eq]; exact hn
        unfold ordD
        simp [hk, cmpI_refl, orI, this]
      rw [ho, cmpI_ne hn]
      have ek : (a.k = b.k) = True := eq_true hk
      have en : (a.n = b.n) = False := eq_false hn
      clear hk ho h
      by_cases hlt : b.n < a.n <;> simp [ek, en, hlt, b1, b0, w2, wm]
  · have ho : ordD d a b = cmpI a.k b.k := by
      have : ¬ cmpI a.k b.k = 0 := by rw [cmpI_eq]; exact hk
      unfold ordD
      simp [orI, this]
    rw [ho, cmpI_ne hk]
    have ek : (a.k = b.k) = False := eq_false hk
    clear ho h
    by_cases hlt : b.k < a.k <;> simp [ek, hlt, b1, b0, w2, wm]
theorem specOrder : ∀ (d : Nat) (a b : Val), okP d a = true → okP d b = true → a.t.length < 4294967296 → b.t.length < 4294967296 → run E (.call 125 [xV a, xV b]) = some (.res [xI (ordD d a b)] []) := by
  intro d
  induction d with
  | zero =>
    intro a b ha hb hal hbl
    refine specOrder_head 0 a b ha hb hal hbl ?_
    rintro ⟨_, _, _, h4 | h5⟩
    · obtain ⟨e, _, hd, _⟩ := okP_list ha h4; omega
    · obtain ⟨e, _, hd, _⟩ := okP_doc ha h5; omega
  | succ d ih =>
    intro a b ha hb hal hbl
    by_cases hh : a.k = b.k ∧ a.n = b.n ∧ a.t ≠ b.t ∧ (a.k = 4 ∨ a.k = 5)
    · obtain ⟨hk, hn, ht, h45⟩ := hh
      have b1 := l01Bit true
      have b0 := l01Bit false
      simp at b1 b0
      have w2 : IntKind.i64.wrap 2 = 2 := rfl
      have wm : IntKind.i64.wrap (-1) = -1 := rfl
      have ek : (a.k = b.k) = True := eq_true hk
      have en : (a.n = b.n) = True := eq_true hn
      have et : (a.t = b.t) = False := eq_false ht
      have hne : (a.t == b.t) = false := by simpa using ht
      have hnz : ¬ ordD (d + 1) a b = 0 := fun h0 => ht (by rw [ordD_zero (d + 1) a b ha hb h0])
      rw [run_call E 125 _ rfl Tryz.func125 rfl rfl rfl (by simp)]
      by_cases h4 : a.k = 4
      · obtain ⟨e, xs, hd, _, hi, hx⟩ := okP_list ha h4
        obtain ⟨e', ys, hd', _, hi', hy⟩ := okP_list hb (by omega)
        obtain rfl : d = e := by omega
        obtain rfl : d = e' := by omega
        obtain ⟨s1, s2⟩ := items_small hi
        obtain ⟨t1, t2⟩ := items_small hi'
        have i1 := l01Items a.t hal
        have i2 := l01Items b.t hbl
        rw [hi] at i1
        rw [hi'] at i2
        simp only [itemsX] at i1 i2
        have ho : ordD (d + 1) a b = ordL (ordD d) xs ys := by
          unfold ordD
          have e4 : b.k = 4 := by omega
          simp [hk, hn, cmpI_refl, orI, e4, itemsL, hi, hi']
        rw [ho] at hnz ⊢
        have e3 : (a.k = 3) = False := by simp; omega
        have e4 : (a.k = 4) = True := eq_true h4
        clear h4 h45 hk hn ho
        obtain ⟨w, hw⟩ : ∃ w, w = cutB (ordD d) xs ys := ⟨_, rfl⟩
        obtain ⟨X, A, B, C, hl⟩ := sk (specItems_loop d xs ys (by omega) (by omega) (fun x hx' y hy' => ih x y (hx x hx') (hy y hy') (by have := s2 x hx'; omega) (by have := t2 y hy'; omega)) _ w rfl hw)
        simp only [loopAt, loopsOf, Tryz.f125] at hl
        cases w with
        | true =>
          have hr := cutB_ord hw.symm
          have hlt1 : ((ys.length : Int) < (xs.length : Int)) = (ys.length < xs.length) := by simp
          simp at hl
          by_cases h1 : ys.length < xs.length
          · have h2 : ¬ xs.length < ys.length := by omega
            rw [hr, if_neg h2, if_pos h1]
            simp [ek, en, et, hne, e3, e4, i1, i2, hl, h1, hlt1, b1, b0, w2, wm]
          · have h2 : xs.length < ys.length := by
              by_cases h2 : xs.length < ys.length
              · exact h2
              · rw [hr, if_neg h2, if_neg h1] at hnz; exact absurd rfl hnz
            rw [hr, if_pos h2]
            simp [ek, en, et, hne, e3, e4, i1, i2, hl, h1, hlt1, b1, b0, w2, wm]
        | false =>
          simp at hl
          simp [ek, en, et, hne, e3, e4, i1, i2, hl, b1, b0, w2, wm]
      · have h5 : a.k = 5 := by omega
        obtain ⟨e, xs, hd, _, hi, _, hx⟩ := okP_doc ha h5
        obtain ⟨e', ys, hd', _, hi', _, hy⟩ := okP_doc hb (by omega)
        obtain rfl : d = e := by omega
        obtain rfl : d = e' := by omega
        obtain ⟨s1, s2⟩ := fields_small hi
        obtain ⟨t1, t2⟩ := fields_small hi'
        have i1 := l01Fields a.t hal
        have i2 := l01Fields b.t hbl
        rw [hi] at i1
        rw [hi'] at i2
        simp only [fieldsX] at i1 i2
        have ho : ordD (d + 1) a b = ordL (fldO d) xs ys := by
          unfold ordD
          have e4 : ¬ b.k = 4 := by omega
          have e5 : b.k = 5 := by omega
          simp [hk, hn, cmpI_refl, orI, e4, e5, fieldsL, hi, hi']
          rfl
        rw [ho] at hnz ⊢
        have e3 : (a.k = 3) = False := by simp; omega
        have e4 : (a.k = 4) = False := eq_false h4
        clear h4 h5 h45 hk hn ho
        obtain ⟨w, hw⟩ : ∃ w, w = cutB (fldO d) xs ys := ⟨_, rfl⟩
        obtain ⟨X, A, B, C, hl⟩ := sk (specFields_loop d xs ys (by omega) (by omega) (fun x hx' y hy' => ih x.v y.v (hx x hx').2 (hy y hy').2 (by have := s2 x hx'; omega) (by have := t2 y hy'; omega)) _ w rfl hw)
        simp only [loopAt, loopsOf, Tryz.f125] at hl
        cases w with
        | true =>
          have hr := cutB_ord hw.symm
          have hlt1 : ((ys.length : Int) < (xs.length : Int)) = (ys.length < xs.length) := by simp
          simp at hl
          by_cases h1 : ys.length < xs.length
          · have h2 : ¬ xs.length < ys.length := by omega
            rw [hr, if_neg h2, if_pos h1]
            simp [ek, en, et, hne, e3, e4, i1, i2, hl, h1, hlt1, b1, b0, w2, wm]
          · have h2 : xs.length < ys.length := by
              by_cases h2 : xs.length < ys.length
              · exact h2
              · rw [hr, if_neg h2, if_neg h1] at hnz; exact absurd rfl hnz
            rw [hr, if_pos h2]
            simp [ek, en, et, hne, e3, e4, i1, i2, hl, h1, hlt1, b1, b0, w2, wm]
        | false =>
          simp at hl
          simp [ek, en, et, hne, e3, e4, i1, i2, hl, b1, b0, w2, wm]
    · exact specOrder_head (d + 1) a b ha hb hal hbl hh
end Go.Zd
/- What a path comes to: spec's l02Get. -/
set_option linter.unusedSimpArgs false
set_option linter.unusedVariables false
namespace Go.Zd
open Go.Ev Go.Proofs Go.Pu
set_option maxRecDepth 100000
set_option maxHeartbeats 16000000
theorem flat_le {α β : Type} {f : α → List β} {g : α → Nat} : ∀ {l : List α}, (∀ x ∈ l, (f x).length ≤ g x) → (l.flatMap f).length ≤ sumL g l
  | [], _ => by simp
  | x :: r, h => by
    have h1 := h x (by simp)
    have h2 := flat_le (f := f) (g := g) (l := r) (fun y hy => h y (by simp [hy]))
    simp [sumL]; simp at h2; omega
theorem itemsL_sum (t : Bytes) : sumL (fun x => x.t.length + 1) (itemsL t) ≤ t.length := by
  unfold itemsL
  cases h : itemsP t with
  | none => simp [sumL]
  | some xs => exact items_sum h
theorem itemsL_len (t : Bytes) : (itemsL t).length ≤ t.length ∧ ∀ x ∈ itemsL t, x.t.length < t.length := by
  unfold itemsL
  cases h : itemsP t with
  | none => simp
  | some xs => exact items_small h
theorem fieldP_len {v x : Val} {w : Bytes} (h : fieldP v w = some x) : x.t.length < v.t.length := by
  unfold fieldP fieldsL at h
  cases hf : fieldsP v.t with
  | none => simp [hf] at h
  | some fs =>
    rw [hf] at h
    simp only [Option.getD_some, Option.map_eq_some_iff] at h
    obtain ⟨f, h1, rfl⟩ := h
    exact ((fields_small hf).2 f (List.mem_of_find?_eq_some h1)).1
/-- A name, then the rest of a path. -/
def oneP (w : Bytes) (ws : List Bytes) (x : Val) : List Val := match fieldP x w with
  | none => []
  | some y => getP ws y
theorem getP_cons (w : Bytes) (ws : List Bytes) (v : Val) : getP (w :: ws) v = if v.k = 5 then oneP w ws v else if v.k = 4 then (itemsL v.t).flatMap (fun x => if x.k = 5 then oneP w ws x else []) else [] := rfl
theorem getP_len : ∀ (ws : List Bytes) (v : Val), (getP ws v).length ≤ v.t.length + 1
  | [], v => by
    unfold getP
    have := (itemsL_len v.t).1
    split <;> simp <;> omega
  | w :: ws, v => by
    have one : ∀ x : Val, (oneP w ws x).length ≤ x.t.length + 1 := by
      intro x
      unfold oneP
      cases h : fieldP x w with
      | none => simp
      | some y =>
        have := fieldP_len h
        have := getP_len ws y
        simp only; omega
    rw [getP_cons]
    split
    · exact one v
    · split
      · have := flat_le (f := fun x : Val => if x.k = 5 then oneP w ws x else []) (g := fun x => x.t.length + 1) (l := itemsL v.t) (fun x _ => by
          by_cases h : x.k = 5
          · rw [if_pos h]; exact one x
          · rw [if_neg h]; simp)
        have := itemsL_sum v.t
        omega
      · simp
theorem itemsX_L (t : Bytes) : ∃ b, itemsX (itemsP t) = [.row 25 ((itemsL t).map valT), xB b] := by
  unfold itemsL
  cases itemsP t with
  | none => exact ⟨false, rfl⟩
  | some xs => exact ⟨true, rfl⟩
theorem l02Get_nil (v : Val) (hv : v.t.length < 1048576) : run E (.call 188 [xV v, .t (.list [])]) = some (.res [.row 25 ((getP [] v).map valT)] []) := by
  rw [run_call E 188 _ rfl Tryz.func188 rfl rfl rfl (by simp)]
  have hi := l01Items v.t (by omega)
  obtain ⟨b, hb⟩ := itemsX_L v.t
  rw [hb] at hi
  have hl := (itemsL_len v.t).1
  have h1 : 1 + (itemsL v.t).length ≤ 140737488355328 := by omega
  have h2 : (1 + (itemsL v.t).length) * 32 ≤ 140737488355328 := by omega
  by_cases h4 : v.k = 4
  · have e4 : (v.k = 4) = True := eq_true h4
    have eg : getP [] v = v :: itemsL v.t := by simp [getP, h4]
    rw [eg]
    clear h4 eg
    simp [e4, hi, h1, h2]
  · have e4 : (v.k = 4) = False := eq_false h4
    have eg : getP [] v = [v] := by simp [getP, h4]
    rw [eg]
    clear h4 eg
    simp [e4]
end Go.Zd
/- What a path comes to: spec's l02Get, l02Values. -/
set_option linter.unusedSimpArgs false
set_option linter.unusedVariables false
namespace Go.Zd
open Go.Ev Go.Proofs Go.Pu
set_option maxRecDepth 100000
set_option maxHeartbeats 16000000
theorem l02Get_doc (w : Bytes) (ws : List Bytes) (hws : ws.length < 4294967296) (ih : ∀ v : Val, v.t.length < 1048576 → run E (.call 188 [xV v, .t (.list (ws.map strT))]) = some (.res [.row 25 ((getP ws v).map valT)] []))
    (v : Val) (hv : v.t.length < 1048576) (hk : v.k = 5) : run E (.call 188 [xV v, .t (.list ((w :: ws).map strT))]) = some (.res [.row 25 ((oneP w ws v).map valT)] []) := by
  rw [run_call E 188 _ rfl Tryz.func188 rfl rfl rfl (by simp)]
  have d9 := d188_9
  simp [regionOf, findR, pick, Tryz.f188] at d9
  have dd := fun st => run_region_draw E st 9 _ d9
  clear d9
  have d12 := d188_12
  simp [regionOf, findR, pick, Tryz.f188] at d12
  have de := fun st => run_region_draw E st 12 _ d12
  clear d12
  have e5 : (v.k = 5) = True := eq_true hk
  have hf := specField v w (by omega)
  have hpos : ¬ ((ws.length : Int) + 1 = 0) := by omega
  have hle : (1 : Int) ≤ (ws.length : Int) + 1 := by omega
  clear hk
  unfold oneP
  cases hx : fieldP v w with
  | none =>
    rw [hx] at hf
    simp only [optX] at hf
    simp [dd, de, e5, hf, hpos, hle]
  | some y =>
    have hl := fieldP_len hx
    have hy := ih y (by omega)
    rw [hx] at hf
    simp only [optX] at hf
    have htk : List.take ws.length (List.map strT ws) = List.map strT ws := List.take_of_length_le (by simp)
    simp [dd, de, e5, hf, hpos, hle, hy, htk]
theorem l02Get_cons (w : Bytes) (ws : List Bytes) (hws : ws.length < 4294967296) (ih : ∀ v : Val, v.t.length < 1048576 → run E (.call 188 [xV v, .t (.list (ws.map strT))]) = some (.res [.row 25 ((getP ws v).map valT)] []))
    (v : Val) (hv : v.t.length < 1048576) : run E (.call 188 [xV v, .t (.list ((w :: ws).map strT))]) = some (.res [.row 25 ((getP (w :: ws) v).map valT)] []) := by
  rw [getP_cons]
  by_cases hk : v.k = 5
  · rw [if_pos hk]; exact l02Get_doc w ws hws ih v hv hk
  rw [if_neg hk]
  rw [run_call E 188 _ rfl Tryz.func188 rfl rfl rfl (by simp)]
  have e5 : (v.k = 5) = False := eq_false hk
  have hpos : ¬ ((ws.length : Int) + 1 = 0) := by omega
  by_cases h4 : v.k = 4
  · rw [if_pos h4]
    have e4 : (v.k = 4) = True := eq_true h4
    clear h4 hk
    have hi := l01Items v.t (by omega)
    obtain ⟨b, hb⟩ := itemsX_L v.t
    rw [hb] at hi
    obtain ⟨hl, hs⟩ := itemsL_len v.t
    generalize hxs : itemsL v.t = xs at *
    have hsum := itemsL_sum v.t
    rw [hxs] at hsum
    obtain ⟨F, hF⟩ : ∃ F : Val → List Val, F = (fun x => if x.k = 5 then oneP w ws x else []) := ⟨_, rfl⟩
    have hF5 : ∀ x : Val, x.k = 5 → F x = oneP w ws x := by intro x h; rw [hF]; simp [h]
    have hFn : ∀ x : Val, ¬ x.k = 5 → F x = [] := by intro x h; rw [hF]; simp [h]
    have hFl : (xs.flatMap F).length ≤ 1048576 := by
      have := flat_le (f := F) (g := fun x => x.t.length + 1) (l := xs) (fun x _ => by
        by_cases h : x.k = 5
        · have h1 := getP_len (w :: ws) x
          rw [getP_cons, if_pos h] at h1
          rw [hF5 x h]; exact h1
        · rw [hFn x h]; simp)
      omega
    rw [← hF]
    clear hF
    have lp := fun (R : List Val) (hR : R = xs.flatMap F) => sk1 (fun s o q hI => loop_for (c := loopAt Tryz.f188 0) (N := 82)
      (fun i s o q => ∃ r acc, s 1 = .t (.list ((w :: ws).map strT)) ∧ s 10 = .row r ∧ s 11 = .row 2 ∧ s 13 = .t (.int .i64 i) ∧ o r = .row 25 (acc.map valT) true ∧ o 2 = .row 25 (xs.map valT) true ∧ r < q ∧ r ≠ 2 ∧ 2 < q ∧ R = acc ++ (xs.drop i).flatMap F)
      (fun e s' o' q' => ∃ r, e = .exit 1 ∧ s' 10 = .row r ∧ o' r = .row 25 (R.map valT) true) xs.length
      (by
        rintro i s o q hi ⟨r, acc, h1, h10, h11, h13, ho, ho2, hrq, hr2, h2q, hp⟩
        have hi' : (i : Int) < (xs.length : Int) := by omega
        have hwi := wrap_succ (n := i) (by omega)
        have hxi : xs[i]? = some xs[i] := List.getElem?_eq_getElem hi
        have hrn : r ≠ q := by omega
        have hrn2 : r ≠ q + 1 := by omega
        have hqn : q ≠ r := by omega
        have h2n : 2 ≠ q := by omega
        have h2n1 : 2 ≠ q + 1 := by omega
        have h2r : 2 ≠ r := fun h => hr2 h.symm
        have hxl := hs _ (List.getElem_mem hi)
        rw [List.drop_eq_getElem_cons hi, List.flatMap_cons, ← List.append_assoc] at hp
        by_cases h5 : xs[i].k = 5
        · have hd := l02Get_doc w ws hws ih xs[i] (by omega) h5
          have e5 : (xs[i].k = 5) = True := eq_true h5
          have hf := hF5 _ h5
          rw [← hf] at hd
          rw [List.map_cons] at hd
          have hcat : (acc.map valT).length + ((F xs[i]).map valT).length ≤ 140737488355328 := by
            have h1 := congrArg List.length hp
            simp [hR] at h1 hFl ⊢
            omega
          have hcat2 : ((acc.map valT).length + ((F xs[i]).map valT).length) * 32 ≤ 140737488355328 := by
            have h1 := congrArg List.length hp
            simp [hR] at h1 hFl ⊢
            omega
          simp only [List.length_map] at hcat hcat2
          clear h5
          simp [loopAt, loopsOf, Tryz.f188, h1, h10, h11, h13, ho, ho2, hi, hi', hwi, hxi, hrn, hrn2, hqn, h2n, h2n1, h2r, hr2, e5, hd, hcat, hcat2]
          exact ⟨acc ++ F xs[i], by simp, by omega, by omega, hp⟩
        · have e5 : (xs[i].k = 5) = False := eq_false h5
          rw [hFn _ h5, List.append_nil] at hp
          clear h5
          simp [loopAt, loopsOf, Tryz.f188, h1, h10, h11, h13, ho, ho2, hi, hi', hwi, hxi, hrn, hrn2, hqn, h2n, h2n1, h2r, hr2, e5]
          exact ⟨acc, rfl, hrq, h2q, hp⟩)
      (by
        rintro s o q ⟨r, acc, h1, h10, h11, h13, ho, ho2, hrq, hr2, h2q, hp⟩
        simp at hp
        simp [loopAt, loopsOf, Tryz.f188, h1, h10, h11, h13, ho, ho2, hp])
      xs.length 0 s o q (by omega) hI)
    simp only [loopAt, loopsOf, Tryz.f188] at lp
    obtain ⟨X, A, B, C, M, hx⟩ := lp _ rfl
    have hx' := fun s o q r a1 a10 a11 a13 ao ao2 arq ar2 a2q => hx s o q ⟨r, [], a1, a10, a11, a13, ao, ao2, arq, ar2, a2q, by simp⟩
    clear hx lp
    simp at hx'
    simp [e5, e4, hpos, hi, hx']
  · rw [if_neg h4]
    have e4 : (v.k = 4) = False := eq_false h4
    simp [e5, e4, hpos]
theorem l02Get : ∀ (ws : List Bytes) (v : Val), ws.length < 4294967296 → v.t.length < 1048576 → run E (.call 188 [xV v, .t (.list (ws.map strT))]) = some (.res [.row 25 ((getP ws v).map valT)] [])
  | [], v, _, hv => l02Get_nil v hv
  | w :: ws, v, hws, hv => l02Get_cons w ws (by simp at hws; omega) (fun v hv => l02Get ws v (by simp at hws; omega) hv) v hv
theorem l02Values (v : Val) (p : Bytes) (hv : v.t.length < 1048576) (hp : p.length < 4294967295) : run E (.call 124 [xV v, xS p]) = some (.res [.row 25 ((getP (cutP 46 p) v).map valT)] []) := by
  rw [run_call E 124 _ rfl Tryz.func124 rfl rfl rfl (by simp)]
  have d1 := d124_1
  simp [regionOf, findR, pick, Tryz.f124] at d1
  have dd := fun st => run_region_draw E st 1 _ d1
  clear d1
  have e46 : ((46 : UInt8).toNat : Int) = 46 := rfl
  have hc := l00Cut p 46 (by omega) (by omega)
  rw [xU, e46] at hc
  have hcl := cutP_length 46 p
  have hct : p.count 46 ≤ p.length := List.count_le_length
  have hg := l02Get (cutP 46 p) v (by omega) hv
  simp [dd, hc, hg]
end Go.Zd
/- What a path comes to: impl's comesTo. -/
set_option linter.unusedSimpArgs false
set_option linter.unusedVariables false
namespace Go.Zd
open Go.Ev Go.Proofs Go.Pu
set_option maxRecDepth 100000
set_option maxHeartbeats 16000000
theorem fieldI_ok {d : Nat} {v : Val} (h : okP d v = true) (hk : v.k = 5) (w : Bytes) : fieldI v w = fieldP v w := by
  obtain ⟨e, fs, _, _, hf, hr, _⟩ := okP_doc h hk
  exact fieldI_eq w hf hr
theorem fieldP_ok {d : Nat} {v y : Val} {w : Bytes} (h : okP d v = true) (hk : v.k = 5) (hx : fieldP v w = some y) : ∃ e, okP e y = true := by
  obtain ⟨e, fs, _, _, hf, hr, hall⟩ := okP_doc h hk
  unfold fieldP fieldsL at hx
  rw [hf] at hx
  simp only [Option.getD_some, Option.map_eq_some_iff] at hx
  obtain ⟨f, h1, rfl⟩ := hx
  exact ⟨e, (hall f (List.mem_of_find?_eq_some h1)).2⟩
theorem comesTo_nil (d : Nat) (v : Val) (hok : okP d v = true) (hv : v.t.length < 1048576) : run E (.call 191 [xV v, .t (.list [])]) = some (.res [.row 25 ((getP [] v).map valT)] []) := by
  rw [run_call E 191 _ rfl Tryz.func191 rfl rfl rfl (by simp)]
  by_cases h4 : v.k = 4
  · obtain ⟨e, xs, _, _, hit, _⟩ := okP_list hok h4
    have hi := implItems v (by omega)
    rw [itemsI_some hit] at hi
    have hl := (items_small hit).1
    have h1 : 1 + xs.length ≤ 140737488355328 := by omega
    have h2 : (1 + xs.length) * 32 ≤ 140737488355328 := by omega
    have e4 : (v.k = 4) = True := eq_true h4
    have eg : getP [] v = v :: xs := by simp [getP, h4, itemsL, hit]
    rw [eg]
    clear h4 eg
    simp at hi
    simp [e4, hi, h1, h2]
  · have e4 : (v.k = 4) = False := eq_false h4
    have eg : getP [] v = [v] := by simp [getP, h4]
    rw [eg]
    clear h4 eg
    simp [e4]
theorem comesTo_doc (w : Bytes) (ws : List Bytes) (hws : ws.length < 4294967296) (ih : ∀ (d : Nat) (v : Val), okP d v = true → v.t.length < 1048576 → run E (.call 191 [xV v, .t (.list (ws.map strT))]) = some (.res [.row 25 ((getP ws v).map valT)] []))
    (d : Nat) (v : Val) (hok : okP d v = true) (hv : v.t.length < 1048576) (hk : v.k = 5) : run E (.call 191 [xV v, .t (.list ((w :: ws).map strT))]) = some (.res [.row 25 ((oneP w ws v).map valT)] []) := by
  rw [run_call E 191 _ rfl Tryz.func191 rfl rfl rfl (by simp)]
  have d9 := d191_10
  simp [regionOf, findR, pick, Tryz.f191] at d9
  have dd := fun st => run_region_draw E st 10 _ d9
  clear d9
  have d12 := d191_12
  simp [regionOf, findR, pick, Tryz.f191] at d12
  have de := fun st => run_region_draw E st 12 _ d12
  clear d12
  have hf := implField v w (by omega)
  rw [fieldI_ok hok hk] at hf
  have hpos : ¬ ((ws.length : Int) + 1 = 0) := by omega
  have hle : (1 : Int) ≤ (ws.length : Int) + 1 := by omega
  unfold oneP
  cases hx : fieldP v w with
  | none =>
    rw [hx] at hf
    simp only [optX] at hf
    have e5 : (v.k = 5) = True := eq_true hk
    clear hk
    simp [dd, de, e5, hf, hpos, hle]
  | some y =>
    have hl := fieldP_len hx
    obtain ⟨e, he⟩ := fieldP_ok hok hk hx
    have hy := ih e y he (by omega)
    rw [hx] at hf
    simp only [optX] at hf
    have htk : List.take ws.length (List.map strT ws) = List.map strT ws := List.take_of_length_le (by simp)
    have e5 : (v.k = 5) = True := eq_true hk
    clear hk
    simp [dd, de, e5, hf, hpos, hle, hy, htk]
theorem comesTo_cons (w : Bytes) (ws : List Bytes) (hws : ws.length < 4294967296) (ih : ∀ (d : Nat) (v : Val), okP d v = true → v.t.length < 1048576 → run E (.call 191 [xV v, .t (.list (ws.map strT))]) = some (.res [.row 25 ((getP ws v).map valT)] []))
    (d : Nat) (v : Val) (hok : okP d v = true) (hv : v.t.length < 1048576) : run E (.call 191 [xV v, .t (.list ((w :: ws).map strT))]) = some (.res [.row 25 ((getP (w :: ws) v).map valT)] []) := by
  rw [getP_cons]
  by_cases hk : v.k = 5
  · rw [if_pos hk]; exact comesTo_doc w ws hws ih d v hok hv hk
  rw [if_neg hk]
  rw [run_call E 191 _ rfl Tryz.func191 rfl rfl rfl (by simp)]
  have e5 : (v.k = 5) = False := eq_false hk
  have hpos : ¬ ((ws.length : Int) + 1 = 0) := by omega
  by_cases h4 : v.k = 4
  · rw [if_pos h4]
    obtain ⟨e, xs, _, _, hit, hxok⟩ := okP_list hok h4
    have hi := implItems v (by omega)
    rw [itemsI_some hit] at hi
    simp at hi
    obtain ⟨hl, hs⟩ := items_small hit
    have hsum := items_sum hit
    have hxs : itemsL v.t = xs := by simp [itemsL, hit]
    rw [hxs]
    have e4 : (v.k = 4) = True := eq_true h4
    clear h4 hk hxs
    obtain ⟨F, hF⟩ : ∃ F : Val → List Val, F = (fun x => if x.k = 5 then oneP w ws x else []) := ⟨_, rfl⟩
    have hF5 : ∀ x : Val, x.k = 5 → F x = oneP w ws x := by intro x h; rw [hF]; simp [h]
    have hFn : ∀ x : Val, ¬ x.k = 5 → F x = [] := by intro x h; rw [hF]; simp [h]
    have hFl : (xs.flatMap F).length ≤ 1048576 := by
      have := flat_le (f := F) (g := fun x => x.t.length + 1) (l := xs) (fun x _ => by
        by_cases h : x.k = 5
        · have h1 := getP_len (w :: ws) x
          rw [getP_cons, if_pos h] at h1
          rw [hF5 x h]; exact h1
        · rw [hFn x h]; simp)
      omega
    rw [← hF]
    clear hF
    have lp := fun (R : List Val) (hR : R = xs.flatMap F) => sk1 (fun s o q hI => loop_for (c := loopAt Tryz.f191 0) (N := 74)
      (fun i s o q => ∃ r acc, s 1 = .t (.list ((w :: ws).map strT)) ∧ s 5 = .row r ∧ s 58 = .row 2 ∧ s 59 = .t (.int .i64 xs.length) ∧ s 60 = .t (.int .i64 i) ∧ o r = .row 25 (acc.map valT) true ∧ o 2 = .row 25 (xs.map valT) true ∧ r < q ∧ r ≠ 2 ∧ 2 < q ∧ R = acc ++ (xs.drop i).flatMap F)
      (fun e s' o' q' => ∃ r, e = .exit 1 ∧ s' 5 = .row r ∧ o' r = .row 25 (R.map valT) true) xs.length
      (by
        rintro i s o q hi ⟨r, acc, h1, h5s, h58, h59, h60, ho, ho2, hrq, hr2, h2q, hp⟩
        have hi' : (i : Int) < (xs.length : Int) := by omega
        have hwi := wrap_succ (n := i) (by omega)
        have hxi : xs[i]? = some xs[i] := List.getElem?_eq_getElem hi
        have hrn : r ≠ q := by omega
        have hrn2 : r ≠ q + 1 := by omega
        have hqn : q ≠ r := by omega
        have hqn1 : q + 1 ≠ r := by omega
        have h2n : 2 ≠ q := by omega
        have h2n1 : 2 ≠ q + 1 := by omega
        have h2r : 2 ≠ r := fun h => hr2 h.symm
        have hxl := hs _ (List.getElem_mem hi)
        rw [List.drop_eq_getElem_cons hi, List.flatMap_cons, ← List.append_assoc] at hp
        by_cases h5 : xs[i].k = 5
        · have hd := comesTo_doc w ws hws ih e xs[i] (hxok _ (List.getElem_mem hi)) (by omega) h5
          have e5 : (xs[i].k = 5) = True := eq_true h5
          have hf := hF5 _ h5
          rw [← hf] at hd
          rw [List.map_cons] at hd
          have hcat : (acc.map valT).length + ((F xs[i]).map valT).length ≤ 140737488355328 := by
            have h1 := congrArg List.length hp
            simp [hR] at h1 hFl ⊢
            omega
          have hcat2 : ((acc.map valT).length + ((F xs[i]).map valT).length) * 32 ≤ 140737488355328 := by
            have h1 := congrArg List.length hp
            simp [hR] at h1 hFl ⊢
            omega
          simp only [List.length_map] at hcat hcat2
          clear h5
          simp [loopAt, loopsOf, Tryz.f191, h1, h5s, h58, h59, h60, ho, ho2, hi, hi', hwi, hxi, hrn, hrn2, hqn, hqn1, h2n, h2n1, h2r, hr2, e5, hd, hcat, hcat2]
          exact ⟨acc ++ F xs[i], by simp, by omega, by omega, hp⟩
        · have e5 : (xs[i].k = 5) = False := eq_false h5
          rw [hFn _ h5, List.append_nil] at hp
          clear h5
          simp [loopAt, loopsOf, Tryz.f191, h1, h5s, h58, h59, h60, ho, ho2, hi, hi', hwi, hxi, hrn, hrn2, hqn, hqn1, h2n, h2n1, h2r, hr2, e5]
          exact ⟨acc, rfl, by omega, by omega, hp⟩)
      (by
        rintro s o q ⟨r, acc, h1, h5s, h58, h59, h60, ho, ho2, hrq, hr2, h2q, hp⟩
        simp at hp
        simp [loopAt, loopsOf, Tryz.f191, h1, h5s, h58, h59, h60, ho, ho2, hp])
      xs.length 0 s o q (by omega) hI)
    simp only [loopAt, loopsOf, Tryz.f191] at lp
    obtain ⟨X, A, B, C, M, hx⟩ := lp _ rfl
    have hx' := fun s o q r a1 a5 a58 a59 a60 ao ao2 arq ar2 a2q => hx s o q ⟨r, [], a1, a5, a58, a59, a60, ao, ao2, arq, ar2, a2q, by simp⟩
    clear hx lp
    simp at hx'
    simp [e5, e4, hpos, hi, hx']
  · rw [if_neg h4]
    have e4 : (v.k = 4) = False := eq_false h4
    simp [e5, e4, hpos]
theorem comesTo : ∀ (ws : List Bytes) (d : Nat) (v : Val), ws.length < 4294967296 → okP d v = true → v.t.length < 1048576 → run E (.call 191 [xV v, .t (.list (ws.map strT))]) = some (.res [.row 25 ((getP ws v).map valT)] [])
  | [], d, v, _, hok, hv => comesTo_nil d v hok hv
  | w :: ws, d, v, hws, hok, hv => comesTo_cons w ws (by simp at hws; omega) (fun d v hok hv => comesTo ws d v (by simp at hws; omega) hok hv) d v hok hv
theorem getPath (d : Nat) (v : Val) (p : Bytes) (hok : okP d v = true) (hv : v.t.length < 1048576) (hp : p.length < 4294967295) : run E (.call 127 [xV v, xS p]) = some (.res [.row 25 ((getP (cutP 46 p) v).map valT)] []) := by
  rw [run_call E 127 _ rfl Tryz.func127 rfl rfl rfl (by simp)]
  have d1 := d127_1
  simp [regionOf, findR, pick, Tryz.f127] at d1
  have dd := fun st => run_region_draw E st 1 _ d1
  clear d1
  have hc := split p 46 (by omega)
  have hcl := cutP_length 46 p
  have hct : p.count 46 ≤ p.length := List.count_le_length
  have hg := comesTo (cutP 46 p) d v (by omega) hok hv
  simp [dd, hc, hg]
end Go.Zd
/- One value against a term: spec's l03One. -/
set_option linter.unusedSimpArgs false
set_option linter.unusedVariables false
namespace Go.Zd
open Go.Ev Go.Proofs Go.Pu
set_option maxRecDepth 100000
set_option maxHeartbeats 16000000
def sameV (a b : Val) : Bool := (a.k == b.k) && ((a.n == b.n) && (a.t == b.t))
/-- One value against a term whose value is v. -/
def oneT (op : Int) (v x : Val) : Bool :=
  if op = 1 then sameV x v
  else if op = 2 then sameV x v
  else if op = 3 then (x.k == v.k) && decide (ordD 5 x v < 0)
  else if op = 4 then (x.k == v.k) && decide (ordD 5 x v ≤ 0)
  else if op = 5 then (x.k == v.k) && decide (0 < ordD 5 x v)
  else if op = 6 then (x.k == v.k) && decide (0 ≤ ordD 5 x v)
  else if op = 7 then (itemsL v.t).any (fun y => sameV y x)
  else if op = 9 then x.k == v.n
  else (x.k == 4) && (((itemsL x.t).length : Int) == v.n)
theorem specOne_small (t : Trm) (x : Val) (h1 : 1 ≤ t.op) (h2 : t.op ≤ 6) (hv : okP 5 t.v = true) (hx : okP 5 x = true) (hvl : t.v.t.length < 1048576) (hxl : x.t.length < 1048576) : run E (.call 142 [.t (trmT t), xV x]) = some (.res [xB (oneT t.op t.v x)] []) := by
  rw [run_call E 142 _ rfl Tryz.func142 rfl rfl rfl (by simp)]
  have ho := specOrder 5 x t.v hx hv (by omega) (by omega)
  have hop : t.op = 1 ∨ t.op = 2 ∨ t.op = 3 ∨ t.op = 4 ∨ t.op = 5 ∨ t.op = 6 := by omega
  unfold oneT
  generalize ordD 5 x t.v = c at *
  cases hk : (x.k == t.v.k) <;> rcases hop with h | h | h | h | h | h <;> simp [h, ho, hk, sameV]
abbrev valBox (x : Val) : Ob := .box 25 [.t (.int .i64 x.k), .t (.int .i64 x.n), .t (.str x.t)]
theorem specOne_in (t : Trm) (x : Val) (h : t.op = 7) (hv : okP 5 t.v = true) (hx : okP 5 x = true) (hvl : t.v.t.length < 1048576) (hxl : x.t.length < 1048576) : run E (.call 142 [.t (trmT t), xV x]) = some (.res [xB (oneT t.op t.v x)] []) := by
  rw [run_call E 142 _ rfl Tryz.func142 rfl rfl rfl (by simp)]
  have ho := specOrder 5 x t.v hx hv (by omega) (by omega)
  have hi := l01Items t.v.t (by omega)
  obtain ⟨b, hb⟩ := itemsX_L t.v.t
  rw [hb] at hi
  have hl := (itemsL_len t.v.t).1
  have d20 := d142_20
  simp [regionOf, findR, pick, Tryz.f142] at d20
  have dd := fun st => run_region_draw E st 20 _ d20
  clear d20
  have ho1 : oneT t.op t.v x = (itemsL t.v.t).any (fun y => sameV y x) := by simp [oneT, h]
  rw [ho1]
  generalize itemsL t.v.t = ys at *
  have lp := fun (b : Bool) (hb : b = ys.any (fun y => sameV y x)) => sk (fun s o q hI => loop_for (c := loopAt Tryz.f142 0) (N := 107)
    (fun i s o q => s 3 = .ptr 1 0 ∧ s 7 = .row 2 ∧ s 9 = .t (.int .i64 i) ∧ o 1 = valBox x ∧ o 2 = .row 25 (ys.map valT) true ∧ b = (ys.drop i).any (fun y => sameV y x))
    (fun e s' o' q' => e = (if b then .ret else .exit 1) ∧ (b = true → s' 4 = .t (.bool true))) ys.length
    (by
      rintro i s o q hi ⟨h3, h7, h9, o1, o2, hp⟩
      have hi' : (i : Int) < (ys.length : Int) := by omega
      have hwi := wrap_succ (n := i) (by omega)
      have hyi : ys[i]? = some ys[i] := List.getElem?_eq_getElem hi
      rw [List.drop_eq_getElem_cons hi, List.any_cons] at hp
      cases hs : sameV ys[i] x with
      | true =>
        have hs' := hs
        unfold sameV at hs'
        simp [hs] at hp
        simp at hs'
        simp [loopAt, loopsOf, Tryz.f142, dd, h3, h7, h9, o1, o2, hi, hi', hyi, hwi, hs', hp]
      | false =>
        have hs' := hs
        unfold sameV at hs'
        simp only [hs, Bool.false_or] at hp
        simp [loopAt, loopsOf, Tryz.f142, dd, h3, h7, h9, o1, o2, hi, hi', hyi, hwi, hs', -List.any_eq_true, -List.any_eq_false]
        exact hp)
    (by
      rintro s o q ⟨h3, h7, h9, o1, o2, hp⟩
      simp at hp
      simp [loopAt, loopsOf, Tryz.f142, h3, h7, h9, o1, o2, hp])
    ys.length 0 s o q (by omega) hI)
  simp only [loopAt, loopsOf, Tryz.f142] at lp
  obtain ⟨z, hz⟩ : ∃ z, z = ys.any (fun y => sameV y x) := ⟨_, rfl⟩
  obtain ⟨X, A, B, C, hl⟩ := lp z hz
  have hl' := fun s o q a3 a7 a9 b1 b2 => hl s o q ⟨a3, a7, a9, b1, b2, by simpa using hz⟩
  clear hl lp
  rw [← hz]
  clear hz
  cases z <;> simp at hl' <;> simp [h, ho, hi, hl']
end Go.Zd
/- One value against a term: spec's l03One whole, impl's holds. -/
set_option linter.unusedSimpArgs false
set_option linter.unusedVariables false
namespace Go.Zd
open Go.Ev Go.Proofs Go.Pu
set_option maxRecDepth 100000
set_option maxHeartbeats 16000000
theorem specOne (t : Trm) (x : Val) (hop : (1 ≤ t.op ∧ t.op ≤ 7) ∨ t.op = 9 ∨ t.op = 10) (hv : okP 5 t.v = true) (hx : okP 5 x = true) (hvl : t.v.t.length < 1048576) (hxl : x.t.length < 1048576) : run E (.call 142 [.t (trmT t), xV x]) = some (.res [xB (oneT t.op t.v x)] []) := by
  by_cases h6 : 1 ≤ t.op ∧ t.op ≤ 6
  · exact specOne_small t x h6.1 h6.2 hv hx hvl hxl
  by_cases h7 : t.op = 7
  · exact specOne_in t x h7 hv hx hvl hxl
  rw [run_call E 142 _ rfl Tryz.func142 rfl rfl rfl (by simp)]
  have ho := specOrder 5 x t.v hx hv (by omega) (by omega)
  have h9 : t.op = 9 ∨ t.op = 10 := by omega
  clear h6 h7
  rcases h9 with h | h
  · simp [oneT, h, ho]
  · have hi := l01Items x.t (by omega)
    obtain ⟨b, hb⟩ := itemsX_L x.t
    rw [hb] at hi
    have ek : ((x.k = 4) = True) ∨ ((x.k = 4) = False) := by by_cases h : x.k = 4 <;> simp [h]
    have en : (((itemsL x.t).length : Int) = t.v.n) = True ∨ (((itemsL x.t).length : Int) = t.v.n) = False := by by_cases h : ((itemsL x.t).length : Int) = t.v.n <;> simp [h]
    have e1 : oneT t.op t.v x = (decide (x.k = 4) && decide (((itemsL x.t).length : Int) = t.v.n)) := by
      unfold oneT
      simp only [h]
      simp [beqd]
    rw [e1]
    rcases ek with ek | ek <;> rcases en with en | en <;> simp [h, ho, hi, ek, en, beqd]
theorem implOne_small (t : Trm) (x : Val) (h1 : 1 ≤ t.op) (h2 : t.op ≤ 6) (hv : okP 5 t.v = true) (hx : okP 5 x = true) (hvl : t.v.t.length < 1048576) (hxl : x.t.length < 1048576) : run E (.call 144 [.t (trmT t), xV x]) = some (.res [xB (oneT t.op t.v x)] []) := by
  rw [run_call E 144 _ rfl Tryz.func144 rfl rfl rfl (by simp)]
  have ho := implOrder 5 x t.v hx hv (by omega) (by omega)
  have hop : t.op = 1 ∨ t.op = 2 ∨ t.op = 3 ∨ t.op = 4 ∨ t.op = 5 ∨ t.op = 6 := by omega
  have hs : sameV x t.v = decide (ordD 5 x t.v = 0) := by
    rw [Bool.eq_iff_iff]
    simp only [sameV, Bool.and_eq_true, beq_iff_eq, decide_eq_true_eq]
    constructor
    · rintro ⟨a, b, c⟩
      rw [val_eq a b c]
      exact ordD_refl 5 _ hv
    · intro h0
      rw [ordD_zero 5 x t.v hx hv h0]
      exact ⟨rfl, rfl, rfl⟩
  unfold oneT
  rw [hs]
  generalize ordD 5 x t.v = c at *
  clear hs
  cases hk : (x.k == t.v.k) <;> rcases hop with h | h | h | h | h | h <;> simp [h, ho, hk, beqd]
end Go.Zd
/- One value against a term: impl's holds, whole. -/
set_option linter.unusedSimpArgs false
set_option linter.unusedVariables false
namespace Go.Zd
open Go.Ev Go.Proofs Go.Pu
set_option maxRecDepth 100000
set_option maxHeartbeats 16000000
theorem indexVal (ys : List Val) (x : Val) (hl : ys.length < 4294967296) : run E (.call 249 [.t (.list (ys.map valT)), xV x]) = some (.res [xI (idxP (fun y => sameV x y) ys)] []) := by
  rw [run_call E 249 _ rfl Tryz.func249 rfl rfl rfl (by simp)]
  have d4 := d249_4
  simp [regionOf, findR, pick, Tryz.f249] at d4
  have dd := fun st => run_region_draw E st 4 _ d4
  clear d4
  have lp := fun (r : Int) (hr : r = idxP (fun y => sameV x y) ys) => sk (fun s o q hI => loop_for (c := loopAt Tryz.f249 0) (N := 19)
    (fun i s o q => s 0 = .t (.list (ys.map valT)) ∧ s 3 = .ptr 0 0 ∧ s 7 = .t (.int .i64 ys.length) ∧ s 8 = .t (.int .i64 i) ∧ o 0 = valBox x ∧ r = if idxP (fun y => sameV x y) (ys.drop i) < 0 then -1 else idxP (fun y => sameV x y) (ys.drop i) + i)
    (fun e s' o' q' => e = (if r < 0 then .exit 0 else .ret) ∧ (0 ≤ r → s' 4 = .t (.int .i64 r))) ys.length
    (by
      rintro i s o q hi ⟨h0, h3, h7, h8, ho, hr⟩
      have hd : ys.drop i = ys[i] :: ys.drop (i + 1) := by rw [List.drop_eq_getElem_cons hi]
      have hi' : (i : Int) < (ys.length : Int) := by omega
      have hw := wrap_succ (n := i) (by omega)
      have hyi : ys[i]? = some ys[i] := List.getElem?_eq_getElem hi
      rw [hd, idxP] at hr
      cases hpx : sameV x ys[i] with
      | true =>
        have hs := hpx
        unfold sameV at hs
        simp at hs
        simp [hpx] at hr
        have hr' : ¬ r < 0 := by omega
        simp [loopAt, loopsOf, Tryz.f249, dd, h0, h3, h7, h8, ho, hi, hi', hyi, hw, hs, hr', hr]
      | false =>
        have hs := hpx
        unfold sameV at hs
        simp [hpx] at hr
        have hr2 : r = if idxP (fun y => sameV x y) (ys.drop (i + 1)) < 0 then -1 else idxP (fun y => sameV x y) (ys.drop (i + 1)) + ((i : Int) + 1) := by
          rw [hr]
          by_cases hq : idxP (fun y => sameV x y) (ys.drop (i + 1)) < 0
          · simp [hq]
          · have : ¬ idxP (fun y => sameV x y) (ys.drop (i + 1)) + 1 < 0 := by omega
            simp [hq, this]; omega
        clear hr
        simp [loopAt, loopsOf, Tryz.f249, dd, h0, h3, h7, h8, ho, hi, hi', hyi, hw, hs]
        exact hr2)
    (by
      rintro s o q ⟨h0, h3, h7, h8, ho, hr⟩
      simp [idxP] at hr
      simp [loopAt, loopsOf, Tryz.f249, h0, h3, h7, h8, hr])
    ys.length 0 s o q (by omega) hI)
  simp only [loopAt, loopsOf, Tryz.f249] at lp
  obtain ⟨X, A, B, C, hx⟩ := lp _ rfl
  generalize (fun y => sameV x y) = p at *
  have hz : idxP p ys = if idxP p ys < 0 then -1 else idxP p ys := by
    cases ys with
    | nil => simp [idxP]
    | cons y r =>
      unfold idxP
      split
      · simp
      · split
        · simp
        · have : ¬ idxP p r + 1 < 0 := by omega
          simp [this]
  simp [← hz] at hx
  by_cases h : idxP p ys < 0
  · have h1 : idxP p ys = -1 := by rw [hz]; simp [h]
    simp [h] at hx
    simp [hx, h1]
  · have h2 : 0 ≤ idxP p ys := by omega
    simp [h, h2] at hx
    simp [hx]
theorem containsVal (ys : List Val) (x : Val) (hl : ys.length < 4294967296) : run E (.call 207 [.t (.list (ys.map valT)), xV x]) = some (.res [xB (ys.any (fun y => sameV x y))] []) := by
  rw [run_call E 207 _ rfl Tryz.func207 rfl rfl rfl (by simp)]
  have h := indexVal ys x hl
  have hn := idxP_neg (fun y => sameV x y) ys
  generalize (fun y => sameV x y) = p at *
  cases hb : ys.any p with
  | true =>
    have h0 : 0 ≤ idxP p ys := by
      have : ¬ idxP p ys < 0 := by rw [hn]; simp [hb, -List.any_eq_true]
      omega
    simp [h, h0]
  | false =>
    have h0 : ¬ 0 ≤ idxP p ys := by
      have : idxP p ys < 0 := by rw [hn]; simp [hb, -List.any_eq_false]
      omega
    simp [h, h0]
end Go.Zd
/- One value against a term: impl's holds, whole; a term against a document: spec. -/
set_option linter.unusedSimpArgs false
set_option linter.unusedVariables false
namespace Go.Zd
open Go.Ev Go.Proofs Go.Pu
set_option maxRecDepth 100000
set_option maxHeartbeats 16000000
theorem sameV_comm (a b : Val) : sameV a b = sameV b a := by
  rw [Bool.eq_iff_iff]
  simp only [sameV, Bool.and_eq_true, beq_iff_eq]
  constructor <;> rintro ⟨h1, h2, h3⟩ <;> exact ⟨h1.symm, h2.symm, h3.symm⟩
theorem itemsI_ok {d : Nat} {v : Val} (h : okP d v = true) : v.k = 4 ∨ v.t = [] ∨ v.k ≠ 4 := by
  by_cases hk : v.k = 4
  · exact .inl hk
  · exact .inr (.inr hk)
theorem implOne (t : Trm) (x : Val) (hop : (1 ≤ t.op ∧ t.op ≤ 7) ∨ t.op = 9 ∨ t.op = 10) (h74 : t.op = 7 → t.v.k = 4) (hv : okP 5 t.v = true) (hx : okP 5 x = true) (hvl : t.v.t.length < 1048576) (hxl : x.t.length < 1048576) : run E (.call 144 [.t (trmT t), xV x]) = some (.res [xB (oneT t.op t.v x)] []) := by
  by_cases h6 : 1 ≤ t.op ∧ t.op ≤ 6
  · exact implOne_small t x h6.1 h6.2 hv hx hvl hxl
  rw [run_call E 144 _ rfl Tryz.func144 rfl rfl rfl (by simp)]
  have ho := implOrder 5 x t.v hx hv (by omega) (by omega)
  have h9 : t.op = 7 ∨ t.op = 9 ∨ t.op = 10 := by omega
  clear h6
  rcases h9 with h | h | h
  · obtain ⟨e, ys, _, _, hit, _⟩ := okP_list hv (h74 h)
    have hi := implItems t.v (by omega)
    rw [itemsI_some hit] at hi
    simp at hi
    have hc := containsVal ys x (by have := (items_small hit).1; omega)
    have e1 : oneT t.op t.v x = ys.any (fun y => sameV x y) := by
      simp only [oneT, h]
      simp [itemsL, hit]
      congr 1
      funext y
      exact sameV_comm y x
    rw [e1]
    generalize (ys.any fun y => sameV x y) = b at *
    simp [h, ho, hi, hc]
  · simp [oneT, h, ho]
  · by_cases hk : x.k = 4
    · obtain ⟨e, ys, _, _, hit, _⟩ := okP_list hx hk
      have hi := implItems x (by omega)
      rw [itemsI_some hit] at hi
      simp at hi
      have eL : itemsL x.t = ys := by simp [itemsL, hit]
      have ek : (x.k = 4) = True := eq_true hk
      have en : ((ys.length : Int) = t.v.n) = True ∨ ((ys.length : Int) = t.v.n) = False := by by_cases h : (ys.length : Int) = t.v.n <;> simp [h]
      have e1 : oneT t.op t.v x = decide ((ys.length : Int) = t.v.n) := by
        simp only [oneT, h]
        simp [beqd, ek, eL]
      rw [e1]
      clear hk
      rcases en with en | en <;> simp [h, ho, hi, ek, en, beqd]
    · have hi := implItems x (by omega)
      have ek : (x.k = 4) = False := eq_false hk
      have e1 : oneT t.op t.v x = false := by
        simp only [oneT, h]
        simp [beqd, ek]
      rw [e1]
      clear hk
      simp [h, ho, hi, ek, beqd]
end Go.Zd
/- A term against a document: spec's l03Term, TermMatches. -/
set_option linter.unusedSimpArgs false
set_option linter.unusedVariables false
namespace Go.Zd
open Go.Ev Go.Proofs Go.Pu
set_option maxRecDepth 100000
set_option maxHeartbeats 16000000
theorem okP_up : ∀ (d e : Nat) (v : Val), d ≤ e → okP d v = true → okP e v = true
  | 0, e, v, _, h => by
    unfold okP at h ⊢
    split at h
    · rename_i hk; simp only [hk, if_true]; exact h
    · rename_i h0
      split at h
      · rename_i h1; simp only [h1]; simpa using h
      · rename_i h1
        split at h
        · rename_i h2; simp only [h2]; simpa using h
        · rename_i h2
          split at h
          · rename_i h3; simp only [h3]; simpa using h
          · cases h
  | d + 1, 0, v, hle, _ => by omega
  | d + 1, e + 1, v, hle, h => by
    by_cases h4 : v.k = 4
    · obtain ⟨d', xs, hd, hn, hi, hx⟩ := okP_list h h4
      obtain rfl : d = d' := by omega
      have hl : v.t.length ≤ 300 := by unfold okP at h; simp [h4] at h; exact h.1.2
      unfold okP
      simp [h4, hn, hi, hl]
      exact fun x hm => okP_up d e x (by omega) (hx x hm)
    · by_cases h5 : v.k = 5
      · obtain ⟨d', fs, hd, hn, hi, hr, hx⟩ := okP_doc h h5
        obtain rfl : d = d' := by omega
        have hl : v.t.length ≤ 300 := by unfold okP at h; simp [h5] at h; exact h.1.2
        unfold okP
        simp [h5, hn, hi, hr, hl]
        exact fun f hm => ⟨(hx f hm).1, okP_up d e f.v (by omega) (hx f hm).2⟩
      · unfold okP at h ⊢
        simp only [h4, h5, if_false] at h ⊢
        exact h
theorem okP_size {d : Nat} {v : Val} (h : okP d v = true) : v.t.length ≤ 300 := by
  by_cases h3 : v.k = 3
  · unfold okP at h; simp [h3] at h; exact h.2
  by_cases h4 : v.k = 4
  · obtain ⟨e, _, rfl, _⟩ := okP_list h h4
    unfold okP at h; simp [h4] at h; exact h.1.2
  by_cases h5 : v.k = 5
  · obtain ⟨e, _, rfl, _⟩ := okP_doc h h5
    unfold okP at h; simp [h5] at h; exact h.1.2
  rw [okP_small h h3 h4 h5]; simp
end Go.Zd
/- The interval of a term: spec's l04Term, impl's interval. -/
set_option linter.unusedSimpArgs false
set_option linter.unusedVariables false
namespace Go.Zd
open Go.Ev Go.Proofs Go.Pu
set_option maxRecDepth 100000
set_option maxHeartbeats 16000000
def keyI (v : Val) (f : Bool) : Bytes := if f then turnP (keyD 5 v) else keyD 5 v
def kindB (n : Int) (f : Bool) : Bytes := if f then turnP [byteAt n 0] else [byteAt n 0]
abbrev opnI : Ivl := ⟨[], [], true⟩
def flipO (op : Int) (f : Bool) : Int := if f then (if op = 3 then 5 else if op = 4 then 6 else if op = 5 then 3 else if op = 6 then 4 else op) else op
def implIv (t : Trm) (f : Bool) : Ivl :=
  if flipO t.op f = 1 then beginP (keyI t.v f)
  else if flipO t.op f = 9 then beginP (kindB (t.v.n + 1) f)
  else if flipO t.op f = 5 then { beginP ((keyI t.v f).take 1) with low := (beginP (keyI t.v f)).high }
  else if flipO t.op f = 6 then { beginP ((keyI t.v f).take 1) with low := keyI t.v f }
  else if flipO t.op f = 3 then { beginP ((keyI t.v f).take 1) with high := keyI t.v f }
  else if flipO t.op f = 4 then { beginP ((keyI t.v f).take 1) with high := (beginP (keyI t.v f)).high }
  else opnI
def specIv (t : Trm) (f : Bool) : Ivl :=
  if t.op = 1 then beginP (keyI t.v f)
  else if t.op = 3 ∨ t.op = 5 ∨ t.op = 4 ∨ t.op = 6 then
    if ((decide (t.op = 5) || decide (t.op = 6)) != f) = true then
      if t.op = 4 ∨ t.op = 6 then { beginP (kindB (t.v.k + 1) f) with low := (beginP (keyI t.v f)).low }
      else if (beginP (keyI t.v f)).opn then ⟨[], [], false⟩ else { beginP (kindB (t.v.k + 1) f) with low := (beginP (keyI t.v f)).high }
    else if t.op = 4 ∨ t.op = 6 then meetP (beginP (kindB (t.v.k + 1) f)) ⟨[], (beginP (keyI t.v f)).high, (beginP (keyI t.v f)).opn⟩
    else meetP (beginP (kindB (t.v.k + 1) f)) ⟨[], (beginP (keyI t.v f)).low, false⟩
  else if t.op = 9 then beginP (kindB (t.v.n + 1) f)
  else opnI
theorem keyI_len (v : Val) (f : Bool) (h : okP 5 v = true) : (keyI v f).length ≤ 3311 := by
  have h1 := keyD_len 5 v h
  have h2 := okP_size h
  unfold keyI
  cases f <;> simp [turnP] <;> omega
theorem specTermIv (t : Trm) (f : Bool) (hv : okP 5 t.v = true) (hn : -1000000000000 ≤ t.v.n ∧ t.v.n ≤ 1000000000000) : run E (.call 224 [.t (trmT t), xB f]) = some (.res [ivlX (specIv t f)] []) := by
  rw [run_call E 224 _ rfl Tryz.func224 rfl rfl rfl (by simp)]
  have hr := okP_range hv
  have hs := okP_size hv
  have hw : IntKind.i64.wrap (t.v.k + 1) = t.v.k + 1 := wrap_of (by omega) (by omega)
  have hw2 : IntKind.i64.wrap (t.v.n + 1) = t.v.n + 1 := wrap_of (by omega) (by omega)
  have h1 := l01Number (t.v.k + 1) 1 (by omega)
  have h2 := l01Number (t.v.n + 1) 1 (by omega)
  rw [numP_1] at h1 h2
  have hc1 : ((1 : Nat) : Int) = 1 := rfl
  rw [hc1] at h1 h2
  have h3 := l04Turned [byteAt (t.v.k + 1) 0] f (by simp)
  have h4 := l04Turned [byteAt (t.v.n + 1) 0] f (by simp)
  have h5 := l04Key 5 t.v f hv (by omega)
  have e3 : (if f then turnP [byteAt (t.v.k + 1) 0] else [byteAt (t.v.k + 1) 0]) = kindB (t.v.k + 1) f := rfl
  have e4 : (if f then turnP [byteAt (t.v.n + 1) 0] else [byteAt (t.v.n + 1) 0]) = kindB (t.v.n + 1) f := rfl
  have e5 : (if f then turnP (keyD 5 t.v) else keyD 5 t.v) = keyI t.v f := rfl
  rw [e3] at h3
  rw [e4] at h4
  rw [e5] at h5
  clear e3 e4 e5
  have hkl := keyI_len t.v f hv
  have hb1 : (kindB (t.v.k + 1) f).length = 1 := by unfold kindB; cases f <;> simp [turnP]
  have hb2 : (kindB (t.v.n + 1) f).length = 1 := by unfold kindB; cases f <;> simp [turnP]
  have h6 := l04Begin (kindB (t.v.k + 1) f) (by omega)
  have h7 := l04Begin (kindB (t.v.n + 1) f) (by omega)
  have h8 := l04Begin (keyI t.v f) (by omega)
  have m1 := l04Meet (beginP (kindB (t.v.k + 1) f)) ⟨[], (beginP (keyI t.v f)).high, (beginP (keyI t.v f)).opn⟩
  have m2 := l04Meet (beginP (kindB (t.v.k + 1) f)) ⟨[], (beginP (keyI t.v f)).low, false⟩
  unfold specIv
  generalize beginP (kindB (t.v.k + 1) f) = kd at *
  generalize beginP (kindB (t.v.n + 1) f) = kn at *
  generalize beginP (keyI t.v f) = on at *
  generalize meetP kd ⟨[], on.high, on.opn⟩ = mm1 at *
  generalize meetP kd ⟨[], on.low, false⟩ = mm2 at *
  obtain ⟨kl, kh, ko⟩ := kd
  obtain ⟨ol, oh, oo⟩ := on
  simp at m1 m2
  by_cases o1 : t.op = 1
  · have o3 : ¬ t.op = 3 := by omega
    simp [o1, hw, h1, h3, h5, h6, h8]
  · by_cases o3 : t.op = 3
    · cases f <;> simp [o3, hw, h1, h3, h5, h6, h8, m2] <;> try (cases oo <;> simp)
    · by_cases o5 : t.op = 5
      · cases f <;> simp [o5, hw, h1, h3, h5, h6, h8, m2] <;> try (cases oo <;> simp)
      · by_cases o4 : t.op = 4
        · cases f <;> simp [o4, hw, h1, h3, h5, h6, h8, m1]
        · by_cases o6 : t.op = 6
          · cases f <;> simp [o6, hw, h1, h3, h5, h6, h8, m1]
          · by_cases o9 : t.op = 9
            · simp [o9, hw, hw2, h1, h2, h3, h4, h5, h6, h7, h8]
            · have q1 : (t.op = 1) = False := eq_false o1
              have q3 : (t.op = 3) = False := eq_false o3
              have q4 : (t.op = 4) = False := eq_false o4
              have q5 : (t.op = 5) = False := eq_false o5
              have q6 : (t.op = 6) = False := eq_false o6
              have q9 : (t.op = 9) = False := eq_false o9
              simp [q1, q3, q4, q5, q6, q9, hw, h1, h3, h5, h6, h8]
end Go.Zd
/- The interval of a term: impl's; both are alike. -/
set_option linter.unusedSimpArgs false
set_option linter.unusedVariables false
namespace Go.Zd
open Go.Ev Go.Proofs Go.Pu
set_option maxRecDepth 100000
set_option maxHeartbeats 16000000
theorem keyI_cons (v : Val) (f : Bool) (h : okP 5 v = true) : ∃ r, keyI v f = kindB (v.k + 1) f ++ r := by
  obtain ⟨r, hr⟩ := key_cons h
  unfold keyI kindB
  rw [hr]
  cases f
  · exact ⟨r, by simp⟩
  · exact ⟨turnP r, by simp [turnP]⟩
theorem kindB_len (n : Int) (f : Bool) : (kindB n f).length = 1 := by unfold kindB; cases f <;> simp [turnP]
theorem keyI_take (v : Val) (f : Bool) (h : okP 5 v = true) : (keyI v f).take 1 = kindB (v.k + 1) f := by
  obtain ⟨r, hr⟩ := keyI_cons v f h
  rw [hr, List.take_append_of_le_length (by rw [kindB_len]; omega), List.take_of_length_le (by rw [kindB_len]; omega)]
theorem implTermIv (t : Trm) (f : Bool) (hv : okP 5 t.v = true) (hn : -1000000000000 ≤ t.v.n ∧ t.v.n ≤ 1000000000000) : run E (.call 227 [.t (trmT t), xB f]) = some (.res [ivlX (implIv t f)] []) := by
  rw [run_call E 227 _ rfl Tryz.func227 rfl rfl rfl (by simp)]
  have hs := okP_size hv
  have hw2 : IntKind.i64.wrap (t.v.n + 1) = t.v.n + 1 := wrap_of (by omega) (by omega)
  have hu := u8_wrap (t.v.n + 1)
  have h1 := keyOf 5 t.v f hv (by omega)
  have e5 : (if f then turnP (keyD 5 t.v) else keyD 5 t.v) = keyI t.v f := rfl
  rw [e5] at h1
  clear e5
  have hkl := keyI_len t.v f hv
  have ht1 := keyI_take t.v f hv
  have hb1 := kindB_len (t.v.k + 1) f
  have hb2 := kindB_len (t.v.n + 1) f
  have hge : 1 ≤ (keyI t.v f).length := by
    have := congrArg List.length ht1
    simp at this
    omega
  have h2 := implBegins ((keyI t.v f).take 1) (by rw [ht1]; omega)
  have h3 := implBegins (keyI t.v f) (by omega)
  have h4 := fallen [byteAt (t.v.n + 1) 0] f (by simp)
  have e4 : (if f then turnP [byteAt (t.v.n + 1) 0] else [byteAt (t.v.n + 1) 0]) = kindB (t.v.n + 1) f := rfl
  rw [e4] at h4
  clear e4
  have h5 := implBegins (kindB (t.v.n + 1) f) (by omega)
  have hr1 : List.range 1 = [0] := rfl
  have n2 := n227_2
  have s2 := s227_2
  simp [regionOf, findR, pick, Tryz.f227] at n2 s2
  have dd := fun st => run_region_drawS E st 2 _ n2 s2
  clear n2 s2
  unfold implIv
  clear ht1
  generalize beginP ((keyI t.v f).take 1) = kd at *
  generalize beginP (kindB (t.v.n + 1) f) = kn at *
  generalize beginP (keyI t.v f) = on at *
  obtain ⟨kl, kh, ko⟩ := kd
  obtain ⟨ol, oh, oo⟩ := on
  simp at h4
  by_cases o1 : t.op = 1
  · cases f <;> simp [flipO, o1, h1, h2, h3, dd, hge]
  · by_cases o3 : t.op = 3
    · cases f <;> simp [flipO, o3, h1, h2, h3, dd, hge]
    · by_cases o5 : t.op = 5
      · cases f <;> simp [flipO, o5, h1, h2, h3, dd, hge]
      · by_cases o4 : t.op = 4
        · cases f <;> simp [flipO, o4, h1, h2, h3, dd, hge]
        · by_cases o6 : t.op = 6
          · cases f <;> simp [flipO, o6, h1, h2, h3, dd, hge]
          · by_cases o9 : t.op = 9
            · cases f <;> simp [flipO, o9, h1, h2, h3, h4, h5, dd, hge, hw2, hu, hr1]
            · have q1 : (t.op = 1) = False := eq_false o1
              have q3 : (t.op = 3) = False := eq_false o3
              have q4 : (t.op = 4) = False := eq_false o4
              have q5 : (t.op = 5) = False := eq_false o5
              have q6 : (t.op = 6) = False := eq_false o6
              have q9 : (t.op = 9) = False := eq_false o9
              cases f <;> simp [flipO, q1, q3, q4, q5, q6, q9, h1, h2, h3, dd, hge]
end Go.Zd
/- The interval of a term: spec's is impl's. -/
set_option linter.unusedSimpArgs false
set_option linter.unusedVariables false
namespace Go.Zd
open Go.Ev Go.Proofs Go.Pu
set_option maxRecDepth 100000
set_option maxHeartbeats 4000000
theorem behind_cons (h : UInt8) (r : Bytes) (hh : h < 255) : ∀ n, n ≤ r.length → ∃ x, behindN (h :: r) (n + 1) = some x ∧ (x = [h + 1] ∨ ∃ y, x = h :: y)
  | 0, _ => ⟨[h + 1], by simp [behindN, hh], .inl rfl⟩
  | n + 1, hn => by
    obtain ⟨x, h1, h2⟩ := behind_cons h r hh n (by omega)
    have hg : (h :: r)[n + 1]? = some r[n] := by simp [List.getElem?_eq_getElem (show n < r.length by omega)]
    by_cases hb : r[n] < 255
    · refine ⟨(h :: r).take (n + 1) ++ [r[n] + 1], ?_, .inr ⟨r.take n ++ [r[n] + 1], by simp⟩⟩
      rw [behindN]
      simp only [hg, if_pos hb]
    · refine ⟨x, ?_, h2⟩
      rw [behindN]
      simp only [hg, if_neg hb]
      exact h1
theorem begin_cons (h : UInt8) (r : Bytes) (hh : h < 255) : ∃ x, beginP (h :: r) = ⟨h :: r, x, false⟩ ∧ (x = [h + 1] ∨ ∃ y, x = h :: y) := by
  obtain ⟨x, h1, h2⟩ := behind_cons h r hh r.length (Nat.le_refl _)
  refine ⟨x, ?_, h2⟩
  have : behindP (h :: r) = some x := h1
  unfold beginP
  rw [this]
theorem begin_one (h : UInt8) (hh : h < 255) : beginP [h] = ⟨[h], [h + 1], false⟩ := by
  have : behindP [h] = some [h + 1] := by simp [behindP, behindN, hh]
  unfold beginP
  rw [this]
theorem less_cons (h : UInt8) (y : Bytes) (hh : h < 255) : Op.bytesLess [h + 1] (h :: y) = false := by
  cases hb : Op.bytesLess [h + 1] (h :: y) with
  | false => rfl
  | true =>
    exfalso
    have h1 := (bytesLess_iff _ _).1 hb
    have h3 : h.toNat < 255 := by simpa [UInt8.lt_iff_toNat_lt] using hh
    have h2 : h < h + 1 := by
      rw [UInt8.lt_iff_toNat_lt, UInt8.toNat_add]
      have : (1 : UInt8).toNat = 1 := rfl
      omega
    rcases List.cons_lt_cons_iff.1 h1 with h4 | ⟨h4, _⟩
    · rw [UInt8.lt_iff_toNat_lt] at h4 h2
      omega
    · have e := congrArg UInt8.toNat h4
      rw [UInt8.lt_iff_toNat_lt] at h2
      omega
theorem min_cons (h : UInt8) (x : Bytes) (hh : h < 255) (hx : x = [h + 1] ∨ ∃ y, x = h :: y) : minS [h + 1] x = x := by
  unfold minS
  rcases hx with rfl | ⟨y, rfl⟩
  · simp
  · have h3 : h.toNat < 255 := by simpa [UInt8.lt_iff_toNat_lt] using hh
    have hne : ([h + 1] == h :: y) = false := by
      rw [beq_eq_false_iff_ne]
      intro e
      injection e with e _
      have := congrArg UInt8.toNat e
      rw [UInt8.toNat_add] at this
      have h1 : (1 : UInt8).toNat = 1 := rfl
      omega
    rw [less_cons h y hh, hne]
    simp
theorem max_one (h : UInt8) : maxS [h] [] = [h] := by
  unfold maxS
  have : Op.bytesLess [h] [] = false := rfl
  rw [this]; rfl
theorem specIv_eq (t : Trm) (f : Bool) (hv : okP 5 t.v = true) : specIv t f = implIv t f := by
  have hr := okP_range hv
  obtain ⟨r, hk⟩ := keyI_cons t.v f hv
  obtain ⟨h, hh, hb⟩ : ∃ h : UInt8, h < 255 ∧ kindB (t.v.k + 1) f = [h] := by
    have hn := head_byte hv
    cases f with
    | false =>
      refine ⟨_, ?_, rfl⟩
      rw [UInt8.lt_iff_toNat_lt, hn]
      have : (255 : UInt8).toNat = 255 := rfl
      omega
    | true =>
      refine ⟨turnB (byteAt (t.v.k + 1) 0), ?_, rfl⟩
      rw [UInt8.lt_iff_toNat_lt]
      have h1 : (255 : UInt8).toNat = 255 := rfl
      have h2 : (turnB (byteAt (t.v.k + 1) 0)).toNat = 255 - (byteAt (t.v.k + 1) 0).toNat := by
        unfold turnB
        rw [UInt8.toNat_sub]
        have := (byteAt (t.v.k + 1) 0).toNat_lt
        omega
      omega
  have ht := keyI_take t.v f hv
  rw [hb] at hk ht
  have hk' : keyI t.v f = h :: r := by simpa using hk
  obtain ⟨x, hx, hx2⟩ := begin_cons h r hh
  have b1 := begin_one h hh
  have m1 := min_cons h x hh hx2
  have m2 := min_cons h (h :: r) hh (.inr ⟨r, rfl⟩)
  have m3 := max_one h
  unfold specIv implIv
  rw [ht, hb, hk', hx, b1]
  by_cases o1 : t.op = 1
  · cases f <;> simp [flipO, o1]
  · by_cases o3 : t.op = 3
    · cases f <;> simp [flipO, o3, meetP, m1, m2, m3]
    · by_cases o5 : t.op = 5
      · cases f <;> simp [flipO, o5, meetP, m1, m2, m3]
      · by_cases o4 : t.op = 4
        · cases f <;> simp [flipO, o4, meetP, m1, m2, m3]
        · by_cases o6 : t.op = 6
          · cases f <;> simp [flipO, o6, meetP, m1, m2, m3]
          · by_cases o9 : t.op = 9
            · cases f <;> simp [flipO, o9]
            · cases f <;> simp [flipO, o1, o3, o4, o5, o6, o9]
end Go.Zd
