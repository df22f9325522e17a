/- Terms and filters: both. -/
import Derived.Test.YtjbnpbcihofmgaaGreatDoorWalkD
set_option linter.unusedSimpArgs false
set_option linter.unusedVariables false
namespace Go.Zd
open Go.Ev Go.Proofs Go.Pu
set_option maxRecDepth 100000
set_option maxHeartbeats 16000000
theorem beqd (a b : Int) : (a == b) = decide (a = b) := by rw [Bool.eq_iff_iff]; simp
def opOK (op : Int) (v : Val) : Bool :=
  if op = 7 then decide (v.k = 4)
  else if op = 8 then decide (v.k = 1)
  else if op = 9 then decide (v.k = 2) && (decide (0 ≤ v.n) && decide (v.n ≤ 5))
  else if op = 10 then decide (v.k = 2) && decide (0 ≤ v.n)
  else decide (1 ≤ op) && decide (op ≤ 6)
def termOK (t : Trm) : Bool := pathOK t.path && valueOK t.v && opOK t.op t.v
/-- Its parts are no longer than memory allows. -/
def Trm.sm (t : Trm) : Prop := t.path.length < 4294967296 ∧ t.v.t.length < 4294967296
theorem implTermOK (t : Trm) (h : t.sm) : run E (.call 48 [.t (trmT t)]) = some (.res [xB (termOK t)] []) := by
  rw [run_call E 48 _ rfl Tryz.func48 rfl rfl rfl (by simp)]
  obtain ⟨hp, hv⟩ := h
  have h1 := implPathOK t.path hp
  have h2 := implValueOK t.v hv
  obtain ⟨a, a1, a2, a3⟩ := zcase t.op 7
  obtain ⟨b, b1, b2, b3⟩ := zcase t.op 8
  obtain ⟨c, c1, c2, c3⟩ := zcase t.op 9
  obtain ⟨e, e1, e2, e3⟩ := zcase t.op 10
  obtain ⟨z, z1, z2, z3⟩ := zcase t.v.k 2
  unfold termOK opOK
  cases hP : pathOK t.path with
  | false => simp [hP] at h1; simp [h1]
  | true =>
    simp [hP] at h1
    cases hV : valueOK t.v with
    | false => simp [hV] at h2; simp [h1, h2]
    | true =>
      simp [hV] at h2
      cases a with
      | true => simp at a3; simp [h1, h2, a3, beqd]
      | false =>
        simp at a3
        cases b with
        | true => simp at b3; simp [h1, h2, b3, beqd]
        | false =>
          simp at b3
          cases c with
          | true => simp at c3; cases z <;> simp [h1, h2, c3, z1, z2, z3, inRange]
          | false =>
            simp at c3
            cases e with
            | true => simp at e3; cases z <;> simp [h1, h2, e3, z1, z2, z3]
            | false => simp at e3; simp [h1, h2, a3, b3, c3, e3, a1, b1, c1, e1, inRange]
theorem specTermOK (t : Trm) (h : t.sm) : run E (.call 82 [.t (trmT t)]) = some (.res [xB (termOK t)] []) := by
  rw [run_call E 82 _ rfl Tryz.func82 rfl rfl rfl (by simp)]
  obtain ⟨hp, hv⟩ := h
  have h1 := specPathOK t.path hp
  have h2 := specValueOK t.v hv
  have hl : ((65536 : Int) < (t.path.length : Int)) = (65536 < t.path.length) := by simp; omega
  obtain ⟨z, z1, z2, z3⟩ := zcase t.v.k 2
  unfold termOK
  by_cases hL : 65536 < t.path.length
  · have : pathOK t.path = false := by
      have h50 : ¬ t.path.length ≤ 50 := by omega
      simp [pathOK, h50]
    simp [hl, hL, this]
  · cases hP : pathOK t.path with
    | false => simp [hP] at h1; simp [hl, hL, h1]
    | true =>
      simp [hP] at h1
      cases hV : valueOK t.v with
      | false => simp [hV] at h2; simp [hl, hL, h1, h2]
      | true =>
        simp [hV] at h2
        unfold opOK
        by_cases o1 : t.op = 1
        · simp [hl, hL, h1, h2, o1]
        · by_cases o2 : t.op = 2
          · simp [hl, hL, h1, h2, o2]
          · by_cases o3 : t.op = 3
            · simp [hl, hL, h1, h2, o3]
            · by_cases o4 : t.op = 4
              · simp [hl, hL, h1, h2, o4]
              · by_cases o5 : t.op = 5
                · simp [hl, hL, h1, h2, o5]
                · by_cases o6 : t.op = 6
                  · simp [hl, hL, h1, h2, o6]
                  · by_cases o7 : t.op = 7
                    · simp [hl, hL, h1, h2, o7, beqd]
                    · by_cases o8 : t.op = 8
                      · simp [hl, hL, h1, h2, o8, beqd]
                      · by_cases o9 : t.op = 9
                        · cases z <;> simp [hl, hL, h1, h2, o9, l01In, z1, z2, z3]
                        · by_cases o10 : t.op = 10
                          · cases z <;> simp [hl, hL, h1, h2, o10, z1, z2, z3]
                          · have hr : ¬ (1 ≤ t.op ∧ t.op ≤ 6) := by omega
                            simp [hl, hL, h1, h2, o1, o2, o3, o4, o5, o6, o7, o8, o9, o10]
                            omega
def clauseOK (c : List Trm) : Bool := decide (c.length ≤ 4) && c.all termOK
def filterOK (f : List (List Trm)) : Bool := (decide (1 ≤ f.length) && decide (f.length ≤ 3)) && f.all clauseOK
def clauseSm (c : List Trm) : Prop := c.length < 4294967296 ∧ ∀ t ∈ c, t.sm
def filterSm (f : List (List Trm)) : Prop := f.length < 4294967296 ∧ ∀ c ∈ f, clauseSm c
theorem implTermClosure (t : Trm) (h : t.sm) : run E (.call 135 [.t (trmT t)]) = some (.res [xB (!termOK t)] []) := by
  rw [run_call E 135 _ rfl Tryz.func135 rfl rfl rfl (by simp)]
  simp [implTermOK t h]
theorem any_not_all {α : Type} (p : α → Bool) (l : List α) : (l.any (fun x => !p x)) = !l.all p := by simp [List.any_eq_not_all_not]
theorem implClauseClosure (c : List Trm) (h : clauseSm c) : run E (.call 133 [.t (clsT c)]) = some (.res [xB (!clauseOK c)] []) := by
  rw [run_call E 133 _ rfl Tryz.func133 rfl rfl rfl (by simp)]
  have hc := containsFunc_134_0 c 135 (fun t => !termOK t) (by have := h.1; omega) rfl (by simp) (fun t ht => implTermClosure t (h.2 t ht))
  rw [any_not_all] at hc
  have h4 : ((4 : Int) < (c.length : Int)) = (4 < c.length) := by simp; omega
  by_cases hl : 4 < c.length
  · have : ¬ c.length ≤ 4 := by omega
    simp [h4, hl, clauseOK, this]
  · have : c.length ≤ 4 := by omega
    simp [h4, hl, clauseOK, this, hc]
theorem implFilterOK (f : List (List Trm)) (h : filterSm f) : run E (.call 76 [.t (filT f)]) = some (.res [xB (filterOK f)] []) := by
  rw [run_call E 76 _ rfl Tryz.func76 rfl rfl rfl (by simp)]
  have hc := containsFunc_132_0 f 133 (fun c => !clauseOK c) (by have := h.1; omega) rfl (by simp) (fun c hc => implClauseClosure c (h.2 c hc))
  rw [any_not_all] at hc
  have hr := inRange (f.length : Int) 1 3
  have h1 : decide ((1 : Int) ≤ (f.length : Int)) = decide (1 ≤ f.length) := by congr 1; simp; omega
  have h3 : decide ((f.length : Int) ≤ 3) = decide (f.length ≤ 3) := by congr 1; simp; omega
  rw [h1, h3] at hr
  unfold filterOK
  cases hb : (decide (1 ≤ f.length) && decide (f.length ≤ 3)) with
  | false => rw [hb] at hr; simp [hr]
  | true => rw [hb] at hr; simp [hr, hc, -List.all_eq_true]
end Go.Zd
/- spec's FilterOK. -/
set_option linter.unusedSimpArgs false
set_option linter.unusedVariables false
namespace Go.Zd
open Go.Ev Go.Proofs Go.Pu
set_option maxRecDepth 100000
set_option maxHeartbeats 16000000
theorem filterOK_inner (f : List (List Trm)) (h : filterSm f) (i : Nat) (hi : i < f.length) (b : Bool) (hb : b = f[i].all termOK) : ∀ s o q, (s 1 = .ptr 0 0 ∧ s 3 = .t (.int .i64 i) ∧ s 4 = .t (.int .i64 0) ∧ o 0 = .box 42 [.t (.list (f.map clsT))]) →
    ∃ e s' o' q', run E (.code (.loop (loopAt Tryz.f70 1)) ⟨s, o, q, 47⟩) = some (.st e ⟨s', o', q', 47⟩) ∧ e = (if b then .exit 2 else .ret) ∧ s' 1 = .ptr 0 0 ∧ s' 3 = .t (.int .i64 i) ∧ o' 0 = .box 42 [.t (.list (f.map clsT))] ∧ (b = false → s' 2 = .t (.bool false)) := by
  have hc := h.2 _ (List.getElem_mem hi)
  have hfi : f[i]? = some f[i] := List.getElem?_eq_getElem hi
  intro s o q hI
  refine loop_for (c := loopAt Tryz.f70 1) (N := 47)
    (fun j s o q => s 1 = .ptr 0 0 ∧ s 3 = .t (.int .i64 i) ∧ s 4 = .t (.int .i64 j) ∧ o 0 = .box 42 [.t (.list (f.map clsT))] ∧ b = (f[i].drop j).all termOK)
    (fun e s' o' q' => e = (if b then .exit 2 else .ret) ∧ s' 1 = .ptr 0 0 ∧ s' 3 = .t (.int .i64 i) ∧ o' 0 = .box 42 [.t (.list (f.map clsT))] ∧ (b = false → s' 2 = .t (.bool false))) f[i].length ?_ ?_
    f[i].length 0 s o q (by omega) ⟨hI.1, hI.2.1, hI.2.2.1, hI.2.2.2, by simpa using hb⟩
  · rintro j s o q hj ⟨h1, h3, h4, ho, hp⟩
    have hcj := hc.2 _ (List.getElem_mem hj)
    have hci : f[i][j]? = some f[i][j] := List.getElem?_eq_getElem hj
    have hj' : (j : Int) < (f[i].length : Int) := by omega
    have hw := wrap_succ (n := j) (by have := hc.1; omega)
    have ht := specTermOK f[i][j] hcj
    rw [List.drop_eq_getElem_cons hj, List.all_cons] at hp
    cases hok : termOK f[i][j] <;> simp [hok] at hp ht <;> simp [loopAt, loopsOf, Tryz.f70, h1, h3, h4, ho, hj', hfi, hci, hw, ht, hp]
  · rintro s o q ⟨h1, h3, h4, ho, hp⟩
    simp at hp
    simp [loopAt, loopsOf, Tryz.f70, h1, h3, h4, ho, hp, hfi]
theorem specFilterOK (f : List (List Trm)) (h : filterSm f) : run E (.call 70 [.t (filT f)]) = some (.res [xB (filterOK f)] []) := by
  rw [run_call E 70 _ rfl Tryz.func70 rfl rfl rfl (by simp)]
  have hr := l01In (f.length : Int) 1 3
  have h1 : decide ((1 : Int) ≤ (f.length : Int)) = decide (1 ≤ f.length) := by congr 1; simp; omega
  have h3 : decide ((f.length : Int) ≤ 3) = decide (f.length ≤ 3) := by congr 1; simp; omega
  rw [h1, h3] at hr
  unfold filterOK
  cases hb : (decide (1 ≤ f.length) && decide (f.length ≤ 3)) with
  | false => rw [hb] at hr; simp [hr]
  | true =>
    rw [hb] at hr
    have lp := fun b (hb : b = f.all clauseOK) => sk (fun s o q hI => loop_for (c := loopAt Tryz.f70 0) (N := 47)
      (fun i s o q => s 1 = .ptr 0 0 ∧ s 3 = .t (.int .i64 i) ∧ o 0 = .box 42 [.t (.list (f.map clsT))] ∧ b = (f.drop i).all clauseOK)
      (fun e s' o' q' => e = (if b then .exit 0 else .ret) ∧ (b = false → s' 2 = .t (.bool false))) f.length
      (by
        rintro i s o q hi ⟨h1, h3, ho, hp⟩
        have hc := h.2 _ (List.getElem_mem hi)
        have hfi : f[i]? = some f[i] := List.getElem?_eq_getElem hi
        have hi' : (i : Int) < (f.length : Int) := by omega
        have hw := wrap_succ (n := i) (by have := h.1; omega)
        have h4 : ((4 : Int) < (f[i].length : Int)) = (4 < f[i].length) := by simp; omega
        rw [List.drop_eq_getElem_cons hi, List.all_cons] at hp
        by_cases hl : 4 < f[i].length
        · have hl' : ¬ f[i].length ≤ 4 := by omega
          simp [clauseOK, hl'] at hp
          simp [loopAt, loopsOf, Tryz.f70, h1, h3, ho, hi', hfi, hw, h4, hl, hp]
        · have hl' : f[i].length ≤ 4 := by omega
          cases hq : f[i].all termOK with
          | true =>
            obtain ⟨X, A, B, C, hx⟩ := sk (filterOK_inner f h i hi true hq.symm)
            simp [loopAt, loopsOf, Tryz.f70] at hx
            simp [clauseOK, hl', hq, -List.all_eq_true] at hp
            simp [loopAt, loopsOf, Tryz.f70, h1, h3, ho, hi', hfi, hw, h4, hl, hx, hp, -List.all_eq_true]
          | false =>
            obtain ⟨X, A, B, C, hx⟩ := sk (filterOK_inner f h i hi false hq.symm)
            simp [loopAt, loopsOf, Tryz.f70] at hx
            simp [clauseOK, hl', hq, -List.all_eq_true, -List.all_eq_false] at hp
            simp [loopAt, loopsOf, Tryz.f70, h1, h3, ho, hi', hfi, hw, h4, hl, hx, hp, -List.all_eq_true, -List.all_eq_false])
      (by
        rintro s o q ⟨h1, h3, ho, hp⟩
        simp at hp
        simp [loopAt, loopsOf, Tryz.f70, h1, h3, ho, hp])
      f.length 0 s o q (by omega) hI)
    simp only [loopAt, loopsOf, Tryz.f70] at lp
    cases hq : f.all clauseOK with
    | true =>
      obtain ⟨X, A, B, C, hx⟩ := lp true hq.symm
      simp [hq, -List.all_eq_true] at hx
      simp [hr, hx, hq, -List.all_eq_true]
    | false =>
      obtain ⟨X, A, B, C, hx⟩ := lp false hq.symm
      simp [hq, -List.all_eq_true, -List.all_eq_false] at hx
      simp [hr, hx, hq, -List.all_eq_true, -List.all_eq_false]
end Go.Zd
/- QueryOK: both. -/
set_option linter.unusedSimpArgs false
set_option linter.unusedVariables false
namespace Go.Zd
open Go.Ev Go.Proofs Go.Pu
set_option maxRecDepth 100000
set_option maxHeartbeats 16000000
structure Qry where
  filter : List (List Trm)
  sort : List Prt
  skip : Int
  limit : Int
  keep : List Bytes
  hint : Bytes
abbrev qryT (q : Qry) : T := .agg [.list (q.filter.map clsT), .list (q.sort.map prtT), .int .i64 q.skip, .int .i64 q.limit, .list (q.keep.map strT), .str q.hint]
def partsOK (l : List Prt) : Bool := decide (l.length ≤ 2) && l.all (fun p => pathOK p.path)
def keepOK (l : List Bytes) : Bool := decide (l.length ≤ 4) && l.all nameP
def in100 (n : Int) : Bool := decide (0 ≤ n) && decide (n ≤ 100)
def hintOK (t : Bytes) : Bool := t.isEmpty || nameP t
def queryOK (q : Qry) : Bool := filterOK q.filter && partsOK q.sort && in100 q.skip && in100 q.limit && keepOK q.keep && hintOK q.hint
def partsSm (l : List Prt) : Prop := l.length < 4294967296 ∧ ∀ p ∈ l, p.path.length < 4294967296
def textsSm (l : List Bytes) : Prop := l.length < 4294967296 ∧ ∀ p ∈ l, p.length < 4294967296
structure Qry.Sm (q : Qry) : Prop where
  filter : filterSm q.filter
  sort : partsSm q.sort
  keep : textsSm q.keep
  hint : q.hint.length < 4294967296
theorem partOK (p : Prt) (h : p.path.length < 4294967296) : run E (.call 115 [.t (prtT p)]) = some (.res [xB (pathOK p.path)] []) := by
  rw [run_call E 115 _ rfl Tryz.func115 rfl rfl rfl (by simp)]
  simp [implPathOK p.path h]
theorem sortClosure (p : Prt) (h : p.path.length < 4294967296) : run E (.call 137 [.t (prtT p)]) = some (.res [xB (!pathOK p.path)] []) := by
  rw [run_call E 137 _ rfl Tryz.func137 rfl rfl rfl (by simp)]
  simp [partOK p h]
theorem sortOK (l : List Prt) (h : partsSm l) : run E (.call 77 [.t (.list (l.map prtT))]) = some (.res [xB (partsOK l)] []) := by
  rw [run_call E 77 _ rfl Tryz.func77 rfl rfl rfl (by simp)]
  have hc := containsFunc_136_0 l 137 (fun p => !pathOK p.path) (by have := h.1; omega) rfl (by simp) (fun p hp => sortClosure p (h.2 p hp))
  rw [any_not_all] at hc
  have h2 : ((l.length : Int) ≤ 2) = (l.length ≤ 2) := by simp; omega
  by_cases hl : l.length ≤ 2 <;> simp [h2, hl, partsOK, hc, -List.all_eq_true]
theorem shortClosure (t : Bytes) (h : t.length < 4294967296) : run E (.call 139 [xS t]) = some (.res [xB (!nameP t)] []) := by
  rw [run_call E 139 _ rfl Tryz.func139 rfl rfl rfl (by simp)]
  simp [isShort t (by omega)]
theorem areShort (l : List Bytes) (h : textsSm l) : run E (.call 79 [.t (.list (l.map strT))]) = some (.res [xB (l.all nameP)] []) := by
  rw [run_call E 79 _ rfl Tryz.func79 rfl rfl rfl (by simp)]
  have hc := containsFunc_138_0 l 139 (fun p => !nameP p) (by have := h.1; omega) rfl (by simp) (fun p hp => shortClosure p (h.2 p hp))
  rw [any_not_all] at hc
  simp [hc, -List.all_eq_true]
theorem implQueryOK (q : Qry) (h : q.Sm) : run E (.call 21 [.t (qryT q)]) = some (.res [xB (queryOK q)] []) := by
  rw [run_call E 21 _ rfl Tryz.func21 rfl rfl rfl (by simp)]
  have h1 := implFilterOK q.filter h.filter
  have h2 := sortOK q.sort h.sort
  have h3 := inRange q.skip 0 100
  have h4 := inRange q.limit 0 100
  have h5 := areShort q.keep h.keep
  have h6 := isShort q.hint (by have := h.hint; omega)
  have h4l : ((q.keep.length : Int) ≤ 4) = (q.keep.length ≤ 4) := by simp; omega
  have he : (q.hint == []) = q.hint.isEmpty := by cases q.hint <;> rfl
  rw [show (decide (0 ≤ q.skip) && decide (q.skip ≤ 100)) = in100 q.skip from rfl] at h3
  rw [show (decide (0 ≤ q.limit) && decide (q.limit ≤ 100)) = in100 q.limit from rfl] at h4
  unfold queryOK keepOK hintOK
  cases hF : filterOK q.filter with
  | false => rw [hF] at h1; simp [h1]
  | true =>
    rw [hF] at h1
    cases hS : partsOK q.sort with
    | false => rw [hS] at h2; simp [h1, h2]
    | true =>
      rw [hS] at h2
      cases hK : in100 q.skip with
      | false => rw [hK] at h3; simp [h1, h2, h3]
      | true =>
        rw [hK] at h3
        cases hL : in100 q.limit with
        | false => rw [hL] at h4; simp [h1, h2, h3, h4]
        | true =>
          rw [hL] at h4
          by_cases hk : q.keep.length ≤ 4
          · cases hA : q.keep.all nameP with
            | false => rw [hA] at h5; simp [h1, h2, h3, h4, h4l, hk, h5, -List.all_eq_true]
            | true =>
              rw [hA] at h5
              cases hE : q.hint.isEmpty with
              | true =>
                have : q.hint = [] := by simpa using hE
                simp [h1, h2, h3, h4, h4l, hk, h5, this, -List.all_eq_true]
              | false =>
                have : ¬ q.hint = [] := by simpa using hE
                have hb : (q.hint == []) = false := by simpa using this
                simp [h1, h2, h3, h4, h4l, hk, h5, hb, this, h6, hE, -List.all_eq_true]
          · simp [h1, h2, h3, h4, h4l, hk]
abbrev qBox (q : Qry) : Ob := .box 45 [.t (.list (q.filter.map clsT)), .t (.list (q.sort.map prtT)), .t (.int .i64 q.skip), .t (.int .i64 q.limit), .t (.list (q.keep.map strT)), .t (.str q.hint)]
theorem specQuery_sort (q : Qry) (h : q.Sm) (b : Bool) (hb : b = q.sort.all (fun p => pathOK p.path)) : ∀ s o n, (s 1 = .ptr 0 0 ∧ s 3 = .t (.int .i64 0) ∧ o 0 = qBox q) →
    ∃ e s' o' n', run E (.code (.loop (loopAt Tryz.f19 0)) ⟨s, o, n, 73⟩) = some (.st e ⟨s', o', n', 73⟩) ∧ e = (if b then .exit 0 else .ret) ∧ s' 1 = .ptr 0 0 ∧ o' 0 = qBox q ∧ (b = false → s' 2 = .t (.bool false)) := by
  intro s o n hI
  refine loop_for (c := loopAt Tryz.f19 0) (N := 73)
    (fun i s o n => s 1 = .ptr 0 0 ∧ s 3 = .t (.int .i64 i) ∧ o 0 = qBox q ∧ b = (q.sort.drop i).all (fun p => pathOK p.path))
    (fun e s' o' n' => e = (if b then .exit 0 else .ret) ∧ s' 1 = .ptr 0 0 ∧ o' 0 = qBox q ∧ (b = false → s' 2 = .t (.bool false))) q.sort.length ?_ ?_
    q.sort.length 0 s o n (by omega) ⟨hI.1, hI.2.1, hI.2.2, by simpa using hb⟩
  · rintro i s o n hi ⟨h1, h3, ho, hp⟩
    have hfi : q.sort[i]? = some q.sort[i] := List.getElem?_eq_getElem hi
    have hi' : (i : Int) < (q.sort.length : Int) := by omega
    have hw := wrap_succ (n := i) (by have := h.sort.1; omega)
    have ht := specPathOK q.sort[i].path (h.sort.2 _ (List.getElem_mem hi))
    rw [List.drop_eq_getElem_cons hi, List.all_cons] at hp
    cases hok : pathOK q.sort[i].path <;> simp [hok] at hp ht <;> simp [loopAt, loopsOf, Tryz.f19, h1, h3, ho, hi', hfi, hw, ht, hp]
  · rintro s o n ⟨h1, h3, ho, hp⟩
    simp at hp
    simp [loopAt, loopsOf, Tryz.f19, h1, h3, ho, hp]
theorem specQuery_keep (q : Qry) (h : q.Sm) (b : Bool) (hb : b = q.keep.all nameP) : ∀ s o n, (s 1 = .ptr 0 0 ∧ s 4 = .t (.int .i64 0) ∧ o 0 = qBox q) →
    ∃ e s' o' n', run E (.code (.loop (loopAt Tryz.f19 1)) ⟨s, o, n, 73⟩) = some (.st e ⟨s', o', n', 73⟩) ∧ e = (if b then .exit 2 else .ret) ∧ (b = false → s' 2 = .t (.bool false)) := by
  intro s o n hI
  refine loop_for (c := loopAt Tryz.f19 1) (N := 73)
    (fun i s o n => s 1 = .ptr 0 0 ∧ s 4 = .t (.int .i64 i) ∧ o 0 = qBox q ∧ b = (q.keep.drop i).all nameP)
    (fun e s' o' n' => e = (if b then .exit 2 else .ret) ∧ (b = false → s' 2 = .t (.bool false))) q.keep.length ?_ ?_
    q.keep.length 0 s o n (by omega) ⟨hI.1, hI.2.1, hI.2.2, by simpa using hb⟩
  · rintro i s o n hi ⟨h1, h3, ho, hp⟩
    have hfi : q.keep[i]? = some q.keep[i] := List.getElem?_eq_getElem hi
    have hi' : (i : Int) < (q.keep.length : Int) := by omega
    have hw := wrap_succ (n := i) (by have := h.keep.1; omega)
    have ht := l01Name q.keep[i] (by have := h.keep.2 _ (List.getElem_mem hi); omega)
    rw [List.drop_eq_getElem_cons hi, List.all_cons] at hp
    cases hok : nameP q.keep[i] <;> simp [hok] at hp ht <;> simp [loopAt, loopsOf, Tryz.f19, h1, h3, ho, hi', hfi, hw, ht, hp]
  · rintro s o n ⟨h1, h3, ho, hp⟩
    simp at hp
    simp [loopAt, loopsOf, Tryz.f19, h1, h3, ho, hp]
theorem specQueryOK (q : Qry) (h : q.Sm) : run E (.call 19 [.t (qryT q)]) = some (.res [xB (queryOK q)] []) := by
  rw [run_call E 19 _ rfl Tryz.func19 rfl rfl rfl (by simp)]
  have h1 := specFilterOK q.filter h.filter
  have h3 := l01In q.skip 0 100
  have h4 := l01In q.limit 0 100
  have h6 := l01Name q.hint (by have := h.hint; omega)
  have h2l : ((2 : Int) < (q.sort.length : Int)) = (2 < q.sort.length) := by simp; omega
  have h4l : ((4 : Int) < (q.keep.length : Int)) = (4 < q.keep.length) := by simp; omega
  rw [show (decide (0 ≤ q.skip) && decide (q.skip ≤ 100)) = in100 q.skip from rfl] at h3
  rw [show (decide (0 ≤ q.limit) && decide (q.limit ≤ 100)) = in100 q.limit from rfl] at h4
  have hQ : queryOK q = (filterOK q.filter && decide (q.sort.length ≤ 2) && in100 q.skip && in100 q.limit && decide (q.keep.length ≤ 4) && hintOK q.hint && q.sort.all (fun p => pathOK p.path) && q.keep.all nameP) := by
    unfold queryOK partsOK keepOK
    generalize filterOK q.filter = a1; generalize decide (q.sort.length ≤ 2) = a2; generalize in100 q.skip = a3; generalize in100 q.limit = a4; generalize decide (q.keep.length ≤ 4) = a5; generalize hintOK q.hint = a6; generalize q.sort.all (fun p => pathOK p.path) = a7; generalize q.keep.all nameP = a8
    revert a1 a2 a3 a4 a5 a6 a7 a8
    decide
  rw [hQ]
  cases hF : filterOK q.filter with
  | false => rw [hF] at h1; simp [h1]
  | true =>
    rw [hF] at h1
    by_cases hS : 2 < q.sort.length
    · have hS' : ¬ q.sort.length ≤ 2 := by omega
      simp [h1, h2l, hS, hS']
    · have hS' : q.sort.length ≤ 2 := by omega
      cases hK : in100 q.skip with
      | false => rw [hK] at h3; simp [h1, h2l, hS, h3]
      | true =>
        rw [hK] at h3
        cases hL : in100 q.limit with
        | false => rw [hL] at h4; simp [h1, h2l, hS, h3, h4]
        | true =>
          rw [hL] at h4
          by_cases hk : 4 < q.keep.length
          · have hk' : ¬ q.keep.length ≤ 4 := by omega
            simp [h1, h2l, hS, h3, h4, h4l, hk, hk']
          · have hk' : q.keep.length ≤ 4 := by omega
            have fin : ∀ (z : Bool), q.hint.isEmpty = (!z) → (z = true → nameP q.hint = true) → run E (.call 19 [.t (qryT q)]) = some (.res [xB (q.sort.all (fun p => pathOK p.path) && q.keep.all nameP)] []) := by
              intro z hz hzn
              rw [run_call E 19 _ rfl Tryz.func19 rfl rfl rfl (by simp)]
              cases hb : q.sort.all (fun p => pathOK p.path) with
              | false =>
                obtain ⟨X, A, B, C, hx⟩ := sk (specQuery_sort q h false hb.symm)
                simp [loopAt, loopsOf, Tryz.f19] at hx
                cases z with
                | false => simp [h1, h2l, hS, h3, h4, h4l, hk, hz, hx, -List.all_eq_true, -List.all_eq_false]
                | true =>
                  rw [hzn rfl] at h6
                  simp [h1, h2l, hS, h3, h4, h4l, hk, hz, h6, hx, -List.all_eq_true, -List.all_eq_false]
              | true =>
                obtain ⟨X, A, B, C, hx⟩ := sk (specQuery_sort q h true hb.symm)
                simp [loopAt, loopsOf, Tryz.f19] at hx
                cases hb2 : q.keep.all nameP with
                | false =>
                  obtain ⟨X2, A2, B2, C2, hx2⟩ := sk (specQuery_keep q h false hb2.symm)
                  simp [loopAt, loopsOf, Tryz.f19] at hx2
                  cases z with
                  | false => simp [h1, h2l, hS, h3, h4, h4l, hk, hz, hx, hx2, -List.all_eq_true, -List.all_eq_false]
                  | true =>
                    rw [hzn rfl] at h6
                    simp [h1, h2l, hS, h3, h4, h4l, hk, hz, h6, hx, hx2, -List.all_eq_true, -List.all_eq_false]
                | true =>
                  obtain ⟨X2, A2, B2, C2, hx2⟩ := sk (specQuery_keep q h true hb2.symm)
                  simp [loopAt, loopsOf, Tryz.f19] at hx2
                  cases z with
                  | false => simp [h1, h2l, hS, h3, h4, h4l, hk, hz, hx, hx2, -List.all_eq_true]
                  | true =>
                    rw [hzn rfl] at h6
                    simp [h1, h2l, hS, h3, h4, h4l, hk, hz, h6, hx, hx2, -List.all_eq_true]
            rw [run_call E 19 _ rfl Tryz.func19 rfl rfl rfl (by simp)] at fin
            unfold hintOK
            cases hE : q.hint.isEmpty with
            | true =>
              rw [fin false hE (by simp)]
              simp [hk', hS', -List.all_eq_true]
            | false =>
              cases hN : nameP q.hint with
              | true =>
                rw [fin true hE (fun _ => hN)]
                simp [hk', hS', -List.all_eq_true]
              | false =>
                rw [hN] at h6
                simp [h1, h2l, hS, h3, h4, h4l, hk, hE, h6]
end Go.Zd
/- The laws' own functions over lists: sizes, copies, equality. -/
set_option linter.unusedSimpArgs false
set_option linter.unusedVariables false
namespace Go.Zd
open Go.Ev Go.Proofs Go.Pu
set_option maxRecDepth 100000
set_option maxHeartbeats 16000000
def szB (n : Nat) (l : Int) : Int := if l - n < 0 then -1 else l - n
def goSz {α : Type} (f : α → Int → Int) : List α → Int → Int
  | [], l => l
  | x :: r, l => if f x l < 0 then -1 else goSz f r (f x l)
def lstSz {α : Type} (f : α → Int → Int) (xs : List α) (l : Int) : Int := if szB xs.length l < 0 then -1 else goSz f xs (szB xs.length l)
def thenSz (f g : Int → Int) (l : Int) : Int := if f l < 0 then -1 else g (f l)
theorem szB_le {n : Nat} {l : Int} (h : 0 ≤ l) : szB n l ≤ l := by unfold szB; split <;> omega
theorem szB_bound {n : Nat} {l : Int} (h : ¬ szB n l < 0) : (n : Int) ≤ l := by unfold szB at h; split at h <;> omega
theorem goSz_le {α : Type} {f : α → Int → Int} : ∀ {xs : List α} {l : Int}, 0 ≤ l → (∀ x ∈ xs, ∀ k, 0 ≤ k → f x k ≤ k) → goSz f xs l ≤ l
  | [], l, _, _ => Int.le_refl _
  | x :: r, l, h0, h => by
    unfold goSz
    have hx := h x (by simp) l h0
    split
    · omega
    · have := goSz_le (xs := r) (l := f x l) (by omega) (fun y hy => h y (by simp [hy]))
      omega
theorem lstSz_le {α : Type} {f : α → Int → Int} {xs : List α} {l : Int} (h0 : 0 ≤ l) (h : ∀ x ∈ xs, ∀ k, 0 ≤ k → f x k ≤ k) : lstSz f xs l ≤ l := by
  unfold lstSz
  have := szB_le (n := xs.length) h0
  split
  · omega
  · have := goSz_le (f := f) (xs := xs) (l := szB xs.length l) (by omega) h
    omega
theorem thenSz_le {f g : Int → Int} {l : Int} (h0 : 0 ≤ l) (hf : ∀ k, 0 ≤ k → f k ≤ k) (hg : ∀ k, 0 ≤ k → g k ≤ k) : thenSz f g l ≤ l := by
  unfold thenSz
  have := hf l h0
  split
  · omega
  · have := hg (f l) (by omega); omega
theorem goSz_all {α : Type} {f : α → Int → Int} {P : α → Prop} {m : Int} : ∀ {xs : List α} {l : Int}, 0 ≤ l → l ≤ m → (∀ x ∈ xs, ∀ k, 0 ≤ k → f x k ≤ k) → (∀ x ∈ xs, ∀ k, 0 ≤ k → k ≤ m → ¬ f x k < 0 → P x) → ¬ goSz f xs l < 0 → ∀ x ∈ xs, P x
  | [], _, _, _, _, _, _, x, hx => by simp at hx
  | y :: r, l, h0, hm, hle, hp, h, x, hx => by
    unfold goSz at h
    split at h
    · omega
    · rename_i hf
      have hy := hle y (by simp) l h0
      rcases List.mem_cons.1 hx with rfl | hx
      · exact hp _ (by simp) l h0 hm hf
      · exact goSz_all (by omega) (by omega) (fun z hz => hle z (by simp [hz])) (fun z hz => hp z (by simp [hz])) h x hx
theorem lstSz_all {α : Type} {f : α → Int → Int} {P : α → Prop} {m : Int} {xs : List α} {l : Int} (h0 : 0 ≤ l) (hm : l ≤ m) (hle : ∀ x ∈ xs, ∀ k, 0 ≤ k → f x k ≤ k) (hp : ∀ x ∈ xs, ∀ k, 0 ≤ k → k ≤ m → ¬ f x k < 0 → P x) (h : ¬ lstSz f xs l < 0) : (xs.length : Int) ≤ m ∧ ∀ x ∈ xs, P x := by
  unfold lstSz at h
  split at h
  · omega
  · rename_i hb
    have h1 := szB_bound hb
    have h2 := szB_le (n := xs.length) h0
    exact ⟨by omega, goSz_all (m := m) (by omega) (by omega) hle hp h⟩
theorem mid_get {α : Type} (ys : List α) (z : α) (i n : Nat) (hi : i < n) (hy : i ≤ ys.length) : (ys.take i ++ List.replicate (n - i) z)[i]? = some z := by
  rw [List.getElem?_append_right (by simp; omega)]
  have h : min i ys.length = i := by omega
  have hp : 0 < n - i := by omega
  simp only [List.length_take, h, Nat.sub_self, List.getElem?_replicate, hp, if_true]
theorem mid_set {α : Type} (ys : List α) (z x : α) (i n : Nat) (hi : i < n) (hx : ys[i]? = some x) : (ys.take i ++ List.replicate (n - i) z).set i x = ys.take (i + 1) ++ List.replicate (n - (i + 1)) z := by
  have hy : i < ys.length := by
    by_cases h : i < ys.length
    · exact h
    · rw [List.getElem?_eq_none (by omega)] at hx; cases hx
  have hl : (ys.take i).length = i := by simp; omega
  have e : n - i = (n - (i + 1)) + 1 := by omega
  have h1 := set_mid (ys.take i) x z (n - (i + 1))
  rw [hl] at h1
  rw [e, h1, List.take_add_one, hx]
  rfl
theorem sz_223 (xs : List Trm) (f : Trm → Int → Int) (hl : xs.length < 9223372036854775807) (hf : ∀ x ∈ xs, ∀ l, 0 ≤ l → l ≤ 1048576 → run E (.call 23 [.t (trmT x), xI l]) = some (.res [xI (f x l)] [])) (hle : ∀ x ∈ xs, ∀ k, 0 ≤ k → f x k ≤ k) (l : Int) (h0 : 0 ≤ l) (hm : l ≤ 1048576) :
    run E (.call 223 [.t (.list (xs.map trmT)), xI l]) = some (.res [xI (lstSz f xs l)] []) := by
  rw [run_call E 223 _ rfl Tryz.func223 rfl rfl rfl (by simp)]
  have hw : IntKind.i64.wrap (l - (xs.length : Int)) = l - xs.length := wrap_of (by omega) (by omega)
  unfold lstSz szB
  by_cases hb : l - (xs.length : Int) < 0
  · simp [hw, hb]
  · have hb0 : ¬ l < (xs.length : Int) := by omega
    have lp := fun (r : Int) (hr : r = goSz f xs (l - xs.length)) => sk (fun s o q hI => loop_for (c := loopAt Tryz.f223 0) (N := 27)
      (fun i s o q => ∃ k : Int, s 0 = .t (.list (xs.map trmT)) ∧ s 1 = .t (.int .i64 k) ∧ s 5 = .t (.int .i64 i) ∧ 0 ≤ k ∧ k ≤ 1048576 ∧ r = goSz f (xs.drop i) k)
      (fun e s' o' q' => e = (if r < 0 then .ret else .exit 0) ∧ (r < 0 → s' 4 = .t (.int .i64 r)) ∧ (0 ≤ r → s' 1 = .t (.int .i64 r))) xs.length
      (by
        rintro i s o q hi ⟨k, g0, g1, g5, hk0, hkm, hp⟩
        have hi' : (i : Int) < (xs.length : Int) := by omega
        have hwi := wrap_succ (n := i) (by omega)
        have hxi : xs[i]? = some xs[i] := List.getElem?_eq_getElem hi
        have hx := hf _ (List.getElem_mem hi) k hk0 hkm
        have hxl := hle _ (List.getElem_mem hi) k hk0
        rw [List.drop_eq_getElem_cons hi, goSz] at hp
        by_cases hn : f xs[i] k < 0
        · simp [hn] at hp
          simp [loopAt, loopsOf, Tryz.f223, g0, g1, g5, hi', hxi, hwi, hx, hn, hp]
        · simp [hn] at hp
          simp [loopAt, loopsOf, Tryz.f223, g0, g1, g5, hi', hxi, hwi, hx, hn]
          exact ⟨by omega, by omega, hp⟩)
      (by
        rintro s o q ⟨k, g0, g1, g5, hk0, hkm, hp⟩
        simp [goSz] at hp
        have hn : ¬ r < 0 := by omega
        have hn' : 0 ≤ r := by omega
        have hk1 : ¬ k < 0 := by omega
        simp [loopAt, loopsOf, Tryz.f223, g0, g1, g5, hp, hk1]
        try omega)
      xs.length 0 s o q (by omega) hI)
    simp only [loopAt, loopsOf, Tryz.f223] at lp
    obtain ⟨r, hr⟩ : ∃ r, r = goSz f xs (l - xs.length) := ⟨_, rfl⟩
    obtain ⟨X, A, B, C, hx⟩ := lp r hr
    have hx' := fun s o q a0 a1 a5 => hx s o q ⟨l - xs.length, a0, a1, a5, by omega, by omega, by simpa using hr⟩
    clear hx
    by_cases hn : r < 0
    · have hn' : ¬ 0 ≤ r := by omega
      simp [hn, hn'] at hx'
      simp [hw, hb, hb0, hx', hn, ← hr]
    · have hn' : 0 ≤ r := by omega
      simp [hn, hn'] at hx'
      simp [hw, hb, hb0, hx', hn, ← hr]
theorem sz_112 (xs : List (List Trm)) (f : (List Trm) → Int → Int) (hl : xs.length < 9223372036854775807) (hf : ∀ x ∈ xs, ∀ l, 0 ≤ l → l ≤ 1048576 → run E (.call 172 [.t (clsT x), xI l]) = some (.res [xI (f x l)] [])) (hle : ∀ x ∈ xs, ∀ k, 0 ≤ k → f x k ≤ k) (l : Int) (h0 : 0 ≤ l) (hm : l ≤ 1048576) :
    run E (.call 112 [.t (.list (xs.map clsT)), xI l]) = some (.res [xI (lstSz f xs l)] []) := by
  rw [run_call E 112 _ rfl Tryz.func112 rfl rfl rfl (by simp)]
  have hw : IntKind.i64.wrap (l - (xs.length : Int)) = l - xs.length := wrap_of (by omega) (by omega)
  unfold lstSz szB
  by_cases hb : l - (xs.length : Int) < 0
  · simp [hw, hb]
  · have hb0 : ¬ l < (xs.length : Int) := by omega
    have lp := fun (r : Int) (hr : r = goSz f xs (l - xs.length)) => sk (fun s o q hI => loop_for (c := loopAt Tryz.f112 0) (N := 27)
      (fun i s o q => ∃ k : Int, s 0 = .t (.list (xs.map clsT)) ∧ s 1 = .t (.int .i64 k) ∧ s 5 = .t (.int .i64 i) ∧ 0 ≤ k ∧ k ≤ 1048576 ∧ r = goSz f (xs.drop i) k)
      (fun e s' o' q' => e = (if r < 0 then .ret else .exit 0) ∧ (r < 0 → s' 4 = .t (.int .i64 r)) ∧ (0 ≤ r → s' 1 = .t (.int .i64 r))) xs.length
      (by
        rintro i s o q hi ⟨k, g0, g1, g5, hk0, hkm, hp⟩
        have hi' : (i : Int) < (xs.length : Int) := by omega
        have hwi := wrap_succ (n := i) (by omega)
        have hxi : xs[i]? = some xs[i] := List.getElem?_eq_getElem hi
        have hx := hf _ (List.getElem_mem hi) k hk0 hkm
        have hxl := hle _ (List.getElem_mem hi) k hk0
        rw [List.drop_eq_getElem_cons hi, goSz] at hp
        by_cases hn : f xs[i] k < 0
        · simp [hn] at hp
          simp [loopAt, loopsOf, Tryz.f112, g0, g1, g5, hi', hxi, hwi, hx, hn, hp]
        · simp [hn] at hp
          simp [loopAt, loopsOf, Tryz.f112, g0, g1, g5, hi', hxi, hwi, hx, hn]
          exact ⟨by omega, by omega, hp⟩)
      (by
        rintro s o q ⟨k, g0, g1, g5, hk0, hkm, hp⟩
        simp [goSz] at hp
        have hn : ¬ r < 0 := by omega
        have hn' : 0 ≤ r := by omega
        have hk1 : ¬ k < 0 := by omega
        simp [loopAt, loopsOf, Tryz.f112, g0, g1, g5, hp, hk1]
        try omega)
      xs.length 0 s o q (by omega) hI)
    simp only [loopAt, loopsOf, Tryz.f112] at lp
    obtain ⟨r, hr⟩ : ∃ r, r = goSz f xs (l - xs.length) := ⟨_, rfl⟩
    obtain ⟨X, A, B, C, hx⟩ := lp r hr
    have hx' := fun s o q a0 a1 a5 => hx s o q ⟨l - xs.length, a0, a1, a5, by omega, by omega, by simpa using hr⟩
    clear hx
    by_cases hn : r < 0
    · have hn' : ¬ 0 ≤ r := by omega
      simp [hn, hn'] at hx'
      simp [hw, hb, hb0, hx', hn, ← hr]
    · have hn' : 0 ≤ r := by omega
      simp [hn, hn'] at hx'
      simp [hw, hb, hb0, hx', hn, ← hr]
theorem sz_68 (xs : List Prt) (f : Prt → Int → Int) (hl : xs.length < 9223372036854775807) (hf : ∀ x ∈ xs, ∀ l, 0 ≤ l → l ≤ 1048576 → run E (.call 53 [.t (prtT x), xI l]) = some (.res [xI (f x l)] [])) (hle : ∀ x ∈ xs, ∀ k, 0 ≤ k → f x k ≤ k) (l : Int) (h0 : 0 ≤ l) (hm : l ≤ 1048576) :
    run E (.call 68 [.t (.list (xs.map prtT)), xI l]) = some (.res [xI (lstSz f xs l)] []) := by
  rw [run_call E 68 _ rfl Tryz.func68 rfl rfl rfl (by simp)]
  have hw : IntKind.i64.wrap (l - (xs.length : Int)) = l - xs.length := wrap_of (by omega) (by omega)
  unfold lstSz szB
  by_cases hb : l - (xs.length : Int) < 0
  · simp [hw, hb]
  · have hb0 : ¬ l < (xs.length : Int) := by omega
    have lp := fun (r : Int) (hr : r = goSz f xs (l - xs.length)) => sk (fun s o q hI => loop_for (c := loopAt Tryz.f68 0) (N := 27)
      (fun i s o q => ∃ k : Int, s 0 = .t (.list (xs.map prtT)) ∧ s 1 = .t (.int .i64 k) ∧ s 5 = .t (.int .i64 i) ∧ 0 ≤ k ∧ k ≤ 1048576 ∧ r = goSz f (xs.drop i) k)
      (fun e s' o' q' => e = (if r < 0 then .ret else .exit 0) ∧ (r < 0 → s' 4 = .t (.int .i64 r)) ∧ (0 ≤ r → s' 1 = .t (.int .i64 r))) xs.length
      (by
        rintro i s o q hi ⟨k, g0, g1, g5, hk0, hkm, hp⟩
        have hi' : (i : Int) < (xs.length : Int) := by omega
        have hwi := wrap_succ (n := i) (by omega)
        have hxi : xs[i]? = some xs[i] := List.getElem?_eq_getElem hi
        have hx := hf _ (List.getElem_mem hi) k hk0 hkm
        have hxl := hle _ (List.getElem_mem hi) k hk0
        rw [List.drop_eq_getElem_cons hi, goSz] at hp
        by_cases hn : f xs[i] k < 0
        · simp [hn] at hp
          simp [loopAt, loopsOf, Tryz.f68, g0, g1, g5, hi', hxi, hwi, hx, hn, hp]
        · simp [hn] at hp
          simp [loopAt, loopsOf, Tryz.f68, g0, g1, g5, hi', hxi, hwi, hx, hn]
          exact ⟨by omega, by omega, hp⟩)
      (by
        rintro s o q ⟨k, g0, g1, g5, hk0, hkm, hp⟩
        simp [goSz] at hp
        have hn : ¬ r < 0 := by omega
        have hn' : 0 ≤ r := by omega
        have hk1 : ¬ k < 0 := by omega
        simp [loopAt, loopsOf, Tryz.f68, g0, g1, g5, hp, hk1]
        try omega)
      xs.length 0 s o q (by omega) hI)
    simp only [loopAt, loopsOf, Tryz.f68] at lp
    obtain ⟨r, hr⟩ : ∃ r, r = goSz f xs (l - xs.length) := ⟨_, rfl⟩
    obtain ⟨X, A, B, C, hx⟩ := lp r hr
    have hx' := fun s o q a0 a1 a5 => hx s o q ⟨l - xs.length, a0, a1, a5, by omega, by omega, by simpa using hr⟩
    clear hx
    by_cases hn : r < 0
    · have hn' : ¬ 0 ≤ r := by omega
      simp [hn, hn'] at hx'
      simp [hw, hb, hb0, hx', hn, ← hr]
    · have hn' : 0 ≤ r := by omega
      simp [hn, hn'] at hx'
      simp [hw, hb, hb0, hx', hn, ← hr]
theorem to_225 (xs : List Trm) (hl : xs.length < 4294967296) (hf : ∀ x ∈ xs, run E (.call 25 [.t (trmT x)]) = some (.res [trmX x] [])) :
    run E (.call 225 [.t (.list (xs.map trmT))]) = some (.res [.row 55 (xs.map trmT)] []) := by
  rw [run_call E 225 _ rfl Tryz.func225 rfl rfl rfl (by simp)]
  have lp := sk (fun s o q hI => loop_for (c := loopAt Tryz.f225 0) (N := 23)
    (fun i s o q => s 0 = .t (.list (xs.map trmT)) ∧ s 3 = .row 0 ∧ s 4 = .t (.int .i64 i) ∧ 0 < q ∧ o 0 = .row 55 ((xs.map trmT).take i ++ List.replicate (xs.length - i) (.agg [.int .i64 0, .str [], .int .i64 0, .int .i64 0, .str []])) true)
    (fun e s' o' q' => e = .exit 0 ∧ s' 3 = .row 0 ∧ o' 0 = .row 55 (xs.map trmT) true) xs.length
    (by
      rintro i s o q hi ⟨g0, g3, g4, hq, ho⟩
      have hi' : (i : Int) < (xs.length : Int) := by omega
      have hwi := wrap_succ (n := i) (by omega)
      have hxi : xs[i]? = some xs[i] := List.getElem?_eq_getElem hi
      have hx := hf _ (List.getElem_mem hi)
      have hq0 : q ≠ 0 := by omega
      have h0q : 0 ≠ q := by omega
      have hget := mid_get (xs.map trmT) (.agg [.int .i64 0, .str [], .int .i64 0, .int .i64 0, .str []]) i xs.length hi (by simp; omega)
      have hset := mid_set (xs.map trmT) (.agg [.int .i64 0, .str [], .int .i64 0, .int .i64 0, .str []]) (trmT xs[i]) i xs.length hi (by simp [hxi])
      simp [loopAt, loopsOf, Tryz.f225, g0, g3, g4, hi', hxi, hwi, hx, ho, hget, hset, hq0, h0q]
      try omega)
    (by
      rintro s o q ⟨g0, g3, g4, hq, ho⟩
      have hfull : (xs.map trmT).take xs.length = xs.map trmT := List.take_of_length_le (by simp)
      simp [hfull] at ho
      simp [loopAt, loopsOf, Tryz.f225, g0, g3, g4, ho])
    xs.length 0 s o q (by omega) hI)
  simp only [loopAt, loopsOf, Tryz.f225] at lp
  obtain ⟨X, A, B, C, hx⟩ := lp
  simp at hx
  have h1 : xs.length ≤ 140737488355328 := by omega
  have h2 : xs.length * 56 ≤ 140737488355328 := by omega
  simp [h1, h2, hx]
theorem to_114 (xs : List (List Trm)) (hl : xs.length < 4294967296) (hf : ∀ x ∈ xs, run E (.call 174 [.t (clsT x)]) = some (.res [.agg [.row 55 (x.map trmT)]] [])) :
    run E (.call 114 [.t (.list (xs.map clsT))]) = some (.res [.row 173 (xs.map clsT)] []) := by
  rw [run_call E 114 _ rfl Tryz.func114 rfl rfl rfl (by simp)]
  have lp := sk (fun s o q hI => loop_for (c := loopAt Tryz.f114 0) (N := 23)
    (fun i s o q => s 0 = .t (.list (xs.map clsT)) ∧ s 3 = .row 0 ∧ s 4 = .t (.int .i64 i) ∧ 0 < q ∧ o 0 = .row 173 ((xs.map clsT).take i ++ List.replicate (xs.length - i) (.agg [.list []])) true)
    (fun e s' o' q' => e = .exit 0 ∧ s' 3 = .row 0 ∧ o' 0 = .row 173 (xs.map clsT) true) xs.length
    (by
      rintro i s o q hi ⟨g0, g3, g4, hq, ho⟩
      have hi' : (i : Int) < (xs.length : Int) := by omega
      have hwi := wrap_succ (n := i) (by omega)
      have hxi : xs[i]? = some xs[i] := List.getElem?_eq_getElem hi
      have hx := hf _ (List.getElem_mem hi)
      have hq0 : q ≠ 0 := by omega
      have h0q : 0 ≠ q := by omega
      have hget := mid_get (xs.map clsT) (.agg [.list []]) i xs.length hi (by simp; omega)
      have hset := mid_set (xs.map clsT) (.agg [.list []]) (clsT xs[i]) i xs.length hi (by simp [hxi])
      simp [loopAt, loopsOf, Tryz.f114, g0, g3, g4, hi', hxi, hwi, hx, ho, hget, hset, hq0, h0q]
      try omega)
    (by
      rintro s o q ⟨g0, g3, g4, hq, ho⟩
      have hfull : (xs.map clsT).take xs.length = xs.map clsT := List.take_of_length_le (by simp)
      simp [hfull] at ho
      simp [loopAt, loopsOf, Tryz.f114, g0, g3, g4, ho])
    xs.length 0 s o q (by omega) hI)
  simp only [loopAt, loopsOf, Tryz.f114] at lp
  obtain ⟨X, A, B, C, hx⟩ := lp
  simp at hx
  have h1 : xs.length ≤ 140737488355328 := by omega
  have h2 : xs.length * 24 ≤ 140737488355328 := by omega
  simp [h1, h2, hx]
theorem to_74 (xs : List Prt) (hl : xs.length < 4294967296) (hf : ∀ x ∈ xs, run E (.call 56 [.t (prtT x)]) = some (.res [prtX x] [])) :
    run E (.call 74 [.t (.list (xs.map prtT))]) = some (.res [.row 108 (xs.map prtT)] []) := by
  rw [run_call E 74 _ rfl Tryz.func74 rfl rfl rfl (by simp)]
  have lp := sk (fun s o q hI => loop_for (c := loopAt Tryz.f74 0) (N := 23)
    (fun i s o q => s 0 = .t (.list (xs.map prtT)) ∧ s 3 = .row 0 ∧ s 4 = .t (.int .i64 i) ∧ 0 < q ∧ o 0 = .row 108 ((xs.map prtT).take i ++ List.replicate (xs.length - i) (.agg [.str [], .bool false])) true)
    (fun e s' o' q' => e = .exit 0 ∧ s' 3 = .row 0 ∧ o' 0 = .row 108 (xs.map prtT) true) xs.length
    (by
      rintro i s o q hi ⟨g0, g3, g4, hq, ho⟩
      have hi' : (i : Int) < (xs.length : Int) := by omega
      have hwi := wrap_succ (n := i) (by omega)
      have hxi : xs[i]? = some xs[i] := List.getElem?_eq_getElem hi
      have hx := hf _ (List.getElem_mem hi)
      have hq0 : q ≠ 0 := by omega
      have h0q : 0 ≠ q := by omega
      have hget := mid_get (xs.map prtT) (.agg [.str [], .bool false]) i xs.length hi (by simp; omega)
      have hset := mid_set (xs.map prtT) (.agg [.str [], .bool false]) (prtT xs[i]) i xs.length hi (by simp [hxi])
      simp [loopAt, loopsOf, Tryz.f74, g0, g3, g4, hi', hxi, hwi, hx, ho, hget, hset, hq0, h0q]
      try omega)
    (by
      rintro s o q ⟨g0, g3, g4, hq, ho⟩
      have hfull : (xs.map prtT).take xs.length = xs.map prtT := List.take_of_length_le (by simp)
      simp [hfull] at ho
      simp [loopAt, loopsOf, Tryz.f74, g0, g3, g4, ho])
    xs.length 0 s o q (by omega) hI)
  simp only [loopAt, loopsOf, Tryz.f74] at lp
  obtain ⟨X, A, B, C, hx⟩ := lp
  simp at hx
  have h1 : xs.length ≤ 140737488355328 := by omega
  have h2 : xs.length * 24 ≤ 140737488355328 := by omega
  simp [h1, h2, hx]
theorem eq_228 (xs : List Trm) (hl : xs.length < 9223372036854775807) (hf : ∀ x ∈ xs, run E (.call 261 [.t (trmT x), .t (trmT x)]) = some (.res [xB true] [])) :
    run E (.call 228 [.t (.list (xs.map trmT)), .t (.list (xs.map trmT))]) = some (.res [xB true] []) := by
  rw [run_call E 228 _ rfl Tryz.func228 rfl rfl rfl (by simp)]
  have d6 := d228_6
  simp [regionOf, findR, pick, Tryz.f228] at d6
  have dd := fun st => run_region_draw E st 6 _ d6
  clear d6
  have lp := sk (fun s o q hI => loop_for (c := loopAt Tryz.f228 0) (N := 27)
    (fun i s o q => s 0 = .t (.list (xs.map trmT)) ∧ s 1 = .t (.list (xs.map trmT)) ∧ s 5 = .t (.int .i64 i))
    (fun e s' o' q' => e = .exit 0) xs.length
    (by
      rintro i s o q hi ⟨g0, g1, g5⟩
      have hi' : (i : Int) < (xs.length : Int) := by omega
      have hwi := wrap_succ (n := i) (by omega)
      have hxi : xs[i]? = some xs[i] := List.getElem?_eq_getElem hi
      have hx := hf _ (List.getElem_mem hi)
      simp [loopAt, loopsOf, Tryz.f228, dd, g0, g1, g5, hi', hxi, hwi, hx])
    (by
      rintro s o q ⟨g0, g1, g5⟩
      simp [loopAt, loopsOf, Tryz.f228, g0, g1, g5])
    xs.length 0 s o q (by omega) hI)
  simp only [loopAt, loopsOf, Tryz.f228] at lp
  obtain ⟨X, A, B, C, hx⟩ := lp
  simp at hx
  simp [hx]
theorem eq_117 (xs : List (List Trm)) (hl : xs.length < 9223372036854775807) (hf : ∀ x ∈ xs, run E (.call 176 [.t (clsT x), .t (clsT x)]) = some (.res [xB true] [])) :
    run E (.call 117 [.t (.list (xs.map clsT)), .t (.list (xs.map clsT))]) = some (.res [xB true] []) := by
  rw [run_call E 117 _ rfl Tryz.func117 rfl rfl rfl (by simp)]
  have d6 := d117_6
  simp [regionOf, findR, pick, Tryz.f117] at d6
  have dd := fun st => run_region_draw E st 6 _ d6
  clear d6
  have lp := sk (fun s o q hI => loop_for (c := loopAt Tryz.f117 0) (N := 27)
    (fun i s o q => s 0 = .t (.list (xs.map clsT)) ∧ s 1 = .t (.list (xs.map clsT)) ∧ s 5 = .t (.int .i64 i))
    (fun e s' o' q' => e = .exit 0) xs.length
    (by
      rintro i s o q hi ⟨g0, g1, g5⟩
      have hi' : (i : Int) < (xs.length : Int) := by omega
      have hwi := wrap_succ (n := i) (by omega)
      have hxi : xs[i]? = some xs[i] := List.getElem?_eq_getElem hi
      have hx := hf _ (List.getElem_mem hi)
      simp [loopAt, loopsOf, Tryz.f117, dd, g0, g1, g5, hi', hxi, hwi, hx])
    (by
      rintro s o q ⟨g0, g1, g5⟩
      simp [loopAt, loopsOf, Tryz.f117, g0, g1, g5])
    xs.length 0 s o q (by omega) hI)
  simp only [loopAt, loopsOf, Tryz.f117] at lp
  obtain ⟨X, A, B, C, hx⟩ := lp
  simp at hx
  simp [hx]
theorem eq_81 (xs : List Prt) (hl : xs.length < 9223372036854775807) (hf : ∀ x ∈ xs, run E (.call 141 [.t (prtT x), .t (prtT x)]) = some (.res [xB true] [])) :
    run E (.call 81 [.t (.list (xs.map prtT)), .t (.list (xs.map prtT))]) = some (.res [xB true] []) := by
  rw [run_call E 81 _ rfl Tryz.func81 rfl rfl rfl (by simp)]
  have d6 := d81_6
  simp [regionOf, findR, pick, Tryz.f81] at d6
  have dd := fun st => run_region_draw E st 6 _ d6
  clear d6
  have lp := sk (fun s o q hI => loop_for (c := loopAt Tryz.f81 0) (N := 27)
    (fun i s o q => s 0 = .t (.list (xs.map prtT)) ∧ s 1 = .t (.list (xs.map prtT)) ∧ s 5 = .t (.int .i64 i))
    (fun e s' o' q' => e = .exit 0) xs.length
    (by
      rintro i s o q hi ⟨g0, g1, g5⟩
      have hi' : (i : Int) < (xs.length : Int) := by omega
      have hwi := wrap_succ (n := i) (by omega)
      have hxi : xs[i]? = some xs[i] := List.getElem?_eq_getElem hi
      have hx := hf _ (List.getElem_mem hi)
      simp [loopAt, loopsOf, Tryz.f81, dd, g0, g1, g5, hi', hxi, hwi, hx])
    (by
      rintro s o q ⟨g0, g1, g5⟩
      simp [loopAt, loopsOf, Tryz.f81, g0, g1, g5])
    xs.length 0 s o q (by omega) hI)
  simp only [loopAt, loopsOf, Tryz.f81] at lp
  obtain ⟨X, A, B, C, hx⟩ := lp
  simp at hx
  simp [hx]
end Go.Zd
/- The laws' own functions: values, terms, clauses, filters, parts, texts. -/
set_option linter.unusedSimpArgs false
set_option linter.unusedVariables false
namespace Go.Zd
open Go.Ev Go.Proofs Go.Pu
set_option maxRecDepth 100000
set_option maxHeartbeats 16000000
def szVal (v : Val) (l : Int) : Int := szB v.t.length l
def szTrm (t : Trm) (l : Int) : Int := thenSz (szB t.path.length) (thenSz (szVal t.v) (fun k => k)) l
def szPrt (p : Prt) (l : Int) : Int := szB p.path.length l
def szCls (c : List Trm) (l : Int) : Int := thenSz (lstSz szTrm c) (fun k => k) l
def szFil (f : List (List Trm)) (l : Int) : Int := thenSz (lstSz szCls f) (fun k => k) l
def szTxt (t : Bytes) (l : Int) : Int := szB t.length l
theorem szVal_le (v : Val) (k : Int) (h : 0 ≤ k) : szVal v k ≤ k := szB_le h
theorem szTrm_le (t : Trm) (k : Int) (h : 0 ≤ k) : szTrm t k ≤ k := thenSz_le h (fun k hk => szB_le hk) (fun k hk => thenSz_le hk (fun k hk => szB_le hk) (fun k _ => Int.le_refl k))
theorem szPrt_le (p : Prt) (k : Int) (h : 0 ≤ k) : szPrt p k ≤ k := szB_le h
theorem szCls_le (c : List Trm) (k : Int) (h : 0 ≤ k) : szCls c k ≤ k := thenSz_le h (fun k hk => lstSz_le hk (fun x _ k hk => szTrm_le x k hk)) (fun k _ => Int.le_refl k)
theorem szFil_le (c : List (List Trm)) (k : Int) (h : 0 ≤ k) : szFil c k ≤ k := thenSz_le h (fun k hk => lstSz_le hk (fun x _ k hk => szCls_le x k hk)) (fun k _ => Int.le_refl k)
/-- No longer than what memory holds. -/
def W (n : Nat) : Prop := n < 4611686018427387904
def Trm.wd (t : Trm) : Prop := W t.path.length ∧ W t.v.t.length
def clsWd (c : List Trm) : Prop := W c.length ∧ ∀ t ∈ c, t.wd
def filWd (f : List (List Trm)) : Prop := W f.length ∧ ∀ c ∈ f, clsWd c
def prtsWd (l : List Prt) : Prop := W l.length ∧ ∀ p ∈ l, W p.path.length
def txtsWd (l : List Bytes) : Prop := W l.length ∧ ∀ p ∈ l, W p.length
theorem wrap_sz {n : Nat} {l : Int} (h : W n) (h0 : 0 ≤ l) (hm : l ≤ 1048576) : IntKind.i64.wrap (l - (n : Int)) = l - n := by unfold W at h; exact wrap_of (by omega) (by omega)
theorem szValue (v : Val) (h : W v.t.length) (l : Int) (h0 : 0 ≤ l) (hm : l ≤ 1048576) : run E (.call 13 [xV v, xI l]) = some (.res [xI (szVal v l)] []) := by
  rw [run_call E 13 _ rfl Tryz.func13 rfl rfl rfl (by simp)]
  have hw := wrap_sz h h0 hm
  unfold szVal szB
  by_cases hb : l - (v.t.length : Int) < 0 <;> simp [hw, hb]
theorem szPart (p : Prt) (h : W p.path.length) (l : Int) (h0 : 0 ≤ l) (hm : l ≤ 1048576) : run E (.call 53 [.t (prtT p), xI l]) = some (.res [xI (szPrt p l)] []) := by
  rw [run_call E 53 _ rfl Tryz.func53 rfl rfl rfl (by simp)]
  have hw := wrap_sz h h0 hm
  unfold szPrt szB
  by_cases hb : l - (p.path.length : Int) < 0 <;> simp [hw, hb]
theorem szTerm (t : Trm) (h : t.wd) (l : Int) (h0 : 0 ≤ l) (hm : l ≤ 1048576) : run E (.call 23 [.t (trmT t), xI l]) = some (.res [xI (szTrm t l)] []) := by
  rw [run_call E 23 _ rfl Tryz.func23 rfl rfl rfl (by simp)]
  have hw := wrap_sz h.1 h0 hm
  unfold szTrm thenSz
  by_cases hb : l - (t.path.length : Int) < 0
  · simp [hw, hb, szB]
  · have hv := szValue t.v h.2 (l - t.path.length) (by omega) (by omega)
    have e : szB t.path.length l = l - t.path.length := by simp [szB, hb]
    by_cases hn : szVal t.v (l - t.path.length) < 0 <;> simp [hw, hb, e, hv, hn]
theorem szTermS (c : List Trm) (h : clsWd c) (l : Int) (h0 : 0 ≤ l) (hm : l ≤ 1048576) : run E (.call 223 [.t (.list (c.map trmT)), xI l]) = some (.res [xI (lstSz szTrm c l)] []) :=
  sz_223 c szTrm (by have := h.1; unfold W at this; omega) (fun x hx l h0 hm => szTerm x (h.2 x hx) l h0 hm) (fun x _ k hk => szTrm_le x k hk) l h0 hm
theorem szClause (c : List Trm) (h : clsWd c) (l : Int) (h0 : 0 ≤ l) (hm : l ≤ 1048576) : run E (.call 172 [.t (clsT c), xI l]) = some (.res [xI (szCls c l)] []) := by
  rw [run_call E 172 _ rfl Tryz.func172 rfl rfl rfl (by simp)]
  have hs := szTermS c h l h0 hm
  unfold szCls thenSz
  by_cases hn : lstSz szTrm c l < 0 <;> simp [hs, hn]
theorem szFilter (f : List (List Trm)) (h : filWd f) (l : Int) (h0 : 0 ≤ l) (hm : l ≤ 1048576) : run E (.call 52 [.t (filT f), xI l]) = some (.res [xI (szFil f l)] []) := by
  rw [run_call E 52 _ rfl Tryz.func52 rfl rfl rfl (by simp)]
  have hs := sz_112 f szCls (by have := h.1; unfold W at this; omega) (fun x hx l h0 hm => szClause x (h.2 x hx) l h0 hm) (fun x _ k hk => szCls_le x k hk) l h0 hm
  unfold szFil thenSz
  by_cases hn : lstSz szCls f l < 0 <;> simp [hs, hn]
theorem szPartS (c : List Prt) (h : prtsWd c) (l : Int) (h0 : 0 ≤ l) (hm : l ≤ 1048576) : run E (.call 68 [.t (.list (c.map prtT)), xI l]) = some (.res [xI (lstSz szPrt c l)] []) :=
  sz_68 c szPrt (by have := h.1; unfold W at this; omega) (fun x hx l h0 hm => szPart x (h.2 x hx) l h0 hm) (fun x _ k hk => szPrt_le x k hk) l h0 hm
theorem szStringS (xs : List Bytes) (h : txtsWd xs) (l : Int) (h0 : 0 ≤ l) (hm : l ≤ 1048576) : run E (.call 69 [.t (.list (xs.map strT)), xI l]) = some (.res [xI (lstSz szTxt xs l)] []) := by
  rw [run_call E 69 _ rfl Tryz.func69 rfl rfl rfl (by simp)]
  have hl : W xs.length := h.1
  have hw := wrap_sz hl h0 hm
  unfold lstSz szB
  by_cases hb : l - (xs.length : Int) < 0
  · simp [hw, hb]
  · have hb0 : ¬ l < (xs.length : Int) := by omega
    have lp := fun (r : Int) (hr : r = goSz szTxt xs (l - xs.length)) => sk (fun s o q hI => loop_for (c := loopAt Tryz.f69 0) (N := 28)
      (fun i s o q => ∃ k : Int, s 0 = .t (.list (xs.map strT)) ∧ s 1 = .t (.int .i64 k) ∧ s 5 = .t (.int .i64 i) ∧ 0 ≤ k ∧ k ≤ 1048576 ∧ r = goSz szTxt (xs.drop i) k)
      (fun e s' o' q' => e = (if r < 0 then .ret else .exit 0) ∧ (r < 0 → s' 4 = .t (.int .i64 r)) ∧ (0 ≤ r → s' 1 = .t (.int .i64 r))) xs.length
      (by
        rintro i s o q hi ⟨k, g0, g1, g5, hk0, hkm, hp⟩
        have hi' : (i : Int) < (xs.length : Int) := by omega
        have hwi := wrap_succ (n := i) (by unfold W at hl; omega)
        have hxi : xs[i]? = some xs[i] := List.getElem?_eq_getElem hi
        have hx := wrap_sz (h.2 _ (List.getElem_mem hi)) hk0 hkm
        rw [List.drop_eq_getElem_cons hi, goSz] at hp
        by_cases hn : k - (xs[i].length : Int) < 0
        · simp [szTxt, szB, hn] at hp
          simp [loopAt, loopsOf, Tryz.f69, g0, g1, g5, hi', hxi, hwi, hx, hn, hp]
        · have e : szTxt xs[i] k = k - xs[i].length := by simp [szTxt, szB, hn]
          rw [e, if_neg hn] at hp
          simp [loopAt, loopsOf, Tryz.f69, g0, g1, g5, hi', hxi, hwi, hx, hn]
          exact ⟨by omega, by omega, hp⟩)
      (by
        rintro s o q ⟨k, g0, g1, g5, hk0, hkm, hp⟩
        simp [goSz] at hp
        have hk1 : ¬ k < 0 := by omega
        simp [loopAt, loopsOf, Tryz.f69, g0, g1, g5, hp, hk1]
        try omega)
      xs.length 0 s o q (by omega) hI)
    simp only [loopAt, loopsOf, Tryz.f69] at lp
    obtain ⟨r, hr⟩ : ∃ r, r = goSz szTxt xs (l - xs.length) := ⟨_, rfl⟩
    obtain ⟨X, A, B, C, hx⟩ := lp r hr
    have hx' := fun s o q a0 a1 a5 => hx s o q ⟨l - xs.length, a0, a1, a5, by omega, by omega, by simpa using hr⟩
    clear hx
    by_cases hn : r < 0
    · have hn' : ¬ 0 ≤ r := by omega
      simp [hn, hn'] at hx'
      simp [hw, hb, hb0, hx', hn, ← hr]
    · have hn' : 0 ≤ r := by omega
      simp [hn, hn'] at hx'
      simp [hw, hb, hb0, hx', hn, ← hr]
/-! Copies. -/
theorem toValue (v : Val) : run E (.call 15 [xV v]) = some (.res [valX v] []) := by
  rw [run_call E 15 _ rfl Tryz.func15 rfl rfl rfl (by simp)]
  simp
theorem toTerm (t : Trm) : run E (.call 25 [.t (trmT t)]) = some (.res [trmX t] []) := by
  rw [run_call E 25 _ rfl Tryz.func25 rfl rfl rfl (by simp)]
  simp [toValue t.v]
theorem toPart (p : Prt) : run E (.call 56 [.t (prtT p)]) = some (.res [prtX p] []) := by
  rw [run_call E 56 _ rfl Tryz.func56 rfl rfl rfl (by simp)]
  simp
theorem toClause (c : List Trm) (h : c.length < 4294967296) : run E (.call 174 [.t (clsT c)]) = some (.res [.agg [.row 55 (c.map trmT)]] []) := by
  rw [run_call E 174 _ rfl Tryz.func174 rfl rfl rfl (by simp)]
  have hs := to_225 c h (fun x _ => toTerm x)
  simp [hs]
theorem toFilter (f : List (List Trm)) (h : f.length < 4294967296) (hc : ∀ c ∈ f, c.length < 4294967296) : run E (.call 55 [.t (filT f)]) = some (.res [.agg [.row 173 (f.map clsT)]] []) := by
  rw [run_call E 55 _ rfl Tryz.func55 rfl rfl rfl (by simp)]
  have hs := to_114 f h (fun x hx => toClause x (hc x hx))
  simp [hs]
theorem toPartS (l : List Prt) (h : l.length < 4294967296) : run E (.call 74 [.t (.list (l.map prtT))]) = some (.res [.row 108 (l.map prtT)] []) := to_74 l h (fun x _ => toPart x)
theorem toStringS (xs : List Bytes) (hl : xs.length < 4294967296) : run E (.call 75 [.t (.list (xs.map strT))]) = some (.res [.row 9 (xs.map strT)] []) := by
  rw [run_call E 75 _ rfl Tryz.func75 rfl rfl rfl (by simp)]
  have lp := sk (fun s o q hI => loop_for (c := loopAt Tryz.f75 0) (N := 22)
    (fun i s o q => s 0 = .t (.list (xs.map strT)) ∧ s 3 = .row 0 ∧ s 4 = .t (.int .i64 i) ∧ o 0 = .row 9 ((xs.map strT).take i ++ List.replicate (xs.length - i) (.str [])) true)
    (fun e s' o' q' => e = .exit 0 ∧ s' 3 = .row 0 ∧ o' 0 = .row 9 (xs.map strT) true) xs.length
    (by
      rintro i s o q hi ⟨g0, g3, g4, ho⟩
      have hi' : (i : Int) < (xs.length : Int) := by omega
      have hwi := wrap_succ (n := i) (by omega)
      have hxi : xs[i]? = some xs[i] := List.getElem?_eq_getElem hi
      have hget := mid_get (xs.map strT) (T.str []) i xs.length hi (by simp; omega)
      have hset := mid_set (xs.map strT) (T.str []) (strT xs[i]) i xs.length hi (by simp [hxi])
      simp [loopAt, loopsOf, Tryz.f75, g0, g3, g4, hi', hxi, hwi, ho, hget, hset])
    (by
      rintro s o q ⟨g0, g3, g4, ho⟩
      have hfull : (xs.map strT).take xs.length = xs.map strT := List.take_of_length_le (by simp)
      simp [hfull] at ho
      simp [loopAt, loopsOf, Tryz.f75, g0, g3, g4, ho])
    xs.length 0 s o q (by omega) hI)
  simp only [loopAt, loopsOf, Tryz.f75] at lp
  obtain ⟨X, A, B, C, hx⟩ := lp
  simp at hx
  have h1 : xs.length ≤ 140737488355328 := by omega
  have h2 : xs.length * 16 ≤ 140737488355328 := by omega
  simp [h1, h2, hx]
/-! Equality: of what is alike. -/
theorem eqValue (v : Val) : run E (.call 17 [xV v, xV v]) = some (.res [xB true] []) := by
  rw [run_call E 17 _ rfl Tryz.func17 rfl rfl rfl (by simp)]
  simp
theorem eqTerm (t : Trm) : run E (.call 261 [.t (trmT t), .t (trmT t)]) = some (.res [xB true] []) := by
  rw [run_call E 261 _ rfl Tryz.func261 rfl rfl rfl (by simp)]
  simp [eqValue t.v]
theorem eqPart (p : Prt) : run E (.call 141 [.t (prtT p), .t (prtT p)]) = some (.res [xB true] []) := by
  rw [run_call E 141 _ rfl Tryz.func141 rfl rfl rfl (by simp)]
  simp
theorem eqClause (c : List Trm) (h : c.length < 4294967296) : run E (.call 176 [.t (clsT c), .t (clsT c)]) = some (.res [xB true] []) := by
  rw [run_call E 176 _ rfl Tryz.func176 rfl rfl rfl (by simp)]
  have hs := eq_228 c (by omega) (fun x _ => eqTerm x)
  simp [hs]
theorem eqFilter (f : List (List Trm)) (h : f.length < 4294967296) (hc : ∀ c ∈ f, c.length < 4294967296) : run E (.call 59 [.t (filT f), .t (filT f)]) = some (.res [xB true] []) := by
  rw [run_call E 59 _ rfl Tryz.func59 rfl rfl rfl (by simp)]
  have hs := eq_117 f (by omega) (fun x hx => eqClause x (hc x hx))
  simp [hs]
theorem eqPartS (l : List Prt) (h : l.length < 4294967296) : run E (.call 81 [.t (.list (l.map prtT)), .t (.list (l.map prtT))]) = some (.res [xB true] []) := eq_81 l (by omega) (fun x _ => eqPart x)
theorem eqStringS (xs : List Bytes) (hl : xs.length < 4294967296) : run E (.call 38 [.t (.list (xs.map strT)), .t (.list (xs.map strT))]) = some (.res [xB true] []) := by
  rw [run_call E 38 _ rfl Tryz.func38 rfl rfl rfl (by simp)]
  have d6 := d38_6
  simp [regionOf, findR, pick, Tryz.f38] at d6
  have dd := fun st => run_region_draw E st 6 _ d6
  clear d6
  have lp := sk (fun s o q hI => loop_for (c := loopAt Tryz.f38 0) (N := 26)
    (fun i s o q => s 0 = .t (.list (xs.map strT)) ∧ s 1 = .t (.list (xs.map strT)) ∧ s 5 = .t (.int .i64 i))
    (fun e s' o' q' => e = .exit 0) xs.length
    (by
      rintro i s o q hi ⟨g0, g1, g5⟩
      have hi' : (i : Int) < (xs.length : Int) := by omega
      have hwi := wrap_succ (n := i) (by omega)
      have hxi : xs[i]? = some xs[i] := List.getElem?_eq_getElem hi
      simp [loopAt, loopsOf, Tryz.f38, dd, g0, g1, g5, hi', hxi, hwi])
    (by
      rintro s o q ⟨g0, g1, g5⟩
      simp [loopAt, loopsOf, Tryz.f38, g0, g1, g5])
    xs.length 0 s o q (by omega) hI)
  simp only [loopAt, loopsOf, Tryz.f38] at lp
  obtain ⟨X, A, B, C, hx⟩ := lp
  simp at hx
  simp [hx]
end Go.Zd
