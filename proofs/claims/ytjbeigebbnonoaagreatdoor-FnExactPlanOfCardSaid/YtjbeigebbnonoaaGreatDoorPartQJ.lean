/- Lists of indexes: both sides; where one with a name stands. -/
import Derived.Test.YtjbeigebbnonoaaGreatDoorPartQI
import Derived.Test.YtjbeigebbnonoaaGreatDoorPartQG
namespace Go.Md
open Go.Ev Go.Proofs Go.Pu
set_option linter.unusedSimpArgs false
set_option linter.unusedVariables false
set_option maxRecDepth 100000
set_option maxHeartbeats 8000000
def ixFine (x : Ix) : Bool := defOK x.dfn && treeOK x.tree
def ixsGo : List Ix → List Ix → Bool
  | _, [] => true
  | pre, x :: r => ixFine x && !(pre.any fun y => y.dfn.name == x.dfn.name) && ixsGo (pre ++ [x]) r
def ixsOK (l : List Ix) : Bool := ixsGo [] l && decide (l.length ≤ 3)
theorem ixs_fine : ∀ (pre l : List Ix), ixsGo pre l = true → ∀ x ∈ l, ixFine x = true
  | _, [], _ => by simp
  | pre, y :: r, h => by
    rw [ixsGo] at h
    simp only [Bool.and_eq_true] at h
    intro x hx
    rcases List.mem_cons.1 hx with rfl | hx
    · exact h.1.1
    · exact ixs_fine _ r h.2 x hx
theorem specIndex (x : Ix) (h : x.Sm) : run E (.call 133 [.t (ixT x)]) = some (.res [xB (ixFine x)] []) := by
  rw [run_call E 133 _ rfl Tryz.func133 rfl rfl rfl (by simp)]
  have h1 := specDefOK x.dfn h.dfn
  have h2 := specTreeOK x.tree h.tree
  unfold ixFine
  cases hb : defOK x.dfn <;> rw [hb] at h1 <;> simp [h1, h2]
theorem implIndex (x : Ix) (h : x.Sm) : run E (.call 143 [.t (ixT x)]) = some (.res [xB (ixFine x)] []) := by
  rw [run_call E 143 _ rfl Tryz.func143 rfl rfl rfl (by simp)]
  have h1 := implDefOK x.dfn h.dfn
  have h2 := implTreeOK x.tree h.tree
  unfold ixFine
  cases hb : defOK x.dfn <;> rw [hb] at h1 <;> simp [h1, h2]
theorem nameClos (x : Ix) (n : Bytes) : run E (.call 145 [.t (ixT x), .dref [.str n]]) = some (.res [xB (x.dfn.name == n)] []) := by
  rw [run_call E 145 _ rfl Tryz.func145 rfl rfl rfl (by simp)]
  simp
theorem indexAt (l : List Ix) (n : Bytes) (hl : l.length < 4294967296) : run E (.call 81 [.t (.list (l.map ixT)), xS n]) = some (.res [xI (idxP (fun x : Ix => x.dfn.name == n) l)] []) := by
  rw [run_call E 81 _ rfl Tryz.func81 rfl rfl rfl (by simp)]
  have h := indexFunc_144 l 145 [.str n] (fun x : Ix => x.dfn.name == n) (by omega) rfl (by simp) (fun x _ => nameClos x n)
  try simp at h
  simp [h]
theorem indexFind (l : List Ix) (n : Bytes) (hl : l.length < 4294967296) : run E (.call 134 [.t (.list (l.map ixT)), xS n]) = some (.res [xI (idxP (fun x : Ix => x.dfn.name == n) l)] []) := by
  rw [run_call E 134 _ rfl Tryz.func134 rfl rfl rfl (by simp)]
  have lp := fun (r : Int) (hr : r = idxP (fun x : Ix => x.dfn.name == n) l) => sk (fun s o q hI => loop_for (c := loopAt Tryz.f134 0) (N := 21)
    (fun i s o q => s 0 = .t (.list (l.map ixT)) ∧ s 1 = .t (.str n) ∧ s 5 = .t (.int .i64 i) ∧ r = if idxP (fun x : Ix => x.dfn.name == n) (l.drop i) < 0 then -1 else idxP (fun x : Ix => x.dfn.name == n) (l.drop i) + i)
    (fun e s' o' q' => e = (if r < 0 then .exit 0 else .ret) ∧ (0 ≤ r → s' 4 = .t (.int .i64 r))) l.length
    (by
      rintro i s o q hi ⟨h0, h1, h5, hr⟩
      have hd : l.drop i = l[i] :: l.drop (i + 1) := by rw [List.drop_eq_getElem_cons hi]
      have hi' : (i : Int) < (l.length : Int) := by omega
      have hw := wrap_succ (n := i) (by omega)
      have hxi : l[i]? = some l[i] := List.getElem?_eq_getElem hi
      rw [hd, idxP] at hr
      by_cases hpx : l[i].dfn.name = n
      · simp [hpx] at hr
        have hr' : ¬ r < 0 := by omega
        simp [loopAt, loopsOf, Tryz.f134, h0, h1, h5, hi, hi', hxi, hpx, hw, hr', hr]
      · simp [hpx] at hr
        have hr2 : r = if idxP (fun x : Ix => x.dfn.name == n) (l.drop (i + 1)) < 0 then -1 else idxP (fun x : Ix => x.dfn.name == n) (l.drop (i + 1)) + ((i : Int) + 1) := by
          rw [hr]
          by_cases hq : idxP (fun x : Ix => x.dfn.name == n) (l.drop (i + 1)) < 0
          · simp [hq]
          · have : ¬ idxP (fun x : Ix => x.dfn.name == n) (l.drop (i + 1)) + 1 < 0 := by omega
            simp [hq, this]; omega
        clear hr
        simp [loopAt, loopsOf, Tryz.f134, h0, h1, h5, hi, hi', hxi, hpx, hw]
        exact hr2)
    (by
      rintro s o q ⟨h0, h1, h5, hr⟩
      simp [idxP] at hr
      simp [loopAt, loopsOf, Tryz.f134, h0, h1, h5, hr])
    l.length 0 s o q (by omega) hI)
  simp only [loopAt, loopsOf, Tryz.f134] at lp
  obtain ⟨X, A, B, C, hx⟩ := lp _ rfl
  have hz : idxP (fun x : Ix => x.dfn.name == n) l = if idxP (fun x : Ix => x.dfn.name == n) l < 0 then -1 else idxP (fun x : Ix => x.dfn.name == n) l := by
    cases l with
    | nil => simp [idxP]
    | cons x r =>
      unfold idxP
      split
      · simp
      · split
        · simp
        · have : ¬ idxP (fun x : Ix => x.dfn.name == n) r + 1 < 0 := by omega
          simp [this]
  simp [← hz] at hx
  by_cases h : idxP (fun x : Ix => x.dfn.name == n) l < 0
  · have h1 : idxP (fun x : Ix => x.dfn.name == n) l = -1 := by rw [hz]; simp [h]
    simp [h] at hx
    simp [hx, h1]
  · have h2 : 0 ≤ idxP (fun x : Ix => x.dfn.name == n) l := by omega
    simp [h, h2] at hx
    simp [hx]
theorem implIndexes (l : List Ix) (hl : l.length < 4294967296) (hs : ∀ x ∈ l, x.Sm) : run E (.call 80 [.t (.list (l.map ixT))]) = some (.res [xB (ixsOK l)] []) := by
  obtain ⟨b, hb⟩ : ∃ b, b = ixsGo [] l := ⟨_, rfl⟩
  unfold ixsOK
  rw [← hb]
  obtain ⟨X, A, B, C, hx⟩ := sk (fun s o q (hI : s 0 = .t (.list (l.map ixT)) ∧ s 5 = .t (.list (l.map ixT)) ∧ s 6 = .t (.int .i64 l.length) ∧ s 7 = .t (.int .i64 0)) => loop_for (c := loopAt Tryz.f80 0) (N := 28)
    (fun i s o q => s 0 = .t (.list (l.map ixT)) ∧ s 5 = .t (.list (l.map ixT)) ∧ s 6 = .t (.int .i64 l.length) ∧ s 7 = .t (.int .i64 i) ∧ b = ixsGo (l.take i) (l.drop i))
    (fun e s' o' q' => (b = false → e = .ret ∧ s' 2 = .t (.bool false)) ∧ (b = true → e = .exit 0 ∧ s' 0 = .t (.list (l.map ixT)))) l.length
    (by
      rintro i s o q hi ⟨h0, h5, h6, h7, hb⟩
      have hi' : (i : Int) < (l.length : Int) := by omega
      have hxi : l[i]? = some l[i] := List.getElem?_eq_getElem hi
      have hw := wrap_succ (n := i) (by omega)
      have h1 := implIndex l[i] (hs _ (List.getElem_mem hi))
      have h2 := indexAt l l[i].dfn.name hl
      have h3 := idxP_take (fun x : Ix => x.dfn.name == l[i].dfn.name) l i hi (by simp)
      have htk : l.take (i + 1) = l.take i ++ [l[i]] := by rw [List.take_add_one, hxi]; rfl
      rw [List.drop_eq_getElem_cons hi, ixsGo, ← htk] at hb
      try simp at h1 h2
      cases hf : ixFine l[i] with
      | false =>
        rw [hf] at hb h1
        simp at hb
        subst hb
        simp [loopAt, loopsOf, Tryz.f80, h0, h5, h6, h7, hi, hi', hxi, h1]
      | true =>
        rw [hf] at hb h1
        cases ha : ((l.take i).any fun y => y.dfn.name == l[i].dfn.name) with
        | true =>
          rw [ha] at hb h3
          simp at hb h3
          subst hb
          simp [loopAt, loopsOf, Tryz.f80, h0, h5, h6, h7, hi, hi', hxi, h1, h2, h3]
        | false =>
          rw [ha] at hb h3
          simp at hb h3
          have h3' : ¬ idxP (fun x : Ix => x.dfn.name == l[i].dfn.name) l < (i : Int) := by omega
          simp [loopAt, loopsOf, Tryz.f80, h0, h5, h6, h7, hi, hi', hxi, h1, h2, h3', hw]
          simpa using hb)
    (by
      rintro s o q ⟨h0, h5, h6, h7, hb⟩
      rw [List.drop_of_length_le (Nat.le_refl _), ixsGo] at hb
      subst hb
      simp [loopAt, loopsOf, Tryz.f80, h0, h5, h6, h7])
    l.length 0 s o q (by omega) ⟨hI.1, hI.2.1, hI.2.2.1, hI.2.2.2, by simpa using hb⟩)
  rw [run_call E 80 _ rfl Tryz.func80 rfl rfl rfl (by simp)]
  simp only [loopAt, loopsOf, Tryz.f80] at hx
  clear hb
  cases b with
  | false =>
    simp at hx
    simp [hx]
  | true =>
    simp at hx
    have h3 : ((l.length : Int) ≤ 3) = (l.length ≤ 3) := by simp; omega
    by_cases h : l.length ≤ 3 <;> simp [hx, h3, h]
theorem sixs_in (l : List Ix) (hl : l.length < 4294967296) (i : Nat) (hi : i < l.length) (O : Os) (Q : Nat) : ∀ s o q, (s 0 = .t (.list (l.map ixT)) ∧ s 3 = .t (.int .i64 i) ∧ s 4 = .t (.int .i64 0) ∧ o = O ∧ q = Q) →
    ∃ e s' o' q', run E (.code (.loop (loopAt Tryz.f73 1)) ⟨s, o, q, 38⟩) = some (.st e ⟨s', o', q', 38⟩) ∧ ((((l.take i).any fun y => y.dfn.name == l[i].dfn.name) = true → e = .ret ∧ s' 2 = .t (.bool false)) ∧ (((l.take i).any fun y => y.dfn.name == l[i].dfn.name) = false → e = .exit 2 ∧ s' 0 = .t (.list (l.map ixT)) ∧ s' 3 = .t (.int .i64 i) ∧ o' = O ∧ q' = Q)) := by
  intro s o q hI
  have d9 := d73_9
  simp [regionOf, findR, pick, Tryz.f73] at d9
  have dd := fun st => run_region_draw E st 9 _ d9
  clear d9
  refine loop_for (c := loopAt Tryz.f73 1) (N := 38)
    (fun k s o q => s 0 = .t (.list (l.map ixT)) ∧ s 3 = .t (.int .i64 i) ∧ s 4 = .t (.int .i64 k) ∧ o = O ∧ q = Q ∧ ((l.take k).any fun y => y.dfn.name == l[i].dfn.name) = false)
    (fun e s' o' q' => (((l.take i).any fun y => y.dfn.name == l[i].dfn.name) = true → e = .ret ∧ s' 2 = .t (.bool false)) ∧ (((l.take i).any fun y => y.dfn.name == l[i].dfn.name) = false → e = .exit 2 ∧ s' 0 = .t (.list (l.map ixT)) ∧ s' 3 = .t (.int .i64 i) ∧ o' = O ∧ q' = Q)) i ?_ ?_
    i 0 s o q (by omega) ⟨hI.1, hI.2.1, hI.2.2.1, hI.2.2.2.1, hI.2.2.2.2, by simp⟩
  · rintro k s o q hk ⟨h0, h3, h4, rfl, rfl, hc⟩
    have hk' : (k : Int) < (i : Int) := by omega
    have hkl : k < l.length := by omega
    have hkl' : (k : Int) < (l.length : Int) := by omega
    have hil' : (i : Int) < (l.length : Int) := by omega
    have hxk : l[k]? = some l[k] := List.getElem?_eq_getElem hkl
    have hxi : l[i]? = some l[i] := List.getElem?_eq_getElem hi
    have hw := wrap_succ (n := k) (by omega)
    cases he : (l[k].dfn.name == l[i].dfn.name) with
    | true =>
      have hT : ((l.take i).any fun y => y.dfn.name == l[i].dfn.name) = true := by
        rw [List.any_eq_true]
        exact ⟨l[k], List.mem_iff_getElem.2 ⟨k, by simp; omega, by simp⟩, he⟩
      rw [hT]
      simp [loopAt, loopsOf, Tryz.f73, dd, h0, h3, h4, hk', hkl, hi, hxk, hxi, he]
    | false =>
      have hn : ((l.take (k + 1)).any fun y => y.dfn.name == l[i].dfn.name) = false := by
        rw [List.take_add_one, hxk, List.any_append, hc]
        simp [he]
      simp [-List.any_eq_false, -List.any_eq_true, loopAt, loopsOf, Tryz.f73, dd, h0, h3, h4, hk', hkl, hi, hxk, hxi, he, hw]
      exact hn
  · rintro s o q ⟨h0, h3, h4, rfl, rfl, hc⟩
    rw [hc]
    simp [loopAt, loopsOf, Tryz.f73, dd, h0, h3, h4]
theorem specIndexes (l : List Ix) (hl : l.length < 4294967296) (hs : ∀ x ∈ l, x.Sm) : run E (.call 73 [.t (.list (l.map ixT))]) = some (.res [xB (ixsOK l)] []) := by
  obtain ⟨b, hb⟩ : ∃ b, b = ixsGo [] l := ⟨_, rfl⟩
  unfold ixsOK
  rw [← hb]
  obtain ⟨X, A, B, C, hx⟩ := sk (fun s o q (hI : s 0 = .t (.list (l.map ixT)) ∧ s 3 = .t (.int .i64 0)) => loop_for (c := loopAt Tryz.f73 0) (N := 38)
    (fun i s o q => s 0 = .t (.list (l.map ixT)) ∧ s 3 = .t (.int .i64 i) ∧ b = ixsGo (l.take i) (l.drop i))
    (fun e s' o' q' => (b = false → e = .ret ∧ s' 2 = .t (.bool false)) ∧ (b = true → e = .exit 0 ∧ s' 0 = .t (.list (l.map ixT)))) l.length
    (by
      rintro i s o q hi ⟨h0, h3, hb⟩
      have hi' : (i : Int) < (l.length : Int) := by omega
      have hxi : l[i]? = some l[i] := List.getElem?_eq_getElem hi
      have hw := wrap_succ (n := i) (by omega)
      have h1 := specIndex l[i] (hs _ (List.getElem_mem hi))
      have htk : l.take (i + 1) = l.take i ++ [l[i]] := by rw [List.take_add_one, hxi]; rfl
      rw [List.drop_eq_getElem_cons hi, ixsGo, ← htk] at hb
      obtain ⟨X2, A2, B2, C2, hx2⟩ := sk (fun s o q (h : s 0 = .t (.list (l.map ixT)) ∧ s 3 = .t (.int .i64 i) ∧ s 4 = .t (.int .i64 0)) => sixs_in l hl i hi o q s o q ⟨h.1, h.2.1, h.2.2, rfl, rfl⟩)
      simp only [loopAt, loopsOf, Tryz.f73] at hx2
      try simp at h1
      cases hf : ixFine l[i] with
      | false =>
        rw [hf] at hb h1
        simp at hb
        subst hb
        simp [loopAt, loopsOf, Tryz.f73, h0, h3, hi, hi', hxi, h1]
      | true =>
        rw [hf] at hb h1
        cases ha : ((l.take i).any fun y => y.dfn.name == l[i].dfn.name) with
        | true =>
          rw [ha] at hb hx2
          simp at hb hx2
          subst hb
          simp [loopAt, loopsOf, Tryz.f73, h0, h3, hi, hi', hxi, h1, hx2]
        | false =>
          rw [ha] at hb hx2
          simp at hb hx2
          simp [loopAt, loopsOf, Tryz.f73, h0, h3, hi, hi', hxi, h1, hx2, hw]
          simpa using hb)
    (by
      rintro s o q ⟨h0, h3, hb⟩
      rw [List.drop_of_length_le (Nat.le_refl _), ixsGo] at hb
      subst hb
      simp [loopAt, loopsOf, Tryz.f73, h0, h3])
    l.length 0 s o q (by omega) ⟨hI.1, hI.2, by simpa using hb⟩)
  rw [run_call E 73 _ rfl Tryz.func73 rfl rfl rfl (by simp)]
  simp only [loopAt, loopsOf, Tryz.f73] at hx
  clear hb
  cases b with
  | false =>
    simp at hx
    simp [hx]
  | true =>
    simp at hx
    have h3 : ((l.length : Int) ≤ 3) = (l.length ≤ 3) := by simp; omega
    by_cases h : l.length ≤ 3 <;> simp [hx, h3, h]
structure Pln where
  index : Bytes
  ivl : Ivl
  looked : Int
  deriving Inhabited
abbrev plnX (p : Pln) : X := .agg [.t (.str p.index), .t (.str p.ivl.low), .t (.str p.ivl.high), .t (.bool p.ivl.opn), .t (.int .i64 p.looked)]
abbrev plnT (p : Pln) : T := .agg [.str p.index, .str p.ivl.low, .str p.ivl.high, .bool p.ivl.opn, .int .i64 p.looked]
def noPln : Pln := ⟨[], ⟨[], [], false⟩, 0⟩
abbrev boxP (p : Pln) : Ob := .box 70 [.t (.str p.index), .t (.str p.ivl.low), .t (.str p.ivl.high), .t (.bool p.ivl.opn), .t (.int .i64 p.looked)]
/-- The plan by an index. -/
def planBy (f : List (List Trm)) (x : Ix) : Pln :=
  let iv := filterI (x.dfn.parts.headD ⟨[], false⟩) f
  ⟨x.dfn.name, iv, ((allE x.tree).filter (fun e => hasI iv e.key)).length⟩
theorem def_parts {d : Dfn} (h : defOK d = true) : 0 < d.parts.length := by
  unfold defOK in12 at h
  simp only [Bool.and_eq_true, decide_eq_true_eq] at h
  omega
theorem ix_parts {x : Ix} (h : ixFine x = true) : ∃ p r, x.dfn.parts = p :: r := by
  unfold ixFine at h
  simp only [Bool.and_eq_true] at h
  have := def_parts h.1
  cases hp : x.dfn.parts with
  | nil => rw [hp] at this; simp at this
  | cons p r => exact ⟨p, r, rfl⟩
theorem ix_tree {x : Ix} (h : ixFine x = true) : treeOK x.tree = true ∧ x.tree.pages.length ≤ 60 ∧ (∀ p ∈ x.tree.pages, p.ents.length ≤ 4) ∧ (allE x.tree).length ≤ 240 := by
  unfold ixFine at h
  simp only [Bool.and_eq_true] at h
  have h2 := h.2
  unfold treeOK at h2
  simp only [Bool.and_eq_true] at h2
  have h60 : x.tree.pages.length ≤ 60 := by
    have := h2.1.1
    unfold in1 at this
    simp at this; omega
  have hn := nums_small _ _ _ _ h2.2.1
  have hf := flat_small _ hn
  exact ⟨h.2, h60, hn, by unfold allE; omega⟩
theorem implPlan (q : Qry) (x : Ix) (hq : q.Sm) (hx : x.Sm) (hfo : filterOK q.filter = true) (hf : ixFine x = true) : run E (.call 82 [.t (qryT q), .t (ixT x)]) = some (.res [plnX (planBy q.filter x)] []) := by
  rw [run_call E 82 _ rfl Tryz.func82 rfl rfl rfl (by simp)]
  have d1 := d82_1
  simp [regionOf, findR, pick, Tryz.f82] at d1
  have dd := fun st => run_region_draw E st 1 _ d1
  clear d1
  obtain ⟨p, r, hp⟩ := ix_parts hf
  obtain ⟨ht, _, _, _⟩ := ix_tree hf
  have hcl := terms_ok hfo hq.filter
  have hf0 : 0 < q.filter.length := by
    unfold filterOK at hfo
    simp only [Bool.and_eq_true, decide_eq_true_eq] at hfo
    omega
  have h1 := implFilter q.filter p (by have := hq.filter.1; omega) hf0 hcl
  obtain ⟨ns, h2⟩ := implRange x.tree (filterI p q.filter) hx.tree ht
  unfold planBy
  rw [hp]
  simp only [List.headD_cons]
  generalize filterI p q.filter = iv at *
  try simp at h1 h2
  simp [dd, hp, h1, h2]
theorem specPlan (q : Qry) (x : Ix) (hq : q.Sm) (hx : x.Sm) (hfo : filterOK q.filter = true) (hf : ixFine x = true) : run E (.call 135 [.t (qryT q), .t (ixT x)]) = some (.res [plnX (planBy q.filter x)] []) := by
  rw [run_call E 135 _ rfl Tryz.func135 rfl rfl rfl (by simp)]
  have d1 := d135_1
  simp [regionOf, findR, pick, Tryz.f135] at d1
  have dd := fun st => run_region_draw E st 1 _ d1
  clear d1
  obtain ⟨p, r, hp⟩ := ix_parts hf
  obtain ⟨ht, hl, hs, _⟩ := ix_tree hf
  have hcl := terms_ok hfo hq.filter
  have hf0 : 0 < q.filter.length := by
    unfold filterOK at hfo
    simp only [Bool.and_eq_true, decide_eq_true_eq] at hfo
    omega
  have h1 := specFilter q.filter p (by have := hq.filter.1; omega) hf0 hcl
  obtain ⟨ns, h2⟩ := specRange x.tree (filterI p q.filter) (by omega) hs
  rw [range_eq ht] at h2
  unfold planBy
  rw [hp]
  simp only [List.headD_cons]
  generalize filterI p q.filter = iv at *
  try simp at h1 h2
  simp [dd, hp, h1, h2]
theorem specSize (t : Tr) (hl : t.pages.length ≤ 1000) (hs : (allE t).length ≤ 100000) : run E (.call 136 [.t (treeT t)]) = some (.res [xI ((allE t).length : Nat)] []) := by
  rw [run_call E 136 _ rfl Tryz.func136 rfl rfl rfl (by simp)]
  obtain ⟨X, A, B, C, hx⟩ := sk (fun s o q (hI : s 1 = .ptr 0 0 ∧ o 0 = .box 127 [.t (.list (t.pages.map pgT)), .t (.int .i64 t.next)] ∧ s 3 = .t (.int .i64 0) ∧ s 4 = .t (.int .i64 0)) => loop_for (c := loopAt Tryz.f136 0) (N := 22)
    (fun i s o q => s 1 = .ptr 0 0 ∧ o 0 = .box 127 [.t (.list (t.pages.map pgT)), .t (.int .i64 t.next)] ∧ s 3 = .t (.int .i64 (((t.pages.take i).flatMap Pg.ents).length : Nat)) ∧ s 4 = .t (.int .i64 i))
    (fun e s' o' q' => e = .exit 0 ∧ s' 3 = .t (.int .i64 ((allE t).length : Nat))) t.pages.length
    (by
      rintro i s o q hi ⟨h1, o0, h3, h4⟩
      have hi' : (i : Int) < (t.pages.length : Int) := by omega
      have hxi : t.pages[i]? = some t.pages[i] := List.getElem?_eq_getElem hi
      have hw := wrap_succ (n := i) (by omega)
      have htk : (t.pages.take (i + 1)).flatMap Pg.ents = (t.pages.take i).flatMap Pg.ents ++ t.pages[i].ents := by
        rw [List.take_add_one, hxi, List.flatMap_append]; simp
      have hsum : ((t.pages.take i).flatMap Pg.ents).length + t.pages[i].ents.length ≤ (allE t).length := by
        have h1 : (allE t) = (t.pages.take (i + 1)).flatMap Pg.ents ++ (t.pages.drop (i + 1)).flatMap Pg.ents := by
          rw [allE, ← List.flatMap_append, List.take_append_drop]
        rw [h1, htk]; simp
      rw [htk, List.length_append]
      generalize ((t.pages.take i).flatMap Pg.ents).length = Z at *
      have hwz : IntKind.i64.wrap ((Z : Int) + (t.pages[i].ents.length : Int)) = ((Z + t.pages[i].ents.length : Nat) : Int) := by rw [wrap_of (by omega) (by omega)]; omega
      simp [loopAt, loopsOf, Tryz.f136, h1, o0, h3, h4, hi, hi', hxi, hw, hwz])
    (by
      rintro s o q ⟨h1, o0, h3, h4⟩
      rw [List.take_of_length_le (Nat.le_refl _)] at h3
      simp [loopAt, loopsOf, Tryz.f136, h1, o0, h3, h4, allE])
    t.pages.length 0 s o q (by omega) ⟨hI.1, hI.2.1, by simpa using hI.2.2.1, hI.2.2.2⟩)
  simp only [loopAt, loopsOf, Tryz.f136] at hx
  simp at hx
  simp [hx]
/-- The better one of two. -/
def better (f : List (List Trm)) (b : Pln) (x : Ix) : Pln :=
  if (planBy f x).looked < ((allE x.tree).length : Int) ∧ (b.index = [] ∨ (planBy f x).looked < b.looked) then planBy f x else b
def planL (q : Qry) (l : List Ix) : Pln := match l[(idxP (fun x : Ix => x.dfn.name == q.hint) l).toNat]? with
  | some x => if idxP (fun x : Ix => x.dfn.name == q.hint) l < 0 then l.foldl (better q.filter) noPln else planBy q.filter x
  | none => l.foldl (better q.filter) noPln
theorem idxP_lt {α : Type} (p : α → Bool) : ∀ l : List α, idxP p l < (l.length : Int)
  | [] => by simp [idxP]
  | x :: r => by
    have := idxP_lt p r
    rw [idxP, List.length_cons]
    split
    · omega
    · split <;> omega
abbrev boxQ (q : Qry) : Ob := .box 75 [.t (.list (q.filter.map clsT)), .t (.list (q.sort.map prtT)), .t (.int .i64 q.skip), .t (.int .i64 q.limit), .t (.list (q.keep.map strT)), .t (.str q.hint)]
theorem foldl_take {α β : Type} (f : β → α → β) (b : β) (l : List α) (i : Nat) (hi : i < l.length) : (l.take (i + 1)).foldl f b = f ((l.take i).foldl f b) l[i] := by
  have htk : l.take (i + 1) = l.take i ++ [l[i]] := by rw [List.take_add_one, List.getElem?_eq_getElem hi]; rfl
  rw [htk, List.foldl_append]
  rfl
theorem planAt (qy : Qry) (l : List Ix) (k : Nat) (hk : idxP (fun x : Ix => x.dfn.name == qy.hint) l = k) : ∃ hlt : k < l.length, planL qy l = planBy qy.filter l[k] := by
  have h1 := idxP_lt (fun x : Ix => x.dfn.name == qy.hint) l
  rw [hk] at h1
  have hlt : k < l.length := by omega
  refine ⟨hlt, ?_⟩
  unfold planL
  rw [hk]
  have hz : ¬ ((k : Int) < 0) := by omega
  simp [hlt, hz]
theorem planNot (qy : Qry) (l : List Ix) (hk : idxP (fun x : Ix => x.dfn.name == qy.hint) l < 0) : planL qy l = l.foldl (better qy.filter) noPln := by
  unfold planL
  split
  · rw [if_pos hk]
  · rfl
theorem splan_loop (qy : Qry) (l : List Ix) (hl : l.length < 4294967296) (hq : qy.Sm) (hs : ∀ x ∈ l, x.Sm) (hfo : filterOK qy.filter = true) (hf : ∀ x ∈ l, ixFine x = true) : ∀ s o q, (s 1 = .t (.list (l.map ixT)) ∧ s 2 = .ptr 0 0 ∧ s 4 = .ptr 1 0 ∧ s 6 = .ptr 2 0 ∧ s 7 = .t (.int .i64 0) ∧ o 0 = boxQ qy ∧ o 1 = boxP noPln ∧ o 2 = boxP noPln ∧ 2 < q) →
    ∃ e s' o' q', run E (.code (.loop (loopAt Tryz.f74 0)) ⟨s, o, q, 57⟩) = some (.st e ⟨s', o', q', 57⟩) ∧ (e = .exit 0 ∧ s' 4 = .ptr 1 0 ∧ s' 6 = .ptr 2 0 ∧ o' 1 = boxP noPln ∧ o' 2 = boxP (l.foldl (better qy.filter) noPln)) := by
  intro s o q hI
  have d8 := d74_8
  have d9 := d74_9
  simp [regionOf, findR, pick, Tryz.f74] at d8 d9
  have dd8 := fun st => run_region_draw E st 8 _ d8
  have dd9 := fun st => run_region_draw E st 9 _ d9
  clear d8 d9
  refine loop_for (c := loopAt Tryz.f74 0) (N := 57)
    (fun i s o q => ∃ b, b = (l.take i).foldl (better qy.filter) noPln ∧ s 1 = .t (.list (l.map ixT)) ∧ s 2 = .ptr 0 0 ∧ s 4 = .ptr 1 0 ∧ s 6 = .ptr 2 0 ∧ s 7 = .t (.int .i64 i) ∧ o 0 = boxQ qy ∧ o 1 = boxP noPln ∧ o 2 = boxP b ∧ 2 < q)
    (fun e s' o' q' => e = .exit 0 ∧ s' 4 = .ptr 1 0 ∧ s' 6 = .ptr 2 0 ∧ o' 1 = boxP noPln ∧ o' 2 = boxP (l.foldl (better qy.filter) noPln)) l.length ?_ ?_
    l.length 0 s o q (by omega) ⟨noPln, by simp, hI.1, hI.2.1, hI.2.2.1, hI.2.2.2.1, hI.2.2.2.2.1, hI.2.2.2.2.2.1, hI.2.2.2.2.2.2.1, hI.2.2.2.2.2.2.2.1, hI.2.2.2.2.2.2.2.2⟩
  · rintro i s o q hi ⟨b, hb, h1, h2, h4, h6, h7, o0, o1, o2, hq2⟩
    have hi' : (i : Int) < (l.length : Int) := by omega
    have hxi : l[i]? = some l[i] := List.getElem?_eq_getElem hi
    have hw := wrap_succ (n := i) (by omega)
    have hfx := hf _ (List.getElem_mem hi)
    obtain ⟨ht, hpl, hsm, hall⟩ := ix_tree hfx
    have e1 := specPlan qy l[i] hq (hs _ (List.getElem_mem hi)) hfo hfx
    have e2 := specSize l[i].tree (by omega) (by omega)
    have hnext := foldl_take (better qy.filter) noPln l i hi
    rw [← hb] at hnext
    rw [hnext]
    unfold better
    generalize hpp : planBy qy.filter l[i] = p at *
    obtain ⟨pi, ⟨plo, phi, pop⟩, pk⟩ := p
    obtain ⟨bi, ⟨blo, bhi, bop⟩, bk⟩ := b
    obtain ⟨a1, a2, a3, a4, a5, a6, a7, a8, a9⟩ : 0 ≠ q ∧ 1 ≠ q ∧ 2 ≠ q ∧ q ≠ 0 ∧ q ≠ 1 ∧ q ≠ 2 ∧ 2 < q + 1 ∧ 0 ≠ q + 1 ∧ 2 ≠ q + 1 := ⟨by omega, by omega, by omega, by omega, by omega, by omega, by omega, by omega, by omega⟩
    clear hb hnext hpp
    try simp at e1 e2
    by_cases c1 : pk < ((allE l[i].tree).length : Int)
    · by_cases c2 : bi = []
      · subst c2
        simp [boxP, boxQ, noPln, loopAt, loopsOf, Tryz.f74, dd8, dd9, h1, h2, h4, h6, h7, o0, o1, o2, hi, hi', hxi, hw, e1, e2, c1, a1, a2, a3, a4, a5, a6, a7, a8, a9]
      · have c2' : (bi == []) = false := by simpa using c2
        by_cases c3 : pk < bk
        · simp [boxP, boxQ, noPln, loopAt, loopsOf, Tryz.f74, dd8, dd9, h1, h2, h4, h6, h7, o0, o1, o2, hi, hi', hxi, hw, e1, e2, c1, c2, c2', c3, a1, a2, a3, a4, a5, a6, a7, a8, a9]
        · simp [boxP, boxQ, noPln, loopAt, loopsOf, Tryz.f74, dd8, dd9, h1, h2, h4, h6, h7, o0, o1, o2, hi, hi', hxi, hw, e1, e2, c1, c2, c2', c3, a1, a2, a3, a4, a5, a6, a7, a8, a9]
    · simp [boxP, boxQ, noPln, loopAt, loopsOf, Tryz.f74, dd8, dd9, h1, h2, h4, h6, h7, o0, o1, o2, hi, hi', hxi, hw, e1, e2, c1, a1, a2, a3, a4, a5, a6, a7, a8, a9]
  · rintro s o q ⟨b, hb, h1, h2, h4, h6, h7, o0, o1, o2, hq2⟩
    rw [List.take_of_length_le (Nat.le_refl _)] at hb
    subst hb
    simp [loopAt, loopsOf, Tryz.f74, h1, h2, h4, h6, h7, o0, o1, o2]
theorem specPlanL (qy : Qry) (l : List Ix) (hl : l.length < 4294967296) (hq : qy.Sm) (hs : ∀ x ∈ l, x.Sm) (hfo : filterOK qy.filter = true) (hf : ∀ x ∈ l, ixFine x = true) : run E (.call 74 [.t (qryT qy), .t (.list (l.map ixT))]) = some (.res [plnX (planL qy l)] []) := by
  rw [run_call E 74 _ rfl Tryz.func74 rfl rfl rfl (by simp)]
  have d3 := d74_3
  simp [regionOf, findR, pick, Tryz.f74] at d3
  have dd3 := fun st => run_region_draw E st 3 _ d3
  clear d3
  have h1 := indexFind l qy.hint hl
  try simp at h1
  by_cases hz : idxP (fun x : Ix => x.dfn.name == qy.hint) l < 0
  · rw [planNot qy l hz]
    obtain ⟨X, A, B, C, hx⟩ := sk (splan_loop qy l hl hq hs hfo hf)
    simp only [loopAt, loopsOf, Tryz.f74] at hx
    simp [boxP, boxQ, noPln] at hx
    have hz' : ¬ 0 ≤ idxP (fun x : Ix => x.dfn.name == qy.hint) l := by omega
    simp [h1, hz, hz', hx, noPln]
  · obtain ⟨k, hk⟩ : ∃ k : Nat, idxP (fun x : Ix => x.dfn.name == qy.hint) l = k := ⟨(idxP (fun x : Ix => x.dfn.name == qy.hint) l).toNat, by omega⟩
    obtain ⟨hlt, hp⟩ := planAt qy l k hk
    rw [hp]
    have hlt' : (k : Int) < (l.length : Int) := by omega
    have hxk : l[k]? = some l[k] := List.getElem?_eq_getElem hlt
    have e1 := specPlan qy l[k] hq (hs _ (List.getElem_mem hlt)) hfo (hf _ (List.getElem_mem hlt))
    rw [hk] at h1
    try simp at e1
    simp [dd3, h1, hlt, hlt', hxk, e1]
theorem iplan_loop (qy : Qry) (l : List Ix) (hl : l.length < 4294967296) (hq : qy.Sm) (hs : ∀ x ∈ l, x.Sm) (hfo : filterOK qy.filter = true) (hf : ∀ x ∈ l, ixFine x = true) : ∀ s o q, (s 2 = .ptr 0 0 ∧ s 4 = .ptr 1 0 ∧ s 7 = .ptr 2 0 ∧ s 39 = .t (.list (l.map ixT)) ∧ s 40 = .t (.int .i64 l.length) ∧ s 41 = .t (.int .i64 0) ∧ o 0 = boxQ qy ∧ o 1 = boxP noPln ∧ o 2 = boxP noPln ∧ 2 < q) →
    ∃ e s' o' q', run E (.code (.loop (loopAt Tryz.f30 0)) ⟨s, o, q, 70⟩) = some (.st e ⟨s', o', q', 70⟩) ∧ (e = .exit 1 ∧ s' 4 = .ptr 1 0 ∧ s' 7 = .ptr 2 0 ∧ o' 1 = boxP noPln ∧ o' 2 = boxP (l.foldl (better qy.filter) noPln)) := by
  intro s o q hI
  have d13 := d30_13
  simp [regionOf, findR, pick, Tryz.f30] at d13
  have dd13 := fun st => run_region_draw E st 13 _ d13
  clear d13
  refine loop_for (c := loopAt Tryz.f30 0) (N := 70)
    (fun i s o q => ∃ b, b = (l.take i).foldl (better qy.filter) noPln ∧ s 2 = .ptr 0 0 ∧ s 4 = .ptr 1 0 ∧ s 7 = .ptr 2 0 ∧ s 39 = .t (.list (l.map ixT)) ∧ s 40 = .t (.int .i64 l.length) ∧ s 41 = .t (.int .i64 i) ∧ o 0 = boxQ qy ∧ o 1 = boxP noPln ∧ o 2 = boxP b ∧ 2 < q)
    (fun e s' o' q' => e = .exit 1 ∧ s' 4 = .ptr 1 0 ∧ s' 7 = .ptr 2 0 ∧ o' 1 = boxP noPln ∧ o' 2 = boxP (l.foldl (better qy.filter) noPln)) l.length ?_ ?_
    l.length 0 s o q (by omega) ⟨noPln, by simp, hI.1, hI.2.1, hI.2.2.1, hI.2.2.2.1, hI.2.2.2.2.1, hI.2.2.2.2.2.1, hI.2.2.2.2.2.2.1, hI.2.2.2.2.2.2.2.1, hI.2.2.2.2.2.2.2.2.1, hI.2.2.2.2.2.2.2.2.2⟩
  · rintro i s o q hi ⟨b, hb, h2, h4, h7, h39, h40, h41, o0, o1, o2, hq2⟩
    have hi' : (i : Int) < (l.length : Int) := by omega
    have hxi : l[i]? = some l[i] := List.getElem?_eq_getElem hi
    have hw := wrap_succ (n := i) (by omega)
    have hfx := hf _ (List.getElem_mem hi)
    obtain ⟨ht, hpl, hsm, hall⟩ := ix_tree hfx
    have e1 := implPlan qy l[i] hq (hs _ (List.getElem_mem hi)) hfo hfx
    have e2 := entriesOf l[i].tree (by omega) (by omega)
    have hnext := foldl_take (better qy.filter) noPln l i hi
    rw [← hb] at hnext
    rw [hnext]
    unfold better
    generalize hpp : planBy qy.filter l[i] = p at *
    obtain ⟨pi, ⟨plo, phi, pop⟩, pk⟩ := p
    obtain ⟨bi, ⟨blo, bhi, bop⟩, bk⟩ := b
    obtain ⟨a1, a2, a3, a4, a5, a6, a7, a8, a9⟩ : 0 ≠ q ∧ 1 ≠ q ∧ 2 ≠ q ∧ q ≠ 0 ∧ q ≠ 1 ∧ q ≠ 2 ∧ 2 < q + 1 ∧ 0 ≠ q + 1 ∧ 2 ≠ q + 1 := ⟨by omega, by omega, by omega, by omega, by omega, by omega, by omega, by omega, by omega⟩
    obtain ⟨b1, b2, b3, b4, b5, b6, b7⟩ : 1 ≠ q + 1 ∧ 0 ≠ q + 1 + 1 ∧ 1 ≠ q + 1 + 1 ∧ 2 ≠ q + 1 + 1 ∧ 2 < q + 1 + 1 ∧ 2 < q + 1 + 1 + 1 ∧ q + 1 ≠ q := ⟨by omega, by omega, by omega, by omega, by omega, by omega, by omega⟩
    clear hb hnext hpp
    try simp at e1 e2
    by_cases c1 : pk < ((allE l[i].tree).length : Int)
    · by_cases c2 : bi = []
      · subst c2
        simp [boxP, boxQ, noPln, loopAt, loopsOf, Tryz.f30, dd13, h2, h4, h7, h39, h40, h41, o0, o1, o2, hi, hi', hxi, hw, e1, e2, c1, a1, a2, a3, a4, a5, a6, a7, a8, a9, b1, b2, b3, b4, b5, b6, b7]
      · have c2' : (bi == []) = false := by simpa using c2
        by_cases c3 : pk < bk
        · simp [boxP, boxQ, noPln, loopAt, loopsOf, Tryz.f30, dd13, h2, h4, h7, h39, h40, h41, o0, o1, o2, hi, hi', hxi, hw, e1, e2, c1, c2, c2', c3, a1, a2, a3, a4, a5, a6, a7, a8, a9, b1, b2, b3, b4, b5, b6, b7]
        · simp [boxP, boxQ, noPln, loopAt, loopsOf, Tryz.f30, dd13, h2, h4, h7, h39, h40, h41, o0, o1, o2, hi, hi', hxi, hw, e1, e2, c1, c2, c2', c3, a1, a2, a3, a4, a5, a6, a7, a8, a9, b1, b2, b3, b4, b5, b6, b7]
    · simp [boxP, boxQ, noPln, loopAt, loopsOf, Tryz.f30, dd13, h2, h4, h7, h39, h40, h41, o0, o1, o2, hi, hi', hxi, hw, e1, e2, c1, a1, a2, a3, a4, a5, a6, a7, a8, a9, b1, b2, b3, b4, b5, b6, b7]
  · rintro s o q ⟨b, hb, h2, h4, h7, h39, h40, h41, o0, o1, o2, hq2⟩
    rw [List.take_of_length_le (Nat.le_refl _)] at hb
    subst hb
    simp [loopAt, loopsOf, Tryz.f30, h2, h4, h7, h39, h40, h41, o0, o1, o2]
/-- What PlanOf answers. -/
def planOut (q : Qry) (l : List Ix) : Pln × Int := if 4096 < l.length then (noPln, 2) else if queryOK q && ixsOK l then (planL q l, 0) else (noPln, 1)
theorem query_filter {q : Qry} (h : queryOK q = true) : filterOK q.filter = true := by
  unfold queryOK at h
  simp only [Bool.and_eq_true] at h
  simp only [h]
theorem implPlanOf (qy : Qry) (l : List Ix) (hl : l.length < 4294967296) (hq : qy.Sm) (hs : ∀ x ∈ l, x.Sm) : run E (.call 30 [.t (qryT qy), .t (.list (l.map ixT))]) = some (.res [plnX (planOut qy l).1, xI (planOut qy l).2] []) := by
  rw [run_call E 30 _ rfl Tryz.func30 rfl rfl rfl (by simp)]
  have d7 := d30_7
  simp [regionOf, findR, pick, Tryz.f30] at d7
  have dd7 := fun st => run_region_draw E st 7 _ d7
  clear d7
  unfold planOut
  by_cases hb : 4096 < l.length
  · have hb' : (4096 : Int) < (l.length : Int) := by omega
    simp [hb, hb', noPln]
  · have hb' : ¬ (4096 : Int) < (l.length : Int) := by omega
    have h1 := implQueryOK qy hq
    have h2 := implIndexes l hl hs
    cases hqo : queryOK qy with
    | false =>
      rw [hqo] at h1
      try simp at h1
      simp [hb, hb', noPln, h1]
    | true =>
      rw [hqo] at h1
      cases hio : ixsOK l with
      | false =>
        rw [hio] at h2
        try simp at h1 h2
        simp [hb, hb', noPln, h1, h2]
      | true =>
        rw [hio] at h2
        have hfo := query_filter hqo
        unfold ixsOK at hio
        simp only [Bool.and_eq_true] at hio
        have hf := ixs_fine _ _ hio.1
        have h3 := indexAt l qy.hint hl
        try simp at h1 h2 h3
        by_cases hz : idxP (fun x : Ix => x.dfn.name == qy.hint) l < 0
        · rw [planNot qy l hz]
          obtain ⟨X, A, B, C, hx⟩ := sk (iplan_loop qy l hl hq hs hfo hf)
          simp only [loopAt, loopsOf, Tryz.f30] at hx
          simp [boxP, boxQ, noPln] at hx
          have hz' : ¬ 0 ≤ idxP (fun x : Ix => x.dfn.name == qy.hint) l := by omega
          simp [hb, hb', h1, h2, h3, hz, hz', hx, noPln]
        · obtain ⟨k, hk⟩ : ∃ k : Nat, idxP (fun x : Ix => x.dfn.name == qy.hint) l = k := ⟨(idxP (fun x : Ix => x.dfn.name == qy.hint) l).toNat, by omega⟩
          obtain ⟨hlt, hp⟩ := planAt qy l k hk
          rw [hp]
          have hlt' : (k : Int) < (l.length : Int) := by omega
          have hxk : l[k]? = some l[k] := List.getElem?_eq_getElem hlt
          have e1 := implPlan qy l[k] hq (hs _ (List.getElem_mem hlt)) hfo (hf _ (List.getElem_mem hlt))
          rw [hk] at h3
          try simp at e1
          simp [dd7, hb, hb', h1, h2, h3, hlt, hlt', hxk, e1]
theorem specPlanOf (qy : Qry) (l : List Ix) (hl : l.length < 4294967296) (hq : qy.Sm) (hs : ∀ x ∈ l, x.Sm) : run E (.call 27 [.t (qryT qy), .t (.list (l.map ixT))]) = some (.res [plnX (planOut qy l).1, xI (planOut qy l).2] []) := by
  rw [run_call E 27 _ rfl Tryz.func27 rfl rfl rfl (by simp)]
  unfold planOut
  by_cases hb : 4096 < l.length
  · have hb' : (4096 : Int) < (l.length : Int) := by omega
    simp [hb, hb', noPln]
  · have hb' : ¬ (4096 : Int) < (l.length : Int) := by omega
    have h1 := specQueryOK qy hq
    have h2 := specIndexes l hl hs
    cases hqo : queryOK qy with
    | false =>
      rw [hqo] at h1
      try simp at h1
      simp [hb, hb', noPln, h1]
    | true =>
      rw [hqo] at h1
      cases hio : ixsOK l with
      | false =>
        rw [hio] at h2
        try simp at h1 h2
        simp [hb, hb', noPln, h1, h2]
      | true =>
        rw [hio] at h2
        have hfo := query_filter hqo
        unfold ixsOK at hio
        simp only [Bool.and_eq_true] at hio
        have hf := ixs_fine _ _ hio.1
        have h3 := specPlanL qy l hl hq hs hfo hf
        try simp at h1 h2 h3
        simp [hb, hb', h1, h2, h3]
set_option maxHeartbeats 4000000
theorem dec111 {n : Nat} {ts : List T} (h : typed E (n + 4) 111 ts) : ∃ d : Dfn, T.agg ts = dfnT d ∧ d.Wd := by
  obtain ⟨h1, h2⟩ := typed_struct (by simp) h
  simp at h1 h2
  obtain ⟨g1, g2⟩ := h2
  match ts, h1 with
  | [a, b], _ =>
    obtain ⟨x, hx, hx2⟩ := typed_str g1
    obtain ⟨c, hc, hw⟩ := dec60 g2
    simp at hx hc
    exact ⟨⟨x, c⟩, by simp [hx, hc], hx2, hw⟩
theorem dec316 {n : Nat} {ts : List T} (h : typed E (n + 2) 316 ts) : ∃ e : Ent, T.agg ts = entT e ∧ W e.key.length := by
  obtain ⟨h1, h2⟩ := typed_struct (by simp) h
  simp at h1 h2
  obtain ⟨g1, g2⟩ := h2
  match ts, h1 with
  | [a, b], _ =>
    obtain ⟨x, hx, hx2⟩ := typed_str g1
    obtain ⟨c, hc⟩ := typed_int g2
    simp at hx hc
    exact ⟨⟨x, c⟩, by simp [hx, hc], hx2⟩
theorem dec252 {n : Nat} {ts : List T} (h : typed E (n + 3) 252 ts) : ∃ c : List Ent, ts = [.list (c.map entT)] ∧ W c.length ∧ ∀ x ∈ c, W x.key.length := by
  obtain ⟨xs, rfl, h1, h2⟩ := typed_slice (by simp) (by simp) h
  obtain ⟨l, rfl, h4⟩ := list_choose (enc := entT) (P := fun e : Ent => W e.key.length) (fun x hx => by
    obtain ⟨cs, e, _, h⟩ := h2 x hx
    simp at e h
    obtain ⟨t, h3, h4⟩ := dec316 h
    exact ⟨t, e.trans h3, h4⟩)
  exact ⟨l, rfl, by simpa using h1, h4⟩
theorem dec254 {n : Nat} {ts : List T} (h : typed E (n + 4) 254 ts) : ∃ p : Pg, T.agg ts = pgT p ∧ p.Wd := by
  obtain ⟨h1, h2⟩ := typed_struct (by simp) h
  simp at h1 h2
  obtain ⟨g1, g2⟩ := h2
  match ts, h1 with
  | [a, b], _ =>
    obtain ⟨x, hx⟩ := typed_int g1
    obtain ⟨c, hc, hw, hw2⟩ := dec252 g2
    simp at hx hc
    exact ⟨⟨x, c⟩, by simp [hx, hc], hw, hw2⟩
theorem dec112 {n : Nat} {ts : List T} (h : typed E (n + 5) 112 ts) : ∃ c : List Pg, ts = [.list (c.map pgT)] ∧ W c.length ∧ ∀ x ∈ c, x.Wd := by
  obtain ⟨xs, rfl, h1, h2⟩ := typed_slice (by simp) (by simp) h
  obtain ⟨l, rfl, h4⟩ := list_choose (enc := pgT) (P := Pg.Wd) (fun x hx => by
    obtain ⟨cs, e, _, h⟩ := h2 x hx
    simp at e h
    obtain ⟨t, h3, h4⟩ := dec254 h
    exact ⟨t, e.trans h3, h4⟩)
  exact ⟨l, rfl, by simpa using h1, h4⟩
theorem dec114 {n : Nat} {ts : List T} (h : typed E (n + 6) 114 ts) : ∃ t : Tr, ts = [.list (t.pages.map pgT), .int .i64 t.next] ∧ t.Wd := by
  obtain ⟨h1, h2⟩ := typed_struct (by simp) h
  simp at h1 h2
  obtain ⟨g1, g2⟩ := h2
  match ts, h1 with
  | [a, b], _ =>
    obtain ⟨x, hx, hw, hw2⟩ := dec112 g1
    obtain ⟨c, hc⟩ := typed_int g2
    simp at hx hc
    exact ⟨⟨x, c⟩, by simp [hx, hc], hw, hw2⟩
theorem dec116 {n : Nat} {ts : List T} (h : typed E (n + 7) 116 ts) : ∃ x : Ix, T.agg ts = ixT x ∧ x.Wd := by
  obtain ⟨h1, h2⟩ := typed_struct (by simp) h
  simp at h1 h2
  obtain ⟨g1, g2⟩ := h2
  match ts, h1 with
  | [a, b, c, d], _ =>
    obtain ⟨x, hx, hw⟩ := dec111 (n := n + 2) g1
    obtain ⟨t, ht, hw2⟩ := dec114 g2
    simp at hx ht
    exact ⟨⟨x, t⟩, by simp [hx, ht], hw, hw2⟩
theorem dec64 {n : Nat} {ts : List T} (h : typed E (n + 8) 64 ts) : ∃ c : List Ix, ts = [.list (c.map ixT)] ∧ W c.length ∧ ∀ x ∈ c, x.Wd := by
  obtain ⟨xs, rfl, h1, h2⟩ := typed_slice (by simp) (by simp) h
  obtain ⟨l, rfl, h4⟩ := list_choose (enc := ixT) (P := Ix.Wd) (fun x hx => by
    obtain ⟨cs, e, _, h⟩ := h2 x hx
    simp at e h
    obtain ⟨t, h3, h4⟩ := dec116 h
    exact ⟨t, e.trans h3, h4⟩)
  exact ⟨l, rfl, by simpa using h1, h4⟩
set_option maxHeartbeats 8000000
theorem eqInterval (i : Ivl) : run E (.call 84 [.t (ivlT i), .t (ivlT i)]) = some (.res [xB true] []) := by
  rw [run_call E 84 _ rfl Tryz.func84 rfl rfl rfl (by simp)]
  simp
theorem eqPlan (p : Pln) : run E (.call 31 [.t (plnT p), .t (plnT p)]) = some (.res [xB true] []) := by
  rw [run_call E 31 _ rfl Tryz.func31 rfl rfl rfl (by simp)]
  have h := eqInterval p.ivl
  try simp at h
  simp [h]
theorem lawPlanOf (q : Qry) (l : List Ix) (hq : q.Wd) (hl : W l.length) (hx : ∀ x ∈ l, x.Wd) : run E (.call 6 [.t (qryT q), .t (.list (l.map ixT))]) = some (.res [xB true] []) := by
  rw [run_call E 6 _ rfl Tryz.func6 rfl rfl rfl (by simp)]
  have d14 := d6_14
  simp [regionOf, findR, pick, Tryz.f6] at d14
  have dd14 := fun st => run_region_draw E st 14 _ d14
  clear d14
  have h1 := szQuery q hq 1048576 (by omega) (by omega)
  have l1 : szQry q 1048576 ≤ 1048576 := thenSz_le (by omega) (fun k hk => szFil_le _ k hk) (fun k hk => thenSz_le hk (fun k hk => lstPrt_le _ k hk) (fun k hk => thenSz_le hk (fun k hk => lstTxt_le _ k hk) (fun k hk => thenSz_le hk (fun k hk => szB_le hk) (fun k _ => Int.le_refl k))))
  by_cases n1 : szQry q 1048576 < 0
  · simp [h1, n1]
  · have sq := szQry_sm n1
    have h2 := sz_26 l szIx (by unfold W at hl; omega) (fun x hx' l h0 hm => szIndex x (hx x hx') l h0 hm) (fun x _ k hk => szIx_le x k hk) (szQry q 1048576) (by omega) (by omega)
    by_cases n2 : lstSz szIx l (szQry q 1048576) < 0
    · simp [h1, n1, h2, n2]
    · obtain ⟨b1, b2⟩ := lstSz_all (P := Ix.Sm) (m := 1048576) (by omega) (by omega) (fun x _ k hk => szIx_le x k hk) (fun x _ k hk hm h => szIx_sm hk hm h) n2
      have hll : l.length < 4294967296 := by omega
      have t1 := toQuery q sq
      have t2 := to_29 l hll (fun x hx' => toIndex x (b2 x hx'))
      have p1 := specPlanOf q l hll sq b2
      have p2 := implPlanOf q l hll sq b2
      have e1 := eqPlan (planOut q l).1
      have e2 := eqQuery q sq
      have e3 := eq_33 l (by omega) (fun x hx' => eqIndex x (b2 x hx'))
      generalize planOut q l = r at *
      obtain ⟨⟨ri, ⟨rl, rh, ro⟩, rk⟩, rc⟩ := r
      try simp at t1 t2 p1 p2 e1 e2 e3
      simp [dd14, h1, n1, h2, n2, t1, t2, p1, p2, e1, e2, e3]
end Go.Md
