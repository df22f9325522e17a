/- The interval of a filter: spec's l07Filter and impl's; FilterInterval of both. -/
import Derived.Test.YtjbeigebbnonoaaGreatDoorPartQH
import Derived.Test.YtjbeigebbnonoaaGreatDoorPartQG
import Derived.Test.YtjbeigebbnonoaaGreatDoorPartQF
namespace Go.Md
open Go.Ev Go.Proofs Go.Pu
set_option linter.unusedSimpArgs false
set_option linter.unusedVariables false
set_option maxRecDepth 100000
set_option maxHeartbeats 16000000
def flStep (p : Prt) (out : Ivl) (c : List Trm) : Ivl := ⟨minS out.low (clauseI p c).low, maxS out.high (clauseI p c).high, out.opn || (clauseI p c).opn⟩
def closeI (i : Ivl) : Ivl := if i.opn then ⟨i.low, [], true⟩ else i
def filterI (p : Prt) : List (List Trm) → Ivl
  | [] => opnI
  | c :: r => closeI (r.foldl (flStep p) (clauseI p c))
def clausesOK (f : List (List Trm)) : Prop := ∀ c ∈ f, c.length < 4294967296 ∧ termsOK c
theorem minS_nf (x y : Bytes) : minS x y = if Op.bytesLess x y = true ∨ x = y then x else y := by unfold minS; simp
theorem maxS_nf (x y : Bytes) : maxS x y = if Op.bytesLess x y = false then x else y := by unfold maxS; simp
theorem specFilter (f : List (List Trm)) (p : Prt) (hl : f.length < 4294967296) (h0 : 0 < f.length) (h : clausesOK f) : run E (.call 184 [.t (filT f), .t (prtT p)]) = some (.res [ivlX (filterI p f)] []) := by
  rw [run_call E 184 _ rfl Tryz.func184 rfl rfl rfl (by simp)]
  have d1 := d184_1
  simp [regionOf, findR, pick, Tryz.f184] at d1
  have dd1 := fun st => run_region_draw E st 1 _ d1
  clear d1
  have d5 := d184_5
  simp [regionOf, findR, pick, Tryz.f184] at d5
  have dd5 := fun st => run_region_draw E st 5 _ d5
  clear d5
  have lp := fun (R : Ivl) => sk (fun s o q hI => loop_for (c := loopAt Tryz.f184 0) (N := 51)
    (fun i s o q => ∃ cur : Ivl, 1 ≤ i ∧ s 2 = .ptr 0 0 ∧ s 3 = .ptr 1 0 ∧ s 4 = .ptr 2 0 ∧ s 5 = .ptr 3 0 ∧ s 6 = .t (.int .i64 i) ∧ o 0 = .box 34 [.t (.list (f.map clsT))] ∧ o 1 = .box 170 [.t (.str p.path), .t (.bool p.desc)] ∧ o 2 = .box 68 (ivlS ⟨[], [], false⟩) ∧ o 3 = .box 68 (ivlS cur) ∧ 3 < q ∧ R = (f.drop i).foldl (flStep p) cur)
    (fun e s' o' q' => e = .exit 0 ∧ s' 4 = .ptr 2 0 ∧ s' 5 = .ptr 3 0 ∧ o' 2 = .box 68 (ivlS ⟨[], [], false⟩) ∧ o' 3 = .box 68 (ivlS R)) f.length
    (by
      rintro i s o q hi ⟨cur, hi1, h2, h3, h4, h5, h6, o0, o1, o2, o3, hq, hp⟩
      have hi' : (i : Int) < (f.length : Int) := by omega
      have hwi := wrap_succ (n := i) (by omega)
      have hxi : f[i]? = some f[i] := List.getElem?_eq_getElem hi
      have g0 : ¬ 0 = q := by omega
      have g1 : ¬ 1 = q := by omega
      have g2 : ¬ 2 = q := by omega
      have g3 : ¬ 3 = q := by omega
      have g4 : 3 < q + 1 := by omega
      have g5 : ¬ q = 3 := by omega
      obtain ⟨hcl, hco⟩ := h f[i] (List.getElem_mem hi)
      have hsp := specClause f[i] p hcl hco
      rw [List.drop_eq_getElem_cons hi, List.foldl_cons] at hp
      obtain ⟨cl, ch, co⟩ := cur
      cases co <;> simp [loopAt, loopsOf, Tryz.f184, dd5, h2, h3, h4, h5, h6, o0, o1, o2, o3, hi, hi', hwi, hxi, hsp, g0, g1, g2, g3, g4, g5]
      · exact ⟨flStep p ⟨cl, ch, false⟩ f[i], ⟨by simp [flStep, minS_nf], by simp [flStep, maxS_nf], by simp [flStep]⟩, hp⟩
      · exact ⟨flStep p ⟨cl, ch, true⟩ f[i], ⟨by simp [flStep, minS_nf], by simp [flStep, maxS_nf], by simp [flStep]⟩, hp⟩)
    (by
      rintro s o q ⟨cur, hi1, h2, h3, h4, h5, h6, o0, o1, o2, o3, hq, hp⟩
      simp at hp
      subst hp
      simp [loopAt, loopsOf, Tryz.f184, h2, h3, h4, h5, h6, o0, o1, o2, o3])
    (f.length - 1) 1 s o q (by omega) hI)
  simp only [loopAt, loopsOf, Tryz.f184] at lp
  cases f with
  | nil => simp at h0
  | cons c r =>
    obtain ⟨hcl, hco⟩ := h c (by simp)
    have hsp := specClause c p hcl hco
    unfold filterI
    obtain ⟨iv, hiv⟩ : ∃ iv, iv = clauseI p c := ⟨_, rfl⟩
    obtain ⟨R, hR⟩ : ∃ R, R = r.foldl (flStep p) iv := ⟨_, rfl⟩
    simp only [← hiv, ← hR] at hsp ⊢
    obtain ⟨X, A, B, C, hl'⟩ := lp R
    have hx' := fun s o q a0 a1 a2 a3 a4 a5 a6 a7 a8 a9 => hl' s o q ⟨iv, Nat.le_refl _, a0, a1, a2, a3, a4, a5, a6, a7, a8, a9, by simpa using hR⟩
    clear hl' lp hR hiv
    obtain ⟨rl, rh, ro⟩ := R
    obtain ⟨il, ih, io⟩ := iv
    simp at hx'
    cases ro <;> simp [closeI, hx', dd1, hsp]
theorem implFilter (f : List (List Trm)) (p : Prt) (hl : f.length < 4294967296) (h0 : 0 < f.length) (h : clausesOK f) : run E (.call 146 [.t (filT f), .t (prtT p)]) = some (.res [ivlX (filterI p f)] []) := by
  rw [run_call E 146 _ rfl Tryz.func146 rfl rfl rfl (by simp)]
  have d1 := d146_1
  simp [regionOf, findR, pick, Tryz.f146] at d1
  have dd1 := fun st => run_region_draw E st 1 _ d1
  clear d1
  have n6 := n146_6
  have s6 := s146_6
  simp [regionOf, findR, pick, Tryz.f146] at n6 s6
  have dd6 := fun st => run_region_drawS E st 6 _ n6 s6
  clear n6 s6
  cases f with
  | nil => simp at h0
  | cons c r =>
  have lp := fun (R : Ivl) => sk (fun s o q hI => loop_for (c := loopAt Tryz.f146 0) (N := 50)
    (fun i s o q => ∃ cur : Ivl, s 3 = .ptr 1 0 ∧ s 4 = .ptr 2 0 ∧ s 5 = .ptr 3 0 ∧ s 17 = .t (.list (r.map clsT)) ∧ s 18 = .t (.int .i64 r.length) ∧ s 19 = .t (.int .i64 i) ∧ o 1 = .box 170 [.t (.str p.path), .t (.bool p.desc)] ∧ o 2 = .box 68 (ivlS ⟨[], [], false⟩) ∧ o 3 = .box 68 (ivlS cur) ∧ 3 < q ∧ R = (r.drop i).foldl (flStep p) cur)
    (fun e s' o' q' => e = .exit 0 ∧ s' 4 = .ptr 2 0 ∧ s' 5 = .ptr 3 0 ∧ o' 2 = .box 68 (ivlS ⟨[], [], false⟩) ∧ o' 3 = .box 68 (ivlS R)) r.length
    (by
      rintro i s o q hi ⟨cur, h3, h4, h5, h17, h18, h19, o1, o2, o3, hq, hp⟩
      have hlr : r.length < 4294967296 := by simp at hl; omega
      have hi' : (i : Int) < (r.length : Int) := by omega
      have hwi := wrap_succ (n := i) (by omega)
      have hxi : r[i]? = some r[i] := List.getElem?_eq_getElem hi
      have g1 : ¬ 1 = q := by omega
      have g2 : ¬ 2 = q := by omega
      have g3 : ¬ 3 = q := by omega
      have g4 : 3 < q + 1 + 1 := by omega
      have g5 : ¬ 1 = q + 1 := by omega
      have g6 : ¬ 2 = q + 1 := by omega
      have g7 : ¬ 3 = q + 1 := by omega
      have g8 : ¬ q + 1 = 3 := by omega
      have g9 : ¬ q = 2 := by omega
      have g10 : ¬ q = 0 := by omega
      obtain ⟨hcl, hco⟩ := h r[i] (by simp)
      have hsp := implClause r[i] p hcl hco
      rw [List.drop_eq_getElem_cons hi, List.foldl_cons] at hp
      obtain ⟨cl, ch, co⟩ := cur
      cases co <;> simp [loopAt, loopsOf, Tryz.f146, dd6, h3, h4, h5, h17, h18, h19, o1, o2, o3, hi, hi', hwi, hxi, hsp, g1, g2, g3, g4, g5, g6, g7, g8, g9, g10]
      · exact ⟨flStep p ⟨cl, ch, false⟩ r[i], ⟨by simp [flStep, minS_nf], by simp [flStep, maxS_nf], by simp [flStep]⟩, hp⟩
      · exact ⟨flStep p ⟨cl, ch, true⟩ r[i], ⟨by simp [flStep, minS_nf], by simp [flStep, maxS_nf], by simp [flStep]⟩, hp⟩)
    (by
      rintro s o q ⟨cur, h3, h4, h5, h17, h18, h19, o1, o2, o3, hq, hp⟩
      simp at hp
      subst hp
      simp [loopAt, loopsOf, Tryz.f146, h3, h4, h5, h17, h18, h19, o1, o2, o3])
    r.length 0 s o q (by omega) hI)
  simp only [loopAt, loopsOf, Tryz.f146] at lp
  obtain ⟨hcl, hco⟩ := h c (by simp)
  have hsp := implClause c p hcl hco
  unfold filterI
  obtain ⟨iv, hiv⟩ : ∃ iv, iv = clauseI p c := ⟨_, rfl⟩
  obtain ⟨R, hR⟩ : ∃ R, R = r.foldl (flStep p) iv := ⟨_, rfl⟩
  simp only [← hiv, ← hR] at hsp ⊢
  obtain ⟨X, A, B, C, hl'⟩ := lp R
  have hx' := fun s o q a0 a1 a2 a3 a4 a5 a6 a7 a8 a9 => hl' s o q ⟨iv, a0, a1, a2, a3, a4, a5, a6, a7, a8, a9, by simpa using hR⟩
  clear hl' lp hR hiv
  obtain ⟨rl, rh, ro⟩ := R
  obtain ⟨il, ih, io⟩ := iv
  simp at hx'
  have htk : (r.map clsT).take r.length = r.map clsT := List.take_of_length_le (by simp)
  cases ro <;> simp [closeI, hx', dd1, hsp, htk]
theorem terms_ok {f : List (List Trm)} (h : filterOK f = true) (hs : filterSm f) : clausesOK f := by
  intro c hc
  have hcs := hs.2 c hc
  unfold filterOK at h
  simp only [Bool.and_eq_true] at h
  have hco := List.all_eq_true.1 h.2 c hc
  unfold clauseOK at hco
  simp only [Bool.and_eq_true] at hco
  refine ⟨hcs.1, fun t ht => ?_⟩
  have hto := List.all_eq_true.1 hco.2 t ht
  unfold termOK at hto
  simp only [Bool.and_eq_true] at hto
  exact ⟨hto.1.2, hto.2, (hcs.2 t ht).1⟩
/-- What FilterInterval answers. -/
def fivOut (f : List (List Trm)) (p : Prt) : Ivl × Int := if filterOK f && pathOK p.path then (filterI p f, 0) else (⟨[], [], false⟩, 1)
end Go.Md
namespace Go.Md
open Go.Ev Go.Proofs Go.Pu
set_option linter.unusedSimpArgs false
set_option linter.unusedVariables false
set_option maxRecDepth 100000
/-- A key lies in an interval. -/
def hasI (i : Ivl) (k : Bytes) : Bool := !Op.bytesLess k i.low && (i.opn || Op.bytesLess k i.high)
structure Ent where
  key : Bytes
  id : Int
  deriving DecidableEq, Inhabited
structure Pg where
  num : Int
  ents : List Ent
  deriving DecidableEq, Inhabited
structure Tr where
  pages : List Pg
  next : Int
  deriving DecidableEq, Inhabited
def entLt (a b : Ent) : Bool := Op.bytesLess a.key b.key || (a.key == b.key && decide (a.id < b.id))
def entOK (e : Ent) : Bool := decide (e.key.length ≤ 2000) && in1 0 9999 e.id
theorem entLt_key {a b : Ent} (h : entLt a b = true) : Op.bytesLess b.key a.key = false := by
  unfold entLt at h
  simp only [Bool.or_eq_true, Bool.and_eq_true, beq_iff_eq] at h
  rcases h with h | h
  · exact bytesLess_asymm h
  · rw [h.1]; exact bytesLess_irrefl _
theorem entLt_trans {a b c : Ent} (h : entLt a b = true) (k : entLt b c = true) : entLt a c = true := by
  unfold entLt at *
  simp only [Bool.or_eq_true, Bool.and_eq_true, beq_iff_eq, decide_eq_true_eq] at *
  rcases h with h | h <;> rcases k with k | k
  · exact .inl (bytesLess_trans h k)
  · rw [← k.1]; exact .inl h
  · rw [h.1]; exact .inl k
  · exact .inr ⟨h.1.trans k.1, by omega⟩
def aheadO : Option Ent → Ent → Bool
  | none, _ => true
  | some x, e => entLt x e
/-- Entries are right, and rise. -/
def entsGo : Option Ent → List Ent → Bool
  | _, [] => true
  | l, e :: r => entOK e && aheadO l e && entsGo (some e) r
def lastOf : Option Ent → List Ent → Option Ent
  | l, [] => l
  | _, e :: r => lastOf (some e) r
theorem entsGo_append : ∀ (l : Option Ent) (a b : List Ent), entsGo l (a ++ b) = (entsGo l a && entsGo (lastOf l a) b)
  | l, [], b => by simp [entsGo, lastOf]
  | l, e :: r, b => by
    rw [List.cons_append, entsGo, entsGo, lastOf, entsGo_append (some e) r b]
    simp only [Bool.and_assoc]
def pageFine (many : Nat) (next : Int) (seen : List Int) (p : Pg) : Bool := in1 1 (next - 1) p.num && decide (p.ents.length ≤ 4) && !(p.ents.isEmpty && decide (1 < many)) && !seen.contains p.num
def numsGo (many : Nat) (next : Int) : List Int → List Pg → Bool
  | _, [] => true
  | seen, p :: r => pageFine many next seen p && numsGo many next (seen ++ [p.num]) r
def pagesGo (many : Nat) (next : Int) : List Int → Option Ent → List Pg → Bool
  | _, _, [] => true
  | seen, l, p :: r => pageFine many next seen p && entsGo l p.ents && pagesGo many next (seen ++ [p.num]) (lastOf l p.ents) r
def allE (t : Tr) : List Ent := t.pages.flatMap Pg.ents
theorem pagesGo_eq (many : Nat) (next : Int) : ∀ (seen : List Int) (l : Option Ent) (ps : List Pg), pagesGo many next seen l ps = (numsGo many next seen ps && entsGo l (ps.flatMap Pg.ents))
  | _, _, [] => by simp [pagesGo, numsGo, entsGo]
  | seen, l, p :: r => by
    rw [pagesGo, numsGo, List.flatMap_cons, entsGo_append, pagesGo_eq many next _ _ r]
    generalize pageFine many next seen p = a
    generalize entsGo l p.ents = b
    generalize numsGo many next (seen ++ [p.num]) r = c
    cases a <;> cases b <;> cases c <;> rfl
def treeOK (t : Tr) : Bool := in1 1 60 t.pages.length && in1 2 100000 t.next && (numsGo t.pages.length t.next [] t.pages && entsGo none (allE t))
theorem treeOK_pages (t : Tr) : treeOK t = (in1 1 60 t.pages.length && in1 2 100000 t.next && pagesGo t.pages.length t.next [] none t.pages) := by
  rw [pagesGo_eq]; rfl
theorem ents_ok : ∀ {l : Option Ent} {a : List Ent}, entsGo l a = true → ∀ e ∈ a, entOK e = true
  | _, [], _ => by simp
  | l, x :: r, h => by
    rw [entsGo] at h
    simp only [Bool.and_eq_true] at h
    intro e he
    rcases List.mem_cons.1 he with rfl | he
    · exact h.1.1
    · exact ents_ok h.2 e he
theorem ents_behind : ∀ {x : Ent} {a : List Ent}, entsGo (some x) a = true → ∀ e ∈ a, entLt x e = true
  | _, [], _ => by simp
  | x, y :: r, h => by
    rw [entsGo] at h
    simp only [Bool.and_eq_true] at h
    intro e he
    rcases List.mem_cons.1 he with rfl | he
    · exact h.1.2
    · exact entLt_trans h.1.2 (ents_behind h.2 e he)
theorem ents_rise : ∀ {l : Option Ent} {a : List Ent}, entsGo l a = true → a.Pairwise (fun x y => entLt x y = true)
  | _, [], _ => by simp
  | l, x :: r, h => by
    rw [entsGo] at h
    simp only [Bool.and_eq_true] at h
    rw [List.pairwise_cons]
    exact ⟨ents_behind h.2, ents_rise h.2⟩
/-- Does a page begin with an entry or ahead of it? -/
def begins (e : Ent) (p : Pg) : Bool := match p.ents with
  | [] => false
  | f :: _ => !entLt e f
def placeGo (e : Ent) : Nat → Nat → List Pg → Nat
  | _, k, [] => k
  | i, k, p :: r => placeGo e (i + 1) (if begins e p then i else k) r
def placeP (e : Ent) (ps : List Pg) : Nat := placeGo e 0 0 ps
theorem place_one (e : Ent) (p : Pg) (r : List Pg) : placeP e (p :: r) = placeGo e 1 0 r := by
  simp [placeP, placeGo]
/-- Where it is: at the start, or at a page that begins with it or ahead of it. -/
theorem place_at (e : Ent) : ∀ (r pre : List Pg) (k : Nat), (k = 0 ∨ ∃ p, (pre ++ r)[k]? = some p ∧ begins e p = true) → k ≤ pre.length →
    (placeGo e pre.length k r = 0 ∨ ∃ p, (pre ++ r)[placeGo e pre.length k r]? = some p ∧ begins e p = true) ∧ (placeGo e pre.length k r < pre.length + r.length ∨ placeGo e pre.length k r = k)
  | [], pre, k, h, hk => by simp [placeGo]; simpa using h
  | p :: r, pre, k, h, hk => by
    have ih := place_at e r (pre ++ [p]) (if begins e p then pre.length else k) (by
      by_cases hb : begins e p = true
      · rw [if_pos hb]
        exact .inr ⟨p, by simp, hb⟩
      · rw [if_neg hb]
        simpa using h) (by split <;> simp <;> omega)
    simp only [List.length_append, List.length_singleton, List.append_assoc, List.singleton_append] at ih
    rw [placeGo]
    refine ⟨ih.1, ?_⟩
    rcases ih.2 with h2 | h2
    · left; simp; omega
    · by_cases hb : begins e p = true
      · rw [if_pos hb] at h2 ⊢
        left; rw [h2]; simp
      · rw [if_neg hb] at h2 ⊢
        right; exact h2
/-- Does a page begin behind an interval? -/
def farP (i : Ivl) (p : Pg) : Bool := match p.ents with
  | [] => false
  | f :: _ => !Op.bytesLess f.key i.high
/-- The entries of an interval, page by page; no further than the page that begins behind it. -/
def rangeGo (i : Ivl) (k0 : Nat) : Nat → List Pg → List Ent
  | _, [] => []
  | k, p :: r => if k0 < k ∧ i.opn = false ∧ farP i p = true then [] else p.ents.filter (fun e => hasI i e.key) ++ rangeGo i k0 (k + 1) r
theorem rangeGo_eq (i : Ivl) (k0 : Nat) : ∀ (k : Nat) (ps : List Pg), (ps.flatMap Pg.ents).Pairwise (fun x y => entLt x y = true) → rangeGo i k0 k ps = (ps.flatMap Pg.ents).filter (fun e => hasI i e.key)
  | _, [], _ => by simp [rangeGo]
  | k, p :: r, h => by
    rw [rangeGo]
    split
    · rename_i hb
      symm
      rw [List.filter_eq_nil_iff]
      intro e he
      cases hp : p.ents with
      | nil => simp [farP, hp] at hb
      | cons f q =>
        simp only [farP, hp, Bool.not_eq_true'] at hb
        rw [List.flatMap_cons, hp, List.cons_append] at h he
        have hf : Op.bytesLess e.key i.high = false := by
          rcases List.mem_cons.1 he with rfl | he
          · exact hb.2.2
          · have h1 := entLt_key ((List.pairwise_cons.1 h).1 e he)
            cases hh : Op.bytesLess e.key i.high with
            | false => rfl
            | true =>
              exfalso
              by_cases hfe : Op.bytesLess f.key e.key = true
              · have := bytesLess_trans hfe hh
                rw [hb.2.2] at this; simp at this
              · have : f.key = e.key := bytesLess_tri (by simpa using hfe) h1
                rw [this, hh] at hb; simp at hb
        simp [hasI, hf, hb.2.1]
    · rw [List.flatMap_cons, List.filter_append, rangeGo_eq i k0 (k + 1) r (by
        rw [List.flatMap_cons] at h
        exact (List.pairwise_append.1 h).2.1)]
def rangeP (i : Ivl) (ps : List Pg) : List Ent := rangeGo i (placeP ⟨i.low, -1⟩ ps) (placeP ⟨i.low, -1⟩ ps) (ps.drop (placeP ⟨i.low, -1⟩ ps))
theorem range_eq {t : Tr} (h : treeOK t = true) (i : Ivl) : rangeP i t.pages = (allE t).filter (fun e => hasI i e.key) := by
  unfold treeOK at h
  simp only [Bool.and_eq_true] at h
  have hr : (t.pages.flatMap Pg.ents).Pairwise (fun x y => entLt x y = true) := ents_rise h.2.2
  have ho : ∀ e ∈ t.pages.flatMap Pg.ents, entOK e = true := ents_ok h.2.2
  unfold rangeP allE
  generalize hk : placeP ⟨i.low, -1⟩ t.pages = k
  have hp := (place_at ⟨i.low, -1⟩ t.pages [] 0 (.inl rfl) (by simp)).1
  simp only [List.length_nil, List.nil_append] at hp
  rw [show placeGo ⟨i.low, -1⟩ 0 0 t.pages = k from hk] at hp
  have hsplit : t.pages.flatMap Pg.ents = (t.pages.take k).flatMap Pg.ents ++ (t.pages.drop k).flatMap Pg.ents := by
    rw [← List.flatMap_append, List.take_append_drop]
  rw [hsplit] at hr ho ⊢
  rw [List.pairwise_append] at hr
  rw [rangeGo_eq i k k _ hr.2.1, List.filter_append]
  have hz : ((t.pages.take k).flatMap Pg.ents).filter (fun e => hasI i e.key) = [] := by
    rw [List.filter_eq_nil_iff]
    intro e he
    rcases hp with hp | ⟨p, hp, hb⟩
    · subst hp; simp at he
    · have hlt : k < t.pages.length := by
        rcases Nat.lt_or_ge k t.pages.length with h1 | h1
        · exact h1
        · rw [List.getElem?_eq_none h1] at hp; simp at hp
      rw [List.getElem?_eq_getElem hlt] at hp
      simp only [Option.some.injEq] at hp
      cases hpe : p.ents with
      | nil => simp [begins, hpe] at hb
      | cons f q =>
        have hf : f ∈ (t.pages.drop k).flatMap Pg.ents := by
          rw [List.drop_eq_getElem_cons hlt, hp, List.flatMap_cons, hpe]
          simp
        have h1 := entLt_key (hr.2.2 e he f hf)
        have h2 := ho f (List.mem_append.2 (.inr hf))
        simp only [begins, hpe, Bool.not_eq_true'] at hb
        unfold entLt at hb
        simp only [Bool.or_eq_false_iff, Bool.and_eq_false_iff, beq_eq_false_iff_ne, ne_eq, decide_eq_false_iff_not] at hb
        unfold entOK in1 at h2
        simp only [Bool.and_eq_true, decide_eq_true_eq] at h2
        have hne : i.low ≠ f.key := by
          rcases hb.2 with h3 | h3
          · exact h3
          · omega
        have hfl : Op.bytesLess f.key i.low = true := by
          cases h3 : Op.bytesLess f.key i.low with
          | true => rfl
          | false => exact absurd (bytesLess_tri hb.1 h3) hne
        have hel : Op.bytesLess e.key i.low = true := by
          by_cases hef : Op.bytesLess e.key f.key = true
          · exact bytesLess_trans hef hfl
          · rw [bytesLess_tri (by simpa using hef) h1]; exact hfl
        simp [hasI, hel]
  rw [hz, List.nil_append]
end Go.Md
namespace Go.Md
open Go.Ev Go.Proofs Go.Pu
set_option linter.unusedSimpArgs false
set_option linter.unusedVariables false
set_option maxRecDepth 100000
set_option maxHeartbeats 16000000
structure Ix where
  dfn : Dfn
  tree : Tr
abbrev entT (e : Ent) : T := .agg [.str e.key, .int .i64 e.id]
abbrev entX (e : Ent) : X := .agg [.t (.str e.key), .t (.int .i64 e.id)]
abbrev pgT (p : Pg) : T := .agg [.int .i64 p.num, .list (p.ents.map entT)]
abbrev treeT (t : Tr) : T := .agg [.list (t.pages.map pgT), .int .i64 t.next]
abbrev ixT (x : Ix) : T := .agg [.str x.dfn.name, .list (x.dfn.parts.map prtT), .list (x.tree.pages.map pgT), .int .i64 x.tree.next]
def Pg.Wd (p : Pg) : Prop := W p.ents.length ∧ ∀ e ∈ p.ents, W e.key.length
def Tr.Wd (t : Tr) : Prop := W t.pages.length ∧ ∀ p ∈ t.pages, p.Wd
structure Ix.Wd (x : Ix) : Prop where
  dfn : x.dfn.Wd
  tree : x.tree.Wd
def Pg.Sm (p : Pg) : Prop := p.ents.length < 4294967296 ∧ ∀ e ∈ p.ents, e.key.length < 4294967296
def Tr.Sm (t : Tr) : Prop := t.pages.length < 4294967296 ∧ ∀ p ∈ t.pages, p.Sm
structure Ix.Sm (x : Ix) : Prop where
  dfn : x.dfn.Sm
  tree : x.tree.Sm
def szEnt (e : Ent) : Int → Int := thenSz (szB e.key.length) (fun k => k)
def szPg (p : Pg) : Int → Int := thenSz (lstSz szEnt p.ents) (fun k => k)
def szTr (t : Tr) : Int → Int := thenSz (lstSz szPg t.pages) (fun k => k)
def szIx (x : Ix) : Int → Int := thenSz (szDfn x.dfn) (thenSz (szTr x.tree) (fun k => k))
theorem szEnt_le (d : Ent) (k : Int) (h : 0 ≤ k) : szEnt d k ≤ k := thenSz_le h (fun k hk => szB_le hk) (fun k _ => Int.le_refl k)
theorem szPg_le (d : Pg) (k : Int) (h : 0 ≤ k) : szPg d k ≤ k := thenSz_le h (fun k hk => lstSz_le hk (fun x _ k hk => szEnt_le x k hk)) (fun k _ => Int.le_refl k)
theorem szTr_le (d : Tr) (k : Int) (h : 0 ≤ k) : szTr d k ≤ k := thenSz_le h (fun k hk => lstSz_le hk (fun x _ k hk => szPg_le x k hk)) (fun k _ => Int.le_refl k)
theorem szIx_le (d : Ix) (k : Int) (h : 0 ≤ k) : szIx d k ≤ k := thenSz_le h (fun k hk => szDfn_le _ k hk) (fun k hk => thenSz_le hk (fun k hk => szTr_le _ k hk) (fun k _ => Int.le_refl k))
theorem szEntry (x : Ent) (h : W x.key.length) (l : Int) (h0 : 0 ≤ l) (hm : l ≤ 1048576) : run E (.call 291 [.t (entT x), xI l]) = some (.res [xI (szEnt x l)] []) := by
  rw [run_call E 291 _ rfl Tryz.func291 rfl rfl rfl (by simp)]
  have hw := wrap_sz h h0 hm
  unfold szEnt thenSz
  by_cases hb : l - (x.key.length : Int) < 0
  · have e : szB x.key.length l = -1 := by simp [szB, hb]
    simp [hw, hb, e]
  · have e : szB x.key.length l = l - x.key.length := by simp [szB, hb]
    simp [hw, hb, e]
theorem sz_265 (xs : List Ent) (f : Ent → Int → Int) (hl : xs.length < 9223372036854775807) (hf : ∀ x ∈ xs, ∀ l, 0 ≤ l → l ≤ 1048576 → run E (.call 291 [.t (entT x), xI l]) = some (.res [xI (f x l)] [])) (hle : ∀ x ∈ xs, ∀ k, 0 ≤ k → f x k ≤ k) (l : Int) (h0 : 0 ≤ l) (hm : l ≤ 1048576) :
    run E (.call 265 [.t (.list (xs.map entT)), xI l]) = some (.res [xI (lstSz f xs l)] []) := by
  rw [run_call E 265 _ rfl Tryz.func265 rfl rfl rfl (by simp)]
  have hw : IntKind.i64.wrap (l - (xs.length : Int)) = l - xs.length := wrap_of (by omega) (by omega)
  unfold lstSz szB
  by_cases hb : l - (xs.length : Int) < 0
  · simp [hw, hb]
  · have hb0 : ¬ l < (xs.length : Int) := by omega
    have lp := fun (r : Int) (hr : r = goSz f xs (l - xs.length)) => sk (fun s o q hI => loop_for (c := loopAt Tryz.f265 0) (N := 27)
      (fun i s o q => ∃ k : Int, s 0 = .t (.list (xs.map entT)) ∧ s 1 = .t (.int .i64 k) ∧ s 5 = .t (.int .i64 i) ∧ 0 ≤ k ∧ k ≤ 1048576 ∧ r = goSz f (xs.drop i) k)
      (fun e s' o' q' => e = (if r < 0 then .ret else .exit 0) ∧ (r < 0 → s' 4 = .t (.int .i64 r)) ∧ (0 ≤ r → s' 1 = .t (.int .i64 r))) xs.length
      (by
        rintro i s o q hi ⟨k, g0, g1, g5, hk0, hkm, hp⟩
        have hi' : (i : Int) < (xs.length : Int) := by omega
        have hwi := wrap_succ (n := i) (by omega)
        have hxi : xs[i]? = some xs[i] := List.getElem?_eq_getElem hi
        have hx := hf _ (List.getElem_mem hi) k hk0 hkm
        have hxl := hle _ (List.getElem_mem hi) k hk0
        rw [List.drop_eq_getElem_cons hi, goSz] at hp
        by_cases hn : f xs[i] k < 0
        · simp [hn] at hp
          simp [loopAt, loopsOf, Tryz.f265, g0, g1, g5, hi', hxi, hwi, hx, hn, hp]
        · simp [hn] at hp
          simp [loopAt, loopsOf, Tryz.f265, g0, g1, g5, hi', hxi, hwi, hx, hn]
          exact ⟨by omega, by omega, hp⟩)
      (by
        rintro s o q ⟨k, g0, g1, g5, hk0, hkm, hp⟩
        simp [goSz] at hp
        have hn : ¬ r < 0 := by omega
        have hn' : 0 ≤ r := by omega
        have hk1 : ¬ k < 0 := by omega
        simp [loopAt, loopsOf, Tryz.f265, g0, g1, g5, hp, hk1]
        try omega)
      xs.length 0 s o q (by omega) hI)
    simp only [loopAt, loopsOf, Tryz.f265] at lp
    obtain ⟨r, hr⟩ : ∃ r, r = goSz f xs (l - xs.length) := ⟨_, rfl⟩
    obtain ⟨X, A, B, C, hx⟩ := lp r hr
    have hx' := fun s o q a0 a1 a5 => hx s o q ⟨l - xs.length, a0, a1, a5, by omega, by omega, by simpa using hr⟩
    clear hx
    by_cases hn : r < 0
    · have hn' : ¬ 0 ≤ r := by omega
      simp [hn, hn'] at hx'
      simp [hw, hb, hb0, hx', hn, ← hr]
    · have hn' : 0 ≤ r := by omega
      simp [hn, hn'] at hx'
      simp [hw, hb, hb0, hx', hn, ← hr]
theorem szPage (p : Pg) (h : p.Wd) (l : Int) (h0 : 0 ≤ l) (hm : l ≤ 1048576) : run E (.call 224 [.t (pgT p), xI l]) = some (.res [xI (szPg p l)] []) := by
  rw [run_call E 224 _ rfl Tryz.func224 rfl rfl rfl (by simp)]
  have hs := sz_265 p.ents szEnt (by have := h.1; unfold W at this; omega) (fun x hx l h0 hm => szEntry x (h.2 x hx) l h0 hm) (fun x _ k hk => szEnt_le x k hk) l h0 hm
  unfold szPg thenSz
  by_cases hn : lstSz szEnt p.ents l < 0 <;> simp [hs, hn]
theorem sz_178 (xs : List Pg) (f : Pg → Int → Int) (hl : xs.length < 9223372036854775807) (hf : ∀ x ∈ xs, ∀ l, 0 ≤ l → l ≤ 1048576 → run E (.call 224 [.t (pgT x), xI l]) = some (.res [xI (f x l)] [])) (hle : ∀ x ∈ xs, ∀ k, 0 ≤ k → f x k ≤ k) (l : Int) (h0 : 0 ≤ l) (hm : l ≤ 1048576) :
    run E (.call 178 [.t (.list (xs.map pgT)), xI l]) = some (.res [xI (lstSz f xs l)] []) := by
  rw [run_call E 178 _ rfl Tryz.func178 rfl rfl rfl (by simp)]
  have hw : IntKind.i64.wrap (l - (xs.length : Int)) = l - xs.length := wrap_of (by omega) (by omega)
  unfold lstSz szB
  by_cases hb : l - (xs.length : Int) < 0
  · simp [hw, hb]
  · have hb0 : ¬ l < (xs.length : Int) := by omega
    have lp := fun (r : Int) (hr : r = goSz f xs (l - xs.length)) => sk (fun s o q hI => loop_for (c := loopAt Tryz.f178 0) (N := 27)
      (fun i s o q => ∃ k : Int, s 0 = .t (.list (xs.map pgT)) ∧ s 1 = .t (.int .i64 k) ∧ s 5 = .t (.int .i64 i) ∧ 0 ≤ k ∧ k ≤ 1048576 ∧ r = goSz f (xs.drop i) k)
      (fun e s' o' q' => e = (if r < 0 then .ret else .exit 0) ∧ (r < 0 → s' 4 = .t (.int .i64 r)) ∧ (0 ≤ r → s' 1 = .t (.int .i64 r))) xs.length
      (by
        rintro i s o q hi ⟨k, g0, g1, g5, hk0, hkm, hp⟩
        have hi' : (i : Int) < (xs.length : Int) := by omega
        have hwi := wrap_succ (n := i) (by omega)
        have hxi : xs[i]? = some xs[i] := List.getElem?_eq_getElem hi
        have hx := hf _ (List.getElem_mem hi) k hk0 hkm
        have hxl := hle _ (List.getElem_mem hi) k hk0
        rw [List.drop_eq_getElem_cons hi, goSz] at hp
        by_cases hn : f xs[i] k < 0
        · simp [hn] at hp
          simp [loopAt, loopsOf, Tryz.f178, g0, g1, g5, hi', hxi, hwi, hx, hn, hp]
        · simp [hn] at hp
          simp [loopAt, loopsOf, Tryz.f178, g0, g1, g5, hi', hxi, hwi, hx, hn]
          exact ⟨by omega, by omega, hp⟩)
      (by
        rintro s o q ⟨k, g0, g1, g5, hk0, hkm, hp⟩
        simp [goSz] at hp
        have hn : ¬ r < 0 := by omega
        have hn' : 0 ≤ r := by omega
        have hk1 : ¬ k < 0 := by omega
        simp [loopAt, loopsOf, Tryz.f178, g0, g1, g5, hp, hk1]
        try omega)
      xs.length 0 s o q (by omega) hI)
    simp only [loopAt, loopsOf, Tryz.f178] at lp
    obtain ⟨r, hr⟩ : ∃ r, r = goSz f xs (l - xs.length) := ⟨_, rfl⟩
    obtain ⟨X, A, B, C, hx⟩ := lp r hr
    have hx' := fun s o q a0 a1 a5 => hx s o q ⟨l - xs.length, a0, a1, a5, by omega, by omega, by simpa using hr⟩
    clear hx
    by_cases hn : r < 0
    · have hn' : ¬ 0 ≤ r := by omega
      simp [hn, hn'] at hx'
      simp [hw, hb, hb0, hx', hn, ← hr]
    · have hn' : 0 ≤ r := by omega
      simp [hn, hn'] at hx'
      simp [hw, hb, hb0, hx', hn, ← hr]
theorem szTree (t : Tr) (h : t.Wd) (l : Int) (h0 : 0 ≤ l) (hm : l ≤ 1048576) : run E (.call 129 [.t (treeT t), xI l]) = some (.res [xI (szTr t l)] []) := by
  rw [run_call E 129 _ rfl Tryz.func129 rfl rfl rfl (by simp)]
  have hs := sz_178 t.pages szPg (by have := h.1; unfold W at this; omega) (fun x hx l h0 hm => szPage x (h.2 x hx) l h0 hm) (fun x _ k hk => szPg_le x k hk) l h0 hm
  unfold szTr thenSz
  by_cases hn : lstSz szPg t.pages l < 0 <;> simp [hs, hn]
theorem szIndex (x : Ix) (h : x.Wd) (l : Int) (h0 : 0 ≤ l) (hm : l ≤ 1048576) : run E (.call 71 [.t (ixT x), xI l]) = some (.res [xI (szIx x l)] []) := by
  rw [run_call E 71 _ rfl Tryz.func71 rfl rfl rfl (by simp)]
  have h1 := szDef x.dfn h.dfn l h0 hm
  have l1 := szDfn_le x.dfn l h0
  unfold szIx thenSz
  by_cases n1 : szDfn x.dfn l < 0
  · simp [h1, n1]
  · have h2 := szTree x.tree h.tree (szDfn x.dfn l) (by omega) (by omega)
    by_cases n2 : szTr x.tree (szDfn x.dfn l) < 0 <;> simp [h1, n1, h2, n2]
theorem sz_26 (xs : List Ix) (f : Ix → Int → Int) (hl : xs.length < 9223372036854775807) (hf : ∀ x ∈ xs, ∀ l, 0 ≤ l → l ≤ 1048576 → run E (.call 71 [.t (ixT x), xI l]) = some (.res [xI (f x l)] [])) (hle : ∀ x ∈ xs, ∀ k, 0 ≤ k → f x k ≤ k) (l : Int) (h0 : 0 ≤ l) (hm : l ≤ 1048576) :
    run E (.call 26 [.t (.list (xs.map ixT)), xI l]) = some (.res [xI (lstSz f xs l)] []) := by
  rw [run_call E 26 _ rfl Tryz.func26 rfl rfl rfl (by simp)]
  have hw : IntKind.i64.wrap (l - (xs.length : Int)) = l - xs.length := wrap_of (by omega) (by omega)
  unfold lstSz szB
  by_cases hb : l - (xs.length : Int) < 0
  · simp [hw, hb]
  · have hb0 : ¬ l < (xs.length : Int) := by omega
    have lp := fun (r : Int) (hr : r = goSz f xs (l - xs.length)) => sk (fun s o q hI => loop_for (c := loopAt Tryz.f26 0) (N := 27)
      (fun i s o q => ∃ k : Int, s 0 = .t (.list (xs.map ixT)) ∧ s 1 = .t (.int .i64 k) ∧ s 5 = .t (.int .i64 i) ∧ 0 ≤ k ∧ k ≤ 1048576 ∧ r = goSz f (xs.drop i) k)
      (fun e s' o' q' => e = (if r < 0 then .ret else .exit 0) ∧ (r < 0 → s' 4 = .t (.int .i64 r)) ∧ (0 ≤ r → s' 1 = .t (.int .i64 r))) xs.length
      (by
        rintro i s o q hi ⟨k, g0, g1, g5, hk0, hkm, hp⟩
        have hi' : (i : Int) < (xs.length : Int) := by omega
        have hwi := wrap_succ (n := i) (by omega)
        have hxi : xs[i]? = some xs[i] := List.getElem?_eq_getElem hi
        have hx := hf _ (List.getElem_mem hi) k hk0 hkm
        have hxl := hle _ (List.getElem_mem hi) k hk0
        rw [List.drop_eq_getElem_cons hi, goSz] at hp
        by_cases hn : f xs[i] k < 0
        · simp [hn] at hp
          simp [loopAt, loopsOf, Tryz.f26, g0, g1, g5, hi', hxi, hwi, hx, hn, hp]
        · simp [hn] at hp
          simp [loopAt, loopsOf, Tryz.f26, g0, g1, g5, hi', hxi, hwi, hx, hn]
          exact ⟨by omega, by omega, hp⟩)
      (by
        rintro s o q ⟨k, g0, g1, g5, hk0, hkm, hp⟩
        simp [goSz] at hp
        have hn : ¬ r < 0 := by omega
        have hn' : 0 ≤ r := by omega
        have hk1 : ¬ k < 0 := by omega
        simp [loopAt, loopsOf, Tryz.f26, g0, g1, g5, hp, hk1]
        try omega)
      xs.length 0 s o q (by omega) hI)
    simp only [loopAt, loopsOf, Tryz.f26] at lp
    obtain ⟨r, hr⟩ : ∃ r, r = goSz f xs (l - xs.length) := ⟨_, rfl⟩
    obtain ⟨X, A, B, C, hx⟩ := lp r hr
    have hx' := fun s o q a0 a1 a5 => hx s o q ⟨l - xs.length, a0, a1, a5, by omega, by omega, by simpa using hr⟩
    clear hx
    by_cases hn : r < 0
    · have hn' : ¬ 0 ≤ r := by omega
      simp [hn, hn'] at hx'
      simp [hw, hb, hb0, hx', hn, ← hr]
    · have hn' : 0 ≤ r := by omega
      simp [hn, hn'] at hx'
      simp [hw, hb, hb0, hx', hn, ← hr]
theorem szPg_sm {p : Pg} {k : Int} (h0 : 0 ≤ k) (hm : k ≤ 1048576) (h : ¬ szPg p k < 0) : p.Sm := by
  obtain ⟨h1, h2⟩ := thenSz_neg h
  obtain ⟨b1, b2⟩ := lstSz_all (P := fun e : Ent => e.key.length < 4294967296) (m := 1048576) h0 hm (fun x _ k hk => szEnt_le x k hk) (fun x _ k hk hm h => by have := szB_bound (thenSz_neg h).1; omega) h1
  exact ⟨by omega, b2⟩
theorem szTr_sm {p : Tr} {k : Int} (h0 : 0 ≤ k) (hm : k ≤ 1048576) (h : ¬ szTr p k < 0) : p.Sm := by
  obtain ⟨h1, h2⟩ := thenSz_neg h
  obtain ⟨b1, b2⟩ := lstSz_all (P := Pg.Sm) (m := 1048576) h0 hm (fun x _ k hk => szPg_le x k hk) (fun x _ k hk hm h => szPg_sm hk hm h) h1
  exact ⟨by omega, b2⟩
theorem szIx_sm {x : Ix} {k : Int} (h0 : 0 ≤ k) (hm : k ≤ 1048576) (h : ¬ szIx x k < 0) : x.Sm := by
  obtain ⟨h1, h2⟩ := thenSz_neg h
  have l1 := szDfn_le x.dfn k h0
  exact ⟨szDfn_sm h0 hm h1, szTr_sm (by omega) (by omega) (thenSz_neg h2).1⟩
/-! Copies. -/
theorem toEntry (e : Ent) : run E (.call 297 [.t (entT e)]) = some (.res [entX e] []) := by
  rw [run_call E 297 _ rfl Tryz.func297 rfl rfl rfl (by simp)]
  simp
theorem to_270 (xs : List Ent) (hl : xs.length < 4294967296) (hf : ∀ x ∈ xs, run E (.call 297 [.t (entT x)]) = some (.res [entX x] [])) :
    run E (.call 270 [.t (.list (xs.map entT))]) = some (.res [.row 228 (xs.map entT)] []) := by
  rw [run_call E 270 _ rfl Tryz.func270 rfl rfl rfl (by simp)]
  have lp := sk (fun s o q hI => loop_for (c := loopAt Tryz.f270 0) (N := 23)
    (fun i s o q => s 0 = .t (.list (xs.map entT)) ∧ s 3 = .row 0 ∧ s 4 = .t (.int .i64 i) ∧ 0 < q ∧ o 0 = .row 228 ((xs.map entT).take i ++ List.replicate (xs.length - i) (.agg [.str [], .int .i64 0])) true)
    (fun e s' o' q' => e = .exit 0 ∧ s' 3 = .row 0 ∧ o' 0 = .row 228 (xs.map entT) true) xs.length
    (by
      rintro i s o q hi ⟨g0, g3, g4, hq, ho⟩
      have hi' : (i : Int) < (xs.length : Int) := by omega
      have hwi := wrap_succ (n := i) (by omega)
      have hxi : xs[i]? = some xs[i] := List.getElem?_eq_getElem hi
      have hx := hf _ (List.getElem_mem hi)
      have hq0 : q ≠ 0 := by omega
      have h0q : 0 ≠ q := by omega
      have hget := mid_get (xs.map entT) (.agg [.str [], .int .i64 0]) i xs.length hi (by simp; omega)
      have hset := mid_set (xs.map entT) (.agg [.str [], .int .i64 0]) (entT xs[i]) i xs.length hi (by simp [hxi])
      simp [loopAt, loopsOf, Tryz.f270, g0, g3, g4, hi', hxi, hwi, hx, ho, hget, hset, hq0, h0q]
      try omega)
    (by
      rintro s o q ⟨g0, g3, g4, hq, ho⟩
      have hfull : (xs.map entT).take xs.length = xs.map entT := List.take_of_length_le (by simp)
      simp [hfull] at ho
      simp [loopAt, loopsOf, Tryz.f270, g0, g3, g4, ho])
    xs.length 0 s o q (by omega) hI)
  simp only [loopAt, loopsOf, Tryz.f270] at lp
  obtain ⟨X, A, B, C, hx⟩ := lp
  simp at hx
  have h1 : xs.length ≤ 140737488355328 := by omega
  have h2 : xs.length * 24 ≤ 140737488355328 := by omega
  simp [h1, h2, hx]
theorem toPage (p : Pg) (h : p.Sm) : run E (.call 232 [.t (pgT p)]) = some (.res [.agg [xI p.num, .row 228 (p.ents.map entT)]] []) := by
  rw [run_call E 232 _ rfl Tryz.func232 rfl rfl rfl (by simp)]
  simp [to_270 p.ents h.1 (fun x _ => toEntry x)]
theorem to_187 (xs : List Pg) (hl : xs.length < 4294967296) (hf : ∀ x ∈ xs, run E (.call 232 [.t (pgT x)]) = some (.res [.agg [xI x.num, .row 228 (x.ents.map entT)]] [])) :
    run E (.call 187 [.t (.list (xs.map pgT))]) = some (.res [.row 185 (xs.map pgT)] []) := by
  rw [run_call E 187 _ rfl Tryz.func187 rfl rfl rfl (by simp)]
  have lp := sk (fun s o q hI => loop_for (c := loopAt Tryz.f187 0) (N := 23)
    (fun i s o q => s 0 = .t (.list (xs.map pgT)) ∧ s 3 = .row 0 ∧ s 4 = .t (.int .i64 i) ∧ 0 < q ∧ o 0 = .row 185 ((xs.map pgT).take i ++ List.replicate (xs.length - i) (.agg [.int .i64 0, .list []])) true)
    (fun e s' o' q' => e = .exit 0 ∧ s' 3 = .row 0 ∧ o' 0 = .row 185 (xs.map pgT) true) xs.length
    (by
      rintro i s o q hi ⟨g0, g3, g4, hq, ho⟩
      have hi' : (i : Int) < (xs.length : Int) := by omega
      have hwi := wrap_succ (n := i) (by omega)
      have hxi : xs[i]? = some xs[i] := List.getElem?_eq_getElem hi
      have hx := hf _ (List.getElem_mem hi)
      have hq0 : q ≠ 0 := by omega
      have h0q : 0 ≠ q := by omega
      have hget := mid_get (xs.map pgT) (.agg [.int .i64 0, .list []]) i xs.length hi (by simp; omega)
      have hset := mid_set (xs.map pgT) (.agg [.int .i64 0, .list []]) (pgT xs[i]) i xs.length hi (by simp [hxi])
      simp [loopAt, loopsOf, Tryz.f187, g0, g3, g4, hi', hxi, hwi, hx, ho, hget, hset, hq0, h0q]
      try omega)
    (by
      rintro s o q ⟨g0, g3, g4, hq, ho⟩
      have hfull : (xs.map pgT).take xs.length = xs.map pgT := List.take_of_length_le (by simp)
      simp [hfull] at ho
      simp [loopAt, loopsOf, Tryz.f187, g0, g3, g4, ho])
    xs.length 0 s o q (by omega) hI)
  simp only [loopAt, loopsOf, Tryz.f187] at lp
  obtain ⟨X, A, B, C, hx⟩ := lp
  simp at hx
  have h1 : xs.length ≤ 140737488355328 := by omega
  have h2 : xs.length * 32 ≤ 140737488355328 := by omega
  simp [h1, h2, hx]
theorem toTree (t : Tr) (h : t.Sm) : run E (.call 140 [.t (treeT t)]) = some (.res [.agg [.row 185 (t.pages.map pgT), xI t.next]] []) := by
  rw [run_call E 140 _ rfl Tryz.func140 rfl rfl rfl (by simp)]
  simp [to_187 t.pages h.1 (fun x hx => toPage x (h.2 x hx))]
theorem toIndex (x : Ix) (h : x.Sm) : run E (.call 78 [.t (ixT x)]) = some (.res [.agg [xS x.dfn.name, .row 170 (x.dfn.parts.map prtT), .row 185 (x.tree.pages.map pgT), xI x.tree.next]] []) := by
  rw [run_call E 78 _ rfl Tryz.func78 rfl rfl rfl (by simp)]
  have h1 := toDef x.dfn h.dfn
  have h2 := toTree x.tree h.tree
  simp [h1, h2]
theorem to_29 (xs : List Ix) (hl : xs.length < 4294967296) (hf : ∀ x ∈ xs, run E (.call 78 [.t (ixT x)]) = some (.res [.agg [xS x.dfn.name, .row 170 (x.dfn.parts.map prtT), .row 185 (x.tree.pages.map pgT), xI x.tree.next]] [])) :
    run E (.call 29 [.t (.list (xs.map ixT))]) = some (.res [.row 129 (xs.map ixT)] []) := by
  rw [run_call E 29 _ rfl Tryz.func29 rfl rfl rfl (by simp)]
  have lp := sk (fun s o q hI => loop_for (c := loopAt Tryz.f29 0) (N := 23)
    (fun i s o q => s 0 = .t (.list (xs.map ixT)) ∧ s 3 = .row 0 ∧ s 4 = .t (.int .i64 i) ∧ 0 < q ∧ o 0 = .row 129 ((xs.map ixT).take i ++ List.replicate (xs.length - i) (.agg [.str [], .list [], .list [], .int .i64 0])) true)
    (fun e s' o' q' => e = .exit 0 ∧ s' 3 = .row 0 ∧ o' 0 = .row 129 (xs.map ixT) true) xs.length
    (by
      rintro i s o q hi ⟨g0, g3, g4, hq, ho⟩
      have hi' : (i : Int) < (xs.length : Int) := by omega
      have hwi := wrap_succ (n := i) (by omega)
      have hxi : xs[i]? = some xs[i] := List.getElem?_eq_getElem hi
      have hx := hf _ (List.getElem_mem hi)
      have hq0 : q ≠ 0 := by omega
      have h0q : 0 ≠ q := by omega
      have hget := mid_get (xs.map ixT) (.agg [.str [], .list [], .list [], .int .i64 0]) i xs.length hi (by simp; omega)
      have hset := mid_set (xs.map ixT) (.agg [.str [], .list [], .list [], .int .i64 0]) (ixT xs[i]) i xs.length hi (by simp [hxi])
      simp [loopAt, loopsOf, Tryz.f29, g0, g3, g4, hi', hxi, hwi, hx, ho, hget, hset, hq0, h0q]
      try omega)
    (by
      rintro s o q ⟨g0, g3, g4, hq, ho⟩
      have hfull : (xs.map ixT).take xs.length = xs.map ixT := List.take_of_length_le (by simp)
      simp [hfull] at ho
      simp [loopAt, loopsOf, Tryz.f29, g0, g3, g4, ho])
    xs.length 0 s o q (by omega) hI)
  simp only [loopAt, loopsOf, Tryz.f29] at lp
  obtain ⟨X, A, B, C, hx⟩ := lp
  simp at hx
  have h1 : xs.length ≤ 140737488355328 := by omega
  have h2 : xs.length * 72 ≤ 140737488355328 := by omega
  simp [h1, h2, hx]
theorem to_137 (xs : List (List Trm)) (hl : xs.length < 4294967296) (hf : ∀ x ∈ xs, run E (.call 186 [.t (clsT x)]) = some (.res [.agg [.row 154 (x.map trmT)]] [])) :
    run E (.call 137 [.t (.list (xs.map clsT))]) = some (.res [.row 151 (xs.map clsT)] []) := by
  rw [run_call E 137 _ rfl Tryz.func137 rfl rfl rfl (by simp)]
  have lp := sk (fun s o q hI => loop_for (c := loopAt Tryz.f137 0) (N := 23)
    (fun i s o q => s 0 = .t (.list (xs.map clsT)) ∧ s 3 = .row 0 ∧ s 4 = .t (.int .i64 i) ∧ 0 < q ∧ o 0 = .row 151 ((xs.map clsT).take i ++ List.replicate (xs.length - i) (.agg [.list []])) true)
    (fun e s' o' q' => e = .exit 0 ∧ s' 3 = .row 0 ∧ o' 0 = .row 151 (xs.map clsT) true) xs.length
    (by
      rintro i s o q hi ⟨g0, g3, g4, hq, ho⟩
      have hi' : (i : Int) < (xs.length : Int) := by omega
      have hwi := wrap_succ (n := i) (by omega)
      have hxi : xs[i]? = some xs[i] := List.getElem?_eq_getElem hi
      have hx := hf _ (List.getElem_mem hi)
      have hq0 : q ≠ 0 := by omega
      have h0q : 0 ≠ q := by omega
      have hget := mid_get (xs.map clsT) (.agg [.list []]) i xs.length hi (by simp; omega)
      have hset := mid_set (xs.map clsT) (.agg [.list []]) (clsT xs[i]) i xs.length hi (by simp [hxi])
      simp [loopAt, loopsOf, Tryz.f137, g0, g3, g4, hi', hxi, hwi, hx, ho, hget, hset, hq0, h0q]
      try omega)
    (by
      rintro s o q ⟨g0, g3, g4, hq, ho⟩
      have hfull : (xs.map clsT).take xs.length = xs.map clsT := List.take_of_length_le (by simp)
      simp [hfull] at ho
      simp [loopAt, loopsOf, Tryz.f137, g0, g3, g4, ho])
    xs.length 0 s o q (by omega) hI)
  simp only [loopAt, loopsOf, Tryz.f137] at lp
  obtain ⟨X, A, B, C, hx⟩ := lp
  simp at hx
  have h1 : xs.length ≤ 140737488355328 := by omega
  have h2 : xs.length * 24 ≤ 140737488355328 := by omega
  simp [h1, h2, hx]
theorem toFilter (f : List (List Trm)) (h : f.length < 4294967296) (hc : ∀ c ∈ f, c.length < 4294967296) : run E (.call 75 [.t (filT f)]) = some (.res [.agg [.row 151 (f.map clsT)]] []) := by
  rw [run_call E 75 _ rfl Tryz.func75 rfl rfl rfl (by simp)]
  simp [to_137 f h (fun x hx => toClause x (hc x hx))]
theorem toQuery (q : Qry) (h : q.Sm) : run E (.call 28 [.t (qryT q)]) = some (.res [.agg [.row 151 (q.filter.map clsT), .row 170 (q.sort.map prtT), xI q.skip, xI q.limit, .row 9 (q.keep.map strT), xS q.hint]] []) := by
  rw [run_call E 28 _ rfl Tryz.func28 rfl rfl rfl (by simp)]
  have h1 := toFilter q.filter h.filter.1 (fun c hc => (h.filter.2 c hc).1)
  have h2 := toPartS q.sort h.sort.1
  have h3 := toStringS q.keep h.keep.1
  simp [h1, h2, h3]
/-! Equality. -/
theorem eqEntry (e : Ent) : run E (.call 300 [.t (entT e), .t (entT e)]) = some (.res [xB true] []) := by
  rw [run_call E 300 _ rfl Tryz.func300 rfl rfl rfl (by simp)]
  simp
theorem eq_276 (xs : List Ent) (hl : xs.length < 9223372036854775807) (hf : ∀ x ∈ xs, run E (.call 300 [.t (entT x), .t (entT x)]) = some (.res [xB true] [])) :
    run E (.call 276 [.t (.list (xs.map entT)), .t (.list (xs.map entT))]) = some (.res [xB true] []) := by
  rw [run_call E 276 _ rfl Tryz.func276 rfl rfl rfl (by simp)]
  have d6 := d276_6
  simp [regionOf, findR, pick, Tryz.f276] at d6
  have dd := fun st => run_region_draw E st 6 _ d6
  clear d6
  have lp := sk (fun s o q hI => loop_for (c := loopAt Tryz.f276 0) (N := 27)
    (fun i s o q => s 0 = .t (.list (xs.map entT)) ∧ s 1 = .t (.list (xs.map entT)) ∧ s 5 = .t (.int .i64 i))
    (fun e s' o' q' => e = .exit 0) xs.length
    (by
      rintro i s o q hi ⟨g0, g1, g5⟩
      have hi' : (i : Int) < (xs.length : Int) := by omega
      have hwi := wrap_succ (n := i) (by omega)
      have hxi : xs[i]? = some xs[i] := List.getElem?_eq_getElem hi
      have hx := hf _ (List.getElem_mem hi)
      simp [loopAt, loopsOf, Tryz.f276, dd, g0, g1, g5, hi', hxi, hwi, hx])
    (by
      rintro s o q ⟨g0, g1, g5⟩
      simp [loopAt, loopsOf, Tryz.f276, g0, g1, g5])
    xs.length 0 s o q (by omega) hI)
  simp only [loopAt, loopsOf, Tryz.f276] at lp
  obtain ⟨X, A, B, C, hx⟩ := lp
  simp at hx
  simp [hx]
theorem eqPage (p : Pg) (h : p.Sm) : run E (.call 243 [.t (pgT p), .t (pgT p)]) = some (.res [xB true] []) := by
  rw [run_call E 243 _ rfl Tryz.func243 rfl rfl rfl (by simp)]
  have h1 := eq_276 p.ents (by have := h.1; omega) (fun x _ => eqEntry x)
  simp [h1]
theorem eq_201 (xs : List Pg) (hl : xs.length < 9223372036854775807) (hf : ∀ x ∈ xs, run E (.call 243 [.t (pgT x), .t (pgT x)]) = some (.res [xB true] [])) :
    run E (.call 201 [.t (.list (xs.map pgT)), .t (.list (xs.map pgT))]) = some (.res [xB true] []) := by
  rw [run_call E 201 _ rfl Tryz.func201 rfl rfl rfl (by simp)]
  have d6 := d201_6
  simp [regionOf, findR, pick, Tryz.f201] at d6
  have dd := fun st => run_region_draw E st 6 _ d6
  clear d6
  have lp := sk (fun s o q hI => loop_for (c := loopAt Tryz.f201 0) (N := 27)
    (fun i s o q => s 0 = .t (.list (xs.map pgT)) ∧ s 1 = .t (.list (xs.map pgT)) ∧ s 5 = .t (.int .i64 i))
    (fun e s' o' q' => e = .exit 0) xs.length
    (by
      rintro i s o q hi ⟨g0, g1, g5⟩
      have hi' : (i : Int) < (xs.length : Int) := by omega
      have hwi := wrap_succ (n := i) (by omega)
      have hxi : xs[i]? = some xs[i] := List.getElem?_eq_getElem hi
      have hx := hf _ (List.getElem_mem hi)
      simp [loopAt, loopsOf, Tryz.f201, dd, g0, g1, g5, hi', hxi, hwi, hx])
    (by
      rintro s o q ⟨g0, g1, g5⟩
      simp [loopAt, loopsOf, Tryz.f201, g0, g1, g5])
    xs.length 0 s o q (by omega) hI)
  simp only [loopAt, loopsOf, Tryz.f201] at lp
  obtain ⟨X, A, B, C, hx⟩ := lp
  simp at hx
  simp [hx]
theorem eqTree (t : Tr) (h : t.Sm) : run E (.call 151 [.t (treeT t), .t (treeT t)]) = some (.res [xB true] []) := by
  rw [run_call E 151 _ rfl Tryz.func151 rfl rfl rfl (by simp)]
  have h1 := eq_201 t.pages (by have := h.1; omega) (fun x hx => eqPage x (h.2 x hx))
  simp [h1]
theorem eqIndex (x : Ix) (h : x.Sm) : run E (.call 88 [.t (ixT x), .t (ixT x)]) = some (.res [xB true] []) := by
  rw [run_call E 88 _ rfl Tryz.func88 rfl rfl rfl (by simp)]
  have h1 := eqDef x.dfn h.dfn
  have h2 := eqTree x.tree h.tree
  simp [h1, h2]
theorem eq_33 (xs : List Ix) (hl : xs.length < 9223372036854775807) (hf : ∀ x ∈ xs, run E (.call 88 [.t (ixT x), .t (ixT x)]) = some (.res [xB true] [])) :
    run E (.call 33 [.t (.list (xs.map ixT)), .t (.list (xs.map ixT))]) = some (.res [xB true] []) := by
  rw [run_call E 33 _ rfl Tryz.func33 rfl rfl rfl (by simp)]
  have d6 := d33_6
  simp [regionOf, findR, pick, Tryz.f33] at d6
  have dd := fun st => run_region_draw E st 6 _ d6
  clear d6
  have lp := sk (fun s o q hI => loop_for (c := loopAt Tryz.f33 0) (N := 27)
    (fun i s o q => s 0 = .t (.list (xs.map ixT)) ∧ s 1 = .t (.list (xs.map ixT)) ∧ s 5 = .t (.int .i64 i))
    (fun e s' o' q' => e = .exit 0) xs.length
    (by
      rintro i s o q hi ⟨g0, g1, g5⟩
      have hi' : (i : Int) < (xs.length : Int) := by omega
      have hwi := wrap_succ (n := i) (by omega)
      have hxi : xs[i]? = some xs[i] := List.getElem?_eq_getElem hi
      have hx := hf _ (List.getElem_mem hi)
      simp [loopAt, loopsOf, Tryz.f33, dd, g0, g1, g5, hi', hxi, hwi, hx])
    (by
      rintro s o q ⟨g0, g1, g5⟩
      simp [loopAt, loopsOf, Tryz.f33, g0, g1, g5])
    xs.length 0 s o q (by omega) hI)
  simp only [loopAt, loopsOf, Tryz.f33] at lp
  obtain ⟨X, A, B, C, hx⟩ := lp
  simp at hx
  simp [hx]
abbrev nulV : Val := ⟨0, 0, []⟩
/-- What stands against a term. -/
def standP (t : Trm) (doc : Val) : List Val := if (getP (cutP 46 t.path) doc).length = 0 ∧ t.op ≠ 9 then [nulV] else getP (cutP 46 t.path) doc
def matchT (t : Trm) (doc : Val) : Bool :=
  if t.op = 8 then (decide (0 < (getP (cutP 46 t.path) doc).length) == decide (t.v.n = 1))
  else (((standP t doc).any (oneT t.op t.v)) != decide (t.op = 2))
set_option maxHeartbeats 4000000
end Go.Md
namespace Go.Md
open Go.Ev Go.Proofs Go.Pu
set_option linter.unusedSimpArgs false
set_option linter.unusedVariables false
structure Rd where
  coll : Bytes
  filter : List (List Trm)
structure Wr where
  coll : Bytes
  id : Int
  gone : Bool
  v : Val
structure Chg where
  w : Wr
  before : Val
  was : Bool
structure Dn where
  snap : Int
  at_ : Int
  reads : List Rd
  changes : List Chg
  inn : Bool
  out : Bool
structure Txn where
  session : Int
  snap : Int
  reads : List Rd
  writes : List Wr
structure Cmd where
  kind : Int
  session : Int
  coll : Bytes
  doc : Val
  q : Qry
  ups : List Trm
  d : Dfn
structure Sto where
  colls : List Col
  txns : List Txn
  done : List Dn
  clock : Int
abbrev rdT (r : Rd) : T := .agg [.str r.coll, .list (r.filter.map clsT)]
abbrev wrT (w : Wr) : T := .agg [.str w.coll, .int .i64 w.id, .bool w.gone, .int .i64 w.v.k, .int .i64 w.v.n, .str w.v.t]
abbrev chgT (c : Chg) : T := .agg [.str c.w.coll, .int .i64 c.w.id, .bool c.w.gone, .int .i64 c.w.v.k, .int .i64 c.w.v.n, .str c.w.v.t, .int .i64 c.before.k, .int .i64 c.before.n, .str c.before.t, .bool c.was]
abbrev dnT (d : Dn) : T := .agg [.int .i64 d.snap, .int .i64 d.at_, .list (d.reads.map rdT), .list (d.changes.map chgT), .bool d.inn, .bool d.out]
abbrev txnT (t : Txn) : T := .agg [.int .i64 t.session, .int .i64 t.snap, .list (t.reads.map rdT), .list (t.writes.map wrT)]
abbrev cmdT (c : Cmd) : T := .agg [.int .i64 c.kind, .int .i64 c.session, .str c.coll, .int .i64 c.doc.k, .int .i64 c.doc.n, .str c.doc.t, .list (c.q.filter.map clsT), .list (c.q.sort.map prtT), .int .i64 c.q.skip, .int .i64 c.q.limit, .list (c.q.keep.map strT), .str c.q.hint, .list (c.ups.map trmT), .str c.d.name, .list (c.d.parts.map prtT)]
abbrev stoT (s : Sto) : T := .agg [.list (s.colls.map colT), .list (s.txns.map txnT), .list (s.done.map dnT), .int .i64 s.clock]
end Go.Md
namespace Go.Md
open Go.Ev Go.Proofs Go.Pu
set_option linter.unusedSimpArgs false
set_option linter.unusedVariables false
set_option maxRecDepth 100000
set_option maxHeartbeats 4000000
set_option maxHeartbeats 16000000
def matchC (c : List Trm) (doc : Val) : Bool := c.all (fun t => matchT t doc)
def matchF (f : List (List Trm)) (doc : Val) : Bool := f.any (fun c => matchC c doc)
abbrev valC (v : Val) : List T := [.int .i64 v.k, .int .i64 v.n, .str v.t]
/-- All terms are right. -/
def clsFit (c : List Trm) : Prop := c.length < 4294967295 ∧ ∀ t ∈ c, okP 5 t.v = true ∧ opOK t.op t.v = true ∧ t.path.length < 4294967295
def filFit (f : List (List Trm)) : Prop := f.length < 4294967295 ∧ ∀ c ∈ f, clsFit c
def matchesOut (f : List (List Trm)) (doc : Val) : Bool × Int := if filterOK f && isDocP doc then (matchF f doc, 0) else (false, 1)
structure Rd.Sm (r : Rd) : Prop where
  coll : r.coll.length < 4294967296
  filter : filterSm r.filter
structure Wr.Sm (w : Wr) : Prop where
  coll : w.coll.length < 4294967296
  v : w.v.t.length < 4294967296
structure Chg.Sm (c : Chg) : Prop where
  w : c.w.Sm
  before : c.before.t.length < 4294967296
structure Dn.Sm (d : Dn) : Prop where
  reads : d.reads.length < 4294967296 ∧ ∀ r ∈ d.reads, r.Sm
  changes : d.changes.length < 4294967296 ∧ ∀ c ∈ d.changes, c.Sm
def readOK (r : Rd) : Bool := nameP r.coll && filterOK r.filter
def writeOK (w : Wr) : Bool := nameP w.coll && in1 0 19 w.id && verDoc w.id w.gone w.v
def chgOK (c : Chg) : Bool := writeOK c.w && verDoc c.w.id (!c.was) c.before
theorem inR (a b c : Int) : run E (.call 96 [xI a, xI b, xI c]) = some (.res [xB (in1 b c a)] []) := inRange a b c
def sameC (a b : Chg) : Bool := (a.w.coll == b.w.coll) && (a.w.id == b.w.id)
abbrev chgC (c : Chg) : List T := [.str c.w.coll, .int .i64 c.w.id, .bool c.w.gone, .int .i64 c.w.v.k, .int .i64 c.w.v.n, .str c.w.v.t, .int .i64 c.before.k, .int .i64 c.before.n, .str c.before.t, .bool c.was]
/-- No two are of one document. -/
def distGo : List Chg → List Chg → Bool
  | _, [] => true
  | s, c :: r => !s.any (sameC c) && distGo (s ++ [c]) r
def timesOK (d : Dn) : Bool := decide (0 ≤ d.snap) && in1 1 10000 d.at_ && decide (d.snap < d.at_)
def doneOK (d : Dn) : Bool := distGo [] d.changes && (timesOK d && decide (d.reads.length ≤ 20) && decide (d.changes.length ≤ 60) && d.reads.all readOK && d.changes.all chgOK)
set_option maxHeartbeats 8000000
theorem indexFunc_241 (xs : List Ent) (g : Nat) (c0 : List T) (p : Ent → Bool) (hl : xs.length < 9223372036854775807) (hm : E.md g = []) (hf : E.flat g = true) (hp : ∀ x ∈ xs, run E (.call g [.t (entT x), .dref c0]) = some (.res [xB (p x)] [])) :
    run E (.call 241 [.t (.list (xs.map entT)), .fn g [c0]]) = some (.res [xI (idxP p xs)] []) := by
  rw [run_call E 241 _ rfl Tryz.func241 rfl rfl rfl (by simp)]
  rw [E_md] at hm
  have lp := fun (r : Int) (hr : r = idxP p xs) => sk (fun s o q hI => loop_for (c := loopAt Tryz.f241 0) (N := 19)
    (fun i s o q => s 0 = .t (.list (xs.map entT)) ∧ s 1 = .fn g [.dptr c0] ∧ s 7 = .t (.int .i64 xs.length) ∧ s 8 = .t (.int .i64 i) ∧ r = if idxP p (xs.drop i) < 0 then -1 else idxP p (xs.drop i) + i)
    (fun e s' o' q' => e = (if r < 0 then .exit 0 else .ret) ∧ (0 ≤ r → s' 4 = .t (.int .i64 r))) xs.length
    (by
      rintro i s o q hi ⟨h0, h1, h7, h8, hr⟩
      have hd : xs.drop i = xs[i] :: xs.drop (i + 1) := by rw [List.drop_eq_getElem_cons hi]
      have hi' : (i : Int) < (xs.length : Int) := by omega
      have hw := wrap_succ (n := i) (by omega)
      have hx := hp xs[i] (List.getElem_mem hi)
      rw [hd, idxP] at hr
      cases hpx : p xs[i] with
      | true =>
        simp [hpx] at hr hx
        have hr' : ¬ r < 0 := by omega
        simp [-mdOf, loopAt, loopsOf, Tryz.f241, h0, h1, h7, h8, hi, hi', hx, hw, hm, hf, hr', hr]
      | false =>
        simp [hpx] at hr hx
        have hr2 : r = if idxP p (xs.drop (i + 1)) < 0 then -1 else idxP p (xs.drop (i + 1)) + ((i : Int) + 1) := by
          rw [hr]
          by_cases hq : idxP p (xs.drop (i + 1)) < 0
          · simp [hq]
          · have : ¬ idxP p (xs.drop (i + 1)) + 1 < 0 := by omega
            simp [hq, this]; omega
        clear hr
        simp [-mdOf, loopAt, loopsOf, Tryz.f241, h0, h1, h7, h8, hi, hi', hx, hw, hm, hf]
        exact hr2)
    (by
      rintro s o q ⟨h0, h1, h7, h8, hr⟩
      simp [idxP] at hr
      simp [loopAt, loopsOf, Tryz.f241, h0, h1, h7, h8, hr])
    xs.length 0 s o q (by omega) hI)
  simp only [loopAt, loopsOf, Tryz.f241] at lp
  obtain ⟨X, A, B, C, hx⟩ := lp _ rfl
  have hz : idxP p xs = if idxP p xs < 0 then -1 else idxP p xs := by
    cases xs with
    | nil => simp [idxP]
    | cons x r =>
      unfold idxP
      split
      · simp
      · split
        · simp
        · have : ¬ idxP p r + 1 < 0 := by omega
          simp [this]
  simp [← hz] at hx
  by_cases h : idxP p xs < 0
  · have h1 : idxP p xs = -1 := by rw [hz]; simp [h]
    simp [h] at hx
    simp [hx, h1]
  · have h2 : 0 ≤ idxP p xs := by omega
    simp [h, h2] at hx
    simp [hx]
theorem indexFunc_144 (xs : List Ix) (g : Nat) (c0 : List T) (p : Ix → Bool) (hl : xs.length < 9223372036854775807) (hm : E.md g = []) (hf : E.flat g = true) (hp : ∀ x ∈ xs, run E (.call g [.t (ixT x), .dref c0]) = some (.res [xB (p x)] [])) :
    run E (.call 144 [.t (.list (xs.map ixT)), .fn g [c0]]) = some (.res [xI (idxP p xs)] []) := by
  rw [run_call E 144 _ rfl Tryz.func144 rfl rfl rfl (by simp)]
  rw [E_md] at hm
  have lp := fun (r : Int) (hr : r = idxP p xs) => sk (fun s o q hI => loop_for (c := loopAt Tryz.f144 0) (N := 19)
    (fun i s o q => s 0 = .t (.list (xs.map ixT)) ∧ s 1 = .fn g [.dptr c0] ∧ s 7 = .t (.int .i64 xs.length) ∧ s 8 = .t (.int .i64 i) ∧ r = if idxP p (xs.drop i) < 0 then -1 else idxP p (xs.drop i) + i)
    (fun e s' o' q' => e = (if r < 0 then .exit 0 else .ret) ∧ (0 ≤ r → s' 4 = .t (.int .i64 r))) xs.length
    (by
      rintro i s o q hi ⟨h0, h1, h7, h8, hr⟩
      have hd : xs.drop i = xs[i] :: xs.drop (i + 1) := by rw [List.drop_eq_getElem_cons hi]
      have hi' : (i : Int) < (xs.length : Int) := by omega
      have hw := wrap_succ (n := i) (by omega)
      have hx := hp xs[i] (List.getElem_mem hi)
      rw [hd, idxP] at hr
      cases hpx : p xs[i] with
      | true =>
        simp [hpx] at hr hx
        have hr' : ¬ r < 0 := by omega
        simp [-mdOf, loopAt, loopsOf, Tryz.f144, h0, h1, h7, h8, hi, hi', hx, hw, hm, hf, hr', hr]
      | false =>
        simp [hpx] at hr hx
        have hr2 : r = if idxP p (xs.drop (i + 1)) < 0 then -1 else idxP p (xs.drop (i + 1)) + ((i : Int) + 1) := by
          rw [hr]
          by_cases hq : idxP p (xs.drop (i + 1)) < 0
          · simp [hq]
          · have : ¬ idxP p (xs.drop (i + 1)) + 1 < 0 := by omega
            simp [hq, this]; omega
        clear hr
        simp [-mdOf, loopAt, loopsOf, Tryz.f144, h0, h1, h7, h8, hi, hi', hx, hw, hm, hf]
        exact hr2)
    (by
      rintro s o q ⟨h0, h1, h7, h8, hr⟩
      simp [idxP] at hr
      simp [loopAt, loopsOf, Tryz.f144, h0, h1, h7, h8, hr])
    xs.length 0 s o q (by omega) hI)
  simp only [loopAt, loopsOf, Tryz.f144] at lp
  obtain ⟨X, A, B, C, hx⟩ := lp _ rfl
  have hz : idxP p xs = if idxP p xs < 0 then -1 else idxP p xs := by
    cases xs with
    | nil => simp [idxP]
    | cons x r =>
      unfold idxP
      split
      · simp
      · split
        · simp
        · have : ¬ idxP p r + 1 < 0 := by omega
          simp [this]
  simp [← hz] at hx
  by_cases h : idxP p xs < 0
  · have h1 : idxP p xs = -1 := by rw [hz]; simp [h]
    simp [h] at hx
    simp [hx, h1]
  · have h2 : 0 ≤ idxP p xs := by omega
    simp [h, h2] at hx
    simp [hx]

theorem ihas (i : Ivl) (k : Bytes) : run E (.call 198 [.t (ivlT i), xS k]) = some (.res [xB (hasI i k)] []) := by
  rw [run_call E 198 _ rfl Tryz.func198 rfl rfl rfl (by simp)]
  unfold hasI
  cases h1 : Op.bytesLess k i.low <;> cases h2 : i.opn <;> simp [h1, h2]
theorem shas (i : Ivl) (k : Bytes) : run E (.call 230 [.t (ivlT i), xS k]) = some (.res [xB (hasI i k)] []) := by
  rw [run_call E 230 _ rfl Tryz.func230 rfl rfl rfl (by simp)]
  unfold hasI
  cases h1 : Op.bytesLess k i.low with
  | true =>
    have q1 := bytesLess_asymm h1
    have q2 : ¬ i.low = k := by intro e; rw [e, bytesLess_irrefl] at h1; cases h1
    have q3 : (i.low == k) = false := by simpa using q2
    simp [h1, q1, q3]
  | false =>
    by_cases q2 : i.low = k
    · cases h2 : i.opn <;> simp [h1, h2, q2, bytesLess_irrefl]
    · have q1 : Op.bytesLess i.low k = true := by
        cases h : Op.bytesLess i.low k with
        | true => rfl
        | false => exact absurd (bytesLess_tri h h1) q2
      cases h2 : i.opn <;> simp [h1, h2, q1, q2]
theorem hasClos (i : Ivl) (e : Ent) : run E (.call 197 [.t (entT e), .dref [.str i.low, .str i.high, .bool i.opn]]) = some (.res [xB (!hasI i e.key)] []) := by
  rw [run_call E 197 _ rfl Tryz.func197 rfl rfl rfl (by simp)]
  have h := ihas i e.key
  try simp at h
  simp [h]
theorem specEntry (e : Ent) (h : e.key.length < 4294967296) : run E (.call 226 [.t (entT e)]) = some (.res [xB (entOK e)] []) := by
  rw [run_call E 226 _ rfl Tryz.func226 rfl rfl rfl (by simp)]
  unfold entOK
  have h1 := l01In1 e.id 0 9999
  try simp at h1
  by_cases hk : e.key.length ≤ 2000
  · have hk' : (e.key.length : Int) ≤ 2000 := by omega
    simp [hk, hk', h1]
  · have hk' : ¬ (e.key.length : Int) ≤ 2000 := by omega
    simp [hk, hk']
theorem implEntry (e : Ent) (h : e.key.length < 4294967296) : run E (.call 237 [.t (entT e)]) = some (.res [xB (entOK e)] []) := by
  rw [run_call E 237 _ rfl Tryz.func237 rfl rfl rfl (by simp)]
  unfold entOK
  have h1 := inR e.id 0 9999
  try simp at h1
  by_cases hk : e.key.length ≤ 2000
  · have hk' : (e.key.length : Int) ≤ 2000 := by omega
    simp [hk, hk', h1]
  · have hk' : ¬ (e.key.length : Int) ≤ 2000 := by omega
    simp [hk, hk']
theorem specLess (a b : Ent) : run E (.call 227 [.t (entT a), .t (entT b)]) = some (.res [xB (entLt a b)] []) := by
  rw [run_call E 227 _ rfl Tryz.func227 rfl rfl rfl (by simp)]
  unfold entLt
  cases h1 : Op.bytesLess a.key b.key with
  | true => simp [h1]
  | false =>
    cases h2 : (a.key == b.key) <;> simp [h1, h2]
def entCmp (a b : Ent) : Int := orI (Lib.compareBytes a.key b.key) (cmpI a.id b.id)
theorem compareEnt (a b : Ent) : run E (.call 238 [.t (entT a), .t (entT b)]) = some (.res [xI (entCmp a b)] []) := by
  rw [run_call E 238 _ rfl Tryz.func238 rfl rfl rfl (by simp)]
  have d1 := d238_1
  simp [regionOf, findR, pick, Tryz.f238] at d1
  have dd := fun st => run_region_draw E st 1 _ d1
  clear d1
  have hr2 : List.range 2 = [0, 1] := rfl
  unfold entCmp
  simp [dd, compare a.key b.key, compareInt a.id b.id, cmpOr, hr2]
theorem entCmp_le (a b : Ent) : (entCmp a b ≤ 0) = (entLt b a = false) := by
  unfold entCmp entLt orI
  have h1 := compareBytes_lt a.key b.key
  have h2 := compareBytes_eq a.key b.key
  have h3 := cmpI_lt a.id b.id
  have h4 := cmpI_eq a.id b.id
  have hk5 : ((a.key == b.key) = true) = (a.key = b.key) := by simp
  have hk6 : ((b.key == a.key) = true) = (b.key = a.key) := by simp
  by_cases hk : a.key = b.key
  · have hz : Lib.compareBytes a.key b.key = 0 := by rw [h2]; exact hk
    have hc : cmpI a.id b.id ≤ 0 ↔ ¬ b.id < a.id := by unfold cmpI; split <;> (try split) <;> omega
    have hb : Op.bytesLess b.key a.key = false := by rw [hk]; exact bytesLess_irrefl _
    have hq : (b.key == a.key) = true := by rw [hk6]; exact hk.symm
    rw [if_pos hz, hb, hq, eq_iff_iff, hc]
    simp
  · have hz : Lib.compareBytes a.key b.key ≠ 0 := by rw [Ne, h2]; exact hk
    have hq : (b.key == a.key) = false := by
      cases h : (b.key == a.key) with
      | false => rfl
      | true => rw [hk6] at h; exact absurd h.symm hk
    rw [if_neg hz, hq]
    have h5 : (Lib.compareBytes a.key b.key ≤ 0) ↔ (Lib.compareBytes a.key b.key < 0) := by omega
    rw [eq_iff_iff, h5, h1]
    cases hb : Op.bytesLess a.key b.key with
    | true => simp [bytesLess_asymm hb]
    | false =>
      have : Op.bytesLess b.key a.key = true := by
        cases hc : Op.bytesLess b.key a.key with
        | true => rfl
        | false => exact absurd (bytesLess_tri hb hc) hk
      simp [this]
theorem specPlace (t : Tr) (e : Ent) (hl : t.pages.length < 4294967296) : run E (.call 229 [.t (treeT t), .t (entT e)]) = some (.res [xI (placeP e t.pages : Nat)] []) := by
  rw [run_call E 229 _ rfl Tryz.func229 rfl rfl rfl (by simp)]
  have d5 := d229_5
  simp [regionOf, findR, pick, Tryz.f229] at d5
  have dd := fun st => run_region_draw E st 5 _ d5
  clear d5
  obtain ⟨X, A, B, C, hx⟩ := sk (fun s o q (hI : s 2 = .ptr 0 0 ∧ s 3 = .ptr 1 0 ∧ o 0 = .box 127 [.t (.list (t.pages.map pgT)), .t (.int .i64 t.next)] ∧ o 1 = .box 228 [.t (.str e.key), .t (.int .i64 e.id)] ∧ s 5 = .t (.int .i64 0) ∧ s 6 = .t (.int .i64 1)) => loop_for (c := loopAt Tryz.f229 0) (N := 37)
    (fun i s o q => ∃ k : Nat, s 2 = .ptr 0 0 ∧ s 3 = .ptr 1 0 ∧ o 0 = .box 127 [.t (.list (t.pages.map pgT)), .t (.int .i64 t.next)] ∧ o 1 = .box 228 [.t (.str e.key), .t (.int .i64 e.id)] ∧ s 5 = .t (.int .i64 k) ∧ s 6 = .t (.int .i64 ((1 + i : Nat) : Int)) ∧ placeP e t.pages = placeGo e (1 + i) k (t.pages.drop (1 + i)))
    (fun e' s' o' q' => e' = .exit 0 ∧ s' 5 = .t (.int .i64 (placeP e t.pages : Nat)))
    (t.pages.length - 1)
    (by
      rintro i s o q hi ⟨k, h2, h3, o0, o1, h5, h6, hp⟩
      obtain ⟨j, hj⟩ : ∃ j, j = 1 + i := ⟨_, rfl⟩
      rw [← hj] at h6 hp
      have hjl : j < t.pages.length := by omega
      have hj' : (j : Int) < (t.pages.length : Int) := by omega
      have hxj : t.pages[j]? = some t.pages[j] := List.getElem?_eq_getElem hjl
      have hw := wrap_succ (n := j) (by omega)
      have hs : 1 + (i + 1) = j + 1 := by omega
      rw [List.drop_eq_getElem_cons hjl, placeGo] at hp
      rw [hs]
      cases hpe : t.pages[j].ents with
      | nil =>
        have hb : begins e t.pages[j] = false := by simp [begins, hpe]
        rw [hb] at hp
        simp [loopAt, loopsOf, Tryz.f229, dd, h2, h3, o0, o1, h5, h6, hjl, hj', hxj, hw, hpe]
        exact ⟨k, rfl, hp⟩
      | cons f r =>
        have hsl := specLess e f
        have hpos : (0 : Int) < (r.length : Int) + 1 := by omega
        try simp at hsl
        cases hb : entLt e f with
        | true =>
          have hbe : begins e t.pages[j] = false := by simp [begins, hpe, hb]
          rw [hbe] at hp
          rw [hb] at hsl
          simp [loopAt, loopsOf, Tryz.f229, dd, h2, h3, o0, o1, h5, h6, hjl, hj', hxj, hw, hpe, hsl, hpos]
          exact ⟨k, rfl, hp⟩
        | false =>
          have hbe : begins e t.pages[j] = true := by simp [begins, hpe, hb]
          rw [hbe] at hp
          rw [hb] at hsl
          simp [loopAt, loopsOf, Tryz.f229, dd, h2, h3, o0, o1, h5, h6, hjl, hj', hxj, hw, hpe, hsl, hpos]
          exact ⟨j, rfl, hp⟩)
    (by
      rintro s o q ⟨k, h2, h3, o0, o1, h5, h6, hp⟩
      have hd : t.pages.drop (1 + (t.pages.length - 1)) = [] := List.drop_of_length_le (by omega)
      rw [hd, placeGo] at hp
      have hn : ¬ ((1 + (t.pages.length - 1) : Nat) : Int) < (t.pages.length : Int) := by omega
      rw [hp]
      generalize 1 + (t.pages.length - 1) = z at *
      simp [loopAt, loopsOf, Tryz.f229, dd, h2, h3, o0, o1, h5, h6, hn])
    (t.pages.length - 1) 0 s o q (by omega) ⟨0, hI.1, hI.2.1, hI.2.2.1, hI.2.2.2.1, hI.2.2.2.2.1, hI.2.2.2.2.2, by
      cases hp : t.pages with
      | nil => rfl
      | cons p r => exact place_one e p r⟩)
  simp only [loopAt, loopsOf, Tryz.f229] at hx
  simp at hx
  simp [hx]
theorem implPlace (t : Tr) (e : Ent) (hl : t.pages.length < 4294967296) : run E (.call 199 [.t (treeT t), .t (entT e)]) = some (.res [xI (placeP e t.pages : Nat)] []) := by
  rw [run_call E 199 _ rfl Tryz.func199 rfl rfl rfl (by simp)]
  have d5 := d199_5
  simp [regionOf, findR, pick, Tryz.f199] at d5
  have dd := fun st => run_region_draw E st 5 _ d5
  clear d5
  obtain ⟨X, A, B, C, hx⟩ := sk (fun s o q (hI : s 3 = .ptr 1 0 ∧ o 1 = .box 228 [.t (.str e.key), .t (.int .i64 e.id)] ∧ s 5 = .t (.int .i64 0) ∧ s 9 = .t (.list (t.pages.map pgT)) ∧ s 10 = .t (.int .i64 t.pages.length) ∧ s 11 = .t (.int .i64 0) ∧ 1 < q) => loop_for (c := loopAt Tryz.f199 0) (N := 32)
    (fun i s o q => ∃ k : Nat, s 3 = .ptr 1 0 ∧ o 1 = .box 228 [.t (.str e.key), .t (.int .i64 e.id)] ∧ s 5 = .t (.int .i64 k) ∧ s 9 = .t (.list (t.pages.map pgT)) ∧ s 10 = .t (.int .i64 t.pages.length) ∧ s 11 = .t (.int .i64 i) ∧ 1 < q ∧ placeP e t.pages = placeGo e i k (t.pages.drop i))
    (fun e' s' o' q' => e' = .exit 0 ∧ s' 5 = .t (.int .i64 (placeP e t.pages : Nat)))
    t.pages.length
    (by
      rintro j s o q hjl ⟨k, h3, o1, h5, h9, h10, h11, hq, hp⟩
      have hj' : (j : Int) < (t.pages.length : Int) := by omega
      have hxj : t.pages[j]? = some t.pages[j] := List.getElem?_eq_getElem hjl
      have hw := wrap_succ (n := j) (by omega)
      obtain ⟨a1, a2, a3⟩ : 1 ≠ q ∧ q ≠ 1 ∧ 1 < q + 1 := ⟨by omega, by omega, by omega⟩
      rw [List.drop_eq_getElem_cons hjl, placeGo] at hp
      cases hpe : t.pages[j].ents with
      | nil =>
        have hb : begins e t.pages[j] = false := by simp [begins, hpe]
        rw [hb] at hp
        simp [loopAt, loopsOf, Tryz.f199, dd, h3, o1, h5, h9, h10, h11, hjl, hj', hxj, hw, hpe, a1, a2, a3]
        exact ⟨k, rfl, hp⟩
      | cons f r =>
        have hsl := compareEnt f e
        have hpos : (0 : Int) < (r.length : Int) + 1 := by omega
        have hle := entCmp_le f e
        try simp at hsl
        cases hb : entLt e f with
        | true =>
          have hbe : begins e t.pages[j] = false := by simp [begins, hpe, hb]
          rw [hbe] at hp
          rw [hb] at hle
          simp at hle
          have hle' : ¬ entCmp f e ≤ 0 := by omega
          simp [loopAt, loopsOf, Tryz.f199, dd, h3, o1, h5, h9, h10, h11, hjl, hj', hxj, hw, hpe, hsl, hpos, hle', a1, a2, a3]
          exact ⟨k, rfl, hp⟩
        | false =>
          have hbe : begins e t.pages[j] = true := by simp [begins, hpe, hb]
          rw [hbe] at hp
          rw [hb] at hle
          simp at hle
          simp [loopAt, loopsOf, Tryz.f199, dd, h3, o1, h5, h9, h10, h11, hjl, hj', hxj, hw, hpe, hsl, hpos, hle, a1, a2, a3]
          exact ⟨j, rfl, hp⟩)
    (by
      rintro s o q ⟨k, h3, o1, h5, h9, h10, h11, hq, hp⟩
      rw [List.drop_of_length_le (Nat.le_refl _), placeGo] at hp
      rw [hp]
      simp [loopAt, loopsOf, Tryz.f199, dd, h3, o1, h5, h9, h10, h11])
    t.pages.length 0 s o q (by omega) ⟨0, hI.1, hI.2.1, hI.2.2.1, hI.2.2.2.1, hI.2.2.2.2.1, hI.2.2.2.2.2.1, hI.2.2.2.2.2.2, rfl⟩)
  simp only [loopAt, loopsOf, Tryz.f199] at hx
  simp at hx
  simp [hx]
def lastE : Option Ent → Ent
  | none => ⟨[], -1⟩
  | some e => e
abbrev boxE (l : Option Ent) : Ob := .box 228 [.t (.str (lastE l).key), .t (.int .i64 (lastE l).id)]
theorem ahead_last (l : Option Ent) (e : Ent) (h : entOK e = true) : aheadO l e = entLt (lastE l) e := by
  cases l with
  | some x => rfl
  | none =>
    unfold entOK in1 at h
    simp only [Bool.and_eq_true, decide_eq_true_eq] at h
    unfold aheadO lastE entLt
    symm
    simp only [Bool.or_eq_true, Bool.and_eq_true, beq_iff_eq, decide_eq_true_eq]
    cases hk : e.key with
    | nil => exact .inr ⟨rfl, by omega⟩
    | cons x r => exact .inl rfl
theorem streeNums0 (ps : List Pg) (hl : ps.length < 4294967296) (nxt n : Int) (es : List T) (i P : Nat) (hi : i < ps.length) (O : Os) (Q : Nat) (h0 : O 0 = .box 127 [.t (.list (ps.map pgT)), .t (.int .i64 nxt)]) (hP : O P = .box 185 [.t (.int .i64 n), .t (.list es)]) : ∀ s o q, (s 1 = .ptr 0 0 ∧ s 3 = .ptr 1 0 ∧ s 4 = .t (.int .i64 i) ∧ s 5 = .ptr P 0 ∧ s 6 = .t (.int .i64 0) ∧ o = O ∧ q = Q) →
    ∃ e s' o' q', run E (.code (.loop (loopAt Tryz.f183 1)) ⟨s, o, q, 100⟩) = some (.st e ⟨s', o', q', 100⟩) ∧ ((((ps.take i).map Pg.num).contains n = true → e = .ret ∧ s' 2 = .t (.bool false)) ∧ (((ps.take i).map Pg.num).contains n = false → e = .exit 2 ∧ s' 1 = .ptr 0 0 ∧ s' 3 = .ptr 1 0 ∧ s' 4 = .t (.int .i64 i) ∧ s' 5 = .ptr P 0 ∧ o' = O ∧ q' = Q)) := by
  intro s o q hI
  have d13 := d183_13
  simp [regionOf, findR, pick, Tryz.f183] at d13
  have dd := fun st => run_region_draw E st 13 _ d13
  clear d13
  refine loop_for (c := loopAt Tryz.f183 1) (N := 100)
    (fun k s o q => s 1 = .ptr 0 0 ∧ s 3 = .ptr 1 0 ∧ s 4 = .t (.int .i64 i) ∧ s 5 = .ptr P 0 ∧ s 6 = .t (.int .i64 k) ∧ o = O ∧ q = Q ∧ ((ps.take k).map Pg.num).contains n = false)
    (fun e s' o' q' => ((((ps.take i).map Pg.num).contains n = true → e = .ret ∧ s' 2 = .t (.bool false)) ∧ (((ps.take i).map Pg.num).contains n = false → e = .exit 2 ∧ s' 1 = .ptr 0 0 ∧ s' 3 = .ptr 1 0 ∧ s' 4 = .t (.int .i64 i) ∧ s' 5 = .ptr P 0 ∧ o' = O ∧ q' = Q))) i ?_ ?_
    i 0 s o q (by omega) ⟨hI.1, hI.2.1, hI.2.2.1, hI.2.2.2.1, hI.2.2.2.2.1, hI.2.2.2.2.2.1, hI.2.2.2.2.2.2, by simp⟩
  · rintro k s o q hk ⟨h1, h3, h4, h5, h6, rfl, rfl, hc⟩
    have hk' : (k : Int) < (i : Int) := by omega
    have hkl : k < ps.length := by omega
    have hxk : ps[k]? = some ps[k] := List.getElem?_eq_getElem hkl
    have hw := wrap_succ (n := k) (by omega)
    by_cases he : ps[k].num = n
    · have hT : ((ps.take i).map Pg.num).contains n = true := by
        rw [List.contains_iff_mem, List.mem_map]
        refine ⟨ps[k], ?_, he⟩
        exact List.mem_iff_getElem.2 ⟨k, by simp; omega, by simp⟩
      rw [hT]
      simp [loopAt, loopsOf, Tryz.f183, dd, h1, h3, h4, h5, h6, h0, hP, hk', hkl, hxk, he]
    · have hn : ((ps.take (k + 1)).map Pg.num).contains n = false := by
        rw [List.take_add_one, hxk, List.map_append, List.contains_append, hc]
        simp
        exact fun h => he h.symm
      have hn' : ∀ x ∈ ps.take (k + 1), ¬ x.num = n := by
        intro x hx e
        rw [Bool.eq_false_iff] at hn
        exact hn (by rw [List.contains_iff_mem, List.mem_map]; exact ⟨x, hx, e⟩)
      simp [-List.contains_eq_mem, -List.map_take, loopAt, loopsOf, Tryz.f183, dd, h1, h3, h4, h5, h6, h0, hP, hk', hkl, hxk, he, hw]
      exact fun x hx e => hn' x hx e.symm
  · rintro s o q ⟨h1, h3, h4, h5, h6, rfl, rfl, hc⟩
    rw [hc]
    simp [loopAt, loopsOf, Tryz.f183, dd, h1, h3, h4, h5, h6, h0, hP]
theorem streeNums (ps : List Pg) (hl : ps.length < 4294967296) (nxt n : Int) (es : List T) (i P : Nat) (hi : i < ps.length) : ∀ s o q, (s 1 = .ptr 0 0 ∧ s 3 = .ptr 1 0 ∧ s 4 = .t (.int .i64 i) ∧ s 5 = .ptr P 0 ∧ s 6 = .t (.int .i64 0) ∧ o 0 = .box 127 [.t (.list (ps.map pgT)), .t (.int .i64 nxt)] ∧ o P = .box 185 [.t (.int .i64 n), .t (.list es)]) →
    ∃ e s' o' q', run E (.code (.loop (loopAt Tryz.f183 1)) ⟨s, o, q, 100⟩) = some (.st e ⟨s', o', q', 100⟩) ∧ ((((ps.take i).map Pg.num).contains n = true → e = .ret ∧ s' 2 = .t (.bool false)) ∧ (((ps.take i).map Pg.num).contains n = false → e = .exit 2 ∧ s' 1 = .ptr 0 0 ∧ s' 3 = .ptr 1 0 ∧ s' 4 = .t (.int .i64 i) ∧ s' 5 = .ptr P 0 ∧ o' = o ∧ q' = q)) :=
  fun s o q h => streeNums0 ps hl nxt n es i P hi o q h.2.2.2.2.2.1 h.2.2.2.2.2.2 s o q ⟨h.1, h.2.1, h.2.2.1, h.2.2.2.1, h.2.2.2.2.1, rfl, rfl⟩
theorem streeEnts (ents : List Ent) (hl : ents.length < 4294967296) (hk : ∀ e ∈ ents, e.key.length < 4294967296) (B0 : Ob) (n : Int) (P i : Nat) (hP1 : P ≠ 1) (l : Option Ent) (Q : Nat) : ∀ s o q, (s 1 = .ptr 0 0 ∧ s 3 = .ptr 1 0 ∧ s 4 = .t (.int .i64 i) ∧ s 5 = .ptr P 0 ∧ s 7 = .t (.int .i64 0) ∧ o 0 = B0 ∧ o 1 = boxE l ∧ o P = .box 185 [.t (.int .i64 n), .t (.list (ents.map entT))] ∧ q = Q) →
    ∃ e s' o' q', run E (.code (.loop (loopAt Tryz.f183 2)) ⟨s, o, q, 100⟩) = some (.st e ⟨s', o', q', 100⟩) ∧ ((entsGo l ents = false → e = .ret ∧ s' 2 = .t (.bool false)) ∧ (entsGo l ents = true → e = .exit 4 ∧ s' 1 = .ptr 0 0 ∧ s' 3 = .ptr 1 0 ∧ s' 4 = .t (.int .i64 i) ∧ o' 0 = B0 ∧ o' 1 = boxE (lastOf l ents) ∧ q' = Q)) := by
  intro s o q hI
  have d18 := d183_18
  simp [regionOf, findR, pick, Tryz.f183] at d18
  have dd := fun st => run_region_draw E st 18 _ d18
  clear d18
  obtain ⟨b, hb⟩ : ∃ b, b = entsGo l ents := ⟨_, rfl⟩
  obtain ⟨L, hL⟩ : ∃ L, L = lastOf l ents := ⟨_, rfl⟩
  rw [← hb, ← hL]
  have h1P : 1 ≠ P := fun e => hP1 e.symm
  refine loop_for (c := loopAt Tryz.f183 2) (N := 100)
    (fun k s o q => ∃ l', s 1 = .ptr 0 0 ∧ s 3 = .ptr 1 0 ∧ s 4 = .t (.int .i64 i) ∧ s 5 = .ptr P 0 ∧ s 7 = .t (.int .i64 k) ∧ o 0 = B0 ∧ o 1 = boxE l' ∧ o P = .box 185 [.t (.int .i64 n), .t (.list (ents.map entT))] ∧ q = Q ∧ b = entsGo l' (ents.drop k) ∧ L = lastOf l' (ents.drop k))
    (fun e s' o' q' => (b = false → e = .ret ∧ s' 2 = .t (.bool false)) ∧ (b = true → e = .exit 4 ∧ s' 1 = .ptr 0 0 ∧ s' 3 = .ptr 1 0 ∧ s' 4 = .t (.int .i64 i) ∧ o' 0 = B0 ∧ o' 1 = boxE L ∧ q' = Q)) ents.length ?_ ?_
    ents.length 0 s o q (by omega) ⟨l, hI.1, hI.2.1, hI.2.2.1, hI.2.2.2.1, hI.2.2.2.2.1, hI.2.2.2.2.2.1, hI.2.2.2.2.2.2.1, hI.2.2.2.2.2.2.2.1, hI.2.2.2.2.2.2.2.2, hb, hL⟩
  · rintro k s o q hkl ⟨l', h1, h3, h4, h5, h7, o0, o1, oP, rfl, hb, hL⟩
    have hk' : (k : Int) < (ents.length : Int) := by omega
    have hxk : ents[k]? = some ents[k] := List.getElem?_eq_getElem hkl
    have hw := wrap_succ (n := k) (by omega)
    have he := specEntry ents[k] (hk _ (List.getElem_mem hkl))
    have hs := specLess (lastE l') ents[k]
    rw [List.drop_eq_getElem_cons hkl, entsGo] at hb
    rw [List.drop_eq_getElem_cons hkl, lastOf] at hL
    try simp at he hs
    cases hok : entOK ents[k] with
    | false =>
      rw [hok] at hb he
      simp at hb
      subst hb
      simp [loopAt, loopsOf, Tryz.f183, dd, h1, h3, h4, h5, h7, o0, o1, oP, hkl, hk', hxk, he]
    | true =>
      have ha := ahead_last l' ents[k] hok
      rw [hok, ha] at hb
      rw [hok] at he
      cases hlt : entLt (lastE l') ents[k] with
      | false =>
        rw [hlt] at hb hs
        simp at hb
        subst hb
        simp [loopAt, loopsOf, Tryz.f183, dd, h1, h3, h4, h5, h7, o0, o1, oP, hkl, hk', hxk, he, hs]
      | true =>
        rw [hlt] at hb hs
        simp at hb
        simp [loopAt, loopsOf, Tryz.f183, dd, h1, h3, h4, h5, h7, o0, o1, oP, hkl, hk', hxk, he, hs, hw, hP1, h1P]
        exact ⟨some ents[k], by simp [lastE], hb, hL⟩
  · rintro s o q ⟨l', h1, h3, h4, h5, h7, o0, o1, oP, rfl, hb, hL⟩
    rw [List.drop_of_length_le (Nat.le_refl _)] at hb hL
    rw [entsGo] at hb
    rw [lastOf] at hL
    subst hb
    subst hL
    simp [loopAt, loopsOf, Tryz.f183, dd, h1, h3, h4, h5, h7, o0, o1, oP]
theorem specTreeOK (t : Tr) (h : t.Sm) : run E (.call 183 [.t (treeT t)]) = some (.res [xB (treeOK t)] []) := by
  rw [run_call E 183 _ rfl Tryz.func183 rfl rfl rfl (by simp)]
  rw [treeOK_pages]
  have hl := h.1
  have hin1 := l01In1 (t.pages.length : Int) 1 60
  have hin2 := l01In1 t.next 2 100000
  cases hz1 : in1 1 60 (t.pages.length : Int) with
  | false =>
    rw [hz1] at hin1
    try simp at hin1
    simp [hin1]
  | true =>
    rw [hz1] at hin1
    cases hz2 : in1 2 100000 t.next with
    | false =>
      rw [hz2] at hin2
      try simp at hin1 hin2
      simp [hin1, hin2]
    | true =>
      rw [hz2] at hin2
      have hnx : 2 ≤ t.next ∧ t.next ≤ 100000 := by
        unfold in1 at hz2
        simpa using hz2
      have hwn : IntKind.i64.wrap (t.next - 1) = t.next - 1 := wrap_of (by omega) (by omega)
      obtain ⟨b, hb⟩ : ∃ b, b = pagesGo t.pages.length t.next [] none t.pages := ⟨_, rfl⟩
      rw [← hb]
      obtain ⟨X, A, B, C, hx⟩ := sk (fun s o q (hI : s 1 = .ptr 0 0 ∧ s 3 = .ptr 1 0 ∧ s 4 = .t (.int .i64 0) ∧ o 0 = .box 127 [.t (.list (t.pages.map pgT)), .t (.int .i64 t.next)] ∧ o 1 = boxE none ∧ 1 < q) => loop_for (c := loopAt Tryz.f183 0) (N := 100)
        (fun i s o q => ∃ l, s 1 = .ptr 0 0 ∧ s 3 = .ptr 1 0 ∧ s 4 = .t (.int .i64 i) ∧ o 0 = .box 127 [.t (.list (t.pages.map pgT)), .t (.int .i64 t.next)] ∧ o 1 = boxE l ∧ 1 < q ∧ b = pagesGo t.pages.length t.next ((t.pages.take i).map Pg.num) l (t.pages.drop i))
        (fun e s' o' q' => (b = false → e = .ret ∧ s' 2 = .t (.bool false)) ∧ (b = true → e = .exit 0))
        t.pages.length
        (by
          rintro i s o q hi ⟨l, h1, h3, h4, o0, o1, hq, hb⟩
          have hi' : (i : Int) < (t.pages.length : Int) := by omega
          have hxi : t.pages[i]? = some t.pages[i] := List.getElem?_eq_getElem hi
          have hw := wrap_succ (n := i) (by omega)
          obtain ⟨a1, a2, a3, a4, a5⟩ : 1 ≠ q ∧ q ≠ 1 ∧ 0 ≠ q ∧ q ≠ 0 ∧ 1 < q + 1 := ⟨by omega, by omega, by omega, by omega, by omega⟩
          have hp := h.2 _ (List.getElem_mem hi)
          have hin := l01In1 t.pages[i].num 1 (t.next - 1)
          rw [List.drop_eq_getElem_cons hi, pagesGo] at hb
          generalize hpg : t.pages[i] = p at *
          unfold pageFine at hb
          try simp at hin
          cases hz3 : in1 1 (t.next - 1) p.num with
          | false =>
            rw [hz3] at hb hin
            simp at hb
            subst hb
            simp [loopAt, loopsOf, Tryz.f183, h1, h3, h4, o0, o1, hi, hi', hxi, hpg, hwn, hin, a1, a2, a3, a4]
          | true =>
            rw [hz3] at hb hin
            by_cases hle : p.ents.length ≤ 4
            · have hle' : ¬ (4 : Int) < (p.ents.length : Int) := by omega
              by_cases hem : p.ents = [] ∧ 1 < t.pages.length
              · have hem2 : (1 : Int) < (t.pages.length : Int) := by omega
                have hbf : b = false := by rw [hb]; simp [hem.1, hem.2]
                subst hbf
                simp [loopAt, loopsOf, Tryz.f183, h1, h3, h4, o0, o1, hi, hi', hxi, hpg, hwn, hin, a1, a2, a3, a4, hem.1, hem.2, hem2]
              · have hfine : (!(p.ents.isEmpty && decide (1 < t.pages.length))) = true := by
                  simp only [Bool.not_eq_true', Bool.and_eq_false_iff, List.isEmpty_iff, decide_eq_false_iff_not]
                  cases hpe : p.ents with
                  | nil => right; intro hh; exact hem ⟨hpe, hh⟩
                  | cons x r => left; rfl
                have hc1 : ((p.ents.length : Int) = 0 ∧ (1 : Int) < (t.pages.length : Int)) = False := by
                  refine eq_false fun hh => hem ⟨List.length_eq_zero_iff.1 (by omega), by omega⟩
                have hc2 : (p.ents = [] ∧ (1 : Int) < (t.pages.length : Int)) = False := by
                  refine eq_false fun hh => hem ⟨hh.1, by omega⟩
                rw [hfine] at hb
                have hdl : decide (p.ents.length ≤ 4) = true := by simpa using hle
                rw [hdl] at hb
                obtain ⟨X1, A1, B1, C1, hx1⟩ := sk (streeNums t.pages (by omega) t.next p.num (p.ents.map entT) i q hi)
                obtain ⟨X2, A2, B2, C2, hx2⟩ := sk (streeEnts p.ents hp.1 hp.2 (.box 127 [.t (.list (t.pages.map pgT)), .t (.int .i64 t.next)]) p.num q i a2 l (q + 1))
                simp only [loopAt, loopsOf, Tryz.f183] at hx1 hx2
                cases hcn : ((t.pages.take i).map Pg.num).contains p.num with
                | true =>
                  rw [hcn] at hb hx1
                  simp at hb
                  subst hb
                  simp at hx1
                  by_cases hpe : p.ents = []
                  · have hmany : ¬ (1 : Int) < (t.pages.length : Int) := fun hh => hem ⟨hpe, by omega⟩
                    simp [loopAt, loopsOf, Tryz.f183, h1, h3, h4, o0, o1, hi, hi', hxi, hpg, hwn, hin, a1, a2, a3, a4, hpe, hmany, hx1]
                  · have hpl : ¬ p.ents.length = 0 := fun hh => hpe (List.length_eq_zero_iff.1 hh)
                    have hq0 : ((p.ents.length : Int) == 0) = false := by simp; omega
                    simp [loopAt, loopsOf, Tryz.f183, h1, h3, h4, o0, o1, hi, hi', hxi, hpg, hwn, hin, a1, a2, a3, a4, hpe, hpl, hq0, hle', hx1]
                | false =>
                  rw [hcn] at hb hx1
                  simp at hb
                  simp at hx1
                  cases heg : entsGo l p.ents with
                  | false =>
                    rw [heg] at hb hx2
                    simp at hb hx2
                    subst hb
                    by_cases hpe : p.ents = []
                    · rw [hpe] at heg; simp [entsGo] at heg
                    · have hpl : ¬ p.ents.length = 0 := fun hh => hpe (List.length_eq_zero_iff.1 hh)
                      have hq0 : ((p.ents.length : Int) == 0) = false := by simp; omega
                      simp [loopAt, loopsOf, Tryz.f183, h1, h3, h4, o0, o1, hi, hi', hxi, hpg, hwn, hin, a1, a2, a3, a4, hpe, hpl, hq0, hle', hx1, hx2]
                  | true =>
                    rw [heg] at hb hx2
                    simp at hb hx2
                    have htk : (t.pages.take (i + 1)).map Pg.num = (t.pages.take i).map Pg.num ++ [p.num] := by
                      rw [List.take_add_one, hxi]; simp
                    by_cases hpe : p.ents = []
                    · have hmany : ¬ (1 : Int) < (t.pages.length : Int) := fun hh => hem ⟨hpe, by omega⟩
                      simp [loopAt, loopsOf, Tryz.f183, h1, h3, h4, o0, o1, hi, hi', hxi, hpg, hwn, hin, a1, a2, a3, a4, a5, hpe, hmany, hx1, hx2, hw]
                      exact ⟨lastOf l p.ents, by rw [hpe]; exact ⟨rfl, rfl⟩, by rw [List.map_take] at htk; rw [htk]; simpa using hb⟩
                    · have hpl : ¬ p.ents.length = 0 := fun hh => hpe (List.length_eq_zero_iff.1 hh)
                      have hq0 : ((p.ents.length : Int) == 0) = false := by simp; omega
                      simp [loopAt, loopsOf, Tryz.f183, h1, h3, h4, o0, o1, hi, hi', hxi, hpg, hwn, hin, a1, a2, a3, a4, a5, hpe, hpl, hq0, hle', hx1, hx2, hw]
                      exact ⟨lastOf l p.ents, ⟨rfl, rfl⟩, by rw [List.map_take] at htk; rw [htk]; simpa using hb⟩
            · have hle' : (4 : Int) < (p.ents.length : Int) := by omega
              have hbf : b = false := by
                rw [hb]
                have : decide (p.ents.length ≤ 4) = false := by simpa using hle
                rw [this]; simp
              subst hbf
              simp [loopAt, loopsOf, Tryz.f183, h1, h3, h4, o0, o1, hi, hi', hxi, hpg, hwn, hin, hle', a1, a2, a3, a4])
        (by
          rintro s o q ⟨l, h1, h3, h4, o0, o1, hq, hb⟩
          rw [List.drop_of_length_le (Nat.le_refl _), pagesGo] at hb
          subst hb
          simp [loopAt, loopsOf, Tryz.f183, h1, h3, h4, o0, o1])
        t.pages.length 0 s o q (by omega) ⟨none, hI.1, hI.2.1, hI.2.2.1, hI.2.2.2.1, hI.2.2.2.2.1, hI.2.2.2.2.2, by simpa using hb⟩)
      simp only [loopAt, loopsOf, Tryz.f183] at hx
      simp [boxE, lastE] at hx
      try simp at hin1 hin2
      cases b with
      | true => simp at hx; simp [hin1, hin2, hx]
      | false => simp at hx; simp [hin1, hin2, hx]
abbrev numT (n : Int) : T := .int .i64 n
theorem index271 (xs : List Int) (n : Int) (hl : xs.length < 4294967296) : run E (.call 271 [.t (.list (xs.map numT)), xI n]) = some (.res [xI (idxP (fun x => x == n) xs)] []) := by
  rw [run_call E 271 _ rfl Tryz.func271 rfl rfl rfl (by simp)]
  have lp := fun (r : Int) (hr : r = idxP (fun x => x == n) xs) => sk (fun s o q hI => loop_for (c := loopAt Tryz.f271 0) (N := 19)
    (fun i s o q => s 0 = .t (.list (xs.map numT)) ∧ s 1 = .t (.int .i64 n) ∧ s 7 = .t (.int .i64 xs.length) ∧ s 8 = .t (.int .i64 i) ∧ r = if idxP (fun x => x == n) (xs.drop i) < 0 then -1 else idxP (fun x => x == n) (xs.drop i) + i)
    (fun e s' o' q' => e = (if r < 0 then .exit 0 else .ret) ∧ (0 ≤ r → s' 4 = .t (.int .i64 r))) xs.length
    (by
      rintro i s o q hi ⟨h0, h1, h7, h8, hr⟩
      have hd : xs.drop i = xs[i] :: xs.drop (i + 1) := by rw [List.drop_eq_getElem_cons hi]
      have hi' : (i : Int) < (xs.length : Int) := by omega
      have hw := wrap_succ (n := i) (by omega)
      have hxi : xs[i]? = some xs[i] := List.getElem?_eq_getElem hi
      rw [hd, idxP] at hr
      by_cases hpx : xs[i] = n
      · simp [hpx] at hr
        have hr' : ¬ r < 0 := by omega
        have hpx' : n = xs[i] := hpx.symm
        simp [loopAt, loopsOf, Tryz.f271, h0, h1, h7, h8, hi, hi', hxi, hpx, hw, hr', hr]
      · simp [hpx] at hr
        have hpx' : ¬ n = xs[i] := fun e => hpx e.symm
        have hr2 : r = if idxP (fun x => x == n) (xs.drop (i + 1)) < 0 then -1 else idxP (fun x => x == n) (xs.drop (i + 1)) + ((i : Int) + 1) := by
          rw [hr]
          by_cases hq : idxP (fun x => x == n) (xs.drop (i + 1)) < 0
          · simp [hq]
          · have : ¬ idxP (fun x => x == n) (xs.drop (i + 1)) + 1 < 0 := by omega
            simp [hq, this]; omega
        clear hr
        simp [loopAt, loopsOf, Tryz.f271, h0, h1, h7, h8, hi, hi', hxi, hpx, hpx', hw]
        exact hr2)
    (by
      rintro s o q ⟨h0, h1, h7, h8, hr⟩
      simp [idxP] at hr
      simp [loopAt, loopsOf, Tryz.f271, h0, h1, h7, h8, hr])
    xs.length 0 s o q (by omega) hI)
  simp only [loopAt, loopsOf, Tryz.f271] at lp
  obtain ⟨X, A, B, C, hx⟩ := lp _ rfl
  have hz : idxP (fun x => x == n) xs = if idxP (fun x => x == n) xs < 0 then -1 else idxP (fun x => x == n) xs := by
    cases xs with
    | nil => simp [idxP]
    | cons x r =>
      unfold idxP
      split
      · simp
      · split
        · simp
        · have : ¬ idxP (fun x => x == n) r + 1 < 0 := by omega
          simp [this]
  simp [← hz] at hx
  by_cases h : idxP (fun x => x == n) xs < 0
  · have h1 : idxP (fun x => x == n) xs = -1 := by rw [hz]; simp [h]
    simp [h] at hx
    simp [hx, h1]
  · have h2 : 0 ≤ idxP (fun x => x == n) xs := by omega
    simp [h, h2] at hx
    simp [hx]
theorem idx_contains (n : Int) : ∀ xs : List Int, (0 ≤ idxP (fun x => x == n) xs) ↔ xs.contains n = true
  | [] => by simp [idxP]
  | x :: r => by
    have ih := idx_contains n r
    rw [idxP]
    by_cases h : x = n
    · simp [h]
    · have h' : ¬ n = x := fun e => h e.symm
      rw [List.contains_cons]
      simp only [beq_iff_eq, h, if_false]
      have hb : (n == x) = false := by simpa using h'
      rw [hb, Bool.false_or, ← ih]
      split <;> omega
theorem contains236 (xs : List Int) (n : Int) (hl : xs.length < 4294967296) : run E (.call 236 [.t (.list (xs.map numT)), xI n]) = some (.res [xB (xs.contains n)] []) := by
  rw [run_call E 236 _ rfl Tryz.func236 rfl rfl rfl (by simp)]
  have h := index271 xs n hl
  have hc := idx_contains n xs
  try simp at h
  cases hb : xs.contains n with
  | true =>
    have h0 := hc.2 hb
    simp [h, h0]
  | false =>
    have h0 : ¬ 0 ≤ idxP (fun x => x == n) xs := fun hh => by rw [hc.1 hh] at hb; cases hb
    have h1 : idxP (fun x => x == n) xs < 0 := by omega
    simp [h, h1, h0]
theorem entriesOf (t : Tr) (hl : t.pages.length < 4294967296) (hs : (allE t).length ≤ 100000000) : run E (.call 83 [.t (treeT t)]) = some (.res [.row 228 ((allE t).map entT)] []) := by
  rw [run_call E 83 _ rfl Tryz.func83 rfl rfl rfl (by simp)]
  obtain ⟨X, A, B, C, M, hx⟩ := sk1 (fun s o q (hI : s 3 = .row 1 ∧ o 1 = .row 228 [] true ∧ s 8 = .t (.list (t.pages.map pgT)) ∧ s 9 = .t (.int .i64 t.pages.length) ∧ s 10 = .t (.int .i64 0) ∧ 1 < q) => loop_for (c := loopAt Tryz.f83 0) (N := 20)
    (fun i s o q => ∃ r : Nat, s 3 = .row r ∧ o r = .row 228 (((t.pages.take i).flatMap Pg.ents).map entT) true ∧ s 8 = .t (.list (t.pages.map pgT)) ∧ s 9 = .t (.int .i64 t.pages.length) ∧ s 10 = .t (.int .i64 i) ∧ r < q)
    (fun e s' o' q' => ∃ r : Nat, (e = .exit 0 ∧ s' 3 = .row r ∧ o' r = .row 228 ((allE t).map entT) true))
    t.pages.length
    (by
      rintro i s o q hi ⟨r, h3, oR, h8, h9, h10, hr⟩
      have hi' : (i : Int) < (t.pages.length : Int) := by omega
      have hxi : t.pages[i]? = some t.pages[i] := List.getElem?_eq_getElem hi
      have hw := wrap_succ (n := i) (by omega)
      have htk : (t.pages.take (i + 1)).flatMap Pg.ents = (t.pages.take i).flatMap Pg.ents ++ t.pages[i].ents := by
        rw [List.take_add_one, hxi, List.flatMap_append]; simp
      have hsum : ((t.pages.take i).flatMap Pg.ents).length + t.pages[i].ents.length ≤ (allE t).length := by
        have h1 : (allE t) = (t.pages.take (i + 1)).flatMap Pg.ents ++ (t.pages.drop (i + 1)).flatMap Pg.ents := by
          rw [allE, ← List.flatMap_append, List.take_append_drop]
        rw [h1, htk]; simp
      rw [htk]
      generalize (t.pages.take i).flatMap Pg.ents = Z at *
      have hc3 : Z.length + t.pages[i].ents.length ≤ 140737488355328 := by omega
      have hc4 : (Z.length + t.pages[i].ents.length) * 24 ≤ 140737488355328 := by omega
      obtain ⟨a1, a2, a3⟩ : r ≠ q ∧ q ≠ r ∧ r ≠ q + 1 := ⟨by omega, by omega, by omega⟩
      simp [loopAt, loopsOf, Tryz.f83, h3, oR, h8, h9, h10, hi, hi', hxi, hw, hc3, hc4, a1, a2, a3])
    (by
      rintro s o q ⟨r, h3, oR, h8, h9, h10, hr⟩
      rw [List.take_of_length_le (Nat.le_refl _)] at oR
      simp [loopAt, loopsOf, Tryz.f83, h3, oR, h8, h9, h10, allE])
    t.pages.length 0 s o q (by omega) ⟨1, hI.1, by simpa using hI.2.1, hI.2.2.1, hI.2.2.2.1, hI.2.2.2.2.1, hI.2.2.2.2.2⟩)
  simp only [loopAt, loopsOf, Tryz.f83] at hx
  simp at hx
  simp [hx]
/-- One ahead of a place. -/
def prevO (l : List Ent) : Nat → Option Ent
  | 0 => none
  | k + 1 => l[k]?
theorem entCmp_lt (a b : Ent) : (entCmp a b < 0) = (entLt a b = true) := by
  unfold entCmp entLt orI
  have h1 := compareBytes_lt a.key b.key
  have h2 := compareBytes_eq a.key b.key
  have h3 := cmpI_lt a.id b.id
  by_cases hk : a.key = b.key
  · have hz : Lib.compareBytes a.key b.key = 0 := by rw [h2]; exact hk
    have hb : Op.bytesLess a.key b.key = false := by rw [hk]; exact bytesLess_irrefl _
    have hq : (a.key == b.key) = true := by simpa using hk
    rw [if_pos hz, hb, hq, h3]
    simp
  · have hz : Lib.compareBytes a.key b.key ≠ 0 := by rw [Ne, h2]; exact hk
    have hq : (a.key == b.key) = false := by simpa using hk
    rw [if_neg hz, hq, h1]
    simp
def rwN : SV → Nat
  | .row r => r
  | _ => 0
@[simp] theorem rwN_row (r : Nat) : rwN (.row r) = r := rfl
theorem itree_ents (l : List Ent) (hl : l.length < 4294967296) (hk : ∀ e ∈ l, e.key.length < 4294967296) : ∀ s o q, (s 6 = .row (rwN (s 6)) ∧ s 67 = .row (rwN (s 6)) ∧ o (rwN (s 6)) = .row 228 (l.map entT) true ∧ s 68 = .t (.int .i64 l.length) ∧ s 69 = .t (.int .i64 0) ∧ rwN (s 6) < q) →
    ∃ e s' o' q', run E (.code (.loop (loopAt Tryz.f194 1)) ⟨s, o, q, 92⟩) = some (.st e ⟨s', o', q', 92⟩) ∧ ((entsGo none l = false → e = .ret ∧ s' 2 = .t (.bool false)) ∧ (entsGo none l = true → e = .exit 2)) := by
  intro s o q hI
  obtain ⟨R, hR⟩ : ∃ R, R = rwN (s 6) := ⟨_, rfl⟩
  rw [← hR] at hI
  clear hR
  have d15 := d194_15
  simp [regionOf, findR, pick, Tryz.f194] at d15
  have dd := fun st => run_region_draw E st 15 _ d15
  clear d15
  obtain ⟨b, hb⟩ : ∃ b, b = entsGo none l := ⟨_, rfl⟩
  rw [← hb]
  refine loop_for (c := loopAt Tryz.f194 1) (N := 92)
    (fun k s o q => s 6 = .row R ∧ s 67 = .row R ∧ o R = .row 228 (l.map entT) true ∧ s 68 = .t (.int .i64 l.length) ∧ s 69 = .t (.int .i64 k) ∧ R < q ∧ b = entsGo (prevO l k) (l.drop k))
    (fun e s' o' q' => (b = false → e = .ret ∧ s' 2 = .t (.bool false)) ∧ (b = true → e = .exit 2)) l.length ?_ ?_
    l.length 0 s o q (by omega) ⟨hI.1, hI.2.1, hI.2.2.1, hI.2.2.2.1, hI.2.2.2.2.1, hI.2.2.2.2.2, hb⟩
  · rintro k s o q hkl ⟨h6, h67, oR, h68, h69, hq, hb⟩
    obtain ⟨a1, a2, a3⟩ : R ≠ q ∧ q ≠ R ∧ R < q + 1 := ⟨by omega, by omega, by omega⟩
    have hk' : (k : Int) < (l.length : Int) := by omega
    have hxk : l[k]? = some l[k] := List.getElem?_eq_getElem hkl
    have hw := wrap_succ (n := k) (by omega)
    have he := implEntry l[k] (hk _ (List.getElem_mem hkl))
    have hpv : prevO l (k + 1) = some l[k] := hxk
    rw [List.drop_eq_getElem_cons hkl, entsGo] at hb
    try simp at he
    cases hok : entOK l[k] with
    | false =>
      rw [hok] at hb he
      simp at hb
      subst hb
      simp [loopAt, loopsOf, Tryz.f194, dd, h6, h67, oR, h68, h69, a1, a2, a3, hkl, hk', hxk, he]
    | true =>
      rw [hok] at hb he
      cases k with
      | zero =>
        simp [prevO, aheadO] at hb
        simp [loopAt, loopsOf, Tryz.f194, dd, h6, h67, oR, h68, h69, a1, a2, a3, hkl, hk', hxk, he, hpv]
        exact hb
      | succ m =>
        have hml : m < l.length := by omega
        have hxm : l[m]? = some l[m] := List.getElem?_eq_getElem hml
        have hc := compareEnt l[m] l[m + 1]
        have hle := entCmp_le l[m + 1] l[m]
        have hlt := entCmp_lt l[m] l[m + 1]
        have hw1 : IntKind.i64.wrap (((m + 1 : Nat) : Int) - 1) = (m : Int) := by rw [wrap_of (by omega) (by omega)]; omega
        have hpos : (0 : Int) < ((m + 1 : Nat) : Int) := by omega
        have hnn : (0 : Int) ≤ (m : Int) + 1 := by omega
        have hwm : IntKind.i64.wrap (m : Int) = (m : Int) := wrap_of (by omega) (by omega)
        have hpm : prevO l (m + 1) = some l[m] := hxm
        rw [hpm] at hb
        simp only [aheadO] at hb
        try simp at hc
        cases hlt2 : entLt l[m] l[m + 1] with
        | true =>
          rw [hlt2] at hb hlt
          simp at hb hlt
          have hn : ¬ 0 ≤ entCmp l[m] l[m + 1] := by omega
          simp only [Int.natCast_add, Int.cast_ofNat_Int] at hw1 hpos hw h69 hk'
          simp [loopAt, loopsOf, Tryz.f194, dd, h6, h67, oR, h68, h69, a1, a2, a3, hkl, hk', hxk, he, hpos, hnn, hwm, hw1, hml, hxm, hc, hn, hw, hpv]
          exact hb
        | false =>
          rw [hlt2] at hb hlt
          simp at hb hlt
          subst hb
          simp only [Int.natCast_add, Int.cast_ofNat_Int] at hw1 hpos hw h69 hk'
          simp [loopAt, loopsOf, Tryz.f194, dd, h6, h67, oR, h68, h69, a1, a2, a3, hkl, hk', hxk, he, hpos, hnn, hwm, hw1, hml, hxm, hc, hlt, hw]
  · rintro s o q ⟨h6, h67, oR, h68, h69, hq, hb⟩
    rw [List.drop_of_length_le (Nat.le_refl _), entsGo] at hb
    subst hb
    simp [loopAt, loopsOf, Tryz.f194, h6, h67, oR, h68, h69]
theorem nums_small (m : Nat) (nxt : Int) : ∀ (seen : List Int) (ps : List Pg), numsGo m nxt seen ps = true → ∀ p ∈ ps, p.ents.length ≤ 4
  | _, [], _ => by simp
  | seen, p :: r, h => by
    rw [numsGo] at h
    simp only [Bool.and_eq_true] at h
    intro x hx
    rcases List.mem_cons.1 hx with rfl | hx
    · unfold pageFine at h
      simp only [Bool.and_eq_true, decide_eq_true_eq] at h
      exact h.1.1.1.2
    · exact nums_small m nxt _ r h.2 x hx
theorem flat_small : ∀ (ps : List Pg), (∀ p ∈ ps, p.ents.length ≤ 4) → (ps.flatMap Pg.ents).length ≤ 4 * ps.length
  | [], _ => by simp
  | p :: r, h => by
    have h1 := h p (by simp)
    have h2 := flat_small r (fun x hx => h x (by simp [hx]))
    rw [List.flatMap_cons, List.length_append, List.length_cons]
    omega
theorem itree_pages (ps : List Pg) (hl : ps.length < 4294967296) (hs : ∀ p ∈ ps, p.ents.length < 4294967296) (nxt : Int) (hn : 2 ≤ nxt ∧ nxt ≤ 100000) : ∀ s o q, (s 1 = .ptr 0 0 ∧ o 0 = .box 127 [.t (.list (ps.map pgT)), .t (.int .i64 nxt)] ∧ s 3 = .row 1 ∧ o 1 = .row 3 [] true ∧ s 22 = .t (.list (ps.map pgT)) ∧ s 23 = .t (.int .i64 ps.length) ∧ s 24 = .t (.int .i64 0) ∧ 1 < q) →
    ∃ e s' o' q', run E (.code (.loop (loopAt Tryz.f194 0)) ⟨s, o, q, 92⟩) = some (.st e ⟨s', o', q', 92⟩) ∧ ((numsGo ps.length nxt [] ps = false → e = .ret ∧ s' 2 = .t (.bool false)) ∧ (numsGo ps.length nxt [] ps = true → e = .exit 0 ∧ s' 1 = .ptr 0 0 ∧ o' 0 = .box 127 [.t (.list (ps.map pgT)), .t (.int .i64 nxt)])) := by
  intro s o q hI
  obtain ⟨b, hb⟩ : ∃ b, b = numsGo ps.length nxt [] ps := ⟨_, rfl⟩
  rw [← hb]
  have hwn : IntKind.i64.wrap (nxt - 1) = nxt - 1 := wrap_of (by omega) (by omega)
  refine loop_for (c := loopAt Tryz.f194 0) (N := 92)
    (fun i s o q => ∃ r : Nat, s 1 = .ptr 0 0 ∧ o 0 = .box 127 [.t (.list (ps.map pgT)), .t (.int .i64 nxt)] ∧ s 3 = .row r ∧ o r = .row 3 (((ps.take i).map Pg.num).map numT) true ∧ s 22 = .t (.list (ps.map pgT)) ∧ s 23 = .t (.int .i64 ps.length) ∧ s 24 = .t (.int .i64 i) ∧ 0 < r ∧ r < q ∧ b = numsGo ps.length nxt ((ps.take i).map Pg.num) (ps.drop i))
    (fun e s' o' q' => (b = false → e = .ret ∧ s' 2 = .t (.bool false)) ∧ (b = true → e = .exit 0 ∧ s' 1 = .ptr 0 0 ∧ o' 0 = .box 127 [.t (.list (ps.map pgT)), .t (.int .i64 nxt)])) ps.length ?_ ?_
    ps.length 0 s o q (by omega) ⟨1, hI.1, hI.2.1, hI.2.2.1, by simpa using hI.2.2.2.1, hI.2.2.2.2.1, hI.2.2.2.2.2.1, hI.2.2.2.2.2.2.1, by omega, hI.2.2.2.2.2.2.2, by simpa using hb⟩
  · rintro i s o q hi ⟨r, h1, o0, h3, oR, h22, h23, h24, hr0, hr, hb⟩
    have hi' : (i : Int) < (ps.length : Int) := by omega
    have hxi : ps[i]? = some ps[i] := List.getElem?_eq_getElem hi
    have hw := wrap_succ (n := i) (by omega)
    have hpl := hs _ (List.getElem_mem hi)
    have htk : (ps.take (i + 1)).map Pg.num = (ps.take i).map Pg.num ++ [ps[i].num] := by
      rw [List.take_add_one, hxi, List.map_append]; rfl
    have hin := inR ps[i].num 1 (nxt - 1)
    have hct := contains236 ((ps.take i).map Pg.num) ps[i].num (by simp; omega)
    rw [htk]
    rw [List.drop_eq_getElem_cons hi, numsGo] at hb
    have hLn : ((ps.take i).map Pg.num).length ≤ i := by simp; omega
    generalize hpg : ps[i] = p at *
    generalize (ps.take i).map Pg.num = Z at *
    have hc3 : Z.length + 1 ≤ 140737488355328 := by omega
    have hc4 : (Z.length + 1) * 8 ≤ 140737488355328 := by omega
    obtain ⟨a1, a2, a3, a4, a5, a6, a7⟩ : r ≠ q ∧ q ≠ r ∧ r ≠ q + 1 ∧ 0 ≠ q ∧ 0 ≠ r ∧ r ≠ 0 ∧ 0 ≠ q + 1 := ⟨by omega, by omega, by omega, by omega, by omega, by omega, by omega⟩
    unfold pageFine at hb
    try simp [-List.contains_eq_mem] at hin hct
    cases hz3 : in1 1 (nxt - 1) p.num with
    | false =>
      rw [hz3] at hb hin
      simp at hb
      subst hb
      simp [-List.contains_eq_mem, loopAt, loopsOf, Tryz.f194, h1, o0, h3, oR, h22, h23, h24, hi, hi', hxi, hpg, hwn, hin, a1, a2, a3, a4, a5, a6, hr]
    | true =>
      rw [hz3] at hb hin
      cases hcn : Z.contains p.num with
      | true =>
        rw [hcn] at hb hct
        simp at hb
        subst hb
        simp [-List.contains_eq_mem, loopAt, loopsOf, Tryz.f194, h1, o0, h3, oR, h22, h23, h24, hi, hi', hxi, hpg, hwn, hin, hct, a1, a2, a3, a4, a5, a6, hr]
      | false =>
        rw [hcn] at hb hct
        by_cases hle : p.ents.length ≤ 4
        · have hle' : ¬ (4 : Int) < (p.ents.length : Int) := by omega
          have hdl : decide (p.ents.length ≤ 4) = true := by simpa using hle
          rw [hdl] at hb
          cases hpe : p.ents with
          | nil =>
            rw [hpe] at hb
            by_cases hmany : 1 < ps.length
            · have hmany' : (1 : Int) < (ps.length : Int) := by omega
              have hbf : b = false := by rw [hb]; simp [hmany]
              subst hbf
              simp [-List.contains_eq_mem, loopAt, loopsOf, Tryz.f194, h1, o0, h3, oR, h22, h23, h24, hi, hi', hxi, hpg, hwn, hin, hct, a1, a2, a3, a4, a5, a6, hr, hpe, hmany']
            · have hmany' : ¬ (1 : Int) < (ps.length : Int) := by omega
              have hbt : b = numsGo ps.length nxt (Z ++ [p.num]) (ps.drop (i + 1)) := by rw [hb]; simp [hmany]
              simp [-List.contains_eq_mem, loopAt, loopsOf, Tryz.f194, h1, o0, h3, oR, h22, h23, h24, hi, hi', hxi, hpg, hwn, hin, hct, a1, a2, a3, a4, a5, a6, a7, hr, hpe, hmany', hw, hc3, hc4]
              exact hbt
          | cons x y =>
            rw [hpe] at hb hle'
            have hnz : (((y.length : Int) + 1) == 0) = false := by simp; omega
            have hbt : b = numsGo ps.length nxt (Z ++ [p.num]) (ps.drop (i + 1)) := by rw [hb]; simp
            have hle2 : ¬ (4 : Int) < (y.length : Int) + 1 := by simp at hle'; omega
            simp [-List.contains_eq_mem, loopAt, loopsOf, Tryz.f194, h1, o0, h3, oR, h22, h23, h24, hi, hi', hxi, hpg, hwn, hin, hct, a1, a2, a3, a4, a5, a6, a7, hr, hpe, hle2, hnz, hw, hc3, hc4]
            exact hbt
        · have hle' : (4 : Int) < (p.ents.length : Int) := by omega
          have hbf : b = false := by
            rw [hb]
            have : decide (p.ents.length ≤ 4) = false := by simpa using hle
            rw [this]; simp
          subst hbf
          simp [-List.contains_eq_mem, loopAt, loopsOf, Tryz.f194, h1, o0, h3, oR, h22, h23, h24, hi, hi', hxi, hpg, hwn, hin, hct, hle', a1, a2, a3, a4, a5, a6, hr]
  · rintro s o q ⟨r, h1, o0, h3, oR, h22, h23, h24, hr0, hr, hb⟩
    rw [List.drop_of_length_le (Nat.le_refl _), numsGo] at hb
    subst hb
    simp [loopAt, loopsOf, Tryz.f194, h1, o0, h3, oR, h22, h23, h24]
theorem implTreeOK (t : Tr) (h : t.Sm) : run E (.call 194 [.t (treeT t)]) = some (.res [xB (treeOK t)] []) := by
  rw [run_call E 194 _ rfl Tryz.func194 rfl rfl rfl (by simp)]
  have hl := h.1
  have hin1 := inR (t.pages.length : Int) 1 60
  have hin2 := inR t.next 2 100000
  unfold treeOK
  cases hz1 : in1 1 60 (t.pages.length : Int) with
  | false =>
    rw [hz1] at hin1
    try simp at hin1
    simp [hin1]
  | true =>
    rw [hz1] at hin1
    cases hz2 : in1 2 100000 t.next with
    | false =>
      rw [hz2] at hin2
      try simp at hin1 hin2
      simp [hin1, hin2]
    | true =>
      rw [hz2] at hin2
      have hnx : 2 ≤ t.next ∧ t.next ≤ 100000 := by
        unfold in1 at hz2
        simpa using hz2
      have hp60 : t.pages.length ≤ 60 := by
        unfold in1 at hz1
        simp at hz1; omega
      obtain ⟨X, A, B, C, hx⟩ := sk (itree_pages t.pages (by omega) (fun p hp => (h.2 p hp).1) t.next hnx)
      simp only [loopAt, loopsOf, Tryz.f194] at hx
      cases hng : numsGo t.pages.length t.next [] t.pages with
      | false =>
        rw [hng] at hx
        try simp at hin1 hin2 hx
        simp [hin1, hin2, hx]
      | true =>
        rw [hng] at hx
        have hsm := flat_small t.pages (nums_small _ _ _ _ hng)
        have hen := entriesOf t (by omega) (by unfold allE; omega)
        obtain ⟨X2, A2, B2, C2, hx2⟩ := sk (itree_ents (allE t) (by unfold allE; omega) (by
          intro e he
          unfold allE at he
          rw [List.mem_flatMap] at he
          obtain ⟨p, hp, he⟩ := he
          exact (h.2 p hp).2 e he))
        simp only [loopAt, loopsOf, Tryz.f194] at hx2
        cases heg : entsGo none (allE t) with
        | false =>
          rw [heg] at hx2
          try simp at hin1 hin2 hx hen hx2
          simp [hin1, hin2, hx, hen, hx2]
        | true =>
          rw [heg] at hx2
          try simp at hin1 hin2 hx hen hx2
          simp [hin1, hin2, hx, hen, hx2]
set_option maxHeartbeats 16000000
abbrev dnBox (d : Dn) : Ob := .box 26 [.t (.int .i64 d.snap), .t (.int .i64 d.at_), .t (.list (d.reads.map rdT)), .t (.list (d.changes.map chgT)), .t (.bool d.inn), .t (.bool d.out)]
def chgsGo : List Chg → List Chg → Bool
  | _, [] => true
  | s, c :: r => chgOK c && (!s.any (fun x => sameC x c) && chgsGo (s ++ [c]) r)
def listsOK (rs : List Rd) (cs : List Chg) : Bool := rs.all readOK && (chgsGo [] cs && (decide (rs.length ≤ 20) && decide (cs.length ≤ 60)))
set_option maxHeartbeats 8000000
structure Src where
  bs : Bytes
  p : Nat
  sd : Int
abbrev srcX (s : Src) : X := .ref 141 [.t (.list (s.bs.map byteT)), .t (.int .i64 s.p), .t (.int .i64 s.sd)]
structure Src.Ok (s : Src) (m : Nat) : Prop where
  len : s.bs.length < 4294967296
  pos : s.p ≤ m
  lo : 0 ≤ s.sd
  hi : s.sd < 2147483648
theorem Src.Ok.up {s : Src} {m k : Nat} (h : s.Ok m) (hk : m ≤ k) : s.Ok k := ⟨h.len, Nat.le_trans h.pos hk, h.lo, h.hi⟩
def encP (v : Val) : Bytes := if v.k = 0 then numP v.k 1 else if v.k = 1 then numP v.k 1 ++ numP v.n 1 else if v.k = 2 then numP v.k 1 ++ numP (v.n + 4611686018427387904) 8 else numP v.k 1 ++ numP (v.t.length : Nat) 2 ++ v.t
def encF (f : Fld) : Bytes := numP (f.name.length : Nat) 1 ++ f.name ++ encP f.v
def _root_.Go.Pu.Val.little (v : Val) : Prop := -1000000000000 ≤ v.n ∧ v.n ≤ 1000000000000 ∧ v.t.length ≤ 300
theorem encP_len {v : Val} (h : v.little) : (encP v).length ≤ 310 := by
  have := h.2.2
  unfold encP
  split
  · simp [numP_len]
  · split
    · simp [numP_len]
    · split
      · simp [numP_len]
      · simp [numP_len]; omega
theorem l01Encode (v : Val) (h : v.little) : run E (.call 249 [xV v]) = some (.res [xS (encP v)] []) := by
  rw [run_call E 249 _ rfl Tryz.func249 rfl rfl rfl (by simp)]
  have d9 := d249_9
  simp [regionOf, findR, pick, Tryz.f249] at d9
  have dd9 := fun st => run_region_draw E st 9 _ d9
  clear d9
  obtain ⟨h1, h2, h3⟩ := h
  have n1 := l01Number v.k 1 (by omega)
  have n2 := l01Number v.n 1 (by omega)
  have n3 := l01Number (v.n + 4611686018427387904) 8 (by omega)
  have n4 := l01Number (v.t.length : Nat) 2 (by omega)
  have hw : IntKind.i64.wrap (v.n + 4611686018427387904) = v.n + 4611686018427387904 := wrap_of (by omega) (by omega)
  have l1 := numP_len v.k 1
  have l2 := numP_len v.n 1
  have l3 := numP_len (v.n + 4611686018427387904) 8
  have l4 := numP_len (v.t.length : Nat) 2
  unfold encP
  generalize numP v.k 1 = a at *
  generalize numP v.n 1 = b at *
  generalize numP (v.n + 4611686018427387904) 8 = c at *
  generalize numP (v.t.length : Nat) 2 = e at *
  have c1 : a.length + b.length ≤ 140737488355328 := by omega
  have c2 : a.length + c.length ≤ 140737488355328 := by omega
  have c3 : a.length + e.length ≤ 140737488355328 := by omega
  have c4 : a.length + e.length + v.t.length ≤ 140737488355328 := by omega
  simp at n1 n2 n3 n4
  by_cases k0 : v.k = 0
  · have k0' : (v.k = 0) = True := eq_true k0
    clear k0
    simp [n1, k0', l1, l2, l3, l4, c1, c2, c3, c4]
  · by_cases k1 : v.k = 1
    · have k1' : (v.k = 1) = True := eq_true k1
      have k0' : (v.k = 0) = False := eq_false k0
      clear k0 k1
      simp [n1, n2, k0', k1', l1, l2, l3, l4, c1]
    · by_cases k2 : v.k = 2
      · have k2' : (v.k = 2) = True := eq_true k2
        have k1' : (v.k = 1) = False := eq_false k1
        have k0' : (v.k = 0) = False := eq_false k0
        clear k0 k1 k2
        simp [n1, n3, hw, k0', k1', k2', l1, l2, l3, l4, c1]
      · simp [dd9, n1, n4, k0, k1, k2, l1, l2, l3, l4, c3, c4]
        try omega
theorem l01Int (n : Int) : run E (.call 203 [xI n]) = some (.res [valX ⟨2, n, []⟩] []) := by
  rw [run_call E 203 _ rfl Tryz.func203 rfl rfl rfl (by simp)]
  simp
theorem l01Text (t : Bytes) : run E (.call 277 [xS t]) = some (.res [valX ⟨3, 0, t⟩] []) := by
  rw [run_call E 277 _ rfl Tryz.func277 rfl rfl rfl (by simp)]
  simp
theorem l01List (xs : List Val) (h : ∀ x ∈ xs, x.little) (hl : xs.length ≤ 1000) : run E (.call 245 [.t (.list (xs.map valT))]) = some (.res [valX ⟨4, 0, xs.flatMap encP⟩] []) := by
  rw [run_call E 245 _ rfl Tryz.func245 rfl rfl rfl (by simp)]
  have lp := fun (R : Bytes) (hR : R = xs.flatMap encP) => sk (fun s o q hI => loop_for (c := loopAt Tryz.f245 0) (N := 20)
    (fun i s o q => ∃ acc, s 0 = .t (.list (xs.map valT)) ∧ s 2 = .ptr 0 0 ∧ s 3 = .t (.str acc) ∧ s 4 = .t (.int .i64 i) ∧ o 0 = .box 38 [.t (.int .i64 0), .t (.int .i64 0), .t (.str [])] ∧ 0 < q ∧ acc.length ≤ i * 310 ∧ R = acc ++ (xs.drop i).flatMap encP)
    (fun e s' o' q' => e = .exit 0 ∧ s' 2 = .ptr 0 0 ∧ s' 3 = .t (.str R) ∧ o' 0 = .box 38 [.t (.int .i64 0), .t (.int .i64 0), .t (.str [])] ∧ 0 < q') xs.length
    (by
      rintro i s o q hi ⟨acc, h0, h2, h3, h4, ho, hq, hl2, hp⟩
      have hi' : (i : Int) < (xs.length : Int) := by omega
      have hwi := wrap_succ (n := i) (by omega)
      have hxi : xs[i]? = some xs[i] := List.getElem?_eq_getElem hi
      have hli := h _ (List.getElem_mem hi)
      have he := l01Encode xs[i] hli
      have hel := encP_len hli
      rw [List.drop_eq_getElem_cons hi, List.flatMap_cons, ← List.append_assoc] at hp
      generalize encP xs[i] = e at *
      have hcc : acc.length + e.length ≤ 140737488355328 := by omega
      simp [loopAt, loopsOf, Tryz.f245, h0, h2, h3, h4, ho, hi, hi', hwi, hxi, he, hcc, hq]
      exact ⟨by rw [Nat.add_mul]; omega, by rw [hp]; simp⟩)
    (by
      rintro s o q ⟨acc, h0, h2, h3, h4, ho, hq, hl2, hp⟩
      simp at hp
      simp [loopAt, loopsOf, Tryz.f245, h0, h2, h3, h4, ho, hp, hq])
    xs.length 0 s o q (by omega) hI)
  simp only [loopAt, loopsOf, Tryz.f245] at lp
  obtain ⟨X, A, B, C, hx⟩ := lp _ rfl
  have hx' := fun s o q a0 a2 a3 a4 ao aq => hx s o q ⟨[], a0, a2, a3, a4, ao, aq, by simp, by simp⟩
  clear hx lp
  simp at hx'
  simp [hx']
theorem l01Doc (xs : List Fld) (h : ∀ x ∈ xs, x.v.little ∧ x.name.length ≤ 100) (hl : xs.length ≤ 1000) : run E (.call 207 [.t (.list (xs.map fldT))]) = some (.res [valX ⟨5, 0, xs.flatMap encF⟩] []) := by
  rw [run_call E 207 _ rfl Tryz.func207 rfl rfl rfl (by simp)]
  have d5 := d207_5
  simp [regionOf, findR, pick, Tryz.f207] at d5
  have dd5 := fun st => run_region_draw E st 5 _ d5
  clear d5
  have lp := fun (R : Bytes) (hR : R = xs.flatMap encF) => sk (fun s o q hI => loop_for (c := loopAt Tryz.f207 0) (N := 35)
    (fun i s o q => ∃ acc, s 0 = .t (.list (xs.map fldT)) ∧ s 2 = .ptr 0 0 ∧ s 3 = .t (.str acc) ∧ s 4 = .t (.int .i64 i) ∧ o 0 = .box 38 [.t (.int .i64 0), .t (.int .i64 0), .t (.str [])] ∧ 0 < q ∧ acc.length ≤ i * 420 ∧ R = acc ++ (xs.drop i).flatMap encF)
    (fun e s' o' q' => e = .exit 0 ∧ s' 2 = .ptr 0 0 ∧ s' 3 = .t (.str R) ∧ o' 0 = .box 38 [.t (.int .i64 0), .t (.int .i64 0), .t (.str [])] ∧ 0 < q') xs.length
    (by
      rintro i s o q hi ⟨acc, h0, h2, h3, h4, ho, hq, hl2, hp⟩
      have hi' : (i : Int) < (xs.length : Int) := by omega
      have hwi := wrap_succ (n := i) (by omega)
      have hxi : xs[i]? = some xs[i] := List.getElem?_eq_getElem hi
      have hli := h _ (List.getElem_mem hi)
      have he := l01Encode xs[i].v hli.1
      have hel := encP_len hli.1
      have hnl := hli.2
      have hn := l01Number (xs[i].name.length : Nat) 1 (by omega)
      have hnl1 := numP_len (xs[i].name.length : Nat) 1
      have hee : encF xs[i] = numP (xs[i].name.length : Nat) 1 ++ xs[i].name ++ encP xs[i].v := rfl
      rw [List.drop_eq_getElem_cons hi, List.flatMap_cons, ← List.append_assoc] at hp
      rw [hee] at hp
      clear hee
      generalize encP xs[i].v = e at *
      generalize numP (xs[i].name.length : Nat) 1 = z at *
      have hc1 : z.length + (xs[i].name).length ≤ 140737488355328 := by omega
      have hc2 : z.length + (xs[i].name).length + e.length ≤ 140737488355328 := by omega
      have hc3 : acc.length + (z.length + (xs[i].name).length + e.length) ≤ 140737488355328 := by omega
      have hc4 : acc.length + (1 + ((xs[i].name).length + e.length)) ≤ 140737488355328 := by omega
      have hc5 : 1 + (xs[i].name).length ≤ 140737488355328 := by omega
      have hc6 : 1 + (xs[i].name).length + e.length ≤ 140737488355328 := by omega
      simp at hn
      simp [loopAt, loopsOf, Tryz.f207, h0, h2, h3, h4, ho, hi, hi', hwi, dd5, hxi, he, hn, hnl1, hc1, hc2, hc3, hc4, hc5, hc6, hq]
      exact ⟨by rw [Nat.add_mul]; omega, by rw [hp]; simp⟩)
    (by
      rintro s o q ⟨acc, h0, h2, h3, h4, ho, hq, hl2, hp⟩
      simp at hp
      simp [loopAt, loopsOf, Tryz.f207, h0, h2, h3, h4, ho, hp, hq])
    xs.length 0 s o q (by omega) hI)
  simp only [loopAt, loopsOf, Tryz.f207] at lp
  obtain ⟨X, A, B, C, hx⟩ := lp _ rfl
  have hx' := fun s o q a0 a2 a3 a4 ao aq => hx s o q ⟨[], a0, a2, a3, a4, ao, aq, by simp, by simp⟩
  clear hx lp
  simp at hx'
  simp [hx']
/-- `sk1`, with something good chosen at each start. -/
theorem skG {α : Type} (good : α → Prop) (a0 : α) (h0 : good a0) {I : Ss → Os → Nat → Prop} {Q : Ss → Os → Nat → Ex → Ss → Os → Nat → Prop} {R : Ss → Os → Nat → Ex → Ss → Os → Nat → α → Prop} (h : ∀ s o q, I s o q → ∃ e s' o' q', Q s o q e s' o' q' ∧ ∃ m, good m ∧ R s o q e s' o' q' m) :
    ∃ (X : Ss → Os → Nat → Ex) (A : Ss → Os → Nat → Ss) (B : Ss → Os → Nat → Os) (C : Ss → Os → Nat → Nat) (M : Ss → Os → Nat → α), (∀ s o q, good (M s o q)) ∧ ∀ s o q, I s o q → Q s o q (X s o q) (A s o q) (B s o q) (C s o q) ∧ R s o q (X s o q) (A s o q) (B s o q) (C s o q) (M s o q) := by
  obtain ⟨X, A, B, C, hx⟩ := sk h
  classical
  have h' : ∀ s o q, ∃ m, good m ∧ (I s o q → R s o q (X s o q) (A s o q) (B s o q) (C s o q) m) := by
    intro s o q
    by_cases hI : I s o q
    · obtain ⟨m, hg, hm⟩ := (hx s o q hI).2
      exact ⟨m, hg, fun _ => hm⟩
    · exact ⟨a0, h0, fun hI' => absurd hI' hI⟩
  exact ⟨X, A, B, C, fun s o q => (h' s o q).choose, fun s o q => (h' s o q).choose_spec.1, fun s o q hI => ⟨(hx s o q hI).1, (h' s o q).choose_spec.2 hI⟩⟩
def scalar (v : Val) : Prop := okP 5 v = true ∧ 0 ≤ v.k ∧ v.k ≤ 3 ∧ v.t.length ≤ 100
def five : List Bytes := [[], [97], [97, 98], [98], [0]]
/-- Those that stay. -/
def stayP {α : Type} (p : α → Bool) (l : List α) : List α := l.filter fun x => !p x
theorem stay_take {α : Type} (p : α → Bool) (l : List α) (j : Nat) (hj : j < l.length) : stayP p (l.take (j + 1)) = stayP p (l.take j) ++ (if p l[j] = true then [] else [l[j]]) := by
  have ht : l.take (j + 1) = l.take j ++ [l[j]] := by rw [List.take_add_one, List.getElem?_eq_getElem hj]; rfl
  rw [ht, stayP, List.filter_append]
  congr 1
  cases h : p l[j] <;> simp [h]
theorem stay_len {α : Type} (p : α → Bool) (l : List α) (j : Nat) : (stayP p (l.take j)).length ≤ j := by
  have h1 : (stayP p (l.take j)).length ≤ (l.take j).length := List.length_filter_le _ _
  have h2 : (l.take j).length ≤ j := by rw [List.length_take]; omega
  omega
/-- What the walk has left in the row. -/
def StayAt {α : Type} (p : α → Bool) (l : List α) (i j : Nat) (W : List α) : Prop := W.length = l.length ∧ W.take i = stayP p (l.take j) ∧ W.drop j = l.drop j ∧ i = (stayP p (l.take j)).length
theorem stayAt_keep {α : Type} {p : α → Bool} {l W : List α} {i j : Nat} (hj : j < l.length) (h : StayAt p l i j W) (hk : p l[j] = false) : StayAt p l (i + 1) (j + 1) (W.set i l[j]) := by
  obtain ⟨h1, h2, h3, h4⟩ := h
  have hij : i ≤ j := by rw [h4]; exact stay_len p l j
  have hc := stay_take p l j hj
  rw [if_neg (by simp [hk])] at hc
  refine ⟨by simp [h1], ?_, ?_, by rw [hc, h4]; simp⟩
  · rw [hc, ← h2, List.take_add_one, List.take_set_of_le (Nat.le_refl _)]
    congr 1
    rw [List.getElem?_set_self (by omega)]
    rfl
  · rw [List.drop_set_of_lt (by omega), List.drop_add_one_eq_tail_drop, h3, ← List.drop_add_one_eq_tail_drop]
theorem stayAt_drop {α : Type} {p : α → Bool} {l W : List α} {i j : Nat} (hj : j < l.length) (h : StayAt p l i j W) (hk : p l[j] = true) : StayAt p l i (j + 1) W := by
  obtain ⟨h1, h2, h3, h4⟩ := h
  have hc := stay_take p l j hj
  rw [if_pos hk, List.append_nil] at hc
  refine ⟨h1, by rw [hc, h2], ?_, by rw [hc, h4]⟩
  rw [List.drop_add_one_eq_tail_drop, h3, ← List.drop_add_one_eq_tail_drop]
theorem stay_idx {α : Type} (p : α → Bool) : ∀ l : List α, (idxP p l = -1 ∧ stayP p l = l) ∨ ∃ k : Nat, idxP p l = k ∧ k < l.length ∧ StayAt p l k (k + 1) l
  | [] => .inl ⟨by simp [idxP], rfl⟩
  | x :: r => by
    rw [idxP]
    cases h : p x with
    | true =>
      refine .inr ⟨0, by simp, by simp, rfl, ?_, ?_, ?_⟩
      · simp [stayP, h]
      · rfl
      · simp [stayP, h]
    | false =>
      have hc : ∀ z : List α, stayP p (x :: z) = x :: stayP p z := fun z => by simp [stayP, h]
      rcases stay_idx p r with ⟨a, b⟩ | ⟨k, a, hk, c1, c2, c3, c4⟩
      · refine .inl ⟨by simp [a], ?_⟩
        rw [hc, b]
      · refine .inr ⟨k + 1, ?_, by simp; omega, rfl, ?_, rfl, ?_⟩
        · have : ¬ (k : Int) < 0 := by omega
          simp [a, this]
        · rw [List.take_succ_cons, List.take_succ_cons, hc, c2]
        · rw [List.take_succ_cons, hc, List.length_cons, ← c4]
theorem del196_loop (l : List Ent) (hl : l.length < 4294967296) (g : Nat) (c0 : List T) (p : Ent → Bool) (hm : E.md g = []) (hf : E.flat g = true) (hp : ∀ x ∈ l, run E (.call g [.t (entT x), .dref c0]) = some (.res [xB (p x)] [])) (i0 j0 : Nat) (hj0 : j0 ≤ l.length) (hc0 : StayAt p l i0 j0 l) : ∀ s o q, (s 0 = .row 0 ∧ s 1 = .fn g [.dptr c0] ∧ s 5 = .t (.int .i64 i0) ∧ s 6 = .t (.int .i64 j0) ∧ o 0 = .row 228 (l.map entT) true ∧ 0 < q) →
    ∃ e s' o' q', run E (.code (.loop (loopAt Tryz.f196 0)) ⟨s, o, q, 42⟩) = some (.st e ⟨s', o', q', 42⟩) ∧ ∃ W : List Ent, StayAt p l (stayP p l).length l.length W ∧ (e = .exit 0 ∧ s' 0 = .row 0 ∧ s' 5 = .t (.int .i64 (stayP p l).length) ∧ o' 0 = .row 228 (W.map entT) true) := by
  intro s o q hI
  rw [E_md] at hm
  refine loop_for (c := loopAt Tryz.f196 0) (N := 42)
    (fun k s o q => ∃ (i : Nat) (W : List Ent), j0 ≤ l.length ∧ s 0 = .row 0 ∧ s 1 = .fn g [.dptr c0] ∧ s 5 = .t (.int .i64 i) ∧ s 6 = .t (.int .i64 ((j0 + k : Nat) : Int)) ∧ o 0 = .row 228 (W.map entT) true ∧ 0 < q ∧ StayAt p l i (j0 + k) W)
    (fun e s' o' q' => ∃ W : List Ent, StayAt p l (stayP p l).length l.length W ∧ (e = .exit 0 ∧ s' 0 = .row 0 ∧ s' 5 = .t (.int .i64 (stayP p l).length) ∧ o' 0 = .row 228 (W.map entT) true)) (l.length - j0) ?_ ?_
    (l.length - j0) 0 s o q (by omega) ⟨i0, l, hj0, hI.1, hI.2.1, hI.2.2.1, hI.2.2.2.1, hI.2.2.2.2.1, hI.2.2.2.2.2, hc0⟩
  · rintro k s o q hk ⟨i, W, _, h0, h1, h5, h6, o0, pq, hC⟩
    obtain ⟨j, hj⟩ : ∃ j, j = j0 + k := ⟨_, rfl⟩
    rw [← hj] at h6 hC
    have hjl : j < l.length := by omega
    obtain ⟨c1, c2, c3, c4⟩ := id hC
    have hij : i ≤ j := by rw [c4]; exact stay_len p l j
    have hj' : (j : Int) < (W.length : Int) := by omega
    have hjW : j < W.length := by omega
    have hiW : i < W.length := by omega
    have hiW' : (i : Int) < (W.length : Int) := by omega
    have hw := wrap_succ (n := j) (by omega)
    have hw2 := wrap_succ (n := i) (by omega)
    have hxi : W[j]? = some l[j] := by
      have := congrArg (fun z => z[0]?) c3
      simpa [List.getElem?_drop, List.getElem?_eq_getElem hjl] using this
    have hxi' : W[j] = l[j] := by rw [List.getElem?_eq_getElem hjW] at hxi; exact Option.some.inj hxi
    have hcl := hp l[j] (List.getElem_mem hjl)
    obtain ⟨a1, a2⟩ : 0 ≠ q ∧ q ≠ 0 := ⟨by omega, by omega⟩
    cases ht : p l[j] with
    | false =>
      rw [ht] at hcl
      have hn := stayAt_keep hjl hC ht
      have hset : (W.map entT).set i (entT l[j]) = (W.set i l[j]).map entT := by rw [List.map_set]
      try simp at hcl
      simp [-mdOf, loopAt, loopsOf, Tryz.f196, h0, h1, h5, h6, o0, hj', hjW, hiW, hiW', hxi, hxi', hw, hw2, hcl, a1, a2, pq, hm, hf]
      exact ⟨hj0, i + 1, by omega, by omega, W.set i l[j], hset, by rw [show j0 + (k + 1) = j + 1 by omega]; exact hn⟩
    | true =>
      rw [ht] at hcl
      have hn := stayAt_drop hjl hC ht
      try simp at hcl
      simp [-mdOf, loopAt, loopsOf, Tryz.f196, h0, h1, h5, h6, o0, hj', hjW, hxi, hxi', hw, hw2, hcl, a1, a2, pq, hm, hf]
      exact ⟨hj0, i, rfl, by omega, W, rfl, by rw [show j0 + (k + 1) = j + 1 by omega]; exact hn⟩
  · rintro s o q ⟨i, W, _, h0, h1, h5, h6, o0, pq, hC⟩
    have hjj : j0 + (l.length - j0) = l.length := by omega
    rw [hjj] at h6 hC
    obtain ⟨c1, c2, c3, c4⟩ := id hC
    rw [List.take_of_length_le (Nat.le_refl _)] at c4
    subst c4
    have hW : ¬ (l.length : Int) < (W.length : Int) := by omega
    simp [-mdOf, loopAt, loopsOf, Tryz.f196, h0, h1, h5, h6, o0, hW]
    exact ⟨W, hC, rfl⟩
theorem del_196 (xs : List Ent) (hl : xs.length < 4294967296) (g : Nat) (c0 : List T) (p : Ent → Bool) (hm : E.md g = []) (hf : E.flat g = true) (hp : ∀ x ∈ xs, run E (.call g [.t (entT x), .dref c0]) = some (.res [xB (p x)] [])) : run E (.call 196 [.row 228 (xs.map entT), .fn g [c0]]) = some (.res [.row 228 ((stayP p xs).map entT)] [none]) := by
  rw [run_call E 196 _ rfl Tryz.func196 rfl rfl rfl (by simp)]
  have m1 : mdOf 196 = [true] := rfl
  have m2 : mdOf 241 = [] := rfl
  have hI := indexFunc_241 xs g c0 p (by omega) hm hf hp
  have hcl : (stayP p xs).length ≤ xs.length := List.length_filter_le _ _
  rcases stay_idx p xs with ⟨a, b⟩ | ⟨k, a, hk, hC⟩
  · rw [a] at hI
    rw [b]
    rw [E_md] at hm
    try simp at hI
    simp [-mdOf, m1, m2, hI, hm, hf]
  · rw [a] at hI
    obtain ⟨X, S, O, Q, W, hW, hx⟩ := skG (fun W : List Ent => StayAt p xs (stayP p xs).length xs.length W) (stayP p xs ++ xs.drop (stayP p xs).length) ⟨by simp; omega, by rw [List.take_left, List.take_of_length_le (Nat.le_refl _)], by rw [List.drop_of_length_le (by simp; omega), List.drop_of_length_le (Nat.le_refl _)], by rw [List.take_of_length_le (Nat.le_refl _)]⟩ (fun s o q h => by
      obtain ⟨e, s', o', q', hr, m, hm, hk⟩ := del196_loop xs hl g c0 p hm hf hp k (k + 1) (by omega) hC s o q h
      exact ⟨e, s', o', q', hr, m, hm, hk⟩)
    rw [E_md] at hm
    simp only [loopAt, loopsOf, Tryz.f196] at hx
    try simp at hI hx
    have e1 : ¬ ((k : Int) = -1) := by omega
    have hw := wrap_succ (n := k) (by omega)
    have hWl : ∀ s o q, (W s o q).length = xs.length := fun s o q => (hW s o q).1
    have hWt : ∀ s o q, List.map entT (stayP p xs) = List.take (stayP p xs).length (List.map entT (W s o q)) := fun s o q => by
      rw [← List.map_take, (hW s o q).2.1, List.take_of_length_le (Nat.le_refl _)]
    simp [-mdOf, hI, hx, e1, hw, hWl, hcl, hm, hf, m1, m2]
    exact (hWt _ _ _).symm
theorem nums_full (m : Nat) (nxt : Int) (hm : 1 < m) : ∀ (seen : List Int) (ps : List Pg), numsGo m nxt seen ps = true → ∀ p ∈ ps, p.ents ≠ []
  | _, [], _ => by simp
  | seen, p :: r, h => by
    rw [numsGo] at h
    simp only [Bool.and_eq_true] at h
    intro x hx
    rcases List.mem_cons.1 hx with rfl | hx
    · unfold pageFine at h
      simp only [Bool.and_eq_true, decide_eq_true_eq] at h
      intro e
      have := h.1.1.2
      simp [e, hm] at this
    · exact nums_full m nxt hm _ r h.2 x hx
theorem placeLt (e : Ent) (ps : List Pg) (h : ps ≠ []) : placeP e ps < ps.length := by
  have h1 := (place_at e ps [] 0 (.inl rfl) (by simp)).2
  have h2 : 0 < ps.length := List.length_pos_iff.2 h
  simp only [List.length_nil, Nat.zero_add] at h1
  unfold placeP
  omega
abbrev boxI (i : Ivl) : Ob := .box 68 [.t (.str i.low), .t (.str i.high), .t (.bool i.opn)]
theorem irange_nums (qs : List Pg) (iv : Ivl) (hl : qs.length < 4294967296) (hf : 1 < qs.length → ∀ p ∈ qs, p.ents ≠ []) (Z : Ob) : ∀ s o q, (s 3 = .ptr 1 0 ∧ o 1 = boxI iv ∧ s 7 = .row 3 ∧ o 3 = Z ∧ s 9 = .row 4 ∧ o 4 = .row 3 [] true ∧ s 28 = .t (.list (qs.map pgT)) ∧ s 29 = .t (.int .i64 qs.length) ∧ s 30 = .t (.int .i64 0) ∧ 4 < q) →
    ∃ e s' o' q', run E (.code (.loop (loopAt Tryz.f147 0)) ⟨s, o, q, 60⟩) = some (.st e ⟨s', o', q', 60⟩) ∧ ∃ M : Nat × List Int, 3 < M.1 ∧ (e = .exit 0 ∧ s' 7 = .row 3 ∧ o' 3 = Z ∧ s' 9 = .row M.1 ∧ o' M.1 = .row 3 (M.2.map numT) true) := by
  intro s o q hI
  have d8 := d147_8
  simp [regionOf, findR, pick, Tryz.f147] at d8
  have dd := fun st => run_region_draw E st 8 _ d8
  clear d8
  refine loop_for (c := loopAt Tryz.f147 0) (N := 60)
    (fun j s o q => ∃ (r : Nat) (A : List Int), s 3 = .ptr 1 0 ∧ o 1 = boxI iv ∧ s 7 = .row 3 ∧ o 3 = Z ∧ s 9 = .row r ∧ o r = .row 3 (A.map numT) true ∧ s 28 = .t (.list (qs.map pgT)) ∧ s 29 = .t (.int .i64 qs.length) ∧ s 30 = .t (.int .i64 j) ∧ 3 < r ∧ r < q ∧ A.length ≤ j)
    (fun e s' o' q' => ∃ M : Nat × List Int, 3 < M.1 ∧ (e = .exit 0 ∧ s' 7 = .row 3 ∧ o' 3 = Z ∧ s' 9 = .row M.1 ∧ o' M.1 = .row 3 (M.2.map numT) true)) qs.length ?_ ?_
    qs.length 0 s o q (by omega) ⟨4, [], hI.1, hI.2.1, hI.2.2.1, hI.2.2.2.1, hI.2.2.2.2.1, by simpa using hI.2.2.2.2.2.1, hI.2.2.2.2.2.2.1, hI.2.2.2.2.2.2.2.1, hI.2.2.2.2.2.2.2.2.1, by omega, hI.2.2.2.2.2.2.2.2.2, by simp⟩
  · rintro j s o q hj ⟨r, A, h3, o1, h7, o3, h9, oR, h28, h29, h30, hr3, hr, hA⟩
    have hj' : (j : Int) < (qs.length : Int) := by omega
    have hxj : qs[j]? = some qs[j] := List.getElem?_eq_getElem hj
    have hw := wrap_succ (n := j) (by omega)
    have hc3 : A.length + 1 ≤ 140737488355328 := by omega
    have hc4 : (A.length + 1) * 8 ≤ 140737488355328 := by omega
    obtain ⟨b5, b6, a1, a2, a3, a4, a5, a6, a7, a8, a9, b1, b2, b3⟩ : q ≠ 0 ∧ 0 ≠ q ∧ r ≠ q ∧ q ≠ r ∧ r ≠ q + 1 ∧ 1 ≠ q ∧ 3 ≠ q ∧ q ≠ 3 ∧ 1 ≠ q + 1 ∧ 3 ≠ q + 1 ∧ 3 ≠ r ∧ r ≠ 3 ∧ 1 ≠ r ∧ q ≠ 1 := ⟨by omega, by omega, by omega, by omega, by omega, by omega, by omega, by omega, by omega, by omega, by omega, by omega, by omega, by omega⟩
    have b4 : 3 < q + 1 := by omega
    cases j with
    | zero =>
      simp [boxI, loopAt, loopsOf, Tryz.f147, dd, h3, o1, h7, o3, h9, oR, h28, h29, h30, hj, hj', hxj, hw, hc3, hc4, a1, a2, a3, a4, a5, a6, a7, a8, a9, b1, b2, b3, b4, b5, b6]
      exact ⟨A ++ [qs[0].num], by simp, by omega, by simp [List.length_eq_zero_iff.1 (show A.length = 0 by omega)]⟩
    | succ m =>
      have hpos : (0 : Int) < (m : Int) + 1 := by omega
      have hnn : (0 : Int) ≤ (m : Int) + 1 := by omega
      have hne := hf (by omega) _ (List.getElem_mem hj)
      simp only [Int.natCast_add, Int.cast_ofNat_Int] at hw h30 hj'
      cases ho : iv.opn with
      | true =>
        simp [boxI, loopAt, loopsOf, Tryz.f147, dd, h3, o1, h7, o3, h9, oR, h28, h29, h30, hj, hj', hxj, hw, hc3, hc4, a1, a2, a3, a4, a5, a6, a7, a8, a9, b1, b2, b3, b4, b5, b6, hpos, hnn, ho]
        exact ⟨A ++ [qs[m + 1].num], by simp, by simp; omega⟩
      | false =>
        cases hpe : qs[m + 1].ents with
        | nil => exact absurd hpe hne
        | cons f y =>
          cases hb : Op.bytesLess f.key iv.high with
          | true =>
            simp [boxI, loopAt, loopsOf, Tryz.f147, dd, h3, o1, h7, o3, h9, oR, h28, h29, h30, hj, hj', hxj, hw, hc3, hc4, a1, a2, a3, a4, a5, a6, a7, a8, a9, b1, b2, b3, b4, b5, b6, hpos, hnn, ho, hpe, hb]
            exact ⟨A ++ [qs[m + 1].num], by simp, by simp; omega⟩
          | false =>
            simp [boxI, loopAt, loopsOf, Tryz.f147, dd, h3, o1, h7, o3, h9, oR, h28, h29, h30, hj, hj', hxj, hw, hc3, hc4, a1, a2, a3, a4, a5, a6, a7, a8, a9, b1, b2, b3, b4, b5, b6, hpos, hnn, ho, hpe, hb]
            exact ⟨r, hr3, rfl, A, by simp [a1, oR]⟩
  · rintro s o q ⟨r, A, h3, o1, h7, o3, h9, oR, h28, h29, h30, hr3, hr, hA⟩
    simp [boxI, loopAt, loopsOf, Tryz.f147, h3, o1, h7, o3, h9, oR, h28, h29, h30]
    exact ⟨r, hr3, rfl, A, oR⟩
theorem flats_ent : ∀ l : List Ent, T.flats (l.map entT) = true
  | [] => rfl
  | e :: r => by simp [T.flats, T.flat, flats_ent r]
theorem implRange (t : Tr) (iv : Ivl) (h : t.Sm) (hok : treeOK t = true) : ∃ ns : List Int, run E (.call 147 [.t (treeT t), .t (ivlT iv)]) = some (.res [.row 228 (((allE t).filter (fun e => hasI iv e.key)).map entT), .row 3 (ns.map numT), xI 0] []) := by
  have h1 := implTreeOK t h
  rw [hok] at h1
  have hok' := hok
  unfold treeOK at hok'
  simp only [Bool.and_eq_true] at hok'
  have hpl : 1 ≤ t.pages.length ∧ t.pages.length ≤ 60 := by
    have := hok'.1.1
    unfold in1 at this
    simp at this; omega
  have hsm := flat_small t.pages (nums_small _ _ _ _ hok'.2.1)
  have hsa : (allE t).length ≤ 240 := by unfold allE; omega
  have h2 := entriesOf t (by omega) (by omega)
  have h3 := del_196 (allE t) (by omega) 197 [.str iv.low, .str iv.high, .bool iv.opn] (fun e => !hasI iv e.key) rfl (by simp) (fun e _ => hasClos iv e)
  have hst : stayP (fun e : Ent => !hasI iv e.key) (allE t) = (allE t).filter (fun e => hasI iv e.key) := by
    unfold stayP; simp
  rw [hst] at h3
  have h4 := implPlace t ⟨iv.low, -1⟩ (by omega)
  have hlt := placeLt ⟨iv.low, -1⟩ t.pages (fun e => by rw [e] at hpl; simp at hpl)
  generalize placeP ⟨iv.low, -1⟩ t.pages = k at *
  have hk' : (k : Int) ≤ (t.pages.length : Int) := by omega
  have hk2 : k ≤ t.pages.length := by omega
  generalize ((allE t).filter (fun e => hasI iv e.key)) = F at *
  obtain ⟨X, S, O, Q, M, hM, hx⟩ := skG (fun M : Nat × List Int => 3 < M.1) ((4, []) : Nat × List Int) (by simp) (fun s o q hh => by
    obtain ⟨e, s', o', q', hr, M, hM, hk⟩ := irange_nums (t.pages.drop k) iv (by simp; omega) (fun hlen p hp => nums_full _ _ (by simp at hlen; omega) _ _ hok'.2.1 p (List.mem_of_mem_drop hp)) (.row 228 (F.map entT) true) s o q hh
    exact ⟨e, s', o', q', hr, M, hM, hk⟩)
  simp only [loopAt, loopsOf, Tryz.f147] at hx
  have hM1 : ∀ s o q, ¬ (M s o q).1 = 3 := fun s o q => by have := hM s o q; omega
  have hM2 : ∀ s o q, ¬ 3 = (M s o q).1 := fun s o q => by have := hM s o q; omega
  try simp [boxI] at h1 h2 h3 h4 hx
  rw [run_call E 147 _ rfl Tryz.func147 rfl rfl rfl (by simp)]
  have ff := flats_ent F
  have htk : (t.pages.map pgT).take t.pages.length = t.pages.map pgT := List.take_of_length_le (by simp)
  simp [h1, h2, h3, h4, hk', hk2, hx, hM1, hM2, ff, htk]
  exact ⟨_, rfl⟩
abbrev boxIv (i : Ivl) : Ob := .box 68 [.t (.str i.low), .t (.str i.high), .t (.bool i.opn)]
theorem srange_in (ents : List Ent) (iv : Ivl) (hl : ents.length < 4294967296) (A : List Ent) (hA : A.length + ents.length ≤ 1000000) (B0 Z : Ob) (K KF : Nat) : ∀ s o q, (s 2 = .ptr 0 0 ∧ s 3 = .ptr 1 0 ∧ o 0 = B0 ∧ o 1 = boxIv iv ∧ s 6 = .row (rwN (s 6)) ∧ o (rwN (s 6)) = .row 228 (A.map entT) true ∧ s 7 = .row (rwN (s 7)) ∧ o (rwN (s 7)) = Z ∧ s 8 = .t (.int .i64 KF) ∧ s 9 = .t (.int .i64 K) ∧ s 10 = .t (.list (ents.map entT)) ∧ s 11 = .t (.int .i64 0) ∧ rwN (s 6) < q ∧ rwN (s 7) < q ∧ 1 < rwN (s 6) ∧ 1 < rwN (s 7) ∧ rwN (s 6) ≠ rwN (s 7)) →
    ∃ e s' o' q', run E (.code (.loop (loopAt Tryz.f185 1)) ⟨s, o, q, 86⟩) = some (.st e ⟨s', o', q', 86⟩) ∧ ∃ M : Nat × Nat, (1 < M.1 ∧ 1 < M.2 ∧ M.1 ≠ M.2) ∧ (e = .exit 2 ∧ s' 2 = .ptr 0 0 ∧ s' 3 = .ptr 1 0 ∧ o' 0 = B0 ∧ o' 1 = boxIv iv ∧ s' 6 = .row M.1 ∧ o' M.1 = .row 228 ((A ++ ents.filter (fun e => hasI iv e.key)).map entT) true ∧ s' 7 = .row M.2 ∧ o' M.2 = Z ∧ s' 8 = .t (.int .i64 KF) ∧ s' 9 = .t (.int .i64 K) ∧ M.1 < q' ∧ M.2 < q') := by
  intro s o q hI
  have d13 := d185_13
  simp [regionOf, findR, pick, Tryz.f185] at d13
  have dd := fun st => run_region_draw E st 13 _ d13
  clear d13
  obtain ⟨R7, hR7⟩ : ∃ R7, R7 = rwN (s 7) := ⟨_, rfl⟩
  obtain ⟨F, hF⟩ : ∃ F, F = A ++ ents.filter (fun e => hasI iv e.key) := ⟨_, rfl⟩
  rw [← hF]
  refine loop_for (c := loopAt Tryz.f185 1) (N := 86)
    (fun k s o q => ∃ (r : Nat) (G : List Ent), s 2 = .ptr 0 0 ∧ s 3 = .ptr 1 0 ∧ o 0 = B0 ∧ o 1 = boxIv iv ∧ s 6 = .row r ∧ o r = .row 228 (G.map entT) true ∧ s 7 = .row R7 ∧ o R7 = Z ∧ s 8 = .t (.int .i64 KF) ∧ s 9 = .t (.int .i64 K) ∧ s 10 = .t (.list (ents.map entT)) ∧ s 11 = .t (.int .i64 k) ∧ r < q ∧ R7 < q ∧ 1 < r ∧ 1 < R7 ∧ r ≠ R7 ∧ F = G ++ (ents.drop k).filter (fun e => hasI iv e.key) ∧ G.length ≤ A.length + k)
    (fun e s' o' q' => ∃ M : Nat × Nat, (1 < M.1 ∧ 1 < M.2 ∧ M.1 ≠ M.2) ∧ (e = .exit 2 ∧ s' 2 = .ptr 0 0 ∧ s' 3 = .ptr 1 0 ∧ o' 0 = B0 ∧ o' 1 = boxIv iv ∧ s' 6 = .row M.1 ∧ o' M.1 = .row 228 (F.map entT) true ∧ s' 7 = .row M.2 ∧ o' M.2 = Z ∧ s' 8 = .t (.int .i64 KF) ∧ s' 9 = .t (.int .i64 K) ∧ M.1 < q' ∧ M.2 < q')) ents.length ?_ ?_
    ents.length 0 s o q (by omega) ⟨rwN (s 6), A, hI.1, hI.2.1, hI.2.2.1, hI.2.2.2.1, hI.2.2.2.2.1, hI.2.2.2.2.2.1, by rw [hR7]; exact hI.2.2.2.2.2.2.1, by rw [hR7]; exact hI.2.2.2.2.2.2.2.1, hI.2.2.2.2.2.2.2.2.1, hI.2.2.2.2.2.2.2.2.2.1, hI.2.2.2.2.2.2.2.2.2.2.1, hI.2.2.2.2.2.2.2.2.2.2.2.1, hI.2.2.2.2.2.2.2.2.2.2.2.2.1, by rw [hR7]; exact hI.2.2.2.2.2.2.2.2.2.2.2.2.2.1, hI.2.2.2.2.2.2.2.2.2.2.2.2.2.2.1, by rw [hR7]; exact hI.2.2.2.2.2.2.2.2.2.2.2.2.2.2.2.1, by rw [hR7]; exact hI.2.2.2.2.2.2.2.2.2.2.2.2.2.2.2.2, by simpa using hF, by simp⟩
  · rintro k s o q hk ⟨r, G, h2, h3, o0, o1, h6, oR, h7, oZ, h8, h9, h10, h11, p1, p2, p3, p4, p5, hc, hGl⟩
    have hk' : (k : Int) < (ents.length : Int) := by omega
    have hxk : ents[k]? = some ents[k] := List.getElem?_eq_getElem hk
    have hw := wrap_succ (n := k) (by omega)
    have hh := shas iv ents[k].key
    have hc3 : G.length + 1 ≤ 140737488355328 := by omega
    have hc4 : (G.length + 1) * 24 ≤ 140737488355328 := by omega
    obtain ⟨b5, b6, b7, b8, b9, a1, a2, a3, a4, a5, a6, a7, a8, a9, b1, b2, b3, b4⟩ : q ≠ 0 ∧ q ≠ 1 ∧ q + 1 ≠ R7 ∧ q + 1 ≠ r ∧ q + 1 + 1 ≠ R7 ∧ r ≠ q ∧ q ≠ r ∧ r ≠ q + 1 ∧ 0 ≠ q ∧ 1 ≠ q ∧ 0 ≠ q + 1 ∧ 1 ≠ q + 1 ∧ R7 ≠ q ∧ R7 ≠ q + 1 ∧ R7 ≠ r ∧ 0 ≠ r ∧ 1 ≠ r ∧ q ≠ R7 := by
      clear hh hc hF oR oZ o0 o1 h2 h3 h6 h7 h8 h9 h10 h11 hxk hw
      (repeat' apply And.intro) <;> omega
    rw [List.drop_eq_getElem_cons hk, List.filter_cons] at hc
    try simp at hh
    cases ht : hasI iv ents[k].key with
    | true =>
      rw [ht] at hh
      rw [if_pos ht] at hc
      simp [boxIv, loopAt, loopsOf, Tryz.f185, dd, h2, h3, o0, o1, h6, oR, h7, oZ, h8, h9, h10, h11, hk, hk', hxk, hw, hh, hc3, hc4, a1, a2, a3, a4, a5, a6, a7, a8, a9, b1, b2, b3, b4, b5, b6, b7, b8, b9, p5]
      exact ⟨G ++ [ents[k]], by simp, by omega, by omega, p4, by rw [hc]; simp, by simp; omega⟩
    | false =>
      rw [ht] at hh
      rw [if_neg (by simp [ht])] at hc
      simp [boxIv, loopAt, loopsOf, Tryz.f185, dd, h2, h3, o0, o1, h6, oR, h7, oZ, h8, h9, h10, h11, hk, hk', hxk, hw, hh, a1, a2, a3, a4, a5, a6, a7, a8, a9, b1, b2, b3, b4, b5, b6, b7, b8, b9, p5]
      exact ⟨G, rfl, p1, p2, p3, p4, hc, by omega⟩
  · rintro s o q ⟨r, G, h2, h3, o0, o1, h6, oR, h7, oZ, h8, h9, h10, h11, p1, p2, p3, p4, p5, hc, hGl⟩
    rw [List.drop_of_length_le (Nat.le_refl _)] at hc
    simp at hc
    subst hc
    simp [boxIv, loopAt, loopsOf, Tryz.f185, h2, h3, o0, o1, h6, oR, h7, oZ, h8, h9, h10, h11]
    exact ⟨r, R7, ⟨p3, p4, p5⟩, rfl, oR, rfl, oZ, p1, p2⟩
theorem specRange (t : Tr) (iv : Ivl) (hl : t.pages.length ≤ 1000) (hs : ∀ p ∈ t.pages, p.ents.length ≤ 4) : ∃ ns : List Int, run E (.call 185 [.t (treeT t), .t (ivlT iv)]) = some (.res [.row 228 ((rangeP iv t.pages).map entT), .row 3 (ns.map numT)] []) := by
  have d8 := d185_8
  simp [regionOf, findR, pick, Tryz.f185] at d8
  have dd := fun st => run_region_draw E st 8 _ d8
  clear d8
  have hpl := specPlace t ⟨iv.low, -1⟩ (by omega)
  obtain ⟨k0, hk0⟩ : ∃ k0, k0 = placeP ⟨iv.low, -1⟩ t.pages := ⟨_, rfl⟩
  obtain ⟨F, hF⟩ : ∃ F, F = rangeP iv t.pages := ⟨_, rfl⟩
  have hF' := hF
  unfold rangeP at hF'
  rw [← hk0] at hpl hF'
  rw [← hF]
  have hkl : k0 ≤ t.pages.length := by
    by_cases he : t.pages = []
    · rw [hk0, he]; simp [placeP, placeGo]
    · have := placeLt ⟨iv.low, -1⟩ t.pages he; omega
  have lp := skG (fun M : (Nat × Nat) × List Int => M.1.1 ≠ M.1.2) (((0, 1), []) : (Nat × Nat) × List Int) (by simp) (fun s o q (hI : s 2 = .ptr 0 0 ∧ s 3 = .ptr 1 0 ∧ o 0 = .box 127 [.t (.list (t.pages.map pgT)), .t (.int .i64 t.next)] ∧ o 1 = boxIv iv ∧ s 6 = .row 2 ∧ o 2 = .row 228 [] true ∧ s 7 = .row 3 ∧ o 3 = .row 3 [] true ∧ s 8 = .t (.int .i64 k0) ∧ s 9 = .t (.int .i64 k0) ∧ 3 < q) => loop_for (c := loopAt Tryz.f185 0) (N := 86)
    (fun i s o q => ∃ (r6 r7 : Nat) (A : List Ent) (N : List Int), s 2 = .ptr 0 0 ∧ s 3 = .ptr 1 0 ∧ o 0 = .box 127 [.t (.list (t.pages.map pgT)), .t (.int .i64 t.next)] ∧ o 1 = boxIv iv ∧ s 6 = .row r6 ∧ o r6 = .row 228 (A.map entT) true ∧ s 7 = .row r7 ∧ o r7 = .row 3 (N.map numT) true ∧ s 8 = .t (.int .i64 k0) ∧ s 9 = .t (.int .i64 ((k0 + i : Nat) : Int)) ∧ r6 < q ∧ r7 < q ∧ 1 < r6 ∧ 1 < r7 ∧ r6 ≠ r7 ∧ F = A ++ rangeGo iv k0 (k0 + i) (t.pages.drop (k0 + i)) ∧ N.length ≤ i ∧ A.length ≤ 4 * i)
    (fun e s' o' q' => ∃ M : (Nat × Nat) × List Int, M.1.1 ≠ M.1.2 ∧ (e = .exit 0 ∧ s' 6 = .row M.1.1 ∧ o' M.1.1 = .row 228 (F.map entT) true ∧ s' 7 = .row M.1.2 ∧ o' M.1.2 = .row 3 (M.2.map numT) true))
    (t.pages.length - k0)
    (by
      rintro i s o q hi ⟨r6, r7, A, N, h2, h3, o0, o1, h6, oR, h7, oZ, h8, h9, p1, p2, p3, p4, p5, hc, hN, hA⟩
      obtain ⟨k, hk⟩ : ∃ k, k = k0 + i := ⟨_, rfl⟩
      rw [← hk] at h9 hc
      have hkl : k < t.pages.length := by omega
      have hk' : (k : Int) < (t.pages.length : Int) := by omega
      have hxk : t.pages[k]? = some t.pages[k] := List.getElem?_eq_getElem hkl
      have hw := wrap_succ (n := k) (by omega)
      have hpe4 := hs _ (List.getElem_mem hkl)
      have hc3 : N.length + 1 ≤ 140737488355328 := by omega
      have hc4 : (N.length + 1) * 8 ≤ 140737488355328 := by omega
      have hks : k0 + (i + 1) = k + 1 := by omega
      have hfl : ((t.pages[k].ents).filter (fun e => hasI iv e.key)).length ≤ 4 := Nat.le_trans (List.length_filter_le _ _) hpe4
      rw [List.drop_eq_getElem_cons hkl, rangeGo] at hc
      obtain ⟨a1, a2, a3, a4, a5, a6, a7, a8, a9, b1, b2, b3, b4, b5, b6, b7⟩ : r6 ≠ q ∧ q ≠ r6 ∧ r6 ≠ q + 1 ∧ 0 ≠ q ∧ 1 ≠ q ∧ 0 ≠ q + 1 ∧ 1 ≠ q + 1 ∧ r7 ≠ q ∧ r7 ≠ q + 1 ∧ r7 ≠ r6 ∧ 0 ≠ r6 ∧ 1 ≠ r6 ∧ q ≠ r7 ∧ 0 ≠ r7 ∧ 1 ≠ r7 ∧ q + 1 ≠ r6 := by
        clear hc hF hF' oR oZ o0 o1 h2 h3 h6 h7 h8 h9 hxk hw hpl dd hs
        (repeat' apply And.intro) <;> omega
      obtain ⟨b8, b9, c1, c2⟩ : r6 < q + 1 + 1 ∧ 1 < q + 1 ∧ q ≠ 0 ∧ 0 < q := by
        clear hc hF hF' oR oZ o0 o1 h2 h3 h6 h7 h8 h9 hxk hw hpl dd hs
        (repeat' apply And.intro) <;> omega
      have hin := srange_in t.pages[k].ents iv (by omega) A (by omega) (.box 127 [.t (.list (t.pages.map pgT)), .t (.int .i64 t.next)]) (.row 3 ((N ++ [t.pages[k].num]).map numT) true) k k0
      obtain ⟨X2, A2, B2, C2, M2, hM2, hx2⟩ := skG (fun M : Nat × Nat => 1 < M.1 ∧ 1 < M.2 ∧ M.1 ≠ M.2) ((2, 3) : Nat × Nat) (by simp) (fun s o q h => by
        obtain ⟨e, s', o', q', hr, M, hM, hk⟩ := hin s o q h
        exact ⟨e, s', o', q', hr, M, hM, hk⟩)
      simp only [loopAt, loopsOf, Tryz.f185] at hx2
      simp [boxIv] at hx2
      have hm1 := fun s o q => (hM2 s o q).1
      have hm2 := fun s o q => (hM2 s o q).2.1
      have hm3 := fun s o q => (hM2 s o q).2.2
      by_cases hbrk : k0 < k ∧ iv.opn = false ∧ farP iv t.pages[k] = true
      · rw [if_pos hbrk, List.append_nil] at hc
        obtain ⟨g1, g2, g3⟩ := hbrk
        have g1' : (k0 : Int) < (k : Int) := by omega
        cases hpe : t.pages[k].ents with
        | nil => simp [farP, hpe] at g3
        | cons f y =>
          have hb : Op.bytesLess f.key iv.high = false := by simpa [farP, hpe] using g3
          have hpos : (0 : Int) < (y.length : Int) + 1 := by omega
          simp [boxIv, loopAt, loopsOf, Tryz.f185, dd, h2, h3, o0, o1, h6, oR, h7, oZ, h8, h9, hkl, hk', hxk, hpe, g1', g2, hb, hpos]
          exact ⟨r6, r7, p5, rfl, by rw [oR, hc], rfl, N, oZ⟩
      · rw [if_neg hbrk] at hc
        rw [hks]
        by_cases g1 : k0 < k
        · have g1' : (k0 : Int) < (k : Int) := by omega
          cases g2 : iv.opn with
          | true =>
            simp [boxIv, loopAt, loopsOf, Tryz.f185, dd, h2, h3, o0, o1, h6, oR, h7, oZ, h8, h9, hkl, hk', hxk, hw, hx2, hc3, hc4, p3, p5, a1, a2, a3, a4, a5, a6, a7, a8, a9, b1, b2, b3, b4, b5, b6, b7, b8, b9, c1, c2, hm1, hm2, hm3, g1', g2]
            refine ⟨_, A ++ t.pages[k].ents.filter (fun e => hasI iv e.key), by simp, rfl, N ++ [t.pages[k].num], ?_⟩
            simp [boxIv, loopAt, loopsOf, Tryz.f185, dd, h2, h3, o0, o1, h6, oR, h7, oZ, h8, h9, hkl, hk', hxk, hw, hx2, hc3, hc4, p3, p5, a1, a2, a3, a4, a5, a6, a7, a8, a9, b1, b2, b3, b4, b5, b6, b7, b8, b9, c1, c2, hm1, hm2, hm3, g1', g2]
            exact ⟨by rw [hc], by omega, by omega⟩
          | false =>
            cases hpe : t.pages[k].ents with
            | nil =>
              simp [boxIv, loopAt, loopsOf, Tryz.f185, dd, h2, h3, o0, o1, h6, oR, h7, oZ, h8, h9, hkl, hk', hxk, hw, hx2, hc3, hc4, p3, p5, a1, a2, a3, a4, a5, a6, a7, a8, a9, b1, b2, b3, b4, b5, b6, b7, b8, b9, c1, c2, hm1, hm2, hm3, g1', g2, hpe]
              refine ⟨_, A ++ t.pages[k].ents.filter (fun e => hasI iv e.key), by simp [hpe], rfl, N ++ [t.pages[k].num], ?_⟩
              simp [boxIv, loopAt, loopsOf, Tryz.f185, dd, h2, h3, o0, o1, h6, oR, h7, oZ, h8, h9, hkl, hk', hxk, hw, hx2, hc3, hc4, p3, p5, a1, a2, a3, a4, a5, a6, a7, a8, a9, b1, b2, b3, b4, b5, b6, b7, b8, b9, c1, c2, hm1, hm2, hm3, g1', g2, hpe]
              exact ⟨by rw [hc]; simp [hpe], by omega, by rw [hpe] at hfl; (try simp at hfl ⊢); omega⟩
            | cons f y =>
              have hb : Op.bytesLess f.key iv.high = true := by
                cases hb : Op.bytesLess f.key iv.high with
                | true => rfl
                | false => exact absurd ⟨g1, g2, by simp [farP, hpe, hb]⟩ hbrk
              have hpos : (0 : Int) < (y.length : Int) + 1 := by omega
              simp [boxIv, loopAt, loopsOf, Tryz.f185, dd, h2, h3, o0, o1, h6, oR, h7, oZ, h8, h9, hkl, hk', hxk, hw, hx2, hc3, hc4, p3, p5, a1, a2, a3, a4, a5, a6, a7, a8, a9, b1, b2, b3, b4, b5, b6, b7, b8, b9, c1, c2, hm1, hm2, hm3, g1', g2, hpe, hb, hpos]
              refine ⟨_, A ++ t.pages[k].ents.filter (fun e => hasI iv e.key), by simp [hpe], rfl, N ++ [t.pages[k].num], ?_⟩
              simp [boxIv, loopAt, loopsOf, Tryz.f185, dd, h2, h3, o0, o1, h6, oR, h7, oZ, h8, h9, hkl, hk', hxk, hw, hx2, hc3, hc4, p3, p5, a1, a2, a3, a4, a5, a6, a7, a8, a9, b1, b2, b3, b4, b5, b6, b7, b8, b9, c1, c2, hm1, hm2, hm3, g1', g2, hpe, hb, hpos]
              exact ⟨by rw [hc]; simp [hpe], by omega, by rw [hpe] at hfl; (try simp at hfl ⊢); omega⟩
        · have g1' : ¬ (k0 : Int) < (k : Int) := by omega
          simp [boxIv, loopAt, loopsOf, Tryz.f185, dd, h2, h3, o0, o1, h6, oR, h7, oZ, h8, h9, hkl, hk', hxk, hw, hx2, hc3, hc4, p3, p5, a1, a2, a3, a4, a5, a6, a7, a8, a9, b1, b2, b3, b4, b5, b6, b7, b8, b9, c1, c2, hm1, hm2, hm3, g1']
          refine ⟨_, A ++ t.pages[k].ents.filter (fun e => hasI iv e.key), by simp, rfl, N ++ [t.pages[k].num], ?_⟩
          simp [boxIv, loopAt, loopsOf, Tryz.f185, dd, h2, h3, o0, o1, h6, oR, h7, oZ, h8, h9, hkl, hk', hxk, hw, hx2, hc3, hc4, p3, p5, a1, a2, a3, a4, a5, a6, a7, a8, a9, b1, b2, b3, b4, b5, b6, b7, b8, b9, c1, c2, hm1, hm2, hm3, g1']
          exact ⟨by rw [hc], by omega, by omega⟩)
    (by
      rintro s o q ⟨r6, r7, A, N, h2, h3, o0, o1, h6, oR, h7, oZ, h8, h9, p1, p2, p3, p4, p5, hc, hN, hA⟩
      have hkk : k0 + (t.pages.length - k0) = t.pages.length := by omega
      rw [hkk, List.drop_of_length_le (Nat.le_refl _), rangeGo, List.append_nil] at hc
      rw [hkk] at h9
      subst hc
      simp [boxIv, loopAt, loopsOf, Tryz.f185, h2, h3, o0, o1, h6, oR, h7, oZ, h8, h9]
      exact ⟨r6, r7, p5, rfl, oR, rfl, N, oZ⟩)
    (t.pages.length - k0) 0 s o q (by omega) ⟨2, 3, [], [], hI.1, hI.2.1, hI.2.2.1, hI.2.2.2.1, hI.2.2.2.2.1, by simpa using hI.2.2.2.2.2.1, hI.2.2.2.2.2.2.1, by simpa using hI.2.2.2.2.2.2.2.1, hI.2.2.2.2.2.2.2.2.1, by simpa using hI.2.2.2.2.2.2.2.2.2.1, by omega, by omega, by omega, by omega, by omega, by simpa using hF', by simp, by simp⟩)
  obtain ⟨X, S, O, Q, M, hM, hx⟩ := lp
  rw [run_call E 185 _ rfl Tryz.func185 rfl rfl rfl (by simp)]
  simp only [loopAt, loopsOf, Tryz.f185] at hx
  simp [boxIv] at hx
  have hm := fun s o q => hM s o q
  have hm' : ∀ s o q, ¬ (M s o q).1.2 = (M s o q).1.1 := fun s o q e => hM s o q e.symm
  try simp at hpl
  simp [hpl, hx, hm, hm']
  exact ⟨_, rfl⟩
end Go.Md
