/- The laws' own functions: values, terms, clauses, filters, parts, texts. -/
import Derived.Test.YtjbnpbcihofmgaaGreatDoorPartF
import Derived.Shelf.Small.Strs
import Derived.Shelf.Strings.Repeat
import Derived.Test.YtjbnpbcihofmgaaGreatDoorProg
import Derived.Test.YtjbnpbcihofmgaaGreatDoorPartE
import Derived.Below
set_option linter.unusedSimpArgs false
set_option linter.unusedVariables false
namespace Go.Zd
open Go.Ev Go.Proofs Go.Pu
set_option maxRecDepth 100000
set_option maxHeartbeats 16000000
def szVal (v : Val) (l : Int) : Int := szB v.t.length l
def szTrm (t : Trm) (l : Int) : Int := thenSz (szB t.path.length) (thenSz (szVal t.v) (fun k => k)) l
def szPrt (p : Prt) (l : Int) : Int := szB p.path.length l
def szCls (c : List Trm) (l : Int) : Int := thenSz (lstSz szTrm c) (fun k => k) l
def szFil (f : List (List Trm)) (l : Int) : Int := thenSz (lstSz szCls f) (fun k => k) l
def szTxt (t : Bytes) (l : Int) : Int := szB t.length l
theorem szVal_le (v : Val) (k : Int) (h : 0 ≤ k) : szVal v k ≤ k := szB_le h
theorem szTrm_le (t : Trm) (k : Int) (h : 0 ≤ k) : szTrm t k ≤ k := thenSz_le h (fun k hk => szB_le hk) (fun k hk => thenSz_le hk (fun k hk => szB_le hk) (fun k _ => Int.le_refl k))
theorem szPrt_le (p : Prt) (k : Int) (h : 0 ≤ k) : szPrt p k ≤ k := szB_le h
theorem szCls_le (c : List Trm) (k : Int) (h : 0 ≤ k) : szCls c k ≤ k := thenSz_le h (fun k hk => lstSz_le hk (fun x _ k hk => szTrm_le x k hk)) (fun k _ => Int.le_refl k)
theorem szFil_le (c : List (List Trm)) (k : Int) (h : 0 ≤ k) : szFil c k ≤ k := thenSz_le h (fun k hk => lstSz_le hk (fun x _ k hk => szCls_le x k hk)) (fun k _ => Int.le_refl k)
/-- No longer than what memory holds. -/
def W (n : Nat) : Prop := n < 4611686018427387904
def Trm.wd (t : Trm) : Prop := W t.path.length ∧ W t.v.t.length
def clsWd (c : List Trm) : Prop := W c.length ∧ ∀ t ∈ c, t.wd
def filWd (f : List (List Trm)) : Prop := W f.length ∧ ∀ c ∈ f, clsWd c
def prtsWd (l : List Prt) : Prop := W l.length ∧ ∀ p ∈ l, W p.path.length
def txtsWd (l : List Bytes) : Prop := W l.length ∧ ∀ p ∈ l, W p.length
theorem wrap_sz {n : Nat} {l : Int} (h : W n) (h0 : 0 ≤ l) (hm : l ≤ 1048576) : IntKind.i64.wrap (l - (n : Int)) = l - n := by unfold W at h; exact wrap_of (by omega) (by omega)
theorem szValue (v : Val) (h : W v.t.length) (l : Int) (h0 : 0 ≤ l) (hm : l ≤ 1048576) : run E (.call 13 [xV v, xI l]) = some (.res [xI (szVal v l)] []) := by
  rw [run_call E 13 _ rfl Tryz.func13 rfl rfl rfl (by simp)]
  have hw := wrap_sz h h0 hm
  unfold szVal szB
  by_cases hb : l - (v.t.length : Int) < 0 <;> simp [hw, hb]
theorem szPart (p : Prt) (h : W p.path.length) (l : Int) (h0 : 0 ≤ l) (hm : l ≤ 1048576) : run E (.call 53 [.t (prtT p), xI l]) = some (.res [xI (szPrt p l)] []) := by
  rw [run_call E 53 _ rfl Tryz.func53 rfl rfl rfl (by simp)]
  have hw := wrap_sz h h0 hm
  unfold szPrt szB
  by_cases hb : l - (p.path.length : Int) < 0 <;> simp [hw, hb]
theorem szTerm (t : Trm) (h : t.wd) (l : Int) (h0 : 0 ≤ l) (hm : l ≤ 1048576) : run E (.call 23 [.t (trmT t), xI l]) = some (.res [xI (szTrm t l)] []) := by
  rw [run_call E 23 _ rfl Tryz.func23 rfl rfl rfl (by simp)]
  have hw := wrap_sz h.1 h0 hm
  unfold szTrm thenSz
  by_cases hb : l - (t.path.length : Int) < 0
  · simp [hw, hb, szB]
  · have hv := szValue t.v h.2 (l - t.path.length) (by omega) (by omega)
    have e : szB t.path.length l = l - t.path.length := by simp [szB, hb]
    by_cases hn : szVal t.v (l - t.path.length) < 0 <;> simp [hw, hb, e, hv, hn]
theorem szTermS (c : List Trm) (h : clsWd c) (l : Int) (h0 : 0 ≤ l) (hm : l ≤ 1048576) : run E (.call 223 [.t (.list (c.map trmT)), xI l]) = some (.res [xI (lstSz szTrm c l)] []) :=
  sz_223 c szTrm (by have := h.1; unfold W at this; omega) (fun x hx l h0 hm => szTerm x (h.2 x hx) l h0 hm) (fun x _ k hk => szTrm_le x k hk) l h0 hm
theorem szClause (c : List Trm) (h : clsWd c) (l : Int) (h0 : 0 ≤ l) (hm : l ≤ 1048576) : run E (.call 172 [.t (clsT c), xI l]) = some (.res [xI (szCls c l)] []) := by
  rw [run_call E 172 _ rfl Tryz.func172 rfl rfl rfl (by simp)]
  have hs := szTermS c h l h0 hm
  unfold szCls thenSz
  by_cases hn : lstSz szTrm c l < 0 <;> simp [hs, hn]
theorem szFilter (f : List (List Trm)) (h : filWd f) (l : Int) (h0 : 0 ≤ l) (hm : l ≤ 1048576) : run E (.call 52 [.t (filT f), xI l]) = some (.res [xI (szFil f l)] []) := by
  rw [run_call E 52 _ rfl Tryz.func52 rfl rfl rfl (by simp)]
  have hs := sz_112 f szCls (by have := h.1; unfold W at this; omega) (fun x hx l h0 hm => szClause x (h.2 x hx) l h0 hm) (fun x _ k hk => szCls_le x k hk) l h0 hm
  unfold szFil thenSz
  by_cases hn : lstSz szCls f l < 0 <;> simp [hs, hn]
theorem szPartS (c : List Prt) (h : prtsWd c) (l : Int) (h0 : 0 ≤ l) (hm : l ≤ 1048576) : run E (.call 68 [.t (.list (c.map prtT)), xI l]) = some (.res [xI (lstSz szPrt c l)] []) :=
  sz_68 c szPrt (by have := h.1; unfold W at this; omega) (fun x hx l h0 hm => szPart x (h.2 x hx) l h0 hm) (fun x _ k hk => szPrt_le x k hk) l h0 hm
theorem szStringS (xs : List Bytes) (h : txtsWd xs) (l : Int) (h0 : 0 ≤ l) (hm : l ≤ 1048576) : run E (.call 69 [.t (.list (xs.map strT)), xI l]) = some (.res [xI (lstSz szTxt xs l)] []) := by
  rw [run_call E 69 _ rfl Tryz.func69 rfl rfl rfl (by simp)]
  have hl : W xs.length := h.1
  have hw := wrap_sz hl h0 hm
  unfold lstSz szB
  by_cases hb : l - (xs.length : Int) < 0
  · simp [hw, hb]
  · have hb0 : ¬ l < (xs.length : Int) := by omega
    have lp := fun (r : Int) (hr : r = goSz szTxt xs (l - xs.length)) => sk (fun s o q hI => loop_for (c := loopAt Tryz.f69 0) (N := 28)
      (fun i s o q => ∃ k : Int, s 0 = .t (.list (xs.map strT)) ∧ s 1 = .t (.int .i64 k) ∧ s 5 = .t (.int .i64 i) ∧ 0 ≤ k ∧ k ≤ 1048576 ∧ r = goSz szTxt (xs.drop i) k)
      (fun e s' o' q' => e = (if r < 0 then .ret else .exit 0) ∧ (r < 0 → s' 4 = .t (.int .i64 r)) ∧ (0 ≤ r → s' 1 = .t (.int .i64 r))) xs.length
      (by
        rintro i s o q hi ⟨k, g0, g1, g5, hk0, hkm, hp⟩
        have hi' : (i : Int) < (xs.length : Int) := by omega
        have hwi := wrap_succ (n := i) (by unfold W at hl; omega)
        have hxi : xs[i]? = some xs[i] := List.getElem?_eq_getElem hi
        have hx := wrap_sz (h.2 _ (List.getElem_mem hi)) hk0 hkm
        rw [List.drop_eq_getElem_cons hi, goSz] at hp
        by_cases hn : k - (xs[i].length : Int) < 0
        · simp [szTxt, szB, hn] at hp
          simp [loopAt, loopsOf, Tryz.f69, g0, g1, g5, hi', hxi, hwi, hx, hn, hp]
        · have e : szTxt xs[i] k = k - xs[i].length := by simp [szTxt, szB, hn]
          rw [e, if_neg hn] at hp
          simp [loopAt, loopsOf, Tryz.f69, g0, g1, g5, hi', hxi, hwi, hx, hn]
          exact ⟨by omega, by omega, hp⟩)
      (by
        rintro s o q ⟨k, g0, g1, g5, hk0, hkm, hp⟩
        simp [goSz] at hp
        have hk1 : ¬ k < 0 := by omega
        simp [loopAt, loopsOf, Tryz.f69, g0, g1, g5, hp, hk1]
        try omega)
      xs.length 0 s o q (by omega) hI)
    simp only [loopAt, loopsOf, Tryz.f69] at lp
    obtain ⟨r, hr⟩ : ∃ r, r = goSz szTxt xs (l - xs.length) := ⟨_, rfl⟩
    obtain ⟨X, A, B, C, hx⟩ := lp r hr
    have hx' := fun s o q a0 a1 a5 => hx s o q ⟨l - xs.length, a0, a1, a5, by omega, by omega, by simpa using hr⟩
    clear hx
    by_cases hn : r < 0
    · have hn' : ¬ 0 ≤ r := by omega
      simp [hn, hn'] at hx'
      simp [hw, hb, hb0, hx', hn, ← hr]
    · have hn' : 0 ≤ r := by omega
      simp [hn, hn'] at hx'
      simp [hw, hb, hb0, hx', hn, ← hr]
/-! Copies. -/
theorem toValue (v : Val) : run E (.call 15 [xV v]) = some (.res [valX v] []) := by
  rw [run_call E 15 _ rfl Tryz.func15 rfl rfl rfl (by simp)]
  simp
theorem toTerm (t : Trm) : run E (.call 25 [.t (trmT t)]) = some (.res [trmX t] []) := by
  rw [run_call E 25 _ rfl Tryz.func25 rfl rfl rfl (by simp)]
  simp [toValue t.v]
theorem toPart (p : Prt) : run E (.call 56 [.t (prtT p)]) = some (.res [prtX p] []) := by
  rw [run_call E 56 _ rfl Tryz.func56 rfl rfl rfl (by simp)]
  simp
theorem toClause (c : List Trm) (h : c.length < 4294967296) : run E (.call 174 [.t (clsT c)]) = some (.res [.agg [.row 55 (c.map trmT)]] []) := by
  rw [run_call E 174 _ rfl Tryz.func174 rfl rfl rfl (by simp)]
  have hs := to_225 c h (fun x _ => toTerm x)
  simp [hs]
theorem toFilter (f : List (List Trm)) (h : f.length < 4294967296) (hc : ∀ c ∈ f, c.length < 4294967296) : run E (.call 55 [.t (filT f)]) = some (.res [.agg [.row 173 (f.map clsT)]] []) := by
  rw [run_call E 55 _ rfl Tryz.func55 rfl rfl rfl (by simp)]
  have hs := to_114 f h (fun x hx => toClause x (hc x hx))
  simp [hs]
theorem toPartS (l : List Prt) (h : l.length < 4294967296) : run E (.call 74 [.t (.list (l.map prtT))]) = some (.res [.row 108 (l.map prtT)] []) := to_74 l h (fun x _ => toPart x)
theorem toStringS (xs : List Bytes) (hl : xs.length < 4294967296) : run E (.call 75 [.t (.list (xs.map strT))]) = some (.res [.row 9 (xs.map strT)] []) := by
  rw [run_call E 75 _ rfl Tryz.func75 rfl rfl rfl (by simp)]
  have lp := sk (fun s o q hI => loop_for (c := loopAt Tryz.f75 0) (N := 22)
    (fun i s o q => s 0 = .t (.list (xs.map strT)) ∧ s 3 = .row 0 ∧ s 4 = .t (.int .i64 i) ∧ o 0 = .row 9 ((xs.map strT).take i ++ List.replicate (xs.length - i) (.str [])) true)
    (fun e s' o' q' => e = .exit 0 ∧ s' 3 = .row 0 ∧ o' 0 = .row 9 (xs.map strT) true) xs.length
    (by
      rintro i s o q hi ⟨g0, g3, g4, ho⟩
      have hi' : (i : Int) < (xs.length : Int) := by omega
      have hwi := wrap_succ (n := i) (by omega)
      have hxi : xs[i]? = some xs[i] := List.getElem?_eq_getElem hi
      have hget := mid_get (xs.map strT) (T.str []) i xs.length hi (by simp; omega)
      have hset := mid_set (xs.map strT) (T.str []) (strT xs[i]) i xs.length hi (by simp [hxi])
      simp [loopAt, loopsOf, Tryz.f75, g0, g3, g4, hi', hxi, hwi, ho, hget, hset])
    (by
      rintro s o q ⟨g0, g3, g4, ho⟩
      have hfull : (xs.map strT).take xs.length = xs.map strT := List.take_of_length_le (by simp)
      simp [hfull] at ho
      simp [loopAt, loopsOf, Tryz.f75, g0, g3, g4, ho])
    xs.length 0 s o q (by omega) hI)
  simp only [loopAt, loopsOf, Tryz.f75] at lp
  obtain ⟨X, A, B, C, hx⟩ := lp
  simp at hx
  have h1 : xs.length ≤ 140737488355328 := by omega
  have h2 : xs.length * 16 ≤ 140737488355328 := by omega
  simp [h1, h2, hx]
/-! Equality: of what is alike. -/
theorem eqValue (v : Val) : run E (.call 17 [xV v, xV v]) = some (.res [xB true] []) := by
  rw [run_call E 17 _ rfl Tryz.func17 rfl rfl rfl (by simp)]
  simp
theorem eqTerm (t : Trm) : run E (.call 261 [.t (trmT t), .t (trmT t)]) = some (.res [xB true] []) := by
  rw [run_call E 261 _ rfl Tryz.func261 rfl rfl rfl (by simp)]
  simp [eqValue t.v]
theorem eqPart (p : Prt) : run E (.call 141 [.t (prtT p), .t (prtT p)]) = some (.res [xB true] []) := by
  rw [run_call E 141 _ rfl Tryz.func141 rfl rfl rfl (by simp)]
  simp
theorem eqClause (c : List Trm) (h : c.length < 4294967296) : run E (.call 176 [.t (clsT c), .t (clsT c)]) = some (.res [xB true] []) := by
  rw [run_call E 176 _ rfl Tryz.func176 rfl rfl rfl (by simp)]
  have hs := eq_228 c (by omega) (fun x _ => eqTerm x)
  simp [hs]
theorem eqFilter (f : List (List Trm)) (h : f.length < 4294967296) (hc : ∀ c ∈ f, c.length < 4294967296) : run E (.call 59 [.t (filT f), .t (filT f)]) = some (.res [xB true] []) := by
  rw [run_call E 59 _ rfl Tryz.func59 rfl rfl rfl (by simp)]
  have hs := eq_117 f (by omega) (fun x hx => eqClause x (hc x hx))
  simp [hs]
theorem eqPartS (l : List Prt) (h : l.length < 4294967296) : run E (.call 81 [.t (.list (l.map prtT)), .t (.list (l.map prtT))]) = some (.res [xB true] []) := eq_81 l (by omega) (fun x _ => eqPart x)
theorem eqStringS (xs : List Bytes) (hl : xs.length < 4294967296) : run E (.call 38 [.t (.list (xs.map strT)), .t (.list (xs.map strT))]) = some (.res [xB true] []) := by
  rw [run_call E 38 _ rfl Tryz.func38 rfl rfl rfl (by simp)]
  have d6 := d38_6
  simp [regionOf, findR, pick, Tryz.f38] at d6
  have dd := fun st => run_region_draw E st 6 _ d6
  clear d6
  have lp := sk (fun s o q hI => loop_for (c := loopAt Tryz.f38 0) (N := 26)
    (fun i s o q => s 0 = .t (.list (xs.map strT)) ∧ s 1 = .t (.list (xs.map strT)) ∧ s 5 = .t (.int .i64 i))
    (fun e s' o' q' => e = .exit 0) xs.length
    (by
      rintro i s o q hi ⟨g0, g1, g5⟩
      have hi' : (i : Int) < (xs.length : Int) := by omega
      have hwi := wrap_succ (n := i) (by omega)
      have hxi : xs[i]? = some xs[i] := List.getElem?_eq_getElem hi
      simp [loopAt, loopsOf, Tryz.f38, dd, g0, g1, g5, hi', hxi, hwi])
    (by
      rintro s o q ⟨g0, g1, g5⟩
      simp [loopAt, loopsOf, Tryz.f38, g0, g1, g5])
    xs.length 0 s o q (by omega) hI)
  simp only [loopAt, loopsOf, Tryz.f38] at lp
  obtain ⟨X, A, B, C, hx⟩ := lp
  simp at hx
  simp [hx]
end Go.Zd
/- The law FnExactQueryOK, run over plain data: it answers true. -/
set_option linter.unusedSimpArgs false
set_option linter.unusedVariables false
namespace Go.Zd
open Go.Ev Go.Proofs Go.Pu
set_option maxRecDepth 100000
set_option maxHeartbeats 16000000
structure Qry.Wd (q : Qry) : Prop where
  filter : filWd q.filter
  sort : prtsWd q.sort
  keep : txtsWd q.keep
  hint : W q.hint.length
def szQry (q : Qry) (l : Int) : Int := thenSz (szFil q.filter) (thenSz (lstSz szPrt q.sort) (thenSz (lstSz szTxt q.keep) (thenSz (szB q.hint.length) (fun k => k)))) l
theorem szTxt_le (t : Bytes) (k : Int) (h : 0 ≤ k) : szTxt t k ≤ k := szB_le h
theorem lstPrt_le (l : List Prt) (k : Int) (h : 0 ≤ k) : lstSz szPrt l k ≤ k := lstSz_le h (fun x _ k hk => szPrt_le x k hk)
theorem lstTxt_le (l : List Bytes) (k : Int) (h : 0 ≤ k) : lstSz szTxt l k ≤ k := lstSz_le h (fun x _ k hk => szTxt_le x k hk)
theorem szQuery (q : Qry) (h : q.Wd) (l : Int) (h0 : 0 ≤ l) (hm : l ≤ 1048576) : run E (.call 18 [.t (qryT q), xI l]) = some (.res [xI (szQry q l)] []) := by
  rw [run_call E 18 _ rfl Tryz.func18 rfl rfl rfl (by simp)]
  have h1 := szFilter q.filter h.filter l h0 hm
  have l1 := szFil_le q.filter l h0
  unfold szQry thenSz
  by_cases n1 : szFil q.filter l < 0
  · simp [h1, n1]
  · have h2 := szPartS q.sort h.sort (szFil q.filter l) (by omega) (by omega)
    have l2 := lstPrt_le q.sort (szFil q.filter l) (by omega)
    by_cases n2 : lstSz szPrt q.sort (szFil q.filter l) < 0
    · simp [h1, n1, h2, n2]
    · have h3 := szStringS q.keep h.keep (lstSz szPrt q.sort (szFil q.filter l)) (by omega) (by omega)
      have l3 := lstTxt_le q.keep (lstSz szPrt q.sort (szFil q.filter l)) (by omega)
      by_cases n3 : lstSz szTxt q.keep (lstSz szPrt q.sort (szFil q.filter l)) < 0
      · simp [h1, n1, h2, n2, h3, n3]
      · have hw := wrap_sz (n := q.hint.length) (l := lstSz szTxt q.keep (lstSz szPrt q.sort (szFil q.filter l))) h.hint (by omega) (by omega)
        generalize lstSz szTxt q.keep (lstSz szPrt q.sort (szFil q.filter l)) = k at *
        by_cases hb : k - (q.hint.length : Int) < 0
        · have e : szB q.hint.length k = -1 := by simp [szB, hb]
          simp [h1, n1, h2, n2, h3, n3, hw, hb, e]
        · have e : szB q.hint.length k = k - q.hint.length := by simp [szB, hb]
          simp [h1, n1, h2, n2, h3, n3, hw, hb, e]
theorem thenSz_neg {f g : Int → Int} {l : Int} (h : ¬ thenSz f g l < 0) : ¬ f l < 0 ∧ ¬ g (f l) < 0 := by
  unfold thenSz at h
  split at h
  · omega
  · rename_i hf; exact ⟨hf, h⟩
theorem szTrm_sm {t : Trm} {k : Int} (h0 : 0 ≤ k) (hm : k ≤ 1048576) (h : ¬ szTrm t k < 0) : t.sm := by
  obtain ⟨h1, h2⟩ := thenSz_neg h
  obtain ⟨h3, _⟩ := thenSz_neg h2
  have b1 := szB_bound h1
  have b2 := szB_bound h3
  have := szB_le (n := t.path.length) h0
  exact ⟨by omega, by omega⟩
theorem szCls_sm {c : List Trm} {k : Int} (h0 : 0 ≤ k) (hm : k ≤ 1048576) (h : ¬ szCls c k < 0) : clauseSm c := by
  obtain ⟨h1, h2⟩ := thenSz_neg h
  obtain ⟨b1, b2⟩ := lstSz_all (P := Trm.sm) (m := 1048576) h0 hm (fun x _ k hk => szTrm_le x k hk) (fun x _ k hk hm h => szTrm_sm hk hm h) h1
  exact ⟨by omega, b2⟩
theorem szFil_sm {c : List (List Trm)} {k : Int} (h0 : 0 ≤ k) (hm : k ≤ 1048576) (h : ¬ szFil c k < 0) : filterSm c := by
  obtain ⟨h1, h2⟩ := thenSz_neg h
  obtain ⟨b1, b2⟩ := lstSz_all (P := clauseSm) (m := 1048576) h0 hm (fun x _ k hk => szCls_le x k hk) (fun x _ k hk hm h => szCls_sm hk hm h) h1
  exact ⟨by omega, b2⟩
theorem lstPrt_sm {c : List Prt} {k : Int} (h0 : 0 ≤ k) (hm : k ≤ 1048576) (h : ¬ lstSz szPrt c k < 0) : partsSm c := by
  obtain ⟨b1, b2⟩ := lstSz_all (P := fun p => p.path.length < 4294967296) (m := 1048576) h0 hm (fun x _ k hk => szPrt_le x k hk) (fun x _ k hk hm h => by have := szB_bound h; omega) h
  exact ⟨by omega, b2⟩
theorem lstTxt_sm {c : List Bytes} {k : Int} (h0 : 0 ≤ k) (hm : k ≤ 1048576) (h : ¬ lstSz szTxt c k < 0) : textsSm c := by
  obtain ⟨b1, b2⟩ := lstSz_all (P := fun p => p.length < 4294967296) (m := 1048576) h0 hm (fun x _ k hk => szTxt_le x k hk) (fun x _ k hk hm h => by have := szB_bound h; omega) h
  exact ⟨by omega, b2⟩
theorem szQry_sm {q : Qry} (h : ¬ szQry q 1048576 < 0) : q.Sm := by
  obtain ⟨h1, h2⟩ := thenSz_neg h
  obtain ⟨h3, h4⟩ := thenSz_neg h2
  obtain ⟨h5, h6⟩ := thenSz_neg h4
  obtain ⟨h7, _⟩ := thenSz_neg h6
  have l1 := szFil_le q.filter 1048576 (by omega)
  have l2 := lstPrt_le q.sort (szFil q.filter 1048576) (by omega)
  have l3 := lstTxt_le q.keep (lstSz szPrt q.sort (szFil q.filter 1048576)) (by omega)
  have b := szB_bound h7
  exact ⟨szFil_sm (by omega) (by omega) h1, lstPrt_sm (by omega) (by omega) h3, lstTxt_sm (by omega) (by omega) h5, by omega⟩
theorem toQuery (q : Qry) (h : q.Sm) : run E (.call 20 [.t (qryT q)]) = some (.res [.agg [.row 173 (q.filter.map clsT), .row 108 (q.sort.map prtT), xI q.skip, xI q.limit, .row 9 (q.keep.map strT), xS q.hint]] []) := by
  rw [run_call E 20 _ rfl Tryz.func20 rfl rfl rfl (by simp)]
  have h1 := toFilter q.filter h.filter.1 (fun c hc => (h.filter.2 c hc).1)
  have h2 := toPartS q.sort h.sort.1
  have h3 := toStringS q.keep h.keep.1
  simp [h1, h2, h3]
theorem eqQuery (q : Qry) (h : q.Sm) : run E (.call 22 [.t (qryT q), .t (qryT q)]) = some (.res [xB true] []) := by
  rw [run_call E 22 _ rfl Tryz.func22 rfl rfl rfl (by simp)]
  have h1 := eqFilter q.filter h.filter.1 (fun c hc => (h.filter.2 c hc).1)
  have h2 := eqPartS q.sort h.sort.1
  have h3 := eqStringS q.keep h.keep.1
  simp [h1, h2, h3]
theorem lawQueryOK (q : Qry) (h : q.Wd) : run E (.call 4 [.t (qryT q)]) = some (.res [xB true] []) := by
  rw [run_call E 4 _ rfl Tryz.func4 rfl rfl rfl (by simp)]
  have h1 := szQuery q h 1048576 (by omega) (by omega)
  by_cases hn : szQry q 1048576 < 0
  · simp [h1, hn]
  · have hs := szQry_sm hn
    have h2 := toQuery q hs
    have h3 := specQueryOK q hs
    have h4 := implQueryOK q hs
    have h5 := eqQuery q hs
    have d10 := d4_10
    simp [regionOf, findR, pick, Tryz.f4] at d10
    have dd := fun st => run_region_draw E st 10 _ d10
    clear d10
    simp [h1, hn, h2, h3, h4, h5, dd]
end Go.Zd
/- The contracts of strings.Repeat and bytealg.CompareString at this program (laid by the kit's tool). -/
namespace Go.Proofs
open Go.Shelf Go.RowKit
def Tryz.lays213_ren : Go.Shelf.Ren := ⟨fun | 213 => 246 | 265 => 273 | n => n, fun | 9 => 9 | 3 => 3 | n => n, fun | n => n⟩
theorem Tryz.lays213 : Go.Proofs.Lays.n213 Tryz.prog Tryz.lays213_ren := {
  mixed := by kernel_rfl
  f213 := Tryz.func246.trans (congrArg some (by kernel_rfl))
  f265 := Tryz.func273.trans (congrArg some (by kernel_rfl))
  t3 := Tryz.underlying3
  a3 := Tryz.isAgg3
  z3 := Tryz.sizeOf3
  v3 := Tryz.zeroValue3
  t9 := Tryz.underlying9
  a9 := Tryz.isAgg9
  z9 := Tryz.sizeOf9
  v9 := Tryz.zeroValue9 }
theorem Tryz.bytealg_CompareString (a b : ByteArray) (w : World) :
    Calls Tryz.prog 246 #[.string a, .string b] w fun e w' => e = .returned (.int .i64 (Lib.compareBytes a.data.toList b.data.toList)) ∧ w' = w := Any.bytealg_CompareString Tryz.lays213 a b w
def Tryz.lays105_ren : Go.Shelf.Ren := ⟨fun | 105 => 262 | 212 => 276 | 99 => 277 | 165 => 278 | 166 => 279 | 170 => 280 | 169 => 281 | 263 => 288 | 264 => 289 | 206 => 290 | 240 => 291 | 241 => 292 | 276 => 296 | 277 => 297 | n => n, fun | 9 => 9 | 3 => 3 | 4 => 4 | 20 => 20 | 0 => 0 | 46 => 282 | 109 => 300 | 5 => 5 | 72 => 305 | 76 => 309 | 51 => 312 | 146 => 313 | 53 => 315 | 148 => 316 | 70 => 303 | 37 => 86 | 75 => 308 | 127 => 318 | 164 => 325 | 80 => 311 | n => n, fun | n => n⟩
theorem Tryz.lays105 : Go.Proofs.Lays.n105 Tryz.prog Tryz.lays105_ren := {
  mixed := by kernel_rfl
  f99 := Tryz.func277.trans (congrArg some (by kernel_rfl))
  f105 := Tryz.func262.trans (congrArg some (by kernel_rfl))
  f165 := Tryz.func278.trans (congrArg some (by kernel_rfl))
  f166 := Tryz.func279.trans (congrArg some (by kernel_rfl))
  f169 := Tryz.func281.trans (congrArg some (by kernel_rfl))
  f170 := Tryz.func280.trans (congrArg some (by kernel_rfl))
  f206 := Tryz.func290.trans (congrArg some (by kernel_rfl))
  f212 := Tryz.func276.trans (congrArg some (by kernel_rfl))
  f240 := Tryz.func291.trans (congrArg some (by kernel_rfl))
  f241 := Tryz.func292.trans (congrArg some (by kernel_rfl))
  f263 := Tryz.func288.trans (congrArg some (by kernel_rfl))
  f264 := Tryz.func289.trans (congrArg some (by kernel_rfl))
  f276 := Tryz.func296.trans (congrArg some (by kernel_rfl))
  f277 := Tryz.func297.trans (congrArg some (by kernel_rfl))
  t0 := Tryz.underlying0
  a0 := Tryz.isAgg0
  z0 := Tryz.sizeOf0
  v0 := Tryz.zeroValue0
  t3 := Tryz.underlying3
  a3 := Tryz.isAgg3
  z3 := Tryz.sizeOf3
  v3 := Tryz.zeroValue3
  t4 := Tryz.underlying4
  a4 := Tryz.isAgg4
  z4 := Tryz.sizeOf4
  v4 := Tryz.zeroValue4
  t5 := Tryz.underlying5
  a5 := Tryz.isAgg5
  z5 := Tryz.sizeOf5
  v5 := Tryz.zeroValue5
  t9 := Tryz.underlying9
  a9 := Tryz.isAgg9
  z9 := Tryz.sizeOf9
  v9 := Tryz.zeroValue9
  t20 := Tryz.underlying20
  a20 := Tryz.isAgg20
  z20 := Tryz.sizeOf20
  v20 := Tryz.zeroValue20
  t37 := Tryz.underlying86
  a37 := Tryz.isAgg86
  z37 := Tryz.sizeOf86
  v37 := Tryz.zeroValue86
  t46 := Tryz.underlying282
  a46 := Tryz.isAgg282
  z46 := Tryz.sizeOf282
  v46 := Tryz.zeroValue282
  t51 := Tryz.underlying312
  a51 := Tryz.isAgg312
  z51 := Tryz.sizeOf312
  v51 := Tryz.zeroValue312
  t53 := Tryz.underlying315
  a53 := Tryz.isAgg315
  z53 := Tryz.sizeOf315
  v53 := Tryz.zeroValue315
  t70 := Tryz.underlying303
  a70 := Tryz.isAgg303
  z70 := Tryz.sizeOf303
  v70 := Tryz.zeroValue303
  t72 := Tryz.underlying305
  a72 := Tryz.isAgg305
  z72 := Tryz.sizeOf305
  v72 := Tryz.zeroValue305
  t75 := Tryz.underlying308
  a75 := Tryz.isAgg308
  z75 := Tryz.sizeOf308
  v75 := Tryz.zeroValue308
  t76 := Tryz.underlying309
  a76 := Tryz.isAgg309
  z76 := Tryz.sizeOf309
  v76 := Tryz.zeroValue309
  t109 := Tryz.underlying300
  a109 := Tryz.isAgg300
  z109 := Tryz.sizeOf300
  v109 := Tryz.zeroValue300
  t127 := Tryz.underlying318
  a127 := Tryz.isAgg318
  z127 := Tryz.sizeOf318
  v127 := Tryz.zeroValue318
  t146 := Tryz.underlying313
  a146 := Tryz.isAgg313
  z146 := Tryz.sizeOf313
  v146 := Tryz.zeroValue313
  t148 := Tryz.underlying316
  a148 := Tryz.isAgg316
  z148 := Tryz.sizeOf316
  v148 := Tryz.zeroValue316
  t164 := Tryz.underlying325
  a164 := Tryz.isAgg325
  z164 := Tryz.sizeOf325
  v164 := Tryz.zeroValue325 }
theorem Tryz.Builder_Extra_105 : Builder.Extra Tryz.prog Tryz.lays105_ren := {
  sizeBuilder := by kernel_rfl
  liesBuilder := by kernel_rfl
  t5 := Tryz.underlying5
  a5 := Tryz.isAgg5
  z5 := Tryz.sizeOf5
  v5 := Tryz.zeroValue5
  infoByte := by kernel_rfl
  cellsByte := by kernel_rfl
  sizeByte := by kernel_rfl
  neB5 := by decide }
theorem Tryz.strings_Repeat (s : ByteArray) (c : Nat) (w : World) (hc : c ≤ 9223372036854775807) (hlen : s.size * c ≤ 140737488355328) :
    Calls Tryz.prog 262 #[.string s, .int .i64 c] w fun e w' => e = .returned (.string ⟨(Lib.repeatL s.data.toList c).toArray⟩) ∧ Below w.heap.size w w' := Any.strings_Repeat Tryz.lays105 Tryz.Builder_Extra_105 s c w hc hlen
end Go.Proofs
/- The library's functions that are met by their contracts. -/
set_option linter.unusedSimpArgs false
set_option linter.unusedVariables false
namespace Go.Zd
open Go.Ev Go.Proofs Go.RowKit
theorem same_of_below {w w' : World} (h : Below w.heap.size w w') : Same w w' (fun _ => False) := ⟨h.size, fun k hk _ => h.block k hk, h.tape, h.os, h.output⟩
theorem callOK_flat {E : Env} {P : Program} {f : Nat} {args : List X} {r : T} (hr : r.flat = true) (h1 : r.one = true) (hm : E.md f = [])
    (h : ∀ (F : Nat → Prop) (w : World) (vals : Array Value) (bl : List Nat), XVs E F w args vals.toList bl → ∃ v, RD F w r v ∧ ((callFunc f vals).run P w = .ok (.value v) w ∨ ((callFunc f vals).run P w = .ok (.enter f vals) w ∧ Calls P f vals w (fun e w' => e = .returned v ∧ Below w.heap.size w w')))) :
    CallOK E P f args [.t r] [] := by
  refine ⟨fun _ => ⟨by simp [X.flats, X.flat, hr], rfl, rfl⟩, fun F w vals bl hx hn hb hF => ?_⟩
  obtain ⟨v, hv, hc⟩ := h F w vals bl hx
  have key : ∀ w', Below w.heap.size w w' → Go.Ev.Leaves E F w bl (muts (E.md f) vals.toList) [.t r] [] [v] w' := by
    intro w' hw
    refine ⟨F, [], [], (same_of_below hw).mono (fun _ _ h => h.elim), fun _ h => h, fun _ h => .inl h, fun k hk => Nat.lt_of_lt_of_le (hF k hk) hw.size, .cons (b := []) (.t (hv.flat hr)) .nil, ?_, by simp, by simp⟩
    rw [hm, show muts [] vals.toList = [] from muts_nil _]
    exact .nil
  rcases hc with hc | ⟨hc, hC⟩
  · exact .inr ⟨v, w, hc, [v], rfl, key w (Below.refl _ _)⟩
  · refine .inl ⟨hc, hC.mono ?_⟩
    rintro e w' ⟨rfl, hw⟩
    exact ⟨[v], rfl, key w' hw⟩
theorem xvs_two {E : Env} {F : Nat → Prop} {w : World} {a b : T} {vs : List Value} {bl : List Nat} (h : XVs E F w [.t a, .t b] vs bl) : ∃ u v, vs = [u, v] ∧ RD F w a u ∧ RD F w b v := by
  cases h with
  | cons h r =>
    cases r with
    | cons h' r' =>
      cases r' with
      | nil =>
        cases h with
        | t h => cases h' with
          | t h' => exact ⟨_, _, rfl, h, h'⟩
theorem arr_two {vals : Array Value} {u v : Value} (h : vals.toList = [u, v]) : vals = #[u, v] := by
  cases vals; simpa using h
theorem ext_ok : ∀ f g args rs bs, extOf f = some g → g args = some (rs, bs) → CallOK E Tryz.prog f args rs bs := by
  intro f g args rs bs hx hg
  unfold extOf at hx
  split at hx
  · obtain rfl := Option.some.inj hx
    dsimp only at hg
    split at hg
    · rename_i a b
      obtain ⟨rfl, rfl⟩ := Prod.mk.inj (Option.some.inj hg)
      refine callOK_flat rfl rfl rfl (fun F w vals bl h => ?_)
      obtain ⟨u, v, hv, hu, hv'⟩ := xvs_two h
      obtain rfl := arr_two hv
      cases hu; cases hv'
      refine ⟨_, .int _ _, .inr ⟨Go.Proofs.enters_of Tryz.func246 (by kernel_rfl) rfl _ _, (Tryz.bytealg_CompareString ⟨⟨a⟩⟩ ⟨⟨b⟩⟩ w).mono ?_⟩⟩
      rintro e w' ⟨rfl, rfl⟩
      exact ⟨rfl, Below.refl _ _⟩
    · cases hg
  · obtain rfl := Option.some.inj hx
    dsimp only at hg
    split at hg
    · rename_i a n
      split at hg
      · rename_i hn
        obtain ⟨rfl, rfl⟩ := Prod.mk.inj (Option.some.inj hg)
        refine callOK_flat rfl rfl rfl (fun F w vals bl h => ?_)
        obtain ⟨u, v, hv, hu, hv'⟩ := xvs_two h
        obtain rfl := arr_two hv
        cases hu; cases hv'
        obtain ⟨h0, h1, h2⟩ := hn
        have hc := Tryz.strings_Repeat ⟨⟨a⟩⟩ n.toNat w (by omega) (by simpa [ByteArray.size] using h2)
        rw [Int.toNat_of_nonneg h0] at hc
        refine ⟨_, .str _, .inr ⟨Go.Proofs.enters_of Tryz.func262 (by kernel_rfl) rfl _ _, hc⟩⟩
      · cases hg
    · cases hg
  · obtain rfl := Option.some.inj hx
    dsimp only at hg
    split at hg
    · rename_i a c
      obtain ⟨rfl, rfl⟩ := Prod.mk.inj (Option.some.inj hg)
      refine callOK_flat rfl rfl rfl (fun F w vals bl h => ?_)
      obtain ⟨u, v, hv, hu, hv'⟩ := xvs_two h
      obtain rfl := arr_two hv
      cases hu; cases hv'
      refine ⟨_, .int _ _, .inl ?_⟩
      rw [run_callFunc_extern Tryz.func271 (by kernel_rfl) (by kernel_rfl) (by kernel_rfl) (e := Extern.BytealgCount.count) (by kernel_rfl), Lib.run_countString]
      rfl
    · cases hg
  · obtain rfl := Option.some.inj hx
    dsimp only at hg
    split at hg
    · rename_i a c
      obtain ⟨rfl, rfl⟩ := Prod.mk.inj (Option.some.inj hg)
      refine callOK_flat rfl rfl rfl (fun F w vals bl h => ?_)
      obtain ⟨u, v, hv, hu, hv'⟩ := xvs_two h
      obtain rfl := arr_two hv
      cases hu; cases hv'
      refine ⟨_, .int _ _, .inl ?_⟩
      rw [run_callFunc_extern Tryz.func294 (by kernel_rfl) (by kernel_rfl) (by kernel_rfl) (e := Extern.BytealgIndexByte.indexByte) (by kernel_rfl), Lib.run_indexByteString]
      rfl
    · cases hg
  · cases hx
theorem E_sok : SOK E Tryz.prog := envD_sok mixed names_ok ext_ok
end Go.Zd
/- What comes in, as plain data: the parameters' types read off. -/
set_option linter.unusedSimpArgs false
set_option linter.unusedVariables false
namespace Go.Zd
open Go.Ev Go.Proofs Go.Pu
set_option maxRecDepth 100000
set_option maxHeartbeats 4000000
theorem list_choose {α β : Type} {enc : α → β} {P : α → Prop} : ∀ {xs : List β}, (∀ x ∈ xs, ∃ a, x = enc a ∧ P a) → ∃ l : List α, xs = l.map enc ∧ ∀ a ∈ l, P a
  | [], _ => ⟨[], rfl, by simp⟩
  | x :: xs, h => by
    obtain ⟨a, h1, h2⟩ := h x (by simp)
    obtain ⟨l, h3, h4⟩ := list_choose (fun y hy => h y (List.mem_cons_of_mem _ hy))
    refine ⟨a :: l, by simp [h1, h3], fun b hb => ?_⟩
    rcases List.mem_cons.1 hb with rfl | hb
    · exact h2
    · exact h4 b hb
theorem typed_int {n : Nat} {ts : List T} (h : typed E (n + 1) 3 ts) : ∃ m, ts = [.int .i64 m] := by
  unfold typed at h
  rw [E_ty3] at h
  simp only at h
  split at h <;> first | exact h.elim | skip
  all_goals rename_i hk
  all_goals first | cases hk | skip
  all_goals first | (obtain ⟨rfl, _⟩ := h; exact ⟨_, rfl⟩) | skip
theorem typed_str {n : Nat} {ts : List T} (h : typed E (n + 1) 9 ts) : ∃ s, ts = [.str s] ∧ W s.length := by
  unfold typed at h
  rw [E_ty9] at h
  simp only at h
  split at h <;> first | exact h.elim | skip
  all_goals rename_i hk
  all_goals first | cases hk | skip
  all_goals first | exact ⟨_, rfl, by unfold W; omega⟩ | skip
theorem typed_bool {n : Nat} {ts : List T} (h : typed E (n + 1) 4 ts) : ∃ b, ts = [.bool b] := by
  unfold typed at h
  rw [E_ty4] at h
  simp only at h
  split at h <;> first | exact h.elim | skip
  all_goals rename_i hk
  all_goals first | cases hk | skip
  all_goals first | exact ⟨_, rfl⟩ | skip
theorem typed_slice {n t : Nat} {ts : List T} (hk : (E.ty t).k = .slice) (hb : 1 ≤ (E.ty (E.ty t).elem).bytes) (h : typed E (n + 1) t ts) : ∃ xs, ts = [.list xs] ∧ W xs.length ∧ ∀ x ∈ xs, ∃ cs, x = (if (E.ty (E.ty t).elem).agg then T.agg cs else (cs.headD (.bool false))) ∧ cs.length = (E.ty (E.ty t).elem).size ∧ typed E n (E.ty t).elem cs := by
  unfold typed at h
  rw [hk] at h
  try simp only at h
  split at h <;> first | exact h.elim | skip
  all_goals rename_i hk'
  all_goals first | cases hk' | skip
  rename_i xs
  refine ⟨xs, rfl, ?_, h.2⟩
  have := Nat.le_mul_of_pos_right xs.length hb
  unfold W
  have := h.1
  omega
theorem typed_struct {n t : Nat} {ts : List T} (hk : (E.ty t).k = .struct) (h : typed E (n + 1) t ts) : ts.length = (E.ty t).size ∧ ∀ p ∈ (E.ty t).fields, typed E n p.2 ((ts.drop p.1).take (E.ty p.2).size) := by
  unfold typed at h
  rw [hk] at h
  exact h
theorem dec23 {n : Nat} {ts : List T} (h : typed E (n + 2) 23 ts) : ∃ v : Val, ts = [.int .i64 v.k, .int .i64 v.n, .str v.t] ∧ W v.t.length := by
  obtain ⟨h1, h2⟩ := typed_struct (by simp) h
  simp at h1 h2
  obtain ⟨g1, g2, g3⟩ := h2
  match ts, h1 with
  | [a, b, c], _ =>
    obtain ⟨x, hx⟩ := typed_int g1
    obtain ⟨y, hy⟩ := typed_int g2
    obtain ⟨z, hz, hz2⟩ := typed_str g3
    simp at hx hy hz
    exact ⟨⟨x, y, z⟩, by simp [hx, hy, hz], hz2⟩
theorem dec50 {n : Nat} {ts : List T} (h : typed E (n + 3) 50 ts) : ∃ t : Trm, T.agg ts = trmT t ∧ t.wd := by
  obtain ⟨h1, h2⟩ := typed_struct (by simp) h
  simp at h1 h2
  obtain ⟨g1, g2, g3⟩ := h2
  match ts, h1 with
  | [a, b, c, d, e], _ =>
    obtain ⟨x, hx⟩ := typed_int g1
    obtain ⟨y, hy, hy2⟩ := typed_str g2
    obtain ⟨v, hv, hv2⟩ := dec23 g3
    simp at hx hy hv
    exact ⟨⟨x, y, v⟩, by simp [hx, hy, hv], hy2, hv2⟩
theorem dec214 {n : Nat} {ts : List T} (h : typed E (n + 4) 214 ts) : ∃ c : List Trm, ts = [.list (c.map trmT)] ∧ clsWd c := by
  obtain ⟨xs, rfl, h1, h2⟩ := typed_slice (by simp) (by simp) h
  obtain ⟨l, rfl, h4⟩ := list_choose (enc := trmT) (P := Trm.wd) (fun x hx => by
    obtain ⟨cs, e, _, h⟩ := h2 x hx
    simp at e h
    obtain ⟨t, h3, h4⟩ := dec50 h
    exact ⟨t, e.trans h3, h4⟩)
  exact ⟨l, rfl, by simpa using h1, h4⟩
theorem dec216 {n : Nat} {ts : List T} (h : typed E (n + 5) 216 ts) : ∃ c : List Trm, T.agg ts = clsT c ∧ clsWd c := by
  obtain ⟨h1, h2⟩ := typed_struct (by simp) h
  simp at h1 h2
  match ts, h1 with
  | [a], _ =>
    obtain ⟨c, hc, hw⟩ := dec214 h2
    simp at hc
    exact ⟨c, by simp [hc], hw⟩
theorem dec31 {n : Nat} {ts : List T} (h : typed E (n + 6) 31 ts) : ∃ f : List (List Trm), ts = [.list (f.map clsT)] ∧ filWd f := by
  obtain ⟨xs, rfl, h1, h2⟩ := typed_slice (by simp) (by simp) h
  obtain ⟨l, rfl, h4⟩ := list_choose (enc := clsT) (P := clsWd) (fun x hx => by
    obtain ⟨cs, e, _, h⟩ := h2 x hx
    simp at e h
    obtain ⟨t, h3, h4⟩ := dec216 h
    exact ⟨t, e.trans h3, h4⟩)
  exact ⟨l, rfl, by simpa using h1, h4⟩
theorem dec33 {n : Nat} {ts : List T} (h : typed E (n + 7) 33 ts) : ∃ f : List (List Trm), ts = [.list (f.map clsT)] ∧ filWd f := by
  obtain ⟨h1, h2⟩ := typed_struct (by simp) h
  simp at h1 h2
  match ts, h1 with
  | [a], _ => simpa using dec31 h2
theorem dec100 {n : Nat} {ts : List T} (h : typed E (n + 2) 100 ts) : ∃ p : Prt, T.agg ts = prtT p ∧ W p.path.length := by
  obtain ⟨h1, h2⟩ := typed_struct (by simp) h
  simp at h1 h2
  obtain ⟨g1, g2⟩ := h2
  match ts, h1 with
  | [a, b], _ =>
    obtain ⟨x, hx, hx2⟩ := typed_str g1
    obtain ⟨y, hy⟩ := typed_bool g2
    simp at hx hy
    exact ⟨⟨x, y⟩, by simp [hx, hy], hx2⟩
theorem dec34 {n : Nat} {ts : List T} (h : typed E (n + 3) 34 ts) : ∃ c : List Prt, ts = [.list (c.map prtT)] ∧ prtsWd c := by
  obtain ⟨xs, rfl, h1, h2⟩ := typed_slice (by simp) (by simp) h
  obtain ⟨l, rfl, h4⟩ := list_choose (enc := prtT) (P := fun p => W p.path.length) (fun x hx => by
    obtain ⟨cs, e, _, h⟩ := h2 x hx
    simp at e h
    obtain ⟨t, h3, h4⟩ := dec100 h
    exact ⟨t, e.trans h3, h4⟩)
  exact ⟨l, rfl, by simpa using h1, h4⟩
theorem dec35 {n : Nat} {ts : List T} (h : typed E (n + 2) 35 ts) : ∃ c : List Bytes, ts = [.list (c.map strT)] ∧ txtsWd c := by
  obtain ⟨xs, rfl, h1, h2⟩ := typed_slice (by simp) (by simp) h
  obtain ⟨l, rfl, h4⟩ := list_choose (enc := strT) (P := fun p => W p.length) (fun x hx => by
    obtain ⟨cs, e, _, h⟩ := h2 x hx
    simp at e h
    obtain ⟨t, h3, h4⟩ := typed_str h
    subst h3
    exact ⟨t, by simpa using e, h4⟩)
  exact ⟨l, rfl, by simpa using h1, h4⟩
theorem dec37 {n : Nat} {ts : List T} (h : typed E (n + 8) 37 ts) : ∃ q : Qry, T.agg ts = qryT q ∧ q.Wd := by
  obtain ⟨h1, h2⟩ := typed_struct (by simp) h
  simp at h1 h2
  obtain ⟨g1, g2, g3, g4, g5, g6⟩ := h2
  match ts, h1 with
  | [a, b, c, d, e, f], _ =>
    obtain ⟨fl, e1, w1⟩ := dec33 g1
    obtain ⟨so, e2, w2⟩ := dec34 g2
    obtain ⟨sk, e3⟩ := typed_int g3
    obtain ⟨li, e4⟩ := typed_int g4
    obtain ⟨ke, e5, w5⟩ := dec35 g5
    obtain ⟨hi, e6, w6⟩ := typed_str g6
    simp at e1 e2 e3 e4 e5 e6
    exact ⟨⟨fl, so, sk, li, ke, hi⟩, by simp [e1, e2, e3, e4, e5, e6], w1, w2, w5, w6⟩
end Go.Zd
/- Fields by name: spec's l02Field; impl's findField, field; ids. -/
set_option linter.unusedSimpArgs false
set_option linter.unusedVariables false
namespace Go.Zd
open Go.Ev Go.Proofs Go.Pu
set_option maxRecDepth 100000
set_option maxHeartbeats 16000000
theorem compareBytes_lt : ∀ (a b : Bytes), (Lib.compareBytes a b < 0) = (Op.bytesLess a b = true)
  | [], [] => by simp [Lib.compareBytes, Op.bytesLess]
  | [], _ :: _ => by simp [Lib.compareBytes, Op.bytesLess]
  | _ :: _, [] => by simp [Lib.compareBytes, Op.bytesLess]
  | x :: a, y :: b => by
    have ih := compareBytes_lt a b
    unfold Lib.compareBytes Op.bytesLess
    by_cases h1 : x < y
    · simp [h1]
    · by_cases h2 : y < x
      · have : ¬ x = y := fun e => by subst e; exact h1 h2
        simp [h1, h2, this]
      · have e : x = y := UInt8.le_antisymm (UInt8.not_lt.1 h2) (UInt8.not_lt.1 h1)
        subst e
        simp [h1, ih]
theorem compareBytes_eq : ∀ (a b : Bytes), (Lib.compareBytes a b = 0) = (a = b)
  | [], [] => by simp [Lib.compareBytes]
  | [], _ :: _ => by simp [Lib.compareBytes]
  | _ :: _, [] => by simp [Lib.compareBytes]
  | x :: a, y :: b => by
    have ih := compareBytes_eq a b
    unfold Lib.compareBytes
    by_cases h1 : x < y
    · have : ¬ x = y := fun e => by subst e; exact absurd h1 (UInt8.lt_irrefl x)
      simp [h1, this]
    · by_cases h2 : y < x
      · have : ¬ x = y := fun e => by subst e; exact h1 h2
        simp [h1, h2, this]
      · have e : x = y := UInt8.le_antisymm (UInt8.not_lt.1 h2) (UInt8.not_lt.1 h1)
        subst e
        simp [h1, ih]
theorem compare (a b : Bytes) : run E (.call 198 [xS a, xS b]) = some (.res [xI (Lib.compareBytes a b)] []) := by
  have h : run E (.call 246 [xS a, xS b]) = some (.res [xI (Lib.compareBytes a b)] []) := by
    rw [run_ext E 246 _ (g := _) rfl]
    simp
  rw [run_call E 198 _ rfl Tryz.func198 rfl rfl rfl (by simp)]
  simp [h]
theorem findClosure (f : Fld) (name : Bytes) : run E (.call 265 [.t (fldT f), xS name]) = some (.res [xI (Lib.compareBytes f.name name)] []) := by
  rw [run_call E 265 _ rfl Tryz.func265 rfl rfl rfl (by simp)]
  simp [compare f.name name]
/-- Where a search by halves ends. -/
def seekI (fs : List Fld) (name : Bytes) : Nat := halves (fun k => match fs[k]? with
  | some f => Op.bytesLess f.name name
  | none => false) (fs.length + 1) 0 fs.length
def thereI (fs : List Fld) (name : Bytes) : Bool := match fs[seekI fs name]? with
  | some f => f.name == name
  | none => false
theorem wrap_u64 {n : Nat} (h : n < 18446744073709551616) : IntKind.u64.wrap (n : Int) = n := by
  simp [IntKind.wrap, IntKind.bits, IntKind.signed]
  omega
theorem pow_u64 : (2 : Int) ^ min 1 IntKind.u64.bits = 2 := by rfl
theorem binarySearch (fs : List Fld) (name : Bytes) (hl : fs.length < 4294967296) : run E (.call 264 [.t (.list (fs.map fldT)), xS name, .fn 265 []]) = some (.res [xI (seekI fs name : Nat), xB (thereI fs name)] []) := by
  rw [run_call E 264 _ rfl Tryz.func264 rfl rfl rfl (by simp)]
  have lp := sk (fun s o q hI => loop_wf (c := loopAt Tryz.f264 0) (N := 49)
    (fun k s o q => ∃ i j : Nat, s 0 = .t (.list (fs.map fldT)) ∧ s 1 = .t (.str name) ∧ s 2 = .fn 265 [] ∧ s 8 = .t (.int .i64 fs.length) ∧ s 9 = .t (.int .i64 i) ∧ s 10 = .t (.int .i64 j) ∧ j ≤ fs.length ∧ i ≤ j ∧ k = j - i ∧ ∃ n, k < n ∧ halves (fun k => match fs[k]? with
        | some f => Op.bytesLess f.name name
        | none => false) n i j = seekI fs name)
    (fun e s' o' q' => e = .exit 0 ∧ s' 0 = .t (.list (fs.map fldT)) ∧ s' 1 = .t (.str name) ∧ s' 2 = .fn 265 [] ∧ s' 8 = .t (.int .i64 fs.length) ∧ s' 9 = .t (.int .i64 (seekI fs name : Nat)))
    (by
      rintro k s o q ⟨i, j, h0, h1, h2, h8, h9, h10, hj, hij, hk, n, hn, hh⟩
      cases n with
      | zero => omega
      | succ n =>
        unfold halves at hh
        by_cases hlt : i < j
        · have hlt' : (i : Int) < (j : Int) := by omega
          have hw1 : IntKind.i64.wrap ((i : Int) + (j : Int)) = ((i + j : Nat) : Int) := by rw [wrap_of (by omega) (by omega)]; omega
          have hw2 := wrap_u64 (n := i + j) (by omega)
          obtain ⟨m, hme⟩ : ∃ m, m = (i + j) / 2 := ⟨_, rfl⟩
          have hm : m < fs.length := by omega
          have hw3 := wrap_nat (n := m) (by omega)
          have hw4 := wrap_succ (n := m) (by omega)
          have hfd : ((i : Int) + (j : Int)).fdiv 2 = (m : Int) := by rw [Int.fdiv_eq_ediv_of_nonneg _ (by omega)]; omega
          have hed : ((i : Int) + (j : Int)) / 2 = (m : Int) := by omega
          have hx : fs[m]? = some fs[m] := List.getElem?_eq_getElem hm
          have hc := findClosure fs[m] name
          rw [if_pos hlt, ← hme] at hh
          simp only [hx] at hh
          simp only [Int.natCast_add] at hw1 hw2
          cases hb : Op.bytesLess fs[m].name name with
          | true =>
            have hcl : Lib.compareBytes fs[m].name name < 0 := by rw [compareBytes_lt]; exact hb
            simp [hb] at hh
            simp [loopAt, loopsOf, Tryz.f264, h0, h1, h2, h8, h9, h10, hlt', pow_u64, hw1, hw2, hfd, hed, hw3, hw4, hx, hc, hcl, hm]
            exact ⟨j - (m + 1), by omega, m + 1, by simp, j, rfl, hj, by omega, rfl, n, by omega, hh⟩
          | false =>
            have hcl : ¬ Lib.compareBytes fs[m].name name < 0 := by rw [compareBytes_lt]; simp [hb]
            simp [hb] at hh
            simp [loopAt, loopsOf, Tryz.f264, h0, h1, h2, h8, h9, h10, hlt', pow_u64, hw1, hw2, hfd, hed, hw3, hw4, hx, hc, hcl, hm]
            exact ⟨m - i, by omega, i, rfl, m, rfl, by omega, by omega, rfl, n, by omega, hh⟩
        · have hlt' : ¬ (i : Int) < (j : Int) := by omega
          rw [if_neg hlt] at hh
          simp [loopAt, loopsOf, Tryz.f264, h0, h1, h2, h8, h9, h10, hlt', ← hh])
    fs.length s o q hI)
  simp only [loopAt, loopsOf, Tryz.f264] at lp
  obtain ⟨X, A, B, C, hx⟩ := lp
  have hx' := fun s o q a0 a1 a2 a8 a9 a10 => hx s o q ⟨0, fs.length, a0, a1, a2, a8, a9, a10, Nat.le_refl _, Nat.zero_le _, by omega, fs.length + 1, by omega, rfl⟩
  clear hx
  simp at hx'
  unfold thereI
  by_cases hs : seekI fs name < fs.length
  · have hs' : (seekI fs name : Int) < (fs.length : Int) := by omega
    have hg : fs[seekI fs name]? = some fs[seekI fs name] := List.getElem?_eq_getElem hs
    have hc := findClosure fs[seekI fs name] name
    have heq : (Lib.compareBytes fs[seekI fs name].name name == 0) = (fs[seekI fs name].name == name) := by
      rw [Bool.eq_iff_iff]; simp [compareBytes_eq]
    simp [hx', hs, hs', hg, hc, heq]
  · have hs' : ¬ (seekI fs name : Int) < (fs.length : Int) := by omega
    have hg : fs[seekI fs name]? = none := List.getElem?_eq_none (by omega)
    simp [hx', hs, hs', hg]
theorem findField (fs : List Fld) (name : Bytes) (hl : fs.length < 4294967296) : run E (.call 234 [.t (.list (fs.map fldT)), xS name]) = some (.res [xI (seekI fs name : Nat), xB (thereI fs name)] []) := by
  rw [run_call E 234 _ rfl Tryz.func234 rfl rfl rfl (by simp)]
  simp [binarySearch fs name hl]
def fieldI (v : Val) (name : Bytes) : Option Val := match (fieldsI v.t).1[seekI (fieldsI v.t).1 name]? with
  | some f => if f.name == name then some f.v else none
  | none => none
def optX : Option Val → List X
  | some v => [valX v, xB true]
  | none => [valX ⟨0, 0, []⟩, xB false]
theorem implField (v : Val) (name : Bytes) (hv : v.t.length < 4294967296) : run E (.call 180 [xV v, xS name]) = some (.res (optX (fieldI v name)) []) := by
  rw [run_call E 180 _ rfl Tryz.func180 rfl rfl rfl (by simp)]
  have h1 := implFields v hv
  obtain ⟨hs1, hs2⟩ := fieldsI_small v.t
  have h2 := findField (fieldsI v.t).1 name (by omega)
  unfold fieldI
  generalize (fieldsI v.t).1 = fs at *
  unfold thereI at h2
  cases hg : fs[seekI fs name]? with
  | none => simp [hg] at h2; simp [h1, h2, optX]
  | some f =>
    cases hn : f.name == name with
    | false => simp [hg, hn] at h2; simp [h1, h2, hn, optX]
    | true => simp [hg, hn] at h2; simp [h1, h2, hn, hg, optX]
theorem specField (v : Val) (name : Bytes) (hv : v.t.length < 4294967296) : run E (.call 209 [xV v, xS name]) = some (.res (optX (fieldP v name)) []) := by
  rw [run_call E 209 _ rfl Tryz.func209 rfl rfl rfl (by simp)]
  have h1 := l01Fields v.t hv
  have hfx : ∃ b, fieldsX (fieldsP v.t) = [.row 198 ((fieldsL v.t).map fldT), xB b] ∧ (fieldsL v.t).length ≤ v.t.length := by
    unfold fieldsL
    cases h : fieldsP v.t with
    | none => exact ⟨false, rfl, by simp⟩
    | some fs => exact ⟨true, rfl, by have := (fields_small h).1; simpa using this⟩
  obtain ⟨b, hfx, hl⟩ := hfx
  rw [hfx] at h1
  unfold fieldP
  generalize fieldsL v.t = fs at *
  have lp := fun (r : Option Fld) (hr : fs.find? (fun f => f.name == name) = r) => sk (fun s o q hI => loop_for (c := loopAt Tryz.f209 0) (N := 34)
    (fun i s o q => s 1 = .t (.str name) ∧ s 6 = .row 2 ∧ s 8 = .t (.int .i64 i) ∧ s 4 = .ptr 1 0 ∧ o 1 = .box 25 [.t (.int .i64 0), .t (.int .i64 0), .t (.str [])] ∧ o 2 = .row 198 (fs.map fldT) true ∧ (fs.drop i).find? (fun f => f.name == name) = r)
    (fun e s' o' q' => match (generalizing := false) r with
      | some f => e = .ret ∧ s' 4 = .ptr 1 0 ∧ s' 5 = .t (.bool true) ∧ o' 1 = .box 25 [.t (.int .i64 f.v.k), .t (.int .i64 f.v.n), .t (.str f.v.t)]
      | none => e = .exit 0 ∧ s' 4 = .ptr 1 0 ∧ o' 1 = .box 25 [.t (.int .i64 0), .t (.int .i64 0), .t (.str [])]) fs.length
    (by
      rintro i s o q hi ⟨g1, g6, g8, g4, ho1, ho2, hp⟩
      have hi' : (i : Int) < (fs.length : Int) := by omega
      have hw := wrap_succ (n := i) (by omega)
      have hxi : fs[i]? = some fs[i] := List.getElem?_eq_getElem hi
      rw [List.drop_eq_getElem_cons hi, List.find?_cons] at hp
      cases hn : fs[i].name == name with
      | true =>
        simp only [hn] at hp
        subst hp
        simp [loopAt, loopsOf, Tryz.f209, g1, g6, g8, g4, ho1, ho2, hi', hxi, hw, hn]
      | false =>
        simp only [hn] at hp
        simp [loopAt, loopsOf, Tryz.f209, g1, g6, g8, g4, ho1, ho2, hi', hxi, hw, hn, hp])
    (by
      rintro s o q ⟨g1, g6, g8, g4, ho1, ho2, hp⟩
      simp at hp
      subst hp
      simp [loopAt, loopsOf, Tryz.f209, g1, g6, g8, g4, ho1, ho2])
    fs.length 0 s o q (by omega) hI)
  simp only [loopAt, loopsOf, Tryz.f209] at lp
  cases hr : fs.find? (fun f => f.name == name) with
  | some f =>
    obtain ⟨X, A, B, C, hx⟩ := lp _ hr
    simp [hr, -List.find?_eq_none] at hx
    simp [h1, hx, optX]
  | none =>
    obtain ⟨X, A, B, C, hx⟩ := lp _ hr
    simp [hr, -List.find?_eq_none] at hx
    simp [h1, hx, optX]
end Go.Zd
/- Ids of documents; versions' documents. -/
set_option linter.unusedSimpArgs false
set_option linter.unusedVariables false
namespace Go.Zd
open Go.Ev Go.Proofs Go.Pu
set_option maxRecDepth 100000
set_option maxHeartbeats 16000000
abbrev idB : Bytes := [105, 100]
theorem fieldI_eq {v : Val} {fs : List Fld} (name : Bytes) (hf : fieldsP v.t = some fs) (hr : rising fs = true) : fieldI v name = fieldP v name := by
  have hs : seekI fs name = placeP fs name := by
    unfold seekI
    refine halves_ok (p := placeP fs name) (m := fs.length) ?_ ?_ _ _ _ (Nat.zero_le _) (place_le fs name) (Nat.le_refl _) (by omega)
    · intro k hk
      have hlt : k < fs.length := Nat.lt_of_lt_of_le hk (place_le fs name)
      have hg : fs[k]? = some fs[k] := List.getElem?_eq_getElem hlt
      simp only [hg]
      exact (rising_place name hr k _ hg).2 hk
    · intro k hk hkl
      have hg : fs[k]? = some fs[k] := List.getElem?_eq_getElem hkl
      simp only [hg]
      cases hb : Op.bytesLess fs[k].name name with
      | false => rfl
      | true =>
        have := (rising_place name hr k _ hg).1 hb
        omega
  unfold fieldI
  rw [fieldsI_some hf]
  simp only [hs]
  rw [field_place name hf hr]
  cases fs[placeP fs name]? with
  | none => rfl
  | some f => simp
def okId (x : Val) : Bool := decide (x.k = 2) && (decide (0 ≤ x.n) && decide (x.n ≤ 99))
def idI (v : Val) : Int × Bool := match fieldI v idB with
  | some x => (x.n, okId x)
  | none => (0, false)
def specId (v : Val) : Int := match fieldP v idB with
  | some x => if okId x then x.n else -1
  | none => -1
def isDocP (v : Val) : Bool := valueOK v && decide (v.k = 5)
def nullB (v : Val) : Bool := (v.k == 0) && ((v.n == 0) && (v.t == []))
theorem implIdOf (v : Val) (hv : v.t.length < 4294967296) : run E (.call 211 [xV v]) = some (.res [xI (idI v).1, xB (idI v).2] []) := by
  rw [run_call E 211 _ rfl Tryz.func211 rfl rfl rfl (by simp)]
  have h := implField v idB hv
  have d2 := d211_2
  simp [regionOf, findR, pick, Tryz.f211] at d2
  have dd := fun st => run_region_draw E st 2 _ d2
  clear d2
  unfold idI
  cases hf : fieldI v idB with
  | none => rw [hf] at h; simp only [optX] at h; simp [h, dd]
  | some x =>
    rw [hf] at h
    simp only [optX] at h
    have hr := inRange x.n 0 99
    obtain ⟨z, z1, z2, z3⟩ := zcase x.k 2
    unfold okId
    cases z <;> simp [h, dd, z1, z2, z3, hr]
theorem specIdOf (v : Val) (hv : v.t.length < 4294967296) : run E (.call 146 [xV v]) = some (.res [xI (specId v)] []) := by
  rw [run_call E 146 _ rfl Tryz.func146 rfl rfl rfl (by simp)]
  have h := specField v idB hv
  unfold specId
  cases hf : fieldP v idB with
  | none => rw [hf] at h; simp only [optX] at h; simp [h]
  | some x =>
    rw [hf] at h
    simp only [optX] at h
    have hr := l01In x.n 0 99
    obtain ⟨z, z1, z2, z3⟩ := zcase x.k 2
    unfold okId
    cases z with
    | false => simp [h, z1, z2, z3]
    | true =>
      cases hb : (decide (0 ≤ x.n) && decide (x.n ≤ 99)) with
      | false => rw [hb] at hr; simp at hb; simp [h, z1, z2, z3, hr]; intro a b; have := hb a; omega
      | true => rw [hb] at hr; simp at hb; simp [h, z1, z2, z3, hr]; intro a; have := a hb.1; omega
theorem isDoc (v : Val) (hv : v.t.length < 4294967296) : run E (.call 85 [xV v]) = some (.res [xB (isDocP v)] []) := by
  rw [run_call E 85 _ rfl Tryz.func85 rfl rfl rfl (by simp)]
  have h := implValueOK v hv
  obtain ⟨z, z1, z2, z3⟩ := zcase v.k 5
  unfold isDocP
  cases z <;> simp [h, z1, z2, z3]
theorem l03Doc (v : Val) (hv : v.t.length < 4294967296) : run E (.call 83 [xV v]) = some (.res [xB (isDocP v)] []) := by
  rw [run_call E 83 _ rfl Tryz.func83 rfl rfl rfl (by simp)]
  have h := specValueOK v hv
  unfold isDocP
  cases hb : valueOK v with
  | false => rw [hb] at h; simp [h]
  | true => rw [hb] at h; simp [h, beqd]
def verDoc (id : Int) (gone : Bool) (v : Val) : Bool := if gone then nullB v else isDocP v && (specId v == id)
def verDocI (gone : Bool) (v : Val) (id : Int) : Bool := if gone then nullB v else isDocP v && (idI v).2 && ((idI v).1 == id)
theorem verDocI_eq (gone : Bool) (v : Val) (id : Int) (h0 : 0 ≤ id) : verDocI gone v id = verDoc id gone v := by
  unfold verDocI verDoc
  cases gone with
  | true => rfl
  | false =>
    simp only [Bool.false_eq_true, if_false]
    cases hd : isDocP v with
    | false => rfl
    | true =>
      have hok : okP 5 v = true ∧ v.k = 5 := by simpa [isDocP, valueOK] using hd
      obtain ⟨e, fs, _, _, hf, hr, _⟩ := okP_doc hok.1 hok.2
      simp only [Bool.true_and]
      unfold idI specId
      rw [fieldI_eq idB hf hr]
      cases fieldP v idB with
      | none =>
        have : ((-1 : Int) == id) = false := by simp; omega
        simp [this]
      | some x =>
        cases hx : okId x with
        | false =>
          have : ((-1 : Int) == id) = false := by simp; omega
          simp [hx, this]
        | true => simp [hx]
theorem implDocOK (gone : Bool) (v : Val) (id : Int) (hv : v.t.length < 4294967296) : run E (.call 152 [xB gone, xV v, xI id]) = some (.res [xB (verDocI gone v id)] []) := by
  rw [run_call E 152 _ rfl Tryz.func152 rfl rfl rfl (by simp)]
  have h1 := implIdOf v hv
  have h2 := isDoc v hv
  unfold verDocI nullB
  cases gone with
  | true => simp
  | false =>
    cases hd : isDocP v with
    | false => rw [hd] at h2; simp [h1, h2]
    | true =>
      rw [hd] at h2
      cases hi : (idI v).2 with
      | false => rw [hi] at h1; simp [h1, h2]
      | true => rw [hi] at h1; simp [h1, h2]
theorem specDocOK (id : Int) (gone : Bool) (v : Val) (hv : v.t.length < 4294967296) : run E (.call 90 [xI id, xB gone, xV v]) = some (.res [xB (verDoc id gone v)] []) := by
  rw [run_call E 90 _ rfl Tryz.func90 rfl rfl rfl (by simp)]
  have h1 := specIdOf v hv
  have h2 := l03Doc v hv
  unfold verDoc nullB
  cases gone with
  | true => simp
  | false =>
    cases hd : isDocP v with
    | false => rw [hd] at h2; simp [h1, h2]
    | true => rw [hd] at h2; simp [h1, h2]
end Go.Zd
/- Definitions of indexes: both. -/
set_option linter.unusedSimpArgs false
set_option linter.unusedVariables false
namespace Go.Zd
open Go.Ev Go.Proofs Go.Pu
set_option maxRecDepth 100000
set_option maxHeartbeats 16000000
structure Dfn where
  name : Bytes
  parts : List Prt
abbrev dfnT (d : Dfn) : T := .agg [.str d.name, .list (d.parts.map prtT)]
structure Ver where
  at_ : Int
  gone : Bool
  v : Val
abbrev verT (x : Ver) : T := .agg [.int .i64 x.at_, .bool x.gone, .int .i64 x.v.k, .int .i64 x.v.n, .str x.v.t]
abbrev verX (x : Ver) : X := .agg [.t (.int .i64 x.at_), .t (.bool x.gone), .t (.int .i64 x.v.k), .t (.int .i64 x.v.n), .t (.str x.v.t)]
structure Chn where
  id : Int
  vs : List Ver
abbrev chnT (c : Chn) : T := .agg [.int .i64 c.id, .list (c.vs.map verT)]
structure Col where
  name : Bytes
  chains : List Chn
  defs : List Dfn
abbrev colT (c : Col) : T := .agg [.str c.name, .list (c.chains.map chnT), .list (c.defs.map dfnT)]
def Dfn.Sm (d : Dfn) : Prop := d.name.length < 4294967296 ∧ partsSm d.parts
def Ver.Sm (x : Ver) : Prop := x.v.t.length < 4294967296
def Chn.Sm (c : Chn) : Prop := c.vs.length < 4294967296 ∧ ∀ x ∈ c.vs, x.Sm
structure Col.Sm (c : Col) : Prop where
  name : c.name.length < 4294967296
  chains : c.chains.length < 4294967296 ∧ ∀ x ∈ c.chains, x.Sm
  defs : c.defs.length < 4294967296 ∧ ∀ x ∈ c.defs, x.Sm
def twoOK : List Prt → Bool
  | [p, q] => !(p.path == q.path)
  | _ => true
def in12 (n : Nat) : Bool := decide (1 ≤ n) && decide (n ≤ 2)
def defOK (d : Dfn) : Bool := nameP d.name && in12 d.parts.length && d.parts.all (fun p => pathOK p.path) && twoOK d.parts
theorem in12_cast (n : Nat) : (decide ((1 : Int) ≤ (n : Int)) && decide ((n : Int) ≤ 2)) = in12 n := by
  unfold in12
  congr 1 <;> (congr 1; simp; omega)
theorem in12_cases {α : Type} {l : List α} (h : in12 l.length = true) : (∃ p, l = [p]) ∨ ∃ p q, l = [p, q] := by
  simp [in12] at h
  match l, h with
  | [p], _ => exact .inl ⟨p, rfl⟩
  | [p, q], _ => exact .inr ⟨p, q, rfl⟩
  | [], h => simp at h
  | _ :: _ :: _ :: _, h => simp at h
theorem defClosure (p : Prt) (h : p.path.length < 4294967296) : run E (.call 148 [.t (prtT p)]) = some (.res [xB (!pathOK p.path)] []) := by
  rw [run_call E 148 _ rfl Tryz.func148 rfl rfl rfl (by simp)]
  simp [partOK p h]
theorem implDefOK (d : Dfn) (h : d.Sm) : run E (.call 93 [.t (dfnT d)]) = some (.res [xB (defOK d)] []) := by
  rw [run_call E 93 _ rfl Tryz.func93 rfl rfl rfl (by simp)]
  have h1 := isShort d.name (by have := h.1; omega)
  have h2 := inRange (d.parts.length : Int) 1 2
  rw [in12_cast] at h2
  have hc := containsFunc_136_0 d.parts 148 (fun p => !pathOK p.path) (by have := h.2.1; omega) rfl (by simp) (fun p hp => defClosure p (h.2.2 p hp))
  rw [any_not_all] at hc
  have d3 := d93_3
  simp [regionOf, findR, pick, Tryz.f93] at d3
  have dd := fun st => run_region_draw E st 3 _ d3
  clear d3
  unfold defOK
  cases hn : nameP d.name with
  | false => rw [hn] at h1; simp [h1]
  | true =>
    rw [hn] at h1
    cases hi : in12 d.parts.length with
    | false => rw [hi] at h2; simp [h1, h2]
    | true =>
      rw [hi] at h2
      cases ha : d.parts.all (fun p => pathOK p.path) with
      | false => rw [ha] at hc; simp [h1, h2, hc]
      | true =>
        rw [ha] at hc
        obtain ⟨nm, ps⟩ := d
        simp only at *
        rcases in12_cases hi with ⟨p, rfl⟩ | ⟨p, q, rfl⟩
        · simp at h2 hc
          simp [h1, h2, hc, dd, twoOK]
        · simp at h2 hc
          simp [h1, h2, hc, dd, twoOK]
theorem specDef_loop (d : Dfn) (h : d.Sm) (b : Bool) (hb : b = d.parts.all (fun p => pathOK p.path)) : ∀ s o n, (s 1 = .ptr 0 0 ∧ s 3 = .t (.int .i64 0) ∧ o 0 = .box 79 [.t (.str d.name), .t (.list (d.parts.map prtT))]) →
    ∃ e s' o' n', run E (.code (.loop (loopAt Tryz.f89 0)) ⟨s, o, n, 47⟩) = some (.st e ⟨s', o', n', 47⟩) ∧ e = (if b then .exit 0 else .ret) ∧ s' 1 = .ptr 0 0 ∧ o' 0 = .box 79 [.t (.str d.name), .t (.list (d.parts.map prtT))] ∧ (b = false → s' 2 = .t (.bool false)) := by
  intro s o n hI
  refine loop_for (c := loopAt Tryz.f89 0) (N := 47)
    (fun i s o n => s 1 = .ptr 0 0 ∧ s 3 = .t (.int .i64 i) ∧ o 0 = .box 79 [.t (.str d.name), .t (.list (d.parts.map prtT))] ∧ b = (d.parts.drop i).all (fun p => pathOK p.path))
    (fun e s' o' n' => e = (if b then .exit 0 else .ret) ∧ s' 1 = .ptr 0 0 ∧ o' 0 = .box 79 [.t (.str d.name), .t (.list (d.parts.map prtT))] ∧ (b = false → s' 2 = .t (.bool false))) d.parts.length ?_ ?_
    d.parts.length 0 s o n (by omega) ⟨hI.1, hI.2.1, hI.2.2, by simpa using hb⟩
  · rintro i s o n hi ⟨h1, h3, ho, hp⟩
    have hfi : d.parts[i]? = some d.parts[i] := List.getElem?_eq_getElem hi
    have hi' : (i : Int) < (d.parts.length : Int) := by omega
    have hw := wrap_succ (n := i) (by have := h.2.1; omega)
    have ht := specPathOK d.parts[i].path (h.2.2 _ (List.getElem_mem hi))
    rw [List.drop_eq_getElem_cons hi, List.all_cons] at hp
    cases hok : pathOK d.parts[i].path <;> simp [hok] at hp ht <;> simp [loopAt, loopsOf, Tryz.f89, h1, h3, ho, hi', hfi, hw, ht, hp]
  · rintro s o n ⟨h1, h3, ho, hp⟩
    simp at hp
    simp [loopAt, loopsOf, Tryz.f89, h1, h3, ho, hp]
theorem specDefOK (d : Dfn) (h : d.Sm) : run E (.call 89 [.t (dfnT d)]) = some (.res [xB (defOK d)] []) := by
  rw [run_call E 89 _ rfl Tryz.func89 rfl rfl rfl (by simp)]
  have h1 := l01Name d.name (by have := h.1; omega)
  have h2 := l01In (d.parts.length : Int) 1 2
  rw [in12_cast] at h2
  have d8 := d89_8
  simp [regionOf, findR, pick, Tryz.f89] at d8
  have dd := fun st => run_region_draw E st 8 _ d8
  clear d8
  have lp := specDef_loop d h
  unfold defOK
  cases hn : nameP d.name with
  | false => rw [hn] at h1; simp [h1]
  | true =>
    rw [hn] at h1
    cases hi : in12 d.parts.length with
    | false => rw [hi] at h2; simp [h1, h2]
    | true =>
      rw [hi] at h2
      cases ha : d.parts.all (fun p => pathOK p.path) with
      | false =>
        obtain ⟨X, A, B, C, hx⟩ := sk (lp false ha.symm)
        simp [loopAt, loopsOf, Tryz.f89] at hx
        simp [h1, h2, hx]
      | true =>
        obtain ⟨X, A, B, C, hx⟩ := sk (lp true ha.symm)
        simp [loopAt, loopsOf, Tryz.f89] at hx
        obtain ⟨nm, ps⟩ := d
        simp only at *
        rcases in12_cases hi with ⟨p, rfl⟩ | ⟨p, q, rfl⟩
        · simp at h2 hx
          simp [h1, h2, hx, dd, twoOK]
        · simp at h2 hx
          simp [h1, h2, hx, dd, twoOK]
theorem indexFunc_149_1 (xs : List Dfn) (g : Nat) (c : List T) (p : Dfn → Bool) (hl : xs.length < 9223372036854775807) (hm : E.md g = []) (hf : E.flat g = true) (hp : ∀ x ∈ xs, run E (.call g [.t (dfnT x), .dref c]) = some (.res [xB (p x)] [])) :
    run E (.call 149 [.t (.list (xs.map dfnT)), .fn g [c]]) = some (.res [xI (idxP p xs)] []) := by
  rw [run_call E 149 _ rfl Tryz.func149 rfl rfl rfl (by simp)]
  rw [E_md] at hm
  have lp := fun (r : Int) (hr : r = idxP p xs) => sk (fun s o q hI => loop_for (c := loopAt Tryz.f149 0) (N := 19)
    (fun i s o q => s 0 = .t (.list (xs.map dfnT)) ∧ s 1 = .fn g [.dptr c] ∧ s 7 = .t (.int .i64 xs.length) ∧ s 8 = .t (.int .i64 i) ∧ r = if idxP p (xs.drop i) < 0 then -1 else idxP p (xs.drop i) + i)
    (fun e s' o' q' => e = (if r < 0 then .exit 0 else .ret) ∧ (0 ≤ r → s' 4 = .t (.int .i64 r))) xs.length
    (by
      rintro i s o q hi ⟨h0, h1, h7, h8, hr⟩
      have hd : xs.drop i = xs[i] :: xs.drop (i + 1) := by rw [List.drop_eq_getElem_cons hi]
      have hi' : (i : Int) < (xs.length : Int) := by omega
      have hw := wrap_succ (n := i) (by omega)
      have hx := hp xs[i] (List.getElem_mem hi)
      rw [hd, idxP] at hr
      cases hpx : p xs[i] with
      | true =>
        simp [hpx] at hr hx
        have hr' : ¬ r < 0 := by omega
        simp [-mdOf, loopAt, loopsOf, Tryz.f149, h0, h1, h7, h8, hi, hi', hx, hw, hm, hf, hr', hr]
      | false =>
        simp [hpx] at hr hx
        have hr2 : r = if idxP p (xs.drop (i + 1)) < 0 then -1 else idxP p (xs.drop (i + 1)) + ((i : Int) + 1) := by
          rw [hr]
          by_cases hq : idxP p (xs.drop (i + 1)) < 0
          · simp [hq]
          · have : ¬ idxP p (xs.drop (i + 1)) + 1 < 0 := by omega
            simp [hq, this]; omega
        clear hr
        simp [-mdOf, loopAt, loopsOf, Tryz.f149, h0, h1, h7, h8, hi, hi', hx, hw, hm, hf]
        exact hr2)
    (by
      rintro s o q ⟨h0, h1, h7, h8, hr⟩
      simp [idxP] at hr
      simp [loopAt, loopsOf, Tryz.f149, h0, h1, h7, h8, hr])
    xs.length 0 s o q (by omega) hI)
  simp only [loopAt, loopsOf, Tryz.f149] at lp
  obtain ⟨X, A, B, C, hx⟩ := lp _ rfl
  have hz : idxP p xs = if idxP p xs < 0 then -1 else idxP p xs := by
    cases xs with
    | nil => simp [idxP]
    | cons x r =>
      unfold idxP
      split
      · simp
      · split
        · simp
        · have : ¬ idxP p r + 1 < 0 := by omega
          simp [this]
  simp [← hz] at hx
  by_cases h : idxP p xs < 0
  · have h1 : idxP p xs = -1 := by rw [hz]; simp [h]
    simp [h] at hx
    simp [hx, h1]
  · have h2 : 0 ≤ idxP p xs := by omega
    simp [h, h2] at hx
    simp [hx]
theorem defAtClosure (d : Dfn) (name : Bytes) : run E (.call 150 [.t (dfnT d), .dref [.str name]]) = some (.res [xB (d.name == name)] []) := by
  rw [run_call E 150 _ rfl Tryz.func150 rfl rfl rfl (by simp)]
  simp
theorem defAt (c : Col) (name : Bytes) (h : c.defs.length < 4294967296) : run E (.call 94 [.t (colT c), xS name]) = some (.res [xI (idxP (fun d => d.name == name) c.defs)] []) := by
  rw [run_call E 94 _ rfl Tryz.func94 rfl rfl rfl (by simp)]
  have hi := indexFunc_149_1 c.defs 150 [.str name] (fun d => d.name == name) (by omega) rfl (by simp) (fun d _ => defAtClosure d name)
  simp [hi]
end Go.Zd
/- Chains of versions: impl's chainOK, CollOK. -/
set_option linter.unusedSimpArgs false
set_option linter.unusedVariables false
namespace Go.Zd
open Go.Ev Go.Proofs Go.Pu
set_option maxRecDepth 100000
set_option maxHeartbeats 16000000
def in1 (lo hi n : Int) : Bool := decide (lo ≤ n) && decide (n ≤ hi)
def versGo (D : Bool → Val → Bool) : Option Int → List Ver → Bool
  | _, [] => true
  | p, x :: r => in1 1 10000 x.at_ && (match p with
      | none => true
      | some q => !decide (x.at_ ≤ q)) && D x.gone x.v && versGo D (some x.at_) r
def chainOK (c : Chn) : Bool := in1 0 19 c.id && in1 1 12 c.vs.length && versGo (fun g v => verDoc c.id g v) none c.vs
def chainsGo : Option Int → List Chn → Bool
  | _, [] => true
  | p, c :: r => chainOK c && (match p with
      | none => true
      | some q => !decide (c.id ≤ q)) && chainsGo (some c.id) r
def defsGo : List Dfn → List Dfn → Bool
  | _, [] => true
  | pre, d :: r => defOK d && !(pre.any (fun x => x.name == d.name)) && defsGo (pre ++ [d]) r
def collOK (c : Col) : Bool := nameP c.name && decide (c.chains.length ≤ 20) && decide (c.defs.length ≤ 3) && defsGo [] c.defs && chainsGo none c.chains
theorem isTime (n : Int) : run E (.call 151 [xI n]) = some (.res [xB (in1 1 10000 n)] []) := by
  rw [run_call E 151 _ rfl Tryz.func151 rfl rfl rfl (by simp)]
  simp [inRange, in1]
theorem chainOK_eq (c : Chn) : (versGo (fun g v => verDocI g v c.id) none c.vs && (in1 0 19 c.id && in1 1 12 c.vs.length)) = chainOK c := by
  unfold chainOK
  cases h : in1 0 19 c.id with
  | false => simp
  | true =>
    have h0 : 0 ≤ c.id := by simp [in1] at h; exact h.1
    have e : (fun g v => verDocI g v c.id) = (fun g v => verDoc c.id g v) := by
      funext g v; exact verDocI_eq g v c.id h0
    rw [e]
    cases in1 1 12 (c.vs.length : Int) <;> cases versGo (fun g v => verDoc c.id g v) none c.vs <;> rfl
theorem implChain_loop (c : Chn) (h : c.Sm) (b : Bool) (hb : b = versGo (fun g v => verDocI g v c.id) none c.vs) : ∀ s o q, (s 1 = .ptr 0 0 ∧ s 6 = .t (.list (c.vs.map verT)) ∧ s 7 = .t (.int .i64 c.vs.length) ∧ s 8 = .t (.int .i64 0) ∧ o 0 = .box 136 [.t (.int .i64 c.id), .t (.list (c.vs.map verT))] ∧ 0 < q) →
    ∃ e s' o' q', run E (.code (.loop (loopAt Tryz.f95 0)) ⟨s, o, q, 53⟩) = some (.st e ⟨s', o', q', 53⟩) ∧ e = (if b then .exit 0 else .ret) ∧ s' 1 = .ptr 0 0 ∧ o' 0 = .box 136 [.t (.int .i64 c.id), .t (.list (c.vs.map verT))] ∧ (b = false → s' 2 = .t (.bool false)) := by
  intro s o q hI
  have d4 := d95_4
  simp [regionOf, findR, pick, Tryz.f95] at d4
  have dd := fun st => run_region_draw E st 4 _ d4
  clear d4
  refine loop_for (c := loopAt Tryz.f95 0) (N := 53)
    (fun i s o q => s 1 = .ptr 0 0 ∧ s 6 = .t (.list (c.vs.map verT)) ∧ s 7 = .t (.int .i64 c.vs.length) ∧ s 8 = .t (.int .i64 i) ∧ o 0 = .box 136 [.t (.int .i64 c.id), .t (.list (c.vs.map verT))] ∧ 0 < q ∧ b = versGo (fun g v => verDocI g v c.id) (match i with | 0 => none | j + 1 => (c.vs[j]?).map (·.at_)) (c.vs.drop i))
    (fun e s' o' q' => e = (if b then .exit 0 else .ret) ∧ s' 1 = .ptr 0 0 ∧ o' 0 = .box 136 [.t (.int .i64 c.id), .t (.list (c.vs.map verT))] ∧ (b = false → s' 2 = .t (.bool false))) c.vs.length ?_ ?_
    c.vs.length 0 s o q (by omega) ⟨hI.1, hI.2.1, hI.2.2.1, hI.2.2.2.1, hI.2.2.2.2.1, hI.2.2.2.2.2, by simpa using hb⟩
  · rintro i s o q hi ⟨h1, h6, h7, h8, ho, hq, hp⟩
    have hq0 : q ≠ 0 := by omega
    have h0q : 0 ≠ q := by omega
    have hxi : c.vs[i]? = some c.vs[i] := List.getElem?_eq_getElem hi
    have hi' : (i : Int) < (c.vs.length : Int) := by omega
    have hw := wrap_succ (n := i) (by have := h.1; omega)
    have ht := isTime c.vs[i].at_
    have hdoc := implDocOK c.vs[i].gone c.vs[i].v c.id (h.2 _ (List.getElem_mem hi))
    rw [List.drop_eq_getElem_cons hi] at hp
    cases i with
    | zero =>
      simp only [versGo] at hp
      cases hT : in1 1 10000 c.vs[0].at_ <;> cases hD : verDocI c.vs[0].gone c.vs[0].v c.id <;> simp [hT, hD] at hp ht hdoc <;> simp [loopAt, loopsOf, Tryz.f95, dd, h1, h6, h7, h8, ho, hq0, h0q, hi, hi', hw, ht, hdoc, hp, hxi]
    | succ j =>
      have hj : j < c.vs.length := by omega
      have hxj : c.vs[j]? = some c.vs[j] := List.getElem?_eq_getElem hj
      have hpos : (0 : Int) < (j : Int) + 1 := by omega
      have hnn : (0 : Int) ≤ (j : Int) + 1 := by omega
      have hwj2 := wrap_nat (n := j) (by have := h.1; omega)
      simp only [hxj, Option.map_some, versGo] at hp
      simp at h8 hi' hw
      by_cases hge : c.vs[j + 1].at_ ≤ c.vs[j].at_ <;> cases hT : in1 1 10000 c.vs[j + 1].at_ <;> cases hD : verDocI c.vs[j + 1].gone c.vs[j + 1].v c.id <;> simp [hT, hD, hge] at hp ht hdoc <;> simp [loopAt, loopsOf, Tryz.f95, dd, h1, h6, h7, h8, ho, hq0, h0q, hi, hi', hw, ht, hdoc, hp, hxi, hxj, hj, hpos, hnn, hwj2, hge]
  · rintro s o q ⟨h1, h6, h7, h8, ho, hq, hp⟩
    simp [versGo] at hp
    simp [loopAt, loopsOf, Tryz.f95, h1, h6, h7, h8, ho, hp]
theorem implChainOK (c : Chn) (h : c.Sm) : run E (.call 95 [.t (chnT c)]) = some (.res [xB (chainOK c)] []) := by
  rw [run_call E 95 _ rfl Tryz.func95 rfl rfl rfl (by simp)]
  rw [← chainOK_eq]
  have lp := implChain_loop c h
  have h1 := inRange c.id 0 19
  have h2 := inRange (c.vs.length : Int) 1 12
  rw [show (decide (0 ≤ c.id) && decide (c.id ≤ 19)) = in1 0 19 c.id from rfl] at h1
  rw [show (decide ((1 : Int) ≤ (c.vs.length : Int)) && decide ((c.vs.length : Int) ≤ 12)) = in1 1 12 c.vs.length from rfl] at h2
  cases hb : versGo (fun g v => verDocI g v c.id) none c.vs with
  | false =>
    obtain ⟨X, A, B, C, hx⟩ := sk (lp false hb.symm)
    simp [loopAt, loopsOf, Tryz.f95] at hx
    simp [hx]
  | true =>
    obtain ⟨X, A, B, C, hx⟩ := sk (lp true hb.symm)
    simp [loopAt, loopsOf, Tryz.f95] at hx
    cases hi : in1 0 19 c.id with
    | false => rw [hi] at h1; simp [hx, h1]
    | true => rw [hi] at h1; simp [hx, h1, h2]
end Go.Zd
/- impl's CollOK. -/
set_option linter.unusedSimpArgs false
set_option linter.unusedVariables false
namespace Go.Zd
open Go.Ev Go.Proofs Go.Pu
set_option maxRecDepth 100000
set_option maxHeartbeats 16000000
abbrev colBox (c : Col) : Ob := .box 67 [.t (.str c.name), .t (.list (c.chains.map chnT)), .t (.list (c.defs.map dfnT))]
/-- Where the first one stands, ahead of a place that fits. -/
theorem idxP_take {α : Type} (p : α → Bool) : ∀ (l : List α) (i : Nat) (hi : i < l.length), p l[i] = true → ((idxP p l < (i : Int)) = ((l.take i).any p = true))
  | [], i, hi, _ => by simp at hi
  | x :: r, 0, hi, h => by
    simp at h
    simp [idxP, h]
  | x :: r, i + 1, hi, h => by
    have ih := idxP_take p r i (by simpa using hi) (by simpa using h)
    have hne : ¬ idxP p r < 0 := by
      rw [idxP_neg]
      have : r.any p = true := List.any_eq_true.2 ⟨r[i]'(by simpa using hi), List.getElem_mem _, by simpa using h⟩
      simp [this]
    unfold idxP
    cases hx : p x with
    | true => simp [hx]
    | false =>
      simp only [hx, Bool.false_eq_true, if_false, hne, List.take_succ_cons, List.any_cons, Bool.false_or]
      rw [← ih]
      simp
theorem implColl_defs (c : Col) (h : c.Sm) (b : Bool) (hb : b = defsGo [] c.defs) : ∀ s o q, (s 1 = .ptr 0 0 ∧ s 8 = .t (.list (c.defs.map dfnT)) ∧ s 9 = .t (.int .i64 c.defs.length) ∧ s 10 = .t (.int .i64 0) ∧ o 0 = colBox c ∧ 0 < q) →
    ∃ e s' o' q', run E (.code (.loop (loopAt Tryz.f30 0)) ⟨s, o, q, 64⟩) = some (.st e ⟨s', o', q', 64⟩) ∧ e = (if b then .exit 0 else .ret) ∧ s' 1 = .ptr 0 0 ∧ o' 0 = colBox c ∧ 0 < q' ∧ (b = false → s' 2 = .t (.bool false)) := by
  intro s o q hI
  refine loop_for (c := loopAt Tryz.f30 0) (N := 64)
    (fun i s o q => s 1 = .ptr 0 0 ∧ s 8 = .t (.list (c.defs.map dfnT)) ∧ s 9 = .t (.int .i64 c.defs.length) ∧ s 10 = .t (.int .i64 i) ∧ o 0 = colBox c ∧ 0 < q ∧ b = defsGo (c.defs.take i) (c.defs.drop i))
    (fun e s' o' q' => e = (if b then .exit 0 else .ret) ∧ s' 1 = .ptr 0 0 ∧ o' 0 = colBox c ∧ 0 < q' ∧ (b = false → s' 2 = .t (.bool false))) c.defs.length ?_ ?_
    c.defs.length 0 s o q (by omega) ⟨hI.1, hI.2.1, hI.2.2.1, hI.2.2.2.1, hI.2.2.2.2.1, hI.2.2.2.2.2, by simpa using hb⟩
  · rintro i s o q hi ⟨h1, h8, h9, h10, ho, hq, hp⟩
    have hq0 : q ≠ 0 := by omega
    have h0q : 0 ≠ q := by omega
    have hxi : c.defs[i]? = some c.defs[i] := List.getElem?_eq_getElem hi
    have hi' : (i : Int) < (c.defs.length : Int) := by omega
    have hw := wrap_succ (n := i) (by have := h.defs.1; omega)
    have hd := implDefOK c.defs[i] (h.defs.2 _ (List.getElem_mem hi))
    have ha := defAt c c.defs[i].name h.defs.1
    have hlt := idxP_take (fun d => d.name == c.defs[i].name) c.defs i hi (by simp)
    have htk : c.defs.take (i + 1) = c.defs.take i ++ [c.defs[i]] := by rw [List.take_add_one, hxi]; rfl
    rw [List.drop_eq_getElem_cons hi, defsGo, ← htk] at hp
    generalize hz : (c.defs.take i).any (fun d => d.name == c.defs[i].name) = z at *
    generalize hk : idxP (fun d => d.name == c.defs[i].name) c.defs = k at *
    cases hO : defOK c.defs[i] with
    | false =>
      simp [hO] at hp hd
      simp [loopAt, loopsOf, Tryz.f30, h1, h8, h9, h10, ho, hq0, h0q, hi', hxi, hw, hd, hp]
    | true =>
      cases z with
      | true =>
        have hk2 : k < (i : Int) := by rw [hlt]
        simp [hO] at hp hd
        simp [loopAt, loopsOf, Tryz.f30, h1, h8, h9, h10, ho, hq0, h0q, hi', hxi, hw, hd, hp, ha, hk2]
      | false =>
        have hk2 : ¬ k < (i : Int) := by rw [hlt]; simp
        simp [hO] at hp hd
        simp [loopAt, loopsOf, Tryz.f30, h1, h8, h9, h10, ho, hq0, h0q, hi', hxi, hw, hd, ha, hk2]
        rw [hp, htk]
  · rintro s o q ⟨h1, h8, h9, h10, ho, hq, hp⟩
    simp [defsGo] at hp
    simp [loopAt, loopsOf, Tryz.f30, h1, h8, h9, h10, ho, hp, hq]
theorem implColl_chains (c : Col) (h : c.Sm) (b : Bool) (hb : b = chainsGo none c.chains) : ∀ s o q, (s 1 = .ptr 0 0 ∧ s 28 = .t (.list (c.chains.map chnT)) ∧ s 29 = .t (.int .i64 c.chains.length) ∧ s 30 = .t (.int .i64 0) ∧ o 0 = colBox c ∧ 0 < q) →
    ∃ e s' o' q', run E (.code (.loop (loopAt Tryz.f30 1)) ⟨s, o, q, 64⟩) = some (.st e ⟨s', o', q', 64⟩) ∧ e = (if b then .exit 2 else .ret) ∧ s' 1 = .ptr 0 0 ∧ o' 0 = colBox c ∧ (b = false → s' 2 = .t (.bool false)) := by
  intro s o q hI
  have d10 := d30_10
  simp [regionOf, findR, pick, Tryz.f30] at d10
  have dd := fun st => run_region_draw E st 10 _ d10
  clear d10
  refine loop_for (c := loopAt Tryz.f30 1) (N := 64)
    (fun i s o q => s 1 = .ptr 0 0 ∧ s 28 = .t (.list (c.chains.map chnT)) ∧ s 29 = .t (.int .i64 c.chains.length) ∧ s 30 = .t (.int .i64 i) ∧ o 0 = colBox c ∧ 0 < q ∧ b = chainsGo (match i with | 0 => none | j + 1 => (c.chains[j]?).map (·.id)) (c.chains.drop i))
    (fun e s' o' q' => e = (if b then .exit 2 else .ret) ∧ s' 1 = .ptr 0 0 ∧ o' 0 = colBox c ∧ (b = false → s' 2 = .t (.bool false))) c.chains.length ?_ ?_
    c.chains.length 0 s o q (by omega) ⟨hI.1, hI.2.1, hI.2.2.1, hI.2.2.2.1, hI.2.2.2.2.1, hI.2.2.2.2.2, by simpa using hb⟩
  · rintro i s o q hi ⟨h1, h28, h29, h30, ho, hq, hp⟩
    have hq0 : q ≠ 0 := by omega
    have h0q : 0 ≠ q := by omega
    have hxi : c.chains[i]? = some c.chains[i] := List.getElem?_eq_getElem hi
    have hi' : (i : Int) < (c.chains.length : Int) := by omega
    have hw := wrap_succ (n := i) (by have := h.chains.1; omega)
    have hc := implChainOK c.chains[i] (h.chains.2 _ (List.getElem_mem hi))
    rw [List.drop_eq_getElem_cons hi] at hp
    cases i with
    | zero =>
      simp only [chainsGo] at hp
      cases hT : chainOK c.chains[0] <;> simp [hT] at hp hc <;> simp [loopAt, loopsOf, Tryz.f30, dd, h1, h28, h29, h30, ho, hq0, h0q, hi, hi', hw, hc, hp, hxi]
    | succ j =>
      have hj : j < c.chains.length := by omega
      have hxj : c.chains[j]? = some c.chains[j] := List.getElem?_eq_getElem hj
      have hpos : (0 : Int) < (j : Int) + 1 := by omega
      have hnn : (0 : Int) ≤ (j : Int) + 1 := by omega
      have hwj2 := wrap_nat (n := j) (by have := h.chains.1; omega)
      simp only [hxj, Option.map_some, chainsGo] at hp
      simp at h30 hi' hw
      by_cases hge : c.chains[j + 1].id ≤ c.chains[j].id <;> cases hT : chainOK c.chains[j + 1] <;> simp [hT, hge] at hp hc <;> simp [loopAt, loopsOf, Tryz.f30, dd, h1, h28, h29, h30, ho, hq0, h0q, hi, hi', hw, hc, hp, hxi, hxj, hj, hpos, hnn, hwj2, hge]
  · rintro s o q ⟨h1, h28, h29, h30, ho, hq, hp⟩
    simp [chainsGo] at hp
    simp [loopAt, loopsOf, Tryz.f30, h1, h28, h29, h30, ho, hp]
/-- Ids that rise are few. -/
theorem chains_few : ∀ (l : List Chn) (p : Option Int), chainsGo p l = true → (match p with
    | none => (l.length : Int) ≤ 20
    | some q => l ≠ [] → -1 ≤ q → (l.length : Int) ≤ 19 - q)
  | [], p, _ => by cases p <;> simp
  | c :: r, p, h => by
    simp only [chainsGo, Bool.and_eq_true] at h
    obtain ⟨⟨h1, h2⟩, h3⟩ := h
    have ih := chains_few r (some c.id) h3
    have hid : 0 ≤ c.id ∧ c.id ≤ 19 := by
      unfold chainOK in1 at h1
      simp at h1
      omega
    simp only at ih
    cases p with
    | none =>
      simp only
      by_cases hr : r = []
      · subst hr; simp
      · have := ih hr (by omega); simp; omega
    | some q =>
      simp at h2
      intro _ hq
      by_cases hr : r = []
      · subst hr; simp; omega
      · have := ih hr (by omega); simp; omega
theorem implCollOK (c : Col) (h : c.Sm) : run E (.call 30 [.t (colT c)]) = some (.res [xB (collOK c)] []) := by
  rw [run_call E 30 _ rfl Tryz.func30 rfl rfl rfl (by simp)]
  have h1 := isShort c.name (by have := h.name; omega)
  have h3 : ((c.defs.length : Int) ≤ 3) = (c.defs.length ≤ 3) := by simp; omega
  unfold collOK
  cases hD : defsGo [] c.defs with
  | false =>
    obtain ⟨X, A, B, C, hx⟩ := sk (implColl_defs c h false hD.symm)
    simp [loopAt, loopsOf, Tryz.f30] at hx
    simp [hx]
  | true =>
    obtain ⟨X, A, B, C, hx⟩ := sk (implColl_defs c h true hD.symm)
    simp [loopAt, loopsOf, Tryz.f30] at hx
    cases hC : chainsGo none c.chains with
    | false =>
      obtain ⟨X2, A2, B2, C2, hx2⟩ := sk (implColl_chains c h false hC.symm)
      simp [loopAt, loopsOf, Tryz.f30] at hx2
      simp [hx, hx2]
    | true =>
      obtain ⟨X2, A2, B2, C2, hx2⟩ := sk (implColl_chains c h true hC.symm)
      simp [loopAt, loopsOf, Tryz.f30] at hx2
      have hfew := chains_few c.chains none hC
      simp only at hfew
      have hfew' : c.chains.length ≤ 20 := by omega
      cases hN : nameP c.name with
      | false => rw [hN] at h1; simp [hx, hx2, h1]
      | true => rw [hN] at h1; simp [hx, hx2, h1, hfew', h3]
end Go.Zd
/- spec's CollOK. -/
set_option linter.unusedSimpArgs false
set_option linter.unusedVariables false
namespace Go.Zd
open Go.Ev Go.Proofs Go.Pu
set_option maxRecDepth 100000
set_option maxHeartbeats 16000000
theorem l01In1 (a b c : Int) : run E (.call 71 [xI a, xI b, xI c]) = some (.res [xB (in1 b c a)] []) := l01In a b c
theorem specColl_inner (c : Col) (h : c.Sm) (i : Nat) (hi : i < c.defs.length) (z : Bool) (hz : z = (c.defs.take i).any (fun d => d.name == c.defs[i].name)) : ∀ s o q, (s 1 = .ptr 0 0 ∧ s 3 = .t (.int .i64 i) ∧ s 4 = .t (.int .i64 0) ∧ o 0 = colBox c ∧ 0 < q) →
    ∃ e s' o' q', run E (.code (.loop (loopAt Tryz.f28 1)) ⟨s, o, q, 138⟩) = some (.st e ⟨s', o', q', 138⟩) ∧ e = (if z then .ret else .exit 2) ∧ s' 1 = .ptr 0 0 ∧ s' 3 = .t (.int .i64 i) ∧ o' 0 = colBox c ∧ 0 < q' ∧ (z = true → s' 2 = .t (.bool false)) := by
  intro s o q hI
  have d11 := d28_11
  simp [regionOf, findR, pick, Tryz.f28] at d11
  have dd := fun st => run_region_draw E st 11 _ d11
  clear d11
  refine loop_for (c := loopAt Tryz.f28 1) (N := 138)
    (fun j s o q => s 1 = .ptr 0 0 ∧ s 3 = .t (.int .i64 i) ∧ s 4 = .t (.int .i64 j) ∧ o 0 = colBox c ∧ 0 < q ∧ z = ((c.defs.take i).drop j).any (fun d => d.name == c.defs[i].name))
    (fun e s' o' q' => e = (if z then .ret else .exit 2) ∧ s' 1 = .ptr 0 0 ∧ s' 3 = .t (.int .i64 i) ∧ o' 0 = colBox c ∧ 0 < q' ∧ (z = true → s' 2 = .t (.bool false))) i ?_ ?_
    i 0 s o q (by omega) ⟨hI.1, hI.2.1, hI.2.2.1, hI.2.2.2.1, hI.2.2.2.2, by simpa using hz⟩
  · rintro j s o q hj ⟨h1, h3, h4, ho, hq, hp⟩
    have hjd : j < c.defs.length := by omega
    have hxi : c.defs[i]? = some c.defs[i] := List.getElem?_eq_getElem hi
    have hxj : c.defs[j]? = some c.defs[j] := List.getElem?_eq_getElem hjd
    have hi' : (i : Int) < (c.defs.length : Int) := by omega
    have hj' : (j : Int) < (c.defs.length : Int) := by omega
    have hji : (j : Int) < (i : Int) := by omega
    have hw := wrap_succ (n := j) (by have := h.defs.1; omega)
    rw [List.drop_eq_getElem_cons (by simp; omega), List.any_cons, List.getElem_take] at hp
    by_cases he : c.defs[j].name = c.defs[i].name
    · simp [he] at hp
      simp [loopAt, loopsOf, Tryz.f28, dd, h1, h3, h4, ho, hxi, hxj, hi', hj', hji, hw, he, hp, hq, -List.any_eq_true, -List.any_eq_false]
    · rw [show (c.defs[j].name == c.defs[i].name) = false from by simp [he], Bool.false_or] at hp
      simp [loopAt, loopsOf, Tryz.f28, dd, h1, h3, h4, ho, hxi, hxj, hi', hj', hji, hw, he, hq, -List.any_eq_true, -List.any_eq_false]
      exact hp
  · rintro s o q ⟨h1, h3, h4, ho, hq, hp⟩
    simp at hp
    simp [loopAt, loopsOf, Tryz.f28, h1, h3, h4, ho, hp, hq]
theorem specColl_defs (c : Col) (h : c.Sm) (b : Bool) (hb : b = defsGo [] c.defs) : ∀ s o q, (s 1 = .ptr 0 0 ∧ s 3 = .t (.int .i64 0) ∧ o 0 = colBox c ∧ 0 < q) →
    ∃ e s' o' q', run E (.code (.loop (loopAt Tryz.f28 0)) ⟨s, o, q, 138⟩) = some (.st e ⟨s', o', q', 138⟩) ∧ e = (if b then .exit 0 else .ret) ∧ s' 1 = .ptr 0 0 ∧ o' 0 = colBox c ∧ 0 < q' ∧ (b = false → s' 2 = .t (.bool false)) := by
  intro s o q hI
  refine loop_for (c := loopAt Tryz.f28 0) (N := 138)
    (fun i s o q => s 1 = .ptr 0 0 ∧ s 3 = .t (.int .i64 i) ∧ o 0 = colBox c ∧ 0 < q ∧ b = defsGo (c.defs.take i) (c.defs.drop i))
    (fun e s' o' q' => e = (if b then .exit 0 else .ret) ∧ s' 1 = .ptr 0 0 ∧ o' 0 = colBox c ∧ 0 < q' ∧ (b = false → s' 2 = .t (.bool false))) c.defs.length ?_ ?_
    c.defs.length 0 s o q (by omega) ⟨hI.1, hI.2.1, hI.2.2.1, hI.2.2.2, by simpa using hb⟩
  · rintro i s o q hi ⟨h1, h3, ho, hq, hp⟩
    have hxi : c.defs[i]? = some c.defs[i] := List.getElem?_eq_getElem hi
    have hi' : (i : Int) < (c.defs.length : Int) := by omega
    have hw := wrap_succ (n := i) (by have := h.defs.1; omega)
    have hd := specDefOK c.defs[i] (h.defs.2 _ (List.getElem_mem hi))
    have htk : c.defs.take (i + 1) = c.defs.take i ++ [c.defs[i]] := by rw [List.take_add_one, hxi]; rfl
    obtain ⟨z, hz⟩ : ∃ z, z = (c.defs.take i).any (fun d => d.name == c.defs[i].name) := ⟨_, rfl⟩
    obtain ⟨X, A, B, C, hx⟩ := sk (specColl_inner c h i hi z hz)
    simp only [loopAt, loopsOf, Tryz.f28] at hx
    rw [List.drop_eq_getElem_cons hi, defsGo, ← htk, ← hz] at hp
    clear hz
    cases hO : defOK c.defs[i] with
    | false =>
      simp [hO] at hp hd
      simp [loopAt, loopsOf, Tryz.f28, h1, h3, ho, hq, hi', hxi, hw, hd, hp]
    | true =>
      cases z with
      | true =>
        simp [hO] at hp hd hx
        simp [loopAt, loopsOf, Tryz.f28, h1, h3, ho, hq, hi', hxi, hw, hd, hp, hx]
      | false =>
        simp [hO] at hp hd hx
        simp [loopAt, loopsOf, Tryz.f28, h1, h3, ho, hq, hi', hxi, hw, hd, hx]
        exact hp
  · rintro s o q ⟨h1, h3, ho, hq, hp⟩
    simp [defsGo] at hp
    simp [loopAt, loopsOf, Tryz.f28, h1, h3, ho, hp, hq]
theorem specColl_vers (c : Col) (h : c.Sm) (m r : Nat) (x : Chn) (hx : x.Sm) (b : Bool) (hb : b = versGo (fun g v => verDoc x.id g v) none x.vs) : ∀ s o q, (s 1 = .ptr 0 0 ∧ s 5 = .t (.int .i64 m) ∧ s 6 = .ptr r 0 ∧ s 7 = .t (.int .i64 0) ∧ o 0 = colBox c ∧ o r = .box 136 [.t (.int .i64 x.id), .t (.list (x.vs.map verT))] ∧ 0 < r ∧ r < q) →
    ∃ e s' o' q', run E (.code (.loop (loopAt Tryz.f28 3)) ⟨s, o, q, 138⟩) = some (.st e ⟨s', o', q', 138⟩) ∧ e = (if b then .exit 6 else .ret) ∧ s' 1 = .ptr 0 0 ∧ s' 5 = .t (.int .i64 m) ∧ o' 0 = colBox c ∧ 0 < q' ∧ (b = false → s' 2 = .t (.bool false)) := by
  intro s o q hI
  have d23 := d28_23
  simp [regionOf, findR, pick, Tryz.f28] at d23
  have dd := fun st => run_region_draw E st 23 _ d23
  clear d23
  refine loop_for (c := loopAt Tryz.f28 3) (N := 138)
    (fun i s o q => s 1 = .ptr 0 0 ∧ s 5 = .t (.int .i64 m) ∧ s 6 = .ptr r 0 ∧ s 7 = .t (.int .i64 i) ∧ o 0 = colBox c ∧ o r = .box 136 [.t (.int .i64 x.id), .t (.list (x.vs.map verT))] ∧ 0 < r ∧ r < q ∧ b = versGo (fun g v => verDoc x.id g v) (match i with | 0 => none | j + 1 => (x.vs[j]?).map (·.at_)) (x.vs.drop i))
    (fun e s' o' q' => e = (if b then .exit 6 else .ret) ∧ s' 1 = .ptr 0 0 ∧ s' 5 = .t (.int .i64 m) ∧ o' 0 = colBox c ∧ 0 < q' ∧ (b = false → s' 2 = .t (.bool false))) x.vs.length ?_ ?_
    x.vs.length 0 s o q (by omega) ⟨hI.1, hI.2.1, hI.2.2.1, hI.2.2.2.1, hI.2.2.2.2.1, hI.2.2.2.2.2.1, hI.2.2.2.2.2.2.1, hI.2.2.2.2.2.2.2, by simpa using hb⟩
  · rintro i s o q hi ⟨h1, h5, h6, h7, ho, hr, hr0, hrq, hp⟩
    have hq0 : q ≠ 0 := by omega
    have h0q : 0 ≠ q := by omega
    have hqr : q ≠ r := by omega
    have hrq' : r ≠ q := by omega
    have hrq1 : r < q + 1 := by omega
    have hxi : x.vs[i]? = some x.vs[i] := List.getElem?_eq_getElem hi
    have hi' : (i : Int) < (x.vs.length : Int) := by omega
    have hw := wrap_succ (n := i) (by have := hx.1; omega)
    have ht := l01In1 x.vs[i].at_ 1 10000
    have hdoc := specDocOK x.id x.vs[i].gone x.vs[i].v (hx.2 _ (List.getElem_mem hi))
    rw [List.drop_eq_getElem_cons hi] at hp
    cases i with
    | zero =>
      simp only [versGo] at hp
      cases hT : in1 1 10000 x.vs[0].at_ <;> cases hD : verDoc x.id x.vs[0].gone x.vs[0].v <;> simp [hT, hD] at hp ht hdoc <;> simp [loopAt, loopsOf, Tryz.f28, dd, h1, h5, h6, h7, ho, hr, hq0, h0q, hqr, hrq', hrq1, hr0, hi, hi', hw, ht, hdoc, hp, hxi]
    | succ j =>
      have hj : j < x.vs.length := by omega
      have hxj : x.vs[j]? = some x.vs[j] := List.getElem?_eq_getElem hj
      have hpos : (0 : Int) < (j : Int) + 1 := by omega
      have hnn : (0 : Int) ≤ (j : Int) + 1 := by omega
      have hwj2 := wrap_nat (n := j) (by have := hx.1; omega)
      simp only [hxj, Option.map_some, versGo] at hp
      simp at h7 hi' hw
      by_cases hge : x.vs[j + 1].at_ ≤ x.vs[j].at_ <;> cases hT : in1 1 10000 x.vs[j + 1].at_ <;> cases hD : verDoc x.id x.vs[j + 1].gone x.vs[j + 1].v <;> simp [hT, hD, hge] at hp ht hdoc <;> simp [loopAt, loopsOf, Tryz.f28, dd, h1, h5, h6, h7, ho, hr, hq0, h0q, hqr, hrq', hrq1, hr0, hi, hi', hw, ht, hdoc, hp, hxi, hxj, hj, hpos, hnn, hwj2, hge]
  · rintro s o q ⟨h1, h5, h6, h7, ho, hr, hr0, hrq, hp⟩
    have hq : 0 < q := by omega
    simp [versGo] at hp
    simp [loopAt, loopsOf, Tryz.f28, h1, h5, h6, h7, ho, hr, hp, hq]
end Go.Zd
/- The laws' own functions over lists of versions, chains and definitions. -/
set_option linter.unusedSimpArgs false
set_option linter.unusedVariables false
namespace Go.Zd
open Go.Ev Go.Proofs Go.Pu
set_option maxRecDepth 100000
set_option maxHeartbeats 16000000
theorem sz_208 (xs : List Ver) (f : Ver → Int → Int) (hl : xs.length < 9223372036854775807) (hf : ∀ x ∈ xs, ∀ l, 0 ≤ l → l ≤ 1048576 → run E (.call 250 [.t (verT x), xI l]) = some (.res [xI (f x l)] [])) (hle : ∀ x ∈ xs, ∀ k, 0 ≤ k → f x k ≤ k) (l : Int) (h0 : 0 ≤ l) (hm : l ≤ 1048576) :
    run E (.call 208 [.t (.list (xs.map verT)), xI l]) = some (.res [xI (lstSz f xs l)] []) := by
  rw [run_call E 208 _ rfl Tryz.func208 rfl rfl rfl (by simp)]
  have hw : IntKind.i64.wrap (l - (xs.length : Int)) = l - xs.length := wrap_of (by omega) (by omega)
  unfold lstSz szB
  by_cases hb : l - (xs.length : Int) < 0
  · simp [hw, hb]
  · have hb0 : ¬ l < (xs.length : Int) := by omega
    have lp := fun (r : Int) (hr : r = goSz f xs (l - xs.length)) => sk (fun s o q hI => loop_for (c := loopAt Tryz.f208 0) (N := 27)
      (fun i s o q => ∃ k : Int, s 0 = .t (.list (xs.map verT)) ∧ s 1 = .t (.int .i64 k) ∧ s 5 = .t (.int .i64 i) ∧ 0 ≤ k ∧ k ≤ 1048576 ∧ r = goSz f (xs.drop i) k)
      (fun e s' o' q' => e = (if r < 0 then .ret else .exit 0) ∧ (r < 0 → s' 4 = .t (.int .i64 r)) ∧ (0 ≤ r → s' 1 = .t (.int .i64 r))) xs.length
      (by
        rintro i s o q hi ⟨k, g0, g1, g5, hk0, hkm, hp⟩
        have hi' : (i : Int) < (xs.length : Int) := by omega
        have hwi := wrap_succ (n := i) (by omega)
        have hxi : xs[i]? = some xs[i] := List.getElem?_eq_getElem hi
        have hx := hf _ (List.getElem_mem hi) k hk0 hkm
        have hxl := hle _ (List.getElem_mem hi) k hk0
        rw [List.drop_eq_getElem_cons hi, goSz] at hp
        by_cases hn : f xs[i] k < 0
        · simp [hn] at hp
          simp [loopAt, loopsOf, Tryz.f208, g0, g1, g5, hi', hxi, hwi, hx, hn, hp]
        · simp [hn] at hp
          simp [loopAt, loopsOf, Tryz.f208, g0, g1, g5, hi', hxi, hwi, hx, hn]
          exact ⟨by omega, by omega, hp⟩)
      (by
        rintro s o q ⟨k, g0, g1, g5, hk0, hkm, hp⟩
        simp [goSz] at hp
        have hn : ¬ r < 0 := by omega
        have hn' : 0 ≤ r := by omega
        have hk1 : ¬ k < 0 := by omega
        simp [loopAt, loopsOf, Tryz.f208, g0, g1, g5, hp, hk1]
        try omega)
      xs.length 0 s o q (by omega) hI)
    simp only [loopAt, loopsOf, Tryz.f208] at lp
    obtain ⟨r, hr⟩ : ∃ r, r = goSz f xs (l - xs.length) := ⟨_, rfl⟩
    obtain ⟨X, A, B, C, hx⟩ := lp r hr
    have hx' := fun s o q a0 a1 a5 => hx s o q ⟨l - xs.length, a0, a1, a5, by omega, by omega, by simpa using hr⟩
    clear hx
    by_cases hn : r < 0
    · have hn' : ¬ 0 ≤ r := by omega
      simp [hn, hn'] at hx'
      simp [hw, hb, hb0, hx', hn, ← hr]
    · have hn' : 0 ≤ r := by omega
      simp [hn, hn'] at hx'
      simp [hw, hb, hb0, hx', hn, ← hr]
theorem sz_87 (xs : List Chn) (f : Chn → Int → Int) (hl : xs.length < 9223372036854775807) (hf : ∀ x ∈ xs, ∀ l, 0 ≤ l → l ≤ 1048576 → run E (.call 145 [.t (chnT x), xI l]) = some (.res [xI (f x l)] [])) (hle : ∀ x ∈ xs, ∀ k, 0 ≤ k → f x k ≤ k) (l : Int) (h0 : 0 ≤ l) (hm : l ≤ 1048576) :
    run E (.call 87 [.t (.list (xs.map chnT)), xI l]) = some (.res [xI (lstSz f xs l)] []) := by
  rw [run_call E 87 _ rfl Tryz.func87 rfl rfl rfl (by simp)]
  have hw : IntKind.i64.wrap (l - (xs.length : Int)) = l - xs.length := wrap_of (by omega) (by omega)
  unfold lstSz szB
  by_cases hb : l - (xs.length : Int) < 0
  · simp [hw, hb]
  · have hb0 : ¬ l < (xs.length : Int) := by omega
    have lp := fun (r : Int) (hr : r = goSz f xs (l - xs.length)) => sk (fun s o q hI => loop_for (c := loopAt Tryz.f87 0) (N := 27)
      (fun i s o q => ∃ k : Int, s 0 = .t (.list (xs.map chnT)) ∧ s 1 = .t (.int .i64 k) ∧ s 5 = .t (.int .i64 i) ∧ 0 ≤ k ∧ k ≤ 1048576 ∧ r = goSz f (xs.drop i) k)
      (fun e s' o' q' => e = (if r < 0 then .ret else .exit 0) ∧ (r < 0 → s' 4 = .t (.int .i64 r)) ∧ (0 ≤ r → s' 1 = .t (.int .i64 r))) xs.length
      (by
        rintro i s o q hi ⟨k, g0, g1, g5, hk0, hkm, hp⟩
        have hi' : (i : Int) < (xs.length : Int) := by omega
        have hwi := wrap_succ (n := i) (by omega)
        have hxi : xs[i]? = some xs[i] := List.getElem?_eq_getElem hi
        have hx := hf _ (List.getElem_mem hi) k hk0 hkm
        have hxl := hle _ (List.getElem_mem hi) k hk0
        rw [List.drop_eq_getElem_cons hi, goSz] at hp
        by_cases hn : f xs[i] k < 0
        · simp [hn] at hp
          simp [loopAt, loopsOf, Tryz.f87, g0, g1, g5, hi', hxi, hwi, hx, hn, hp]
        · simp [hn] at hp
          simp [loopAt, loopsOf, Tryz.f87, g0, g1, g5, hi', hxi, hwi, hx, hn]
          exact ⟨by omega, by omega, hp⟩)
      (by
        rintro s o q ⟨k, g0, g1, g5, hk0, hkm, hp⟩
        simp [goSz] at hp
        have hn : ¬ r < 0 := by omega
        have hn' : 0 ≤ r := by omega
        have hk1 : ¬ k < 0 := by omega
        simp [loopAt, loopsOf, Tryz.f87, g0, g1, g5, hp, hk1]
        try omega)
      xs.length 0 s o q (by omega) hI)
    simp only [loopAt, loopsOf, Tryz.f87] at lp
    obtain ⟨r, hr⟩ : ∃ r, r = goSz f xs (l - xs.length) := ⟨_, rfl⟩
    obtain ⟨X, A, B, C, hx⟩ := lp r hr
    have hx' := fun s o q a0 a1 a5 => hx s o q ⟨l - xs.length, a0, a1, a5, by omega, by omega, by simpa using hr⟩
    clear hx
    by_cases hn : r < 0
    · have hn' : ¬ 0 ≤ r := by omega
      simp [hn, hn'] at hx'
      simp [hw, hb, hb0, hx', hn, ← hr]
    · have hn' : 0 ≤ r := by omega
      simp [hn, hn'] at hx'
      simp [hw, hb, hb0, hx', hn, ← hr]
theorem sz_88 (xs : List Dfn) (f : Dfn → Int → Int) (hl : xs.length < 9223372036854775807) (hf : ∀ x ∈ xs, ∀ l, 0 ≤ l → l ≤ 1048576 → run E (.call 34 [.t (dfnT x), xI l]) = some (.res [xI (f x l)] [])) (hle : ∀ x ∈ xs, ∀ k, 0 ≤ k → f x k ≤ k) (l : Int) (h0 : 0 ≤ l) (hm : l ≤ 1048576) :
    run E (.call 88 [.t (.list (xs.map dfnT)), xI l]) = some (.res [xI (lstSz f xs l)] []) := by
  rw [run_call E 88 _ rfl Tryz.func88 rfl rfl rfl (by simp)]
  have hw : IntKind.i64.wrap (l - (xs.length : Int)) = l - xs.length := wrap_of (by omega) (by omega)
  unfold lstSz szB
  by_cases hb : l - (xs.length : Int) < 0
  · simp [hw, hb]
  · have hb0 : ¬ l < (xs.length : Int) := by omega
    have lp := fun (r : Int) (hr : r = goSz f xs (l - xs.length)) => sk (fun s o q hI => loop_for (c := loopAt Tryz.f88 0) (N := 27)
      (fun i s o q => ∃ k : Int, s 0 = .t (.list (xs.map dfnT)) ∧ s 1 = .t (.int .i64 k) ∧ s 5 = .t (.int .i64 i) ∧ 0 ≤ k ∧ k ≤ 1048576 ∧ r = goSz f (xs.drop i) k)
      (fun e s' o' q' => e = (if r < 0 then .ret else .exit 0) ∧ (r < 0 → s' 4 = .t (.int .i64 r)) ∧ (0 ≤ r → s' 1 = .t (.int .i64 r))) xs.length
      (by
        rintro i s o q hi ⟨k, g0, g1, g5, hk0, hkm, hp⟩
        have hi' : (i : Int) < (xs.length : Int) := by omega
        have hwi := wrap_succ (n := i) (by omega)
        have hxi : xs[i]? = some xs[i] := List.getElem?_eq_getElem hi
        have hx := hf _ (List.getElem_mem hi) k hk0 hkm
        have hxl := hle _ (List.getElem_mem hi) k hk0
        rw [List.drop_eq_getElem_cons hi, goSz] at hp
        by_cases hn : f xs[i] k < 0
        · simp [hn] at hp
          simp [loopAt, loopsOf, Tryz.f88, g0, g1, g5, hi', hxi, hwi, hx, hn, hp]
        · simp [hn] at hp
          simp [loopAt, loopsOf, Tryz.f88, g0, g1, g5, hi', hxi, hwi, hx, hn]
          exact ⟨by omega, by omega, hp⟩)
      (by
        rintro s o q ⟨k, g0, g1, g5, hk0, hkm, hp⟩
        simp [goSz] at hp
        have hn : ¬ r < 0 := by omega
        have hn' : 0 ≤ r := by omega
        have hk1 : ¬ k < 0 := by omega
        simp [loopAt, loopsOf, Tryz.f88, g0, g1, g5, hp, hk1]
        try omega)
      xs.length 0 s o q (by omega) hI)
    simp only [loopAt, loopsOf, Tryz.f88] at lp
    obtain ⟨r, hr⟩ : ∃ r, r = goSz f xs (l - xs.length) := ⟨_, rfl⟩
    obtain ⟨X, A, B, C, hx⟩ := lp r hr
    have hx' := fun s o q a0 a1 a5 => hx s o q ⟨l - xs.length, a0, a1, a5, by omega, by omega, by simpa using hr⟩
    clear hx
    by_cases hn : r < 0
    · have hn' : ¬ 0 ≤ r := by omega
      simp [hn, hn'] at hx'
      simp [hw, hb, hb0, hx', hn, ← hr]
    · have hn' : 0 ≤ r := by omega
      simp [hn, hn'] at hx'
      simp [hw, hb, hb0, hx', hn, ← hr]
theorem to_210 (xs : List Ver) (hl : xs.length < 4294967296) (hf : ∀ x ∈ xs, run E (.call 251 [.t (verT x)]) = some (.res [verX x] [])) :
    run E (.call 210 [.t (.list (xs.map verT))]) = some (.res [.row 94 (xs.map verT)] []) := by
  rw [run_call E 210 _ rfl Tryz.func210 rfl rfl rfl (by simp)]
  have lp := sk (fun s o q hI => loop_for (c := loopAt Tryz.f210 0) (N := 23)
    (fun i s o q => s 0 = .t (.list (xs.map verT)) ∧ s 3 = .row 0 ∧ s 4 = .t (.int .i64 i) ∧ 0 < q ∧ o 0 = .row 94 ((xs.map verT).take i ++ List.replicate (xs.length - i) (.agg [.int .i64 0, .bool false, .int .i64 0, .int .i64 0, .str []])) true)
    (fun e s' o' q' => e = .exit 0 ∧ s' 3 = .row 0 ∧ o' 0 = .row 94 (xs.map verT) true) xs.length
    (by
      rintro i s o q hi ⟨g0, g3, g4, hq, ho⟩
      have hi' : (i : Int) < (xs.length : Int) := by omega
      have hwi := wrap_succ (n := i) (by omega)
      have hxi : xs[i]? = some xs[i] := List.getElem?_eq_getElem hi
      have hx := hf _ (List.getElem_mem hi)
      have hq0 : q ≠ 0 := by omega
      have h0q : 0 ≠ q := by omega
      have hget := mid_get (xs.map verT) (.agg [.int .i64 0, .bool false, .int .i64 0, .int .i64 0, .str []]) i xs.length hi (by simp; omega)
      have hset := mid_set (xs.map verT) (.agg [.int .i64 0, .bool false, .int .i64 0, .int .i64 0, .str []]) (verT xs[i]) i xs.length hi (by simp [hxi])
      simp [loopAt, loopsOf, Tryz.f210, g0, g3, g4, hi', hxi, hwi, hx, ho, hget, hset, hq0, h0q]
      try omega)
    (by
      rintro s o q ⟨g0, g3, g4, hq, ho⟩
      have hfull : (xs.map verT).take xs.length = xs.map verT := List.take_of_length_le (by simp)
      simp [hfull] at ho
      simp [loopAt, loopsOf, Tryz.f210, g0, g3, g4, ho])
    xs.length 0 s o q (by omega) hI)
  simp only [loopAt, loopsOf, Tryz.f210] at lp
  obtain ⟨X, A, B, C, hx⟩ := lp
  simp at hx
  have h1 : xs.length ≤ 140737488355328 := by omega
  have h2 : xs.length * 48 ≤ 140737488355328 := by omega
  simp [h1, h2, hx]
theorem to_91 (xs : List Chn) (hl : xs.length < 4294967296) (hf : ∀ x ∈ xs, run E (.call 147 [.t (chnT x)]) = some (.res [.agg [.t (.int .i64 x.id), .row 94 (x.vs.map verT)]] [])) :
    run E (.call 91 [.t (.list (xs.map chnT))]) = some (.res [.row 136 (xs.map chnT)] []) := by
  rw [run_call E 91 _ rfl Tryz.func91 rfl rfl rfl (by simp)]
  have lp := sk (fun s o q hI => loop_for (c := loopAt Tryz.f91 0) (N := 23)
    (fun i s o q => s 0 = .t (.list (xs.map chnT)) ∧ s 3 = .row 0 ∧ s 4 = .t (.int .i64 i) ∧ 0 < q ∧ o 0 = .row 136 ((xs.map chnT).take i ++ List.replicate (xs.length - i) (.agg [.int .i64 0, .list []])) true)
    (fun e s' o' q' => e = .exit 0 ∧ s' 3 = .row 0 ∧ o' 0 = .row 136 (xs.map chnT) true) xs.length
    (by
      rintro i s o q hi ⟨g0, g3, g4, hq, ho⟩
      have hi' : (i : Int) < (xs.length : Int) := by omega
      have hwi := wrap_succ (n := i) (by omega)
      have hxi : xs[i]? = some xs[i] := List.getElem?_eq_getElem hi
      have hx := hf _ (List.getElem_mem hi)
      have hq0 : q ≠ 0 := by omega
      have h0q : 0 ≠ q := by omega
      have hget := mid_get (xs.map chnT) (.agg [.int .i64 0, .list []]) i xs.length hi (by simp; omega)
      have hset := mid_set (xs.map chnT) (.agg [.int .i64 0, .list []]) (chnT xs[i]) i xs.length hi (by simp [hxi])
      simp [loopAt, loopsOf, Tryz.f91, g0, g3, g4, hi', hxi, hwi, hx, ho, hget, hset, hq0, h0q]
      try omega)
    (by
      rintro s o q ⟨g0, g3, g4, hq, ho⟩
      have hfull : (xs.map chnT).take xs.length = xs.map chnT := List.take_of_length_le (by simp)
      simp [hfull] at ho
      simp [loopAt, loopsOf, Tryz.f91, g0, g3, g4, ho])
    xs.length 0 s o q (by omega) hI)
  simp only [loopAt, loopsOf, Tryz.f91] at lp
  obtain ⟨X, A, B, C, hx⟩ := lp
  simp at hx
  have h1 : xs.length ≤ 140737488355328 := by omega
  have h2 : xs.length * 32 ≤ 140737488355328 := by omega
  simp [h1, h2, hx]
theorem to_92 (xs : List Dfn) (hl : xs.length < 4294967296) (hf : ∀ x ∈ xs, run E (.call 36 [.t (dfnT x)]) = some (.res [.agg [.t (.str x.name), .row 108 (x.parts.map prtT)]] [])) :
    run E (.call 92 [.t (.list (xs.map dfnT))]) = some (.res [.row 79 (xs.map dfnT)] []) := by
  rw [run_call E 92 _ rfl Tryz.func92 rfl rfl rfl (by simp)]
  have lp := sk (fun s o q hI => loop_for (c := loopAt Tryz.f92 0) (N := 23)
    (fun i s o q => s 0 = .t (.list (xs.map dfnT)) ∧ s 3 = .row 0 ∧ s 4 = .t (.int .i64 i) ∧ 0 < q ∧ o 0 = .row 79 ((xs.map dfnT).take i ++ List.replicate (xs.length - i) (.agg [.str [], .list []])) true)
    (fun e s' o' q' => e = .exit 0 ∧ s' 3 = .row 0 ∧ o' 0 = .row 79 (xs.map dfnT) true) xs.length
    (by
      rintro i s o q hi ⟨g0, g3, g4, hq, ho⟩
      have hi' : (i : Int) < (xs.length : Int) := by omega
      have hwi := wrap_succ (n := i) (by omega)
      have hxi : xs[i]? = some xs[i] := List.getElem?_eq_getElem hi
      have hx := hf _ (List.getElem_mem hi)
      have hq0 : q ≠ 0 := by omega
      have h0q : 0 ≠ q := by omega
      have hget := mid_get (xs.map dfnT) (.agg [.str [], .list []]) i xs.length hi (by simp; omega)
      have hset := mid_set (xs.map dfnT) (.agg [.str [], .list []]) (dfnT xs[i]) i xs.length hi (by simp [hxi])
      simp [loopAt, loopsOf, Tryz.f92, g0, g3, g4, hi', hxi, hwi, hx, ho, hget, hset, hq0, h0q]
      try omega)
    (by
      rintro s o q ⟨g0, g3, g4, hq, ho⟩
      have hfull : (xs.map dfnT).take xs.length = xs.map dfnT := List.take_of_length_le (by simp)
      simp [hfull] at ho
      simp [loopAt, loopsOf, Tryz.f92, g0, g3, g4, ho])
    xs.length 0 s o q (by omega) hI)
  simp only [loopAt, loopsOf, Tryz.f92] at lp
  obtain ⟨X, A, B, C, hx⟩ := lp
  simp at hx
  have h1 : xs.length ≤ 140737488355328 := by omega
  have h2 : xs.length * 40 ≤ 140737488355328 := by omega
  simp [h1, h2, hx]
theorem eq_212 (xs : List Ver) (hl : xs.length < 9223372036854775807) (hf : ∀ x ∈ xs, run E (.call 51 [.t (verT x), .t (verT x)]) = some (.res [xB true] [])) :
    run E (.call 212 [.t (.list (xs.map verT)), .t (.list (xs.map verT))]) = some (.res [xB true] []) := by
  rw [run_call E 212 _ rfl Tryz.func212 rfl rfl rfl (by simp)]
  have d6 := d212_6
  simp [regionOf, findR, pick, Tryz.f212] at d6
  have dd := fun st => run_region_draw E st 6 _ d6
  clear d6
  have lp := sk (fun s o q hI => loop_for (c := loopAt Tryz.f212 0) (N := 27)
    (fun i s o q => s 0 = .t (.list (xs.map verT)) ∧ s 1 = .t (.list (xs.map verT)) ∧ s 5 = .t (.int .i64 i))
    (fun e s' o' q' => e = .exit 0) xs.length
    (by
      rintro i s o q hi ⟨g0, g1, g5⟩
      have hi' : (i : Int) < (xs.length : Int) := by omega
      have hwi := wrap_succ (n := i) (by omega)
      have hxi : xs[i]? = some xs[i] := List.getElem?_eq_getElem hi
      have hx := hf _ (List.getElem_mem hi)
      simp [loopAt, loopsOf, Tryz.f212, dd, g0, g1, g5, hi', hxi, hwi, hx])
    (by
      rintro s o q ⟨g0, g1, g5⟩
      simp [loopAt, loopsOf, Tryz.f212, g0, g1, g5])
    xs.length 0 s o q (by omega) hI)
  simp only [loopAt, loopsOf, Tryz.f212] at lp
  obtain ⟨X, A, B, C, hx⟩ := lp
  simp at hx
  simp [hx]
theorem eq_96 (xs : List Chn) (hl : xs.length < 9223372036854775807) (hf : ∀ x ∈ xs, run E (.call 153 [.t (chnT x), .t (chnT x)]) = some (.res [xB true] [])) :
    run E (.call 96 [.t (.list (xs.map chnT)), .t (.list (xs.map chnT))]) = some (.res [xB true] []) := by
  rw [run_call E 96 _ rfl Tryz.func96 rfl rfl rfl (by simp)]
  have d6 := d96_6
  simp [regionOf, findR, pick, Tryz.f96] at d6
  have dd := fun st => run_region_draw E st 6 _ d6
  clear d6
  have lp := sk (fun s o q hI => loop_for (c := loopAt Tryz.f96 0) (N := 27)
    (fun i s o q => s 0 = .t (.list (xs.map chnT)) ∧ s 1 = .t (.list (xs.map chnT)) ∧ s 5 = .t (.int .i64 i))
    (fun e s' o' q' => e = .exit 0) xs.length
    (by
      rintro i s o q hi ⟨g0, g1, g5⟩
      have hi' : (i : Int) < (xs.length : Int) := by omega
      have hwi := wrap_succ (n := i) (by omega)
      have hxi : xs[i]? = some xs[i] := List.getElem?_eq_getElem hi
      have hx := hf _ (List.getElem_mem hi)
      simp [loopAt, loopsOf, Tryz.f96, dd, g0, g1, g5, hi', hxi, hwi, hx])
    (by
      rintro s o q ⟨g0, g1, g5⟩
      simp [loopAt, loopsOf, Tryz.f96, g0, g1, g5])
    xs.length 0 s o q (by omega) hI)
  simp only [loopAt, loopsOf, Tryz.f96] at lp
  obtain ⟨X, A, B, C, hx⟩ := lp
  simp at hx
  simp [hx]
theorem eq_97 (xs : List Dfn) (hl : xs.length < 9223372036854775807) (hf : ∀ x ∈ xs, run E (.call 39 [.t (dfnT x), .t (dfnT x)]) = some (.res [xB true] [])) :
    run E (.call 97 [.t (.list (xs.map dfnT)), .t (.list (xs.map dfnT))]) = some (.res [xB true] []) := by
  rw [run_call E 97 _ rfl Tryz.func97 rfl rfl rfl (by simp)]
  have d6 := d97_6
  simp [regionOf, findR, pick, Tryz.f97] at d6
  have dd := fun st => run_region_draw E st 6 _ d6
  clear d6
  have lp := sk (fun s o q hI => loop_for (c := loopAt Tryz.f97 0) (N := 27)
    (fun i s o q => s 0 = .t (.list (xs.map dfnT)) ∧ s 1 = .t (.list (xs.map dfnT)) ∧ s 5 = .t (.int .i64 i))
    (fun e s' o' q' => e = .exit 0) xs.length
    (by
      rintro i s o q hi ⟨g0, g1, g5⟩
      have hi' : (i : Int) < (xs.length : Int) := by omega
      have hwi := wrap_succ (n := i) (by omega)
      have hxi : xs[i]? = some xs[i] := List.getElem?_eq_getElem hi
      have hx := hf _ (List.getElem_mem hi)
      simp [loopAt, loopsOf, Tryz.f97, dd, g0, g1, g5, hi', hxi, hwi, hx])
    (by
      rintro s o q ⟨g0, g1, g5⟩
      simp [loopAt, loopsOf, Tryz.f97, g0, g1, g5])
    xs.length 0 s o q (by omega) hI)
  simp only [loopAt, loopsOf, Tryz.f97] at lp
  obtain ⟨X, A, B, C, hx⟩ := lp
  simp at hx
  simp [hx]
end Go.Zd
/- spec's CollOK: the chains, and the whole. -/
set_option linter.unusedSimpArgs false
set_option linter.unusedVariables false
namespace Go.Zd
open Go.Ev Go.Proofs Go.Pu
set_option maxRecDepth 100000
set_option maxHeartbeats 16000000
/-- spec's CollOK: the chains. -/
theorem specColl_chains (c : Col) (h : c.Sm) (b : Bool) (hb : b = chainsGo none c.chains) : ∀ s o q, (s 1 = .ptr 0 0 ∧ s 5 = .t (.int .i64 0) ∧ o 0 = colBox c ∧ 0 < q) →
    ∃ e s' o' q', run E (.code (.loop (loopAt Tryz.f28 2)) ⟨s, o, q, 138⟩) = some (.st e ⟨s', o', q', 138⟩) ∧ e = (if b then .exit 4 else .ret) ∧ s' 1 = .ptr 0 0 ∧ o' 0 = colBox c ∧ (b = false → s' 2 = .t (.bool false)) := by
  intro s o q hI
  have d17 := d28_17
  simp [regionOf, findR, pick, Tryz.f28] at d17
  have dd := fun st => run_region_draw E st 17 _ d17
  clear d17
  refine loop_for (c := loopAt Tryz.f28 2) (N := 138)
    (fun i s o q => s 1 = .ptr 0 0 ∧ s 5 = .t (.int .i64 i) ∧ o 0 = colBox c ∧ 0 < q ∧ b = chainsGo (match i with | 0 => none | j + 1 => (c.chains[j]?).map (·.id)) (c.chains.drop i))
    (fun e s' o' q' => e = (if b then .exit 4 else .ret) ∧ s' 1 = .ptr 0 0 ∧ o' 0 = colBox c ∧ (b = false → s' 2 = .t (.bool false))) c.chains.length ?_ ?_
    c.chains.length 0 s o q (by omega) ⟨hI.1, hI.2.1, hI.2.2.1, hI.2.2.2, by simpa using hb⟩
  · rintro i s o q hi ⟨h1, h5, ho, hq, hp⟩
    have hq0 : q ≠ 0 := by omega
    have h0q : 0 ≠ q := by omega
    have hxi : c.chains[i]? = some c.chains[i] := List.getElem?_eq_getElem hi
    have hi' : (i : Int) < (c.chains.length : Int) := by omega
    have hw := wrap_succ (n := i) (by have := h.chains.1; omega)
    have hid := l01In1 c.chains[i].id 0 19
    have hlen := l01In1 (c.chains[i].vs.length : Int) 1 12
    obtain ⟨z, hz⟩ : ∃ z, z = versGo (fun g v => verDoc c.chains[i].id g v) none c.chains[i].vs := ⟨_, rfl⟩
    obtain ⟨X, A, B, C, hx⟩ := sk (specColl_vers c h i q c.chains[i] (h.chains.2 _ (List.getElem_mem hi)) z hz)
    simp only [loopAt, loopsOf, Tryz.f28] at hx
    have hok : chainOK c.chains[i] = (in1 0 19 c.chains[i].id && in1 1 12 c.chains[i].vs.length && z) := by rw [hz]; rfl
    clear hz
    rw [List.drop_eq_getElem_cons hi] at hp
    cases i with
    | zero =>
      simp only [chainsGo, hok] at hp
      cases hT : in1 0 19 c.chains[0].id <;> cases hL : in1 1 12 (c.chains[0].vs.length : Int) <;> cases z <;> simp [hT, hL] at hp hid hlen hx <;> simp [loopAt, loopsOf, Tryz.f28, dd, h1, h5, ho, hq, hq0, h0q, hi, hi', hw, hid, hlen, hp, hxi, hx]
    | succ j =>
      have hj : j < c.chains.length := by omega
      have hxj : c.chains[j]? = some c.chains[j] := List.getElem?_eq_getElem hj
      have hpos : (0 : Int) < (j : Int) + 1 := by omega
      have hnn : (0 : Int) ≤ (j : Int) + 1 := by omega
      have hwj2 := wrap_nat (n := j) (by have := h.chains.1; omega)
      simp only [hxj, Option.map_some, chainsGo, hok] at hp
      simp at h5 hi' hw
      by_cases hge : c.chains[j + 1].id ≤ c.chains[j].id <;> cases hT : in1 0 19 c.chains[j + 1].id <;> cases hL : in1 1 12 (c.chains[j + 1].vs.length : Int) <;> cases z <;> simp [hT, hL, hge] at hp hid hlen hx <;> simp [loopAt, loopsOf, Tryz.f28, dd, h1, h5, ho, hq, hq0, h0q, hi, hi', hw, hid, hlen, hp, hxi, hxj, hj, hpos, hnn, hwj2, hge, hx]
  · rintro s o q ⟨h1, h5, ho, hq, hp⟩
    simp [chainsGo] at hp
    simp [loopAt, loopsOf, Tryz.f28, h1, h5, ho, hp]
theorem specCollOK (c : Col) (h : c.Sm) : run E (.call 28 [.t (colT c)]) = some (.res [xB (collOK c)] []) := by
  rw [run_call E 28 _ rfl Tryz.func28 rfl rfl rfl (by simp)]
  have h1 := l01Name c.name (by have := h.name; omega)
  have h3 : (3 < (c.defs.length : Int)) = ¬ (c.defs.length ≤ 3) := by simp; omega
  have h2 : (20 < (c.chains.length : Int)) = ¬ (c.chains.length ≤ 20) := by simp; omega
  unfold collOK
  cases hN : nameP c.name with
  | false => rw [hN] at h1; simp [h1]
  | true =>
    rw [hN] at h1
    by_cases n2 : c.chains.length ≤ 20
    · by_cases n3 : c.defs.length ≤ 3
      · cases hD : defsGo [] c.defs with
        | false =>
          obtain ⟨X, A, B, C, hx⟩ := sk (specColl_defs c h false hD.symm)
          simp [loopAt, loopsOf, Tryz.f28] at hx
          simp [h1, h2, h3, n2, n3, hx]
        | true =>
          obtain ⟨X, A, B, C, hx⟩ := sk (specColl_defs c h true hD.symm)
          simp [loopAt, loopsOf, Tryz.f28] at hx
          cases hC : chainsGo none c.chains with
          | false =>
            obtain ⟨X2, A2, B2, C2, hx2⟩ := sk (specColl_chains c h false hC.symm)
            simp [loopAt, loopsOf, Tryz.f28] at hx2
            simp [h1, h2, h3, n2, n3, hx, hx2]
          | true =>
            obtain ⟨X2, A2, B2, C2, hx2⟩ := sk (specColl_chains c h true hC.symm)
            simp [loopAt, loopsOf, Tryz.f28] at hx2
            simp [h1, h2, h3, n2, n3, hx, hx2]
      · simp [h1, h2, h3, n2, n3]
    · simp [h1, h2, h3, n2]
end Go.Zd
/- The law FnExactCollOK, run over plain data: it answers true. -/
set_option linter.unusedSimpArgs false
set_option linter.unusedVariables false
namespace Go.Zd
open Go.Ev Go.Proofs Go.Pu
set_option maxRecDepth 100000
set_option maxHeartbeats 16000000
def Dfn.Wd (d : Dfn) : Prop := W d.name.length ∧ prtsWd d.parts
def Ver.Wd (x : Ver) : Prop := W x.v.t.length
def Chn.Wd (c : Chn) : Prop := W c.vs.length ∧ ∀ x ∈ c.vs, x.Wd
structure Col.Wd (c : Col) : Prop where
  name : W c.name.length
  chains : W c.chains.length ∧ ∀ x ∈ c.chains, x.Wd
  defs : W c.defs.length ∧ ∀ x ∈ c.defs, x.Wd
def szDfn (d : Dfn) : Int → Int := thenSz (szB d.name.length) (thenSz (lstSz szPrt d.parts) (fun k => k))
def szVer (x : Ver) : Int → Int := thenSz (szVal x.v) (fun k => k)
def szChn (c : Chn) : Int → Int := thenSz (lstSz szVer c.vs) (fun k => k)
def szCol (c : Col) : Int → Int := thenSz (szB c.name.length) (thenSz (lstSz szChn c.chains) (thenSz (lstSz szDfn c.defs) (fun k => k)))
theorem szDfn_le (d : Dfn) (k : Int) (h : 0 ≤ k) : szDfn d k ≤ k := thenSz_le h (fun k hk => szB_le hk) (fun k hk => thenSz_le hk (fun k hk => lstPrt_le _ k hk) (fun k _ => Int.le_refl k))
theorem szVer_le (d : Ver) (k : Int) (h : 0 ≤ k) : szVer d k ≤ k := thenSz_le h (fun k hk => szVal_le _ k hk) (fun k _ => Int.le_refl k)
theorem szChn_le (d : Chn) (k : Int) (h : 0 ≤ k) : szChn d k ≤ k := thenSz_le h (fun k hk => lstSz_le hk (fun x _ k hk => szVer_le x k hk)) (fun k _ => Int.le_refl k)
theorem lstChn_le (l : List Chn) (k : Int) (h : 0 ≤ k) : lstSz szChn l k ≤ k := lstSz_le h (fun x _ k hk => szChn_le x k hk)
theorem lstDfn_le (l : List Dfn) (k : Int) (h : 0 ≤ k) : lstSz szDfn l k ≤ k := lstSz_le h (fun x _ k hk => szDfn_le x k hk)
theorem szDef (d : Dfn) (h : d.Wd) (l : Int) (h0 : 0 ≤ l) (hm : l ≤ 1048576) : run E (.call 34 [.t (dfnT d), xI l]) = some (.res [xI (szDfn d l)] []) := by
  rw [run_call E 34 _ rfl Tryz.func34 rfl rfl rfl (by simp)]
  have hw := wrap_sz h.1 h0 hm
  unfold szDfn thenSz
  by_cases hb : l - (d.name.length : Int) < 0
  · have e : szB d.name.length l = -1 := by simp [szB, hb]
    simp [hw, hb, e]
  · have e : szB d.name.length l = l - d.name.length := by simp [szB, hb]
    have hs := szPartS d.parts h.2 (l - d.name.length) (by omega) (by omega)
    by_cases hn : lstSz szPrt d.parts (l - d.name.length) < 0 <;> simp [hw, hb, e, hs, hn]
theorem szVersion (x : Ver) (h : x.Wd) (l : Int) (h0 : 0 ≤ l) (hm : l ≤ 1048576) : run E (.call 250 [.t (verT x), xI l]) = some (.res [xI (szVer x l)] []) := by
  rw [run_call E 250 _ rfl Tryz.func250 rfl rfl rfl (by simp)]
  have hs := szValue x.v h l h0 hm
  unfold szVer thenSz
  by_cases hn : szVal x.v l < 0 <;> simp [hs, hn]
theorem szChain (c : Chn) (h : c.Wd) (l : Int) (h0 : 0 ≤ l) (hm : l ≤ 1048576) : run E (.call 145 [.t (chnT c), xI l]) = some (.res [xI (szChn c l)] []) := by
  rw [run_call E 145 _ rfl Tryz.func145 rfl rfl rfl (by simp)]
  have hs := sz_208 c.vs szVer (by have := h.1; unfold W at this; omega) (fun x hx l h0 hm => szVersion x (h.2 x hx) l h0 hm) (fun x _ k hk => szVer_le x k hk) l h0 hm
  unfold szChn thenSz
  by_cases hn : lstSz szVer c.vs l < 0 <;> simp [hs, hn]
theorem szColl (c : Col) (h : c.Wd) (l : Int) (h0 : 0 ≤ l) (hm : l ≤ 1048576) : run E (.call 27 [.t (colT c), xI l]) = some (.res [xI (szCol c l)] []) := by
  rw [run_call E 27 _ rfl Tryz.func27 rfl rfl rfl (by simp)]
  have hw := wrap_sz h.name h0 hm
  unfold szCol thenSz
  by_cases hb : l - (c.name.length : Int) < 0
  · have e : szB c.name.length l = -1 := by simp [szB, hb]
    simp [hw, hb, e]
  · have e : szB c.name.length l = l - c.name.length := by simp [szB, hb]
    have hs := sz_87 c.chains szChn (by have := h.chains.1; unfold W at this; omega) (fun x hx l h0 hm => szChain x (h.chains.2 x hx) l h0 hm) (fun x _ k hk => szChn_le x k hk) (l - c.name.length) (by omega) (by omega)
    have l1 := lstChn_le c.chains (l - c.name.length) (by omega)
    by_cases hn : lstSz szChn c.chains (l - c.name.length) < 0
    · simp [hw, hb, e, hs, hn]
    · have ht := sz_88 c.defs szDfn (by have := h.defs.1; unfold W at this; omega) (fun x hx l h0 hm => szDef x (h.defs.2 x hx) l h0 hm) (fun x _ k hk => szDfn_le x k hk) (lstSz szChn c.chains (l - c.name.length)) (by omega) (by omega)
      by_cases hn2 : lstSz szDfn c.defs (lstSz szChn c.chains (l - c.name.length)) < 0 <;> simp [hw, hb, e, hs, hn, ht, hn2]
theorem szDfn_sm {d : Dfn} {k : Int} (h0 : 0 ≤ k) (hm : k ≤ 1048576) (h : ¬ szDfn d k < 0) : d.Sm := by
  obtain ⟨h1, h2⟩ := thenSz_neg h
  obtain ⟨h3, _⟩ := thenSz_neg h2
  have b1 := szB_bound h1
  have := szB_le (n := d.name.length) h0
  exact ⟨by omega, lstPrt_sm (by omega) (by omega) h3⟩
theorem szVer_sm {d : Ver} {k : Int} (h0 : 0 ≤ k) (hm : k ≤ 1048576) (h : ¬ szVer d k < 0) : d.Sm := by
  obtain ⟨h1, _⟩ := thenSz_neg h
  have b1 := szB_bound h1
  unfold Ver.Sm
  omega
theorem szChn_sm {c : Chn} {k : Int} (h0 : 0 ≤ k) (hm : k ≤ 1048576) (h : ¬ szChn c k < 0) : c.Sm := by
  obtain ⟨h1, h2⟩ := thenSz_neg h
  obtain ⟨b1, b2⟩ := lstSz_all (P := Ver.Sm) (m := 1048576) h0 hm (fun x _ k hk => szVer_le x k hk) (fun x _ k hk hm h => szVer_sm hk hm h) h1
  exact ⟨by omega, b2⟩
theorem szCol_sm {c : Col} {k : Int} (h0 : 0 ≤ k) (hm : k ≤ 1048576) (h : ¬ szCol c k < 0) : c.Sm := by
  obtain ⟨h1, h2⟩ := thenSz_neg h
  obtain ⟨h3, h4⟩ := thenSz_neg h2
  obtain ⟨h5, _⟩ := thenSz_neg h4
  have b1 := szB_bound h1
  have l1 := szB_le (n := c.name.length) h0
  have l2 := lstChn_le c.chains (szB c.name.length k) (by omega)
  obtain ⟨c1, c2⟩ := lstSz_all (P := Chn.Sm) (m := 1048576) (by omega) (by omega) (fun x _ k hk => szChn_le x k hk) (fun x _ k hk hm h => szChn_sm hk hm h) h3
  obtain ⟨e1, e2⟩ := lstSz_all (P := Dfn.Sm) (m := 1048576) (by omega) (by omega) (fun x _ k hk => szDfn_le x k hk) (fun x _ k hk hm h => szDfn_sm hk hm h) h5
  exact ⟨by omega, ⟨by omega, c2⟩, ⟨by omega, e2⟩⟩
/-! Copies. -/
theorem toVersion (x : Ver) : run E (.call 251 [.t (verT x)]) = some (.res [verX x] []) := by
  rw [run_call E 251 _ rfl Tryz.func251 rfl rfl rfl (by simp)]
  simp [toValue x.v]
theorem toDef (d : Dfn) (h : d.Sm) : run E (.call 36 [.t (dfnT d)]) = some (.res [.agg [.t (.str d.name), .row 108 (d.parts.map prtT)]] []) := by
  rw [run_call E 36 _ rfl Tryz.func36 rfl rfl rfl (by simp)]
  simp [toPartS d.parts h.2.1]
theorem toChain (c : Chn) (h : c.Sm) : run E (.call 147 [.t (chnT c)]) = some (.res [.agg [.t (.int .i64 c.id), .row 94 (c.vs.map verT)]] []) := by
  rw [run_call E 147 _ rfl Tryz.func147 rfl rfl rfl (by simp)]
  simp [to_210 c.vs h.1 (fun x _ => toVersion x)]
theorem toColl (c : Col) (h : c.Sm) : run E (.call 29 [.t (colT c)]) = some (.res [.agg [.t (.str c.name), .row 136 (c.chains.map chnT), .row 79 (c.defs.map dfnT)]] []) := by
  rw [run_call E 29 _ rfl Tryz.func29 rfl rfl rfl (by simp)]
  have h1 := to_91 c.chains h.chains.1 (fun x hx => toChain x (h.chains.2 x hx))
  have h2 := to_92 c.defs h.defs.1 (fun x hx => toDef x (h.defs.2 x hx))
  simp [h1, h2]
/-! Equality. -/
theorem eqVersion (x : Ver) : run E (.call 51 [.t (verT x), .t (verT x)]) = some (.res [xB true] []) := by
  rw [run_call E 51 _ rfl Tryz.func51 rfl rfl rfl (by simp)]
  simp [eqValue x.v]
theorem eqDef (d : Dfn) (h : d.Sm) : run E (.call 39 [.t (dfnT d), .t (dfnT d)]) = some (.res [xB true] []) := by
  rw [run_call E 39 _ rfl Tryz.func39 rfl rfl rfl (by simp)]
  simp [eqPartS d.parts h.2.1]
theorem eqChain (c : Chn) (h : c.Sm) : run E (.call 153 [.t (chnT c), .t (chnT c)]) = some (.res [xB true] []) := by
  rw [run_call E 153 _ rfl Tryz.func153 rfl rfl rfl (by simp)]
  have h1 := eq_212 c.vs (by have := h.1; omega) (fun x _ => eqVersion x)
  simp [h1]
theorem eqColl (c : Col) (h : c.Sm) : run E (.call 31 [.t (colT c), .t (colT c)]) = some (.res [xB true] []) := by
  rw [run_call E 31 _ rfl Tryz.func31 rfl rfl rfl (by simp)]
  have h1 := eq_96 c.chains (by have := h.chains.1; omega) (fun x hx => eqChain x (h.chains.2 x hx))
  have h2 := eq_97 c.defs (by have := h.defs.1; omega) (fun x hx => eqDef x (h.defs.2 x hx))
  simp [h1, h2]
theorem lawCollOK (c : Col) (h : c.Wd) : run E (.call 6 [.t (colT c)]) = some (.res [xB true] []) := by
  rw [run_call E 6 _ rfl Tryz.func6 rfl rfl rfl (by simp)]
  have h1 := szColl c h 1048576 (by omega) (by omega)
  by_cases hn : szCol c 1048576 < 0
  · simp [h1, hn]
  · have hs := szCol_sm (by omega) (by omega) hn
    have h2 := toColl c hs
    have h3 := specCollOK c hs
    have h4 := implCollOK c hs
    have h5 := eqColl c hs
    have d10 := d6_10
    simp [regionOf, findR, pick, Tryz.f6] at d10
    have dd := fun st => run_region_draw E st 10 _ d10
    clear d10
    simp [h1, hn, h2, h3, h4, h5, dd]
end Go.Zd
/- What comes in, as plain data: collections. -/
set_option linter.unusedSimpArgs false
set_option linter.unusedVariables false
namespace Go.Zd
open Go.Ev Go.Proofs Go.Pu
set_option maxRecDepth 100000
set_option maxHeartbeats 4000000
theorem dec278 {n : Nat} {ts : List T} (h : typed E (n + 3) 278 ts) : ∃ t : Ver, T.agg ts = verT t ∧ t.Wd := by
  obtain ⟨h1, h2⟩ := typed_struct (by simp) h
  simp at h1 h2
  obtain ⟨g1, g2, g3⟩ := h2
  match ts, h1 with
  | [a, b, c, d, e], _ =>
    obtain ⟨x, hx⟩ := typed_int g1
    obtain ⟨y, hy⟩ := typed_bool g2
    obtain ⟨v, hv, hv2⟩ := dec23 g3
    simp at hx hy hv
    exact ⟨⟨x, y, v⟩, by simp [hx, hy, hv], hv2⟩
theorem dec183 {n : Nat} {ts : List T} (h : typed E (n + 4) 183 ts) : ∃ c : List Ver, ts = [.list (c.map verT)] ∧ W c.length ∧ ∀ x ∈ c, x.Wd := by
  obtain ⟨xs, rfl, h1, h2⟩ := typed_slice (by simp) (by simp) h
  obtain ⟨l, rfl, h4⟩ := list_choose (enc := verT) (P := Ver.Wd) (fun x hx => by
    obtain ⟨cs, e, _, h⟩ := h2 x hx
    simp at e h
    obtain ⟨t, h3, h4⟩ := dec278 h
    exact ⟨t, e.trans h3, h4⟩)
  exact ⟨l, rfl, by simpa using h1, h4⟩
theorem dec185 {n : Nat} {ts : List T} (h : typed E (n + 5) 185 ts) : ∃ c : Chn, T.agg ts = chnT c ∧ c.Wd := by
  obtain ⟨h1, h2⟩ := typed_struct (by simp) h
  simp at h1 h2
  obtain ⟨g1, g2⟩ := h2
  match ts, h1 with
  | [a, b], _ =>
    obtain ⟨x, hx⟩ := typed_int g1
    obtain ⟨c, hc, hw⟩ := dec183 g2
    simp at hx hc
    exact ⟨⟨x, c⟩, by simp [hx, hc], hw⟩
theorem dec58 {n : Nat} {ts : List T} (h : typed E (n + 6) 58 ts) : ∃ c : List Chn, ts = [.list (c.map chnT)] ∧ W c.length ∧ ∀ x ∈ c, x.Wd := by
  obtain ⟨xs, rfl, h1, h2⟩ := typed_slice (by simp) (by simp) h
  obtain ⟨l, rfl, h4⟩ := list_choose (enc := chnT) (P := Chn.Wd) (fun x hx => by
    obtain ⟨cs, e, _, h⟩ := h2 x hx
    simp at e h
    obtain ⟨t, h3, h4⟩ := dec185 h
    exact ⟨t, e.trans h3, h4⟩)
  exact ⟨l, rfl, by simpa using h1, h4⟩
theorem dec74 {n : Nat} {ts : List T} (h : typed E (n + 4) 74 ts) : ∃ d : Dfn, T.agg ts = dfnT d ∧ d.Wd := by
  obtain ⟨h1, h2⟩ := typed_struct (by simp) h
  simp at h1 h2
  obtain ⟨g1, g2⟩ := h2
  match ts, h1 with
  | [a, b], _ =>
    obtain ⟨x, hx, hx2⟩ := typed_str g1
    obtain ⟨c, hc, hw⟩ := dec34 g2
    simp at hx hc
    exact ⟨⟨x, c⟩, by simp [hx, hc], hx2, hw⟩
theorem dec59 {n : Nat} {ts : List T} (h : typed E (n + 5) 59 ts) : ∃ c : List Dfn, ts = [.list (c.map dfnT)] ∧ W c.length ∧ ∀ x ∈ c, x.Wd := by
  obtain ⟨xs, rfl, h1, h2⟩ := typed_slice (by simp) (by simp) h
  obtain ⟨l, rfl, h4⟩ := list_choose (enc := dfnT) (P := Dfn.Wd) (fun x hx => by
    obtain ⟨cs, e, _, h⟩ := h2 x hx
    simp at e h
    obtain ⟨t, h3, h4⟩ := dec74 h
    exact ⟨t, e.trans h3, h4⟩)
  exact ⟨l, rfl, by simpa using h1, h4⟩
theorem dec61 {n : Nat} {ts : List T} (h : typed E (n + 7) 61 ts) : ∃ c : Col, T.agg ts = colT c ∧ c.Wd := by
  obtain ⟨h1, h2⟩ := typed_struct (by simp) h
  simp at h1 h2
  obtain ⟨g1, g2, g3⟩ := h2
  match ts, h1 with
  | [a, b, c], _ =>
    obtain ⟨x, hx, hx2⟩ := typed_str g1
    obtain ⟨y, hy, hy2⟩ := dec58 g2
    obtain ⟨z, hz, hz2⟩ := dec59 g3
    simp at hx hy hz
    exact ⟨⟨x, y, z⟩, by simp [hx, hy, hz], hx2, hy2, hz2⟩
end Go.Zd
/- A parameter that is a row of bytes. -/
set_option linter.unusedSimpArgs false
set_option linter.unusedVariables false
namespace Go.Zd
open Go.Ev Go.Proofs Go.Pu
set_option maxRecDepth 100000
theorem typed_u8 {n : Nat} {ts : List T} (h : typed E (n + 1) 5 ts) : ∃ b : UInt8, ts = [byteT b] := by
  unfold typed at h
  rw [E_ty5] at h
  simp only at h
  split at h <;> first | exact h.elim | skip
  all_goals rename_i hk
  all_goals first | cases hk | skip
  obtain ⟨rfl, hw⟩ := h
  rename_i m
  simp [Lit.wf] at hw
  have h0 : IntKind.u8.min = 0 := by decide
  have h1 : IntKind.u8.max = 255 := by decide
  rw [h0, h1] at hw
  refine ⟨UInt8.ofNat m.toNat, ?_⟩
  have : ((UInt8.ofNat m.toNat).toNat : Int) = m := by
    simp
    omega
  simp only [byteT, this]
theorem dec86 {n : Nat} {ts : List T} (h : typed E (n + 2) 86 ts) : ∃ c : Bytes, ts = [.list (c.map byteT)] ∧ W c.length := by
  obtain ⟨xs, rfl, h1, h2⟩ := typed_slice (by simp) (by simp) h
  obtain ⟨l, rfl, h4⟩ := list_choose (enc := byteT) (P := fun _ => True) (fun x hx => by
    obtain ⟨cs, e, _, h⟩ := h2 x hx
    simp at e h
    obtain ⟨t, h3⟩ := typed_u8 h
    subst h3
    exact ⟨t, by simpa using e, trivial⟩)
  exact ⟨l, rfl, by simpa using h1⟩
end Go.Zd
/- Keys: texts with their ends marked, turned bytes; spec's functions. -/
set_option linter.unusedSimpArgs false
set_option linter.unusedVariables false
namespace Go.Zd
open Go.Ev Go.Proofs Go.Pu
set_option maxRecDepth 100000
set_option maxHeartbeats 16000000
/-- A text's bytes with its zeros marked. -/
def escGo : Bytes → Bytes
  | [] => []
  | b :: r => (if b = 0 then [b, 255] else [b]) ++ escGo r
def escP (t : Bytes) : Bytes := escGo t ++ [0, 0]
def turnB (b : UInt8) : UInt8 := 255 - b
def turnP (t : Bytes) : Bytes := t.map turnB
theorem escGo_len : ∀ (t : Bytes), (escGo t).length ≤ 2 * t.length
  | [] => by simp [escGo]
  | b :: r => by
    have := escGo_len r
    unfold escGo
    split <;> simp <;> omega
theorem turn_wrap (b : UInt8) : IntKind.u8.wrap (255 - (b.toNat : Int)) = ((turnB b).toNat : Int) := by
  have hb : b.toNat < 256 := b.toNat_lt
  have h : (255 - b).toNat = 255 - b.toNat := by
    rw [UInt8.toNat_sub]
    simp
    omega
  unfold turnB
  rw [h]
  simp [IntKind.wrap, IntKind.bits, IntKind.signed]
  omega
theorem toBytes_app (l : Bytes) (m : List T) : toBytes (l.map byteT ++ m) = (toBytes m).map (l ++ ·) := by
  induction l with
  | nil => simp [toBytes]
  | cons b r ih =>
    simp only [List.map_cons, List.cons_append, toBytes, ih]
    cases toBytes m <;> simp
theorem toBytes_map (l : Bytes) : toBytes (l.map byteT) = some l := by
  have := toBytes_app l []
  simpa [toBytes] using this
theorem l04Turn (t : Bytes) (ht : t.length < 4294967296) : run E (.call 213 [xS t]) = some (.res [xS (turnP t)] []) := by
  rw [run_call E 213 _ rfl Tryz.func213 rfl rfl rfl (by simp)]
  have lp := sk1 (fun s o q hI => loop_for (c := loopAt Tryz.f213 0) (N := 21)
    (fun i s o q => ∃ r, s 0 = .t (.str t) ∧ s 3 = .row r ∧ s 4 = .t (.int .i64 i) ∧ o r = .row 5 ((turnP (t.take i)).map byteT) true ∧ r < q)
    (fun e s' o' q' => ∃ r, e = .exit 0 ∧ s' 3 = .row r ∧ o' r = .row 5 ((turnP t).map byteT) true) t.length
    (by
      rintro i s o q hi ⟨r, h0, h3, h4, ho, hrq⟩
      have hi' : (i : Int) < (t.length : Int) := by omega
      have hw := wrap_succ (n := i) (by omega)
      have hrn : r ≠ q := by omega
      have hrn2 : r ≠ q + 1 := by omega
      have hqn : q ≠ r := by omega
      have hl : (turnP (t.take i)).length = i := by simp [turnP]; omega
      have htw := turn_wrap t[i]
      have htk : (turnP (t.take (i + 1))).map byteT = (turnP (t.take i)).map byteT ++ [byteT (turnB t[i])] := by
        have e : t.take (i + 1) = t.take i ++ [t[i]] := by rw [List.take_add_one, List.getElem?_eq_getElem hi]; rfl
        rw [e]; simp only [turnP, List.map_append, List.map_cons, List.map_nil]
      have hpl : i + 1 ≤ 140737488355328 := by omega
      rw [htk]
      generalize turnP (t.take i) = l at *
      simp [loopAt, loopsOf, Tryz.f213, h0, h3, h4, hi, hi', hw, ho, hrn, hrn2, hqn, htw, hl, hpl]
      try omega)
    (by
      rintro s o q ⟨r, h0, h3, h4, ho, hrq⟩
      simp at ho
      simp [loopAt, loopsOf, Tryz.f213, h0, h3, h4, ho])
    t.length 0 s o q (by omega) hI)
  simp only [loopAt, loopsOf, Tryz.f213] at lp
  obtain ⟨X, A, B, C, M, hx⟩ := lp
  have hx' := fun s o q r a0 a3 a4 a5 a6 => hx s o q ⟨r, a0, a3, a4, a5, a6⟩
  clear hx
  simp [turnP] at hx'
  have hb := toBytes_map (turnP t)
  simp [turnP] at hb
  simp [hx', turnP, hb]
theorem l04Escape (t : Bytes) (ht : t.length < 4294967296) : run E (.call 252 [xS t]) = some (.res [xS (escP t)] []) := by
  rw [run_call E 252 _ rfl Tryz.func252 rfl rfl rfl (by simp)]
  have lp := sk1 (fun s o q hI => loop_for (c := loopAt Tryz.f252 0) (N := 29)
    (fun i s o q => ∃ r, s 0 = .t (.str t) ∧ s 3 = .row r ∧ s 4 = .t (.int .i64 i) ∧ o r = .row 5 ((escGo (t.take i)).map byteT) true ∧ r < q)
    (fun e s' o' q' => ∃ r, e = .exit 0 ∧ s' 3 = .row r ∧ o' r = .row 5 ((escGo t).map byteT) true ∧ ¬ r = q' ∧ ¬ r = q' + 1 ∧ ¬ q' = r) t.length
    (by
      rintro i s o q hi ⟨r, h0, h3, h4, ho, hrq⟩
      have hi' : (i : Int) < (t.length : Int) := by omega
      have hw := wrap_succ (n := i) (by omega)
      have hrn : r ≠ q := by omega
      have hrn2 : r ≠ q + 1 := by omega
      have hqn : q ≠ r := by omega
      have hl : (escGo (t.take i)).length ≤ 2 * i := by have := escGo_len (t.take i); simp at this; omega
      have hsnoc : ∀ (a : Bytes) (b : UInt8), escGo (a ++ [b]) = escGo a ++ (if b = 0 then [b, 255] else [b]) := by
        intro a b
        induction a with
        | nil => simp [escGo]
        | cons c a ih => simp [escGo, ih]
      have htk : escGo (t.take (i + 1)) = escGo (t.take i) ++ (if t[i] = 0 then [t[i], 255] else [t[i]]) := by
        have e : t.take (i + 1) = t.take i ++ [t[i]] := by rw [List.take_add_one, List.getElem?_eq_getElem hi]; rfl
        rw [e]; exact hsnoc _ _
      have hpl : (escGo (t.take i)).length + 1 ≤ 140737488355328 := by omega
      have hpl2 : (escGo (t.take i)).length + 1 + 1 ≤ 140737488355328 := by omega
      rw [htk]
      generalize escGo (t.take i) = l at *
      by_cases hz : t[i] = 0
      · simp [hz]
        simp [loopAt, loopsOf, Tryz.f252, h0, h3, h4, hi, hi', hw, ho, hrn, hrn2, hqn, hz, hpl, hpl2]
        try omega
      · have hzn : ¬ ((t[i].toNat : Int) = 0) := by
          intro h; exact hz (UInt8.toNat_inj.1 (by simp; omega))
        simp [hz]
        simp [loopAt, loopsOf, Tryz.f252, h0, h3, h4, hi, hi', hw, ho, hrn, hrn2, hqn, hz, hzn, hpl, hpl2]
        try omega)
    (by
      rintro s o q ⟨r, h0, h3, h4, ho, hrq⟩
      simp at ho
      have hrn : r ≠ q := by omega
      have hrn2 : r ≠ q + 1 := by omega
      have hqn : q ≠ r := by omega
      simp [loopAt, loopsOf, Tryz.f252, h0, h3, h4, ho, hrn, hrn2, hqn])
    t.length 0 s o q (by omega) hI)
  simp only [loopAt, loopsOf, Tryz.f252] at lp
  obtain ⟨X, A, B, C, M, hx⟩ := lp
  have hx' := fun s o q r a0 a3 a4 a5 a6 => hx s o q ⟨r, a0, a3, a4, a5, a6⟩
  clear hx
  simp [escGo] at hx'
  have hl : (escGo t).length + 2 ≤ 140737488355328 := by have := escGo_len t; omega
  have hb := toBytes_app (escGo t) [.int .u8 0, .int .u8 0]
  simp [toBytes] at hb
  have hr2 : List.range 2 = [0, 1] := rfl
  simp [hx', escP, hb, hl, hr2]
end Go.Zd
/- Keys: numbers' bytes (spec's l01Number), spec's l04Raw, l04Key. -/
set_option linter.unusedSimpArgs false
set_option linter.unusedVariables false
namespace Go.Zd
open Go.Ev Go.Proofs Go.Pu
set_option maxRecDepth 100000
set_option maxHeartbeats 16000000
/-- A number's byte at a place. -/
def byteAt (n : Int) (j : Nat) : UInt8 := UInt8.ofNat (IntKind.u8.wrap (n.fdiv (2 ^ (8 * j)))).toNat
theorem byteAt_wrap (n : Int) (j : Nat) : IntKind.u8.wrap (n.fdiv (2 ^ (8 * j))) = ((byteAt n j).toNat : Int) := by
  unfold byteAt
  have h : 0 ≤ IntKind.u8.wrap (n.fdiv (2 ^ (8 * j))) ∧ IntKind.u8.wrap (n.fdiv (2 ^ (8 * j))) < 256 := by
    simp [IntKind.wrap, IntKind.bits, IntKind.signed]
    omega
  generalize IntKind.u8.wrap (n.fdiv (2 ^ (8 * j))) = m at *
  rw [UInt8.toNat_ofNat']
  omega
/-- A number's bytes from the place k - 1 downwards. -/
def numP (n : Int) : Nat → Bytes
  | 0 => []
  | k + 1 => byteAt n k :: numP n k
theorem numP_len (n : Int) : ∀ k, (numP n k).length = k
  | 0 => rfl
  | k + 1 => by simp [numP, numP_len n k]
theorem l01Number (n : Int) (k : Nat) (hk : k ≤ 8) : run E (.call 217 [xI n, xI k]) = some (.res [xS (numP n k)] []) := by
  rw [run_call E 217 _ rfl Tryz.func217 rfl rfl rfl (by simp)]
  have lp := sk1 (fun s o q hI => loop_for (c := loopAt Tryz.f217 0) (N := 25)
    (fun i s o q => ∃ r l, s 0 = .t (.int .i64 n) ∧ s 5 = .row r ∧ s 6 = .t (.int .i64 ((k : Int) - 1 - i)) ∧ o r = .row 5 (l.map byteT) true ∧ r < q ∧ l.length = i ∧ numP n k = l ++ numP n (k - i))
    (fun e s' o' q' => ∃ r, e = .exit 0 ∧ s' 5 = .row r ∧ o' r = .row 5 ((numP n k).map byteT) true) k
    (by
      rintro i s o q hi ⟨r, l, h0, h5, h6, ho, hrq, hl, hp⟩
      have hge : (0 : Int) ≤ (k : Int) - 1 - i := by omega
      obtain ⟨j, hj⟩ : ∃ j : Nat, k = j + 1 + i := ⟨k - 1 - i, by omega⟩
      have hjj : (k : Int) - 1 - i = j := by omega
      have hki : k - i = j + 1 := by omega
      have hki2 : k - (i + 1) = j := by omega
      rw [hki, numP] at hp
      rw [hjj] at h6
      have hw : IntKind.i64.wrap ((j : Int) - 1) = (k : Int) - 1 - ((i + 1 : Nat) : Int) := by rw [wrap_of (by omega) (by omega)]; omega
      have hw8 : IntKind.i64.wrap (8 * (j : Int)) = ((8 * j : Nat) : Int) := by rw [wrap_of (by omega) (by omega)]; omega
      have hwu := wrap_u64 (n := 8 * j) (by omega)
      have hmin : min (8 * j) IntKind.i64.bits = 8 * j := by simp [IntKind.bits]; omega
      have hj0 : (0 : Int) ≤ (j : Int) := by omega
      have hrn : r ≠ q := by omega
      have hrn2 : r ≠ q + 1 := by omega
      have hqn : q ≠ r := by omega
      have hpl : l.length + 1 ≤ 140737488355328 := by omega
      have hb := byteAt_wrap n j
      have hneg : ¬ (8 * (j : Int) < 0) := by omega
      have hnat : (8 * (j : Int)).toNat = 8 * j := by omega
      simp at hw hw8 hwu
      simp [loopAt, loopsOf, Tryz.f217, h0, h5, h6, ho, hrn, hrn2, hqn, hw, hw8, hwu, hmin, hb, hpl, hneg, hnat]
      exact ⟨l ++ [byteAt n j], by simp, by simp [hl], by rw [hp, hki2]; simp⟩)
    (by
      rintro s o q ⟨r, l, h0, h5, h6, ho, hrq, hl, hp⟩
      have h6' : s 6 = .t (.int .i64 (-1)) := by rw [h6]; congr 2; omega
      simp [numP] at hp
      simp [loopAt, loopsOf, Tryz.f217, h0, h5, h6', ho, hp])
    k 0 s o q (by omega) hI)
  simp only [loopAt, loopsOf, Tryz.f217] at lp
  obtain ⟨X, A, B, C, M, hx⟩ := lp
  have hx' := fun s o q r a0 a5 a6 a7 a8 => hx s o q ⟨r, [], a0, a5, a6, a7, a8, rfl, by simp⟩
  clear hx
  simp at hx'
  have hb := toBytes_map (numP n k)
  have hw : IntKind.i64.wrap ((k : Int) - 1) = (k : Int) - 1 := wrap_of (by omega) (by omega)
  simp [hx', hb, hw]
end Go.Zd
/- Keys of values: what they are, how long, spec's l04Raw and l04Key. -/
set_option linter.unusedSimpArgs false
set_option linter.unusedVariables false
namespace Go.Zd
open Go.Ev Go.Proofs Go.Pu
set_option maxRecDepth 100000
set_option maxHeartbeats 16000000
def headK (v : Val) : Bytes := numP (v.k + 1) 1
/-- A value's key. -/
def keyD : Nat → Val → Bytes
  | d, v =>
    if v.k = 0 then headK v
    else if v.k = 1 then headK v ++ numP v.n 1
    else if v.k = 2 then headK v ++ numP (v.n + 4611686018427387904) 8
    else if v.k = 3 then headK v ++ escP v.t
    else match d with
      | 0 => []
      | d + 1 =>
        if v.k = 4 then headK v ++ (itemsL v.t).flatMap (keyD d) ++ [0]
        else headK v ++ (fieldsL v.t).flatMap (fun f => [1] ++ escP f.name ++ keyD d f.v) ++ [0]
theorem escP_len (t : Bytes) : (escP t).length ≤ 2 * t.length + 2 := by
  have := escGo_len t
  simp [escP]; omega
def sumL {α : Type} (f : α → Nat) : List α → Nat
  | [] => 0
  | x :: r => f x + sumL f r
theorem flat_len {α : Type} {f : α → Bytes} {g : α → Nat} : ∀ {l : List α}, (∀ x ∈ l, (f x).length ≤ 11 * g x) → (l.flatMap f).length ≤ 11 * sumL g l
  | [], _ => by simp
  | x :: r, h => by
    have h1 := h x (by simp)
    have h2 := flat_len (f := f) (g := g) (l := r) (fun y hy => h y (by simp [hy]))
    simp [sumL]; simp at h2; omega
theorem items_sum : ∀ {xs : List Val} {t : Bytes}, itemsP t = some xs → sumL (fun x => x.t.length + 1) xs ≤ t.length
  | xs, t, h => by
    rcases items_cases h with ⟨rfl, rfl⟩ | ⟨v, r, ys, h1, h2, rfl⟩
    · simp [sumL]
    · have := nextP_len h1
      have := items_sum h2
      simp [sumL]; omega
  termination_by xs => xs.length
  decreasing_by simp_all
theorem fields_sum : ∀ {xs : List Fld} {t : Bytes}, fieldsP t = some xs → sumL (fun f => f.name.length + f.v.t.length + 2) xs ≤ t.length
  | xs, t, h => by
    rcases fields_cases h with ⟨rfl, rfl⟩ | ⟨b, q, v, r, ys, rfl, h0, h1, h2, rfl⟩
    · simp [sumL]
    · have := nextP_len h1
      have := fields_sum h2
      simp at *
      simp [sumL]; omega
  termination_by xs => xs.length
  decreasing_by simp_all
theorem keyD_len : ∀ (d : Nat) (v : Val), okP d v = true → (keyD d v).length ≤ 11 * (v.t.length + 1) := by
  intro d
  induction d with
  | zero =>
    intro v h
    unfold keyD headK
    have := escP_len v.t
    split
    · simp [numP_len]; omega
    · split
      · simp [numP_len]; omega
      · split
        · simp [numP_len]; omega
        · split
          · simp [numP_len]; omega
          · simp
  | succ d ih =>
    intro v h
    have he := escP_len v.t
    by_cases h0 : v.k = 0
    · simp [keyD, headK, h0, numP_len]; omega
    by_cases h1 : v.k = 1
    · simp [keyD, headK, h1, numP_len]; omega
    by_cases h2 : v.k = 2
    · simp [keyD, headK, h2, numP_len]; omega
    by_cases h3 : v.k = 3
    · simp [keyD, headK, h3, numP_len]; omega
    by_cases h4 : v.k = 4
    · obtain ⟨e, xs, hd, _, hi, hx⟩ := okP_list h h4
      obtain rfl : d = e := by omega
      have hf := flat_len (f := keyD d) (g := fun x => x.t.length + 1) (l := xs) (fun x hm => ih x (hx x hm))
      have hs := items_sum hi
      have e : itemsL v.t = xs := by simp [itemsL, hi]
      simp [keyD, headK, h4, e, numP_len]
      simp at hf
      omega
    · have h5 : v.k = 5 := by
        unfold okP at h
        simp [h0, h1, h2, h3, h4] at h
        exact h.1
      obtain ⟨e, fs, hd, _, hi, _, hx⟩ := okP_doc h h5
      obtain rfl : d = e := by omega
      have hf := flat_len (f := fun f : Fld => [1] ++ escP f.name ++ keyD d f.v) (g := fun f => f.name.length + f.v.t.length + 2) (l := fs) (fun f hm => by
        have h1 := ih f.v (hx f hm).2
        have h2 := escP_len f.name
        simp; omega)
      have hs := fields_sum hi
      have e : fieldsL v.t = fs := by simp [fieldsL, hi]
      simp [keyD, headK, h5, e, numP_len]
      simp at hf
      omega
end Go.Zd
/- Keys of values: spec's l04Raw and l04Key. -/
set_option linter.unusedSimpArgs false
set_option linter.unusedVariables false
namespace Go.Zd
open Go.Ev Go.Proofs Go.Pu
set_option maxRecDepth 100000
set_option maxHeartbeats 16000000
theorem flat_drop {α : Type} (f : α → Bytes) (l : List α) (i : Nat) (hi : i < l.length) : (l.drop i).flatMap f = f l[i] ++ (l.drop (i + 1)).flatMap f := by
  rw [List.drop_eq_getElem_cons hi, List.flatMap_cons]
theorem l04Raw_small (d : Nat) (v : Val) (h : okP d v = true) (hv : v.t.length < 1048576) (hk : v.k = 0 ∨ v.k = 1 ∨ v.k = 2 ∨ v.k = 3) : run E (.call 214 [xV v]) = some (.res [xS (keyD d v)] []) := by
  rw [run_call E 214 _ rfl Tryz.func214 rfl rfl rfl (by simp)]
  unfold keyD headK
  have hw : IntKind.i64.wrap (v.k + 1) = v.k + 1 := wrap_of (by omega) (by omega)
  have hn := l01Number (v.k + 1) 1 (by omega)
  have hm := l01Number v.n 1 (by omega)
  simp at hn hm
  have hl1 := numP_len (v.k + 1) 1
  have hl2 := numP_len v.n 1
  rcases hk with hk | hk | hk | hk
  · have e0 : (v.k = 0) = True := by rw [hk]; simp
    have e1 : (v.k = 1) = False := by rw [hk]; simp
    have e2 : (v.k = 2) = False := by rw [hk]; simp
    have e3 : (v.k = 3) = False := by rw [hk]; simp
    have e4 : (v.k = 4) = False := by rw [hk]; simp
    have e5 : (v.k = 5) = False := by rw [hk]; simp
    clear hk
    simp [e0, e1, e2, e3, e4, e5, hw, hn]
  · have e0 : (v.k = 0) = False := by rw [hk]; simp
    have e1 : (v.k = 1) = True := by rw [hk]; simp
    have e2 : (v.k = 2) = False := by rw [hk]; simp
    have e3 : (v.k = 3) = False := by rw [hk]; simp
    have e4 : (v.k = 4) = False := by rw [hk]; simp
    have e5 : (v.k = 5) = False := by rw [hk]; simp
    clear hk
    simp [e0, e1, e2, e3, e4, e5, hw, hn, hm, hl1, hl2]
  · have hb : -1000000000000 ≤ v.n ∧ v.n ≤ 1000000000000 := by unfold okP at h; simp [hk] at h; exact h.1
    have hw2 : IntKind.i64.wrap (v.n + 4611686018427387904) = v.n + 4611686018427387904 := wrap_of (by omega) (by omega)
    have hm8 := l01Number (v.n + 4611686018427387904) 8 (by omega)
    have hl8 := numP_len (v.n + 4611686018427387904) 8
    simp at hm8
    have e0 : (v.k = 0) = False := by rw [hk]; simp
    have e1 : (v.k = 1) = False := by rw [hk]; simp
    have e2 : (v.k = 2) = True := by rw [hk]; simp
    have e3 : (v.k = 3) = False := by rw [hk]; simp
    have e4 : (v.k = 4) = False := by rw [hk]; simp
    have e5 : (v.k = 5) = False := by rw [hk]; simp
    clear hk
    simp [e0, e1, e2, e3, e4, e5, hw, hw2, hn, hm8, hl1, hl8]
  · have he := l04Escape v.t (by omega)
    have hel := escP_len v.t
    have hle : 1 + (escP v.t).length ≤ 140737488355328 := by omega
    have e0 : (v.k = 0) = False := by rw [hk]; simp
    have e1 : (v.k = 1) = False := by rw [hk]; simp
    have e2 : (v.k = 2) = False := by rw [hk]; simp
    have e3 : (v.k = 3) = True := by rw [hk]; simp
    have e4 : (v.k = 4) = False := by rw [hk]; simp
    have e5 : (v.k = 5) = False := by rw [hk]; simp
    clear hk
    simp [e0, e1, e2, e3, e4, e5, hw, hn, he, hl1, hle]
theorem l04Raw : ∀ (d : Nat) (v : Val), okP d v = true → v.t.length < 1048576 → run E (.call 214 [xV v]) = some (.res [xS (keyD d v)] []) := by
  intro d
  induction d with
  | zero =>
    intro v h hv
    refine l04Raw_small 0 v h hv ?_
    unfold okP at h
    by_cases h0 : v.k = 0; · omega
    by_cases h1 : v.k = 1; · omega
    by_cases h2 : v.k = 2; · omega
    by_cases h3 : v.k = 3; · omega
    simp [h0, h1, h2, h3] at h
  | succ d ih =>
    intro v h hv
    by_cases hs : v.k = 0 ∨ v.k = 1 ∨ v.k = 2 ∨ v.k = 3
    · exact l04Raw_small (d + 1) v h hv hs
    have e0 : (v.k = 0) = False := by simp; omega
    have e1 : (v.k = 1) = False := by simp; omega
    have e2 : (v.k = 2) = False := by simp; omega
    have e3 : (v.k = 3) = False := by simp; omega
    have hlen := keyD_len (d + 1) v h
    have hn := l01Number (v.k + 1) 1 (by omega)
    simp at hn
    have hl1 := numP_len (v.k + 1) 1
    rw [run_call E 214 _ rfl Tryz.func214 rfl rfl rfl (by simp)]
    by_cases hk : v.k = 4
    · obtain ⟨e, xs, hd, _, hit, hx⟩ := okP_list h hk
      obtain rfl : d = e := by omega
      have hw : IntKind.i64.wrap (v.k + 1) = v.k + 1 := wrap_of (by omega) (by omega)
      have hi := l01Items v.t (by omega)
      rw [hit] at hi
      simp only [itemsX] at hi
      obtain ⟨hs1, hs2⟩ := items_small hit
      have e4 : (v.k = 4) = True := eq_true hk
      have eL : itemsL v.t = xs := by simp [itemsL, hit]
      clear hk
      have ekey : keyD (d + 1) v = headK v ++ xs.flatMap (keyD d) ++ [0] := by simp [keyD, e0, e1, e2, e3, e4, eL]
      rw [ekey] at hlen ⊢
      have hhead : headK v = numP (v.k + 1) 1 := rfl
      generalize hW : headK v = W at *
      have lp := fun (R : Bytes) (hR : R = W ++ xs.flatMap (keyD d)) => sk (fun s o q hI => loop_for (c := loopAt Tryz.f214 0) (N := 94)
        (fun i s o q => ∃ acc, s 3 = .t (.str acc) ∧ s 4 = .row 1 ∧ s 6 = .t (.int .i64 i) ∧ o 1 = .row 25 (xs.map valT) true ∧ R = acc ++ (xs.drop i).flatMap (keyD d))
        (fun e s' o' q' => e = .exit 1 ∧ s' 3 = .t (.str R)) xs.length
        (by
          rintro i s o q hi ⟨acc, h3, h4, h6, ho, hp⟩
          have hi' : (i : Int) < (xs.length : Int) := by omega
          have hwi := wrap_succ (n := i) (by omega)
          have hxi : xs[i]? = some xs[i] := List.getElem?_eq_getElem hi
          have hr := ih xs[i] (hx _ (List.getElem_mem hi)) (by have := hs2 _ (List.getElem_mem hi); omega)
          rw [flat_drop _ _ _ hi, ← List.append_assoc] at hp
          have hcat : acc.length + (keyD d xs[i]).length ≤ 140737488355328 := by
            have h1 := congrArg List.length hp
            have h2 := congrArg List.length hR
            simp at h1 h2 hlen
            omega
          simp [loopAt, loopsOf, Tryz.f214, h3, h4, h6, ho, hi, hi', hwi, hr, hcat, hxi]
          rw [hp, List.append_assoc])
        (by
          rintro s o q ⟨acc, h3, h4, h6, ho, hp⟩
          simp at hp
          simp [loopAt, loopsOf, Tryz.f214, h3, h4, h6, ho, hp])
        xs.length 0 s o q (by omega) hI)
      simp only [loopAt, loopsOf, Tryz.f214] at lp
      obtain ⟨X, A, B, C, hl⟩ := lp _ rfl
      have hl' := fun s o q a3 a4 a6 a0 => hl s o q ⟨W, a3, a4, a6, a0, by simp⟩
      clear hl lp
      simp at hl' hlen
      have hcat : W.length + ((xs.flatMap (keyD d)).length + 1) ≤ 140737488355328 := by simp; omega
      simp [e0, e1, e2, e3, e4, hw, hn, ← hhead, hi, hl', hcat]
      try (intro hcon; exfalso; omega)
    · have h5 : v.k = 5 := by
        unfold okP at h
        simp [e0, e1, e2, e3, hk] at h
        exact h.1
      obtain ⟨e, xs, hd, _, hit, _, hx⟩ := okP_doc h h5
      obtain rfl : d = e := by omega
      have hw : IntKind.i64.wrap (v.k + 1) = v.k + 1 := wrap_of (by omega) (by omega)
      have hi := l01Fields v.t (by omega)
      rw [hit] at hi
      simp only [fieldsX] at hi
      obtain ⟨hs1, hs2⟩ := fields_small hit
      have e4 : (v.k = 4) = False := eq_false hk
      have eL : fieldsL v.t = xs := by simp [fieldsL, hit]
      clear hk h5
      have ekey : keyD (d + 1) v = headK v ++ xs.flatMap (fun f => [1] ++ escP f.name ++ keyD d f.v) ++ [0] := by simp [keyD, e0, e1, e2, e3, e4, eL]
      rw [ekey] at hlen ⊢
      have hhead : headK v = numP (v.k + 1) 1 := rfl
      generalize hW : headK v = W at *
      have d22 := d214_22
      simp [regionOf, findR, pick, Tryz.f214] at d22
      have dd := fun st => run_region_draw E st 22 _ d22
      clear d22
      obtain ⟨F, hF⟩ : ∃ F : Fld → Bytes, F = (fun f => [1] ++ escP f.name ++ keyD d f.v) := ⟨_, rfl⟩
      have hFx : ∀ f, [1] ++ (escP f.name ++ keyD d f.v) = F f := by intro f; rw [hF]; simp
      have hFl : ∀ f, (F f).length = 1 + (escP f.name).length + (keyD d f.v).length := by intro f; rw [hF]; simp; omega
      rw [← hF] at hlen ⊢
      clear hF
      have lp := fun (R : Bytes) (hR : R = W ++ xs.flatMap F) => sk (fun s o q hI => loop_for (c := loopAt Tryz.f214 1) (N := 94)
        (fun i s o q => ∃ acc, s 3 = .t (.str acc) ∧ s 7 = .row 1 ∧ s 9 = .t (.int .i64 i) ∧ o 1 = .row 198 (xs.map fldT) true ∧ R = acc ++ (xs.drop i).flatMap F)
        (fun e s' o' q' => e = .exit 3 ∧ s' 3 = .t (.str R)) xs.length
        (by
          rintro i s o q hi ⟨acc, h3, h7, h9, ho, hp⟩
          have hi' : (i : Int) < (xs.length : Int) := by omega
          have hwi := wrap_succ (n := i) (by omega)
          have hxi : xs[i]? = some xs[i] := List.getElem?_eq_getElem hi
          have hsm := hs2 _ (List.getElem_mem hi)
          have hr := ih xs[i].v (hx _ (List.getElem_mem hi)).2 (by omega)
          have hen := l04Escape xs[i].name (by omega)
          rw [flat_drop _ _ _ hi, ← List.append_assoc] at hp
          have hcat : acc.length + (1 + (escP xs[i].name).length + (keyD d xs[i].v).length) ≤ 140737488355328 := by
            have h1 := congrArg List.length hp
            have h2 := congrArg List.length hR
            simp [hFl] at h1 h2 hlen
            omega
          have hcat1 : 1 + (escP xs[i].name).length ≤ 140737488355328 := by omega
          have hcat2 : 1 + (escP xs[i].name).length + (keyD d xs[i].v).length ≤ 140737488355328 := by omega
          have hF1 := hFx xs[i]
          simp at hF1
          simp [loopAt, loopsOf, Tryz.f214, dd, h3, h7, h9, ho, hi, hi', hwi, hr, hen, hcat, hcat1, hcat2, hxi]
          rw [if_pos (by omega), if_pos (by omega), hp, ← hF1]
          simp)
        (by
          rintro s o q ⟨acc, h3, h7, h9, ho, hp⟩
          simp at hp
          simp [loopAt, loopsOf, Tryz.f214, h3, h7, h9, ho, hp])
        xs.length 0 s o q (by omega) hI)
      simp only [loopAt, loopsOf, Tryz.f214] at lp
      obtain ⟨X, A, B, C, hl⟩ := lp _ rfl
      have hl' := fun s o q a3 a4 a6 a0 => hl s o q ⟨W, a3, a4, a6, a0, by simp⟩
      clear hl lp
      simp at hl' hlen
      have hcat : W.length + ((xs.flatMap F).length + 1) ≤ 140737488355328 := by simp; omega
      simp [e0, e1, e2, e3, e4, hw, hn, ← hhead, hi, hl', hcat]
      try (intro hcon; exfalso; omega)
theorem l04Key (d : Nat) (v : Val) (f : Bool) (h : okP d v = true) (hv : v.t.length < 1048576) : run E (.call 155 [xV v, xB f]) = some (.res [xS (if f then turnP (keyD d v) else keyD d v)] []) := by
  rw [run_call E 155 _ rfl Tryz.func155 rfl rfl rfl (by simp)]
  have h1 := l04Raw d v h hv
  have hl := keyD_len d v h
  have h2 := l04Turn (keyD d v) (by omega)
  cases f <;> simp [h1, h2]
end Go.Zd
