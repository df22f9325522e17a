/- The law FnExactCollOK, run over plain data: it answers true. -/
import Derived.Test.YtgfdeomfociobaaGreatDoorPartCG
import Derived.Test.YtgfdeomfociobaaGreatDoorPartCF
import Derived.Test.YtgfdeomfociobaaGreatDoorPartCH
set_option linter.unusedSimpArgs false
set_option linter.unusedVariables false
namespace Go.Yd
open Go.Ev Go.Proofs Go.Pu
set_option maxRecDepth 100000
set_option maxHeartbeats 16000000
def Dfn.Wd (d : Dfn) : Prop := W d.name.length ∧ prtsWd d.parts
def Ver.Wd (x : Ver) : Prop := W x.v.t.length
def Chn.Wd (c : Chn) : Prop := W c.vs.length ∧ ∀ x ∈ c.vs, x.Wd
structure Col.Wd (c : Col) : Prop where
  name : W c.name.length
  chains : W c.chains.length ∧ ∀ x ∈ c.chains, x.Wd
  defs : W c.defs.length ∧ ∀ x ∈ c.defs, x.Wd
def szDfn (d : Dfn) : Int → Int := thenSz (szB d.name.length) (thenSz (lstSz szPrt d.parts) (fun k => k))
def szVer (x : Ver) : Int → Int := thenSz (szVal x.v) (fun k => k)
def szChn (c : Chn) : Int → Int := thenSz (lstSz szVer c.vs) (fun k => k)
def szCol (c : Col) : Int → Int := thenSz (szB c.name.length) (thenSz (lstSz szChn c.chains) (thenSz (lstSz szDfn c.defs) (fun k => k)))
theorem szDfn_le (d : Dfn) (k : Int) (h : 0 ≤ k) : szDfn d k ≤ k := thenSz_le h (fun k hk => szB_le hk) (fun k hk => thenSz_le hk (fun k hk => lstPrt_le _ k hk) (fun k _ => Int.le_refl k))
theorem szVer_le (d : Ver) (k : Int) (h : 0 ≤ k) : szVer d k ≤ k := thenSz_le h (fun k hk => szVal_le _ k hk) (fun k _ => Int.le_refl k)
theorem szChn_le (d : Chn) (k : Int) (h : 0 ≤ k) : szChn d k ≤ k := thenSz_le h (fun k hk => lstSz_le hk (fun x _ k hk => szVer_le x k hk)) (fun k _ => Int.le_refl k)
theorem lstChn_le (l : List Chn) (k : Int) (h : 0 ≤ k) : lstSz szChn l k ≤ k := lstSz_le h (fun x _ k hk => szChn_le x k hk)
theorem lstDfn_le (l : List Dfn) (k : Int) (h : 0 ≤ k) : lstSz szDfn l k ≤ k := lstSz_le h (fun x _ k hk => szDfn_le x k hk)
theorem szDef (d : Dfn) (h : d.Wd) (l : Int) (h0 : 0 ≤ l) (hm : l ≤ 1048576) : run E (.call 107 [.t (dfnT d), xI l]) = some (.res [xI (szDfn d l)] []) := by
  rw [run_call E 107 _ rfl Tryz.func107 rfl rfl rfl (by simp)]
  have hw := wrap_sz h.1 h0 hm
  unfold szDfn thenSz
  by_cases hb : l - (d.name.length : Int) < 0
  · have e : szB d.name.length l = -1 := by simp [szB, hb]
    simp [hw, hb, e]
  · have e : szB d.name.length l = l - d.name.length := by simp [szB, hb]
    have hs := szPartS d.parts h.2 (l - d.name.length) (by omega) (by omega)
    by_cases hn : lstSz szPrt d.parts (l - d.name.length) < 0 <;> simp [hw, hb, e, hs, hn]
theorem szVersion (x : Ver) (h : x.Wd) (l : Int) (h0 : 0 ≤ l) (hm : l ≤ 1048576) : run E (.call 400 [.t (verT x), xI l]) = some (.res [xI (szVer x l)] []) := by
  rw [run_call E 400 _ rfl Tryz.func400 rfl rfl rfl (by simp)]
  have hs := szValue x.v h l h0 hm
  unfold szVer thenSz
  by_cases hn : szVal x.v l < 0 <;> simp [hs, hn]
theorem szChain (c : Chn) (h : c.Wd) (l : Int) (h0 : 0 ≤ l) (hm : l ≤ 1048576) : run E (.call 364 [.t (chnT c), xI l]) = some (.res [xI (szChn c l)] []) := by
  rw [run_call E 364 _ rfl Tryz.func364 rfl rfl rfl (by simp)]
  have hs := sz_208 c.vs szVer (by have := h.1; unfold W at this; omega) (fun x hx l h0 hm => szVersion x (h.2 x hx) l h0 hm) (fun x _ k hk => szVer_le x k hk) l h0 hm
  unfold szChn thenSz
  by_cases hn : lstSz szVer c.vs l < 0 <;> simp [hs, hn]
theorem szColl (c : Col) (h : c.Wd) (l : Int) (h0 : 0 ≤ l) (hm : l ≤ 1048576) : run E (.call 227 [.t (colT c), xI l]) = some (.res [xI (szCol c l)] []) := by
  rw [run_call E 227 _ rfl Tryz.func227 rfl rfl rfl (by simp)]
  have hw := wrap_sz h.name h0 hm
  unfold szCol thenSz
  by_cases hb : l - (c.name.length : Int) < 0
  · have e : szB c.name.length l = -1 := by simp [szB, hb]
    simp [hw, hb, e]
  · have e : szB c.name.length l = l - c.name.length := by simp [szB, hb]
    have hs := sz_87 c.chains szChn (by have := h.chains.1; unfold W at this; omega) (fun x hx l h0 hm => szChain x (h.chains.2 x hx) l h0 hm) (fun x _ k hk => szChn_le x k hk) (l - c.name.length) (by omega) (by omega)
    have l1 := lstChn_le c.chains (l - c.name.length) (by omega)
    by_cases hn : lstSz szChn c.chains (l - c.name.length) < 0
    · simp [hw, hb, e, hs, hn]
    · have ht := sz_88 c.defs szDfn (by have := h.defs.1; unfold W at this; omega) (fun x hx l h0 hm => szDef x (h.defs.2 x hx) l h0 hm) (fun x _ k hk => szDfn_le x k hk) (lstSz szChn c.chains (l - c.name.length)) (by omega) (by omega)
      by_cases hn2 : lstSz szDfn c.defs (lstSz szChn c.chains (l - c.name.length)) < 0 <;> simp [hw, hb, e, hs, hn, ht, hn2]
theorem szDfn_sm {d : Dfn} {k : Int} (h0 : 0 ≤ k) (hm : k ≤ 1048576) (h : ¬ szDfn d k < 0) : d.Sm := by
  obtain ⟨h1, h2⟩ := thenSz_neg h
  obtain ⟨h3, _⟩ := thenSz_neg h2
  have b1 := szB_bound h1
  have := szB_le (n := d.name.length) h0
  exact ⟨by omega, lstPrt_sm (by omega) (by omega) h3⟩
theorem szVer_sm {d : Ver} {k : Int} (h0 : 0 ≤ k) (hm : k ≤ 1048576) (h : ¬ szVer d k < 0) : d.Sm := by
  obtain ⟨h1, _⟩ := thenSz_neg h
  have b1 := szB_bound h1
  unfold Ver.Sm
  omega
theorem szChn_sm {c : Chn} {k : Int} (h0 : 0 ≤ k) (hm : k ≤ 1048576) (h : ¬ szChn c k < 0) : c.Sm := by
  obtain ⟨h1, h2⟩ := thenSz_neg h
  obtain ⟨b1, b2⟩ := lstSz_all (P := Ver.Sm) (m := 1048576) h0 hm (fun x _ k hk => szVer_le x k hk) (fun x _ k hk hm h => szVer_sm hk hm h) h1
  exact ⟨by omega, b2⟩
theorem szCol_sm {c : Col} {k : Int} (h0 : 0 ≤ k) (hm : k ≤ 1048576) (h : ¬ szCol c k < 0) : c.Sm := by
  obtain ⟨h1, h2⟩ := thenSz_neg h
  obtain ⟨h3, h4⟩ := thenSz_neg h2
  obtain ⟨h5, _⟩ := thenSz_neg h4
  have b1 := szB_bound h1
  have l1 := szB_le (n := c.name.length) h0
  have l2 := lstChn_le c.chains (szB c.name.length k) (by omega)
  obtain ⟨c1, c2⟩ := lstSz_all (P := Chn.Sm) (m := 1048576) (by omega) (by omega) (fun x _ k hk => szChn_le x k hk) (fun x _ k hk hm h => szChn_sm hk hm h) h3
  obtain ⟨e1, e2⟩ := lstSz_all (P := Dfn.Sm) (m := 1048576) (by omega) (by omega) (fun x _ k hk => szDfn_le x k hk) (fun x _ k hk hm h => szDfn_sm hk hm h) h5
  exact ⟨by omega, ⟨by omega, c2⟩, ⟨by omega, e2⟩⟩
/-! Copies. -/
theorem toVersion (x : Ver) : run E (.call 401 [.t (verT x)]) = some (.res [verX x] []) := by
  rw [run_call E 401 _ rfl Tryz.func401 rfl rfl rfl (by simp)]
  simp [toValue x.v]
theorem toDef (d : Dfn) (h : d.Sm) : run E (.call 114 [.t (dfnT d)]) = some (.res [.agg [.t (.str d.name), .row 133 (d.parts.map prtT)]] []) := by
  rw [run_call E 114 _ rfl Tryz.func114 rfl rfl rfl (by simp)]
  simp [toPartS d.parts h.2.1]
theorem toChain (c : Chn) (h : c.Sm) : run E (.call 365 [.t (chnT c)]) = some (.res [.agg [.t (.int .i64 c.id), .row 200 (c.vs.map verT)]] []) := by
  rw [run_call E 365 _ rfl Tryz.func365 rfl rfl rfl (by simp)]
  simp [to_210 c.vs h.1 (fun x _ => toVersion x)]
theorem toColl (c : Col) (h : c.Sm) : run E (.call 229 [.t (colT c)]) = some (.res [.agg [.t (.str c.name), .row 198 (c.chains.map chnT), .row 79 (c.defs.map dfnT)]] []) := by
  rw [run_call E 229 _ rfl Tryz.func229 rfl rfl rfl (by simp)]
  have h1 := to_91 c.chains h.chains.1 (fun x hx => toChain x (h.chains.2 x hx))
  have h2 := to_92 c.defs h.defs.1 (fun x hx => toDef x (h.defs.2 x hx))
  simp [h1, h2]
/-! Equality. -/
theorem eqVersion (x : Ver) : run E (.call 402 [.t (verT x), .t (verT x)]) = some (.res [xB true] []) := by
  rw [run_call E 402 _ rfl Tryz.func402 rfl rfl rfl (by simp)]
  simp [eqValue x.v]
theorem eqDef (d : Dfn) (h : d.Sm) : run E (.call 122 [.t (dfnT d), .t (dfnT d)]) = some (.res [xB true] []) := by
  rw [run_call E 122 _ rfl Tryz.func122 rfl rfl rfl (by simp)]
  simp [eqPartS d.parts h.2.1]
theorem eqChain (c : Chn) (h : c.Sm) : run E (.call 368 [.t (chnT c), .t (chnT c)]) = some (.res [xB true] []) := by
  rw [run_call E 368 _ rfl Tryz.func368 rfl rfl rfl (by simp)]
  have h1 := eq_212 c.vs (by have := h.1; omega) (fun x _ => eqVersion x)
  simp [h1]
theorem eqColl (c : Col) (h : c.Sm) : run E (.call 235 [.t (colT c), .t (colT c)]) = some (.res [xB true] []) := by
  rw [run_call E 235 _ rfl Tryz.func235 rfl rfl rfl (by simp)]
  have h1 := eq_96 c.chains (by have := h.chains.1; omega) (fun x hx => eqChain x (h.chains.2 x hx))
  have h2 := eq_97 c.defs (by have := h.defs.1; omega) (fun x hx => eqDef x (h.defs.2 x hx))
  simp [h1, h2]
end Go.Yd
/- What comes in, as plain data: collections. -/
set_option linter.unusedSimpArgs false
set_option linter.unusedVariables false
namespace Go.Yd
open Go.Ev Go.Proofs Go.Pu
set_option maxRecDepth 100000
set_option maxHeartbeats 4000000
theorem dec434 {n : Nat} {ts : List T} (h : typed E (n + 3) 434 ts) : ∃ t : Ver, T.agg ts = verT t ∧ t.Wd := by
  obtain ⟨h1, h2⟩ := typed_struct (by simp) h
  simp at h1 h2
  obtain ⟨g1, g2, g3⟩ := h2
  match ts, h1 with
  | [a, b, c, d, e], _ =>
    obtain ⟨x, hx⟩ := typed_int g1
    obtain ⟨y, hy⟩ := typed_bool g2
    obtain ⟨v, hv, hv2⟩ := dec26 g3
    simp at hx hy hv
    exact ⟨⟨x, y, v⟩, by simp [hx, hy, hv], hv2⟩
theorem dec398 {n : Nat} {ts : List T} (h : typed E (n + 4) 398 ts) : ∃ c : List Ver, ts = [.list (c.map verT)] ∧ W c.length ∧ ∀ x ∈ c, x.Wd := by
  obtain ⟨xs, rfl, h1, h2⟩ := typed_slice (by simp) (by simp) h
  obtain ⟨l, rfl, h4⟩ := list_choose (enc := verT) (P := Ver.Wd) (fun x hx => by
    obtain ⟨cs, e, _, h⟩ := h2 x hx
    simp at e h
    obtain ⟨t, h3, h4⟩ := dec434 h
    exact ⟨t, e.trans h3, h4⟩)
  exact ⟨l, rfl, by simpa using h1, h4⟩
theorem dec400 {n : Nat} {ts : List T} (h : typed E (n + 5) 400 ts) : ∃ c : Chn, T.agg ts = chnT c ∧ c.Wd := by
  obtain ⟨h1, h2⟩ := typed_struct (by simp) h
  simp at h1 h2
  obtain ⟨g1, g2⟩ := h2
  match ts, h1 with
  | [a, b], _ =>
    obtain ⟨x, hx⟩ := typed_int g1
    obtain ⟨c, hc, hw⟩ := dec398 g2
    simp at hx hc
    exact ⟨⟨x, c⟩, by simp [hx, hc], hw⟩
theorem dec288 {n : Nat} {ts : List T} (h : typed E (n + 6) 288 ts) : ∃ c : List Chn, ts = [.list (c.map chnT)] ∧ W c.length ∧ ∀ x ∈ c, x.Wd := by
  obtain ⟨xs, rfl, h1, h2⟩ := typed_slice (by simp) (by simp) h
  obtain ⟨l, rfl, h4⟩ := list_choose (enc := chnT) (P := Chn.Wd) (fun x hx => by
    obtain ⟨cs, e, _, h⟩ := h2 x hx
    simp at e h
    obtain ⟨t, h3, h4⟩ := dec400 h
    exact ⟨t, e.trans h3, h4⟩)
  exact ⟨l, rfl, by simpa using h1, h4⟩
theorem dec69 {n : Nat} {ts : List T} (h : typed E (n + 4) 69 ts) : ∃ d : Dfn, T.agg ts = dfnT d ∧ d.Wd := by
  obtain ⟨h1, h2⟩ := typed_struct (by simp) h
  simp at h1 h2
  obtain ⟨g1, g2⟩ := h2
  match ts, h1 with
  | [a, b], _ =>
    obtain ⟨x, hx, hx2⟩ := typed_str g1
    obtain ⟨c, hc, hw⟩ := dec63 g2
    simp at hx hc
    exact ⟨⟨x, c⟩, by simp [hx, hc], hx2, hw⟩
theorem dec289 {n : Nat} {ts : List T} (h : typed E (n + 5) 289 ts) : ∃ c : List Dfn, ts = [.list (c.map dfnT)] ∧ W c.length ∧ ∀ x ∈ c, x.Wd := by
  obtain ⟨xs, rfl, h1, h2⟩ := typed_slice (by simp) (by simp) h
  obtain ⟨l, rfl, h4⟩ := list_choose (enc := dfnT) (P := Dfn.Wd) (fun x hx => by
    obtain ⟨cs, e, _, h⟩ := h2 x hx
    simp at e h
    obtain ⟨t, h3, h4⟩ := dec69 h
    exact ⟨t, e.trans h3, h4⟩)
  exact ⟨l, rfl, by simpa using h1, h4⟩
theorem dec291 {n : Nat} {ts : List T} (h : typed E (n + 7) 291 ts) : ∃ c : Col, T.agg ts = colT c ∧ c.Wd := by
  obtain ⟨h1, h2⟩ := typed_struct (by simp) h
  simp at h1 h2
  obtain ⟨g1, g2, g3⟩ := h2
  match ts, h1 with
  | [a, b, c], _ =>
    obtain ⟨x, hx, hx2⟩ := typed_str g1
    obtain ⟨y, hy, hy2⟩ := dec288 g2
    obtain ⟨z, hz, hz2⟩ := dec289 g3
    simp at hx hy hz
    exact ⟨⟨x, y, z⟩, by simp [hx, hy, hz], hx2, hy2, hz2⟩
end Go.Yd
/- Reads, writes, changes, transactions, commands, stores as trees. -/
set_option linter.unusedSimpArgs false
set_option linter.unusedVariables false
namespace Go.Yd
open Go.Ev Go.Proofs Go.Pu
structure Rd where
  coll : Bytes
  filter : List (List Trm)
structure Wr where
  coll : Bytes
  id : Int
  gone : Bool
  v : Val
structure Chg where
  w : Wr
  before : Val
  was : Bool
structure Dn where
  snap : Int
  at_ : Int
  reads : List Rd
  changes : List Chg
  inn : Bool
  out : Bool
structure Txn where
  session : Int
  snap : Int
  reads : List Rd
  writes : List Wr
structure Cmd where
  kind : Int
  session : Int
  coll : Bytes
  doc : Val
  q : Qry
  ups : List Trm
  d : Dfn
structure Sto where
  colls : List Col
  txns : List Txn
  done : List Dn
  clock : Int
abbrev rdT (r : Rd) : T := .agg [.str r.coll, .list (r.filter.map clsT)]
abbrev wrT (w : Wr) : T := .agg [.str w.coll, .int .i64 w.id, .bool w.gone, .int .i64 w.v.k, .int .i64 w.v.n, .str w.v.t]
abbrev chgT (c : Chg) : T := .agg [.str c.w.coll, .int .i64 c.w.id, .bool c.w.gone, .int .i64 c.w.v.k, .int .i64 c.w.v.n, .str c.w.v.t, .int .i64 c.before.k, .int .i64 c.before.n, .str c.before.t, .bool c.was]
abbrev dnT (d : Dn) : T := .agg [.int .i64 d.snap, .int .i64 d.at_, .list (d.reads.map rdT), .list (d.changes.map chgT), .bool d.inn, .bool d.out]
abbrev txnT (t : Txn) : T := .agg [.int .i64 t.session, .int .i64 t.snap, .list (t.reads.map rdT), .list (t.writes.map wrT)]
abbrev cmdT (c : Cmd) : T := .agg [.int .i64 c.kind, .int .i64 c.session, .str c.coll, .int .i64 c.doc.k, .int .i64 c.doc.n, .str c.doc.t, .list (c.q.filter.map clsT), .list (c.q.sort.map prtT), .int .i64 c.q.skip, .int .i64 c.q.limit, .list (c.q.keep.map strT), .str c.q.hint, .list (c.ups.map trmT), .str c.d.name, .list (c.d.parts.map prtT)]
abbrev stoT (s : Sto) : T := .agg [.list (s.colls.map colT), .list (s.txns.map txnT), .list (s.done.map dnT), .int .i64 s.clock]
end Go.Yd
/- slices.IndexFunc, slices.ContainsFunc with captured variables. -/
set_option linter.unusedSimpArgs false
set_option linter.unusedVariables false
namespace Go.Yd
open Go.Ev Go.Proofs Go.Pu
set_option maxRecDepth 100000
set_option maxHeartbeats 4000000
theorem indexFunc_298_0 (xs : List Rd) (g : Nat)  (p : Rd → Bool) (hl : xs.length < 9223372036854775807) (hm : E.md g = []) (hf : E.flat g = true) (hp : ∀ x ∈ xs, run E (.call g [.t (rdT x)]) = some (.res [xB (p x)] [])) :
    run E (.call 298 [.t (.list (xs.map rdT)), .fn g []]) = some (.res [xI (idxP p xs)] []) := by
  rw [run_call E 298 _ rfl Tryz.func298 rfl rfl rfl (by simp)]
  rw [E_md] at hm
  have lp := fun (r : Int) (hr : r = idxP p xs) => sk (fun s o q hI => loop_for (c := loopAt Tryz.f298 0) (N := 19)
    (fun i s o q => s 0 = .t (.list (xs.map rdT)) ∧ s 1 = .fn g [] ∧ s 7 = .t (.int .i64 xs.length) ∧ s 8 = .t (.int .i64 i) ∧ r = if idxP p (xs.drop i) < 0 then -1 else idxP p (xs.drop i) + i)
    (fun e s' o' q' => e = (if r < 0 then .exit 0 else .ret) ∧ (0 ≤ r → s' 4 = .t (.int .i64 r))) xs.length
    (by
      rintro i s o q hi ⟨h0, h1, h7, h8, hr⟩
      have hd : xs.drop i = xs[i] :: xs.drop (i + 1) := by rw [List.drop_eq_getElem_cons hi]
      have hi' : (i : Int) < (xs.length : Int) := by omega
      have hw := wrap_succ (n := i) (by omega)
      have hx := hp xs[i] (List.getElem_mem hi)
      rw [hd, idxP] at hr
      cases hpx : p xs[i] with
      | true =>
        simp [hpx] at hr hx
        have hr' : ¬ r < 0 := by omega
        simp [-mdOf, loopAt, loopsOf, Tryz.f298, h0, h1, h7, h8, hi, hi', hx, hw, hm, hf, hr', hr]
      | false =>
        simp [hpx] at hr hx
        have hr2 : r = if idxP p (xs.drop (i + 1)) < 0 then -1 else idxP p (xs.drop (i + 1)) + ((i : Int) + 1) := by
          rw [hr]
          by_cases hq : idxP p (xs.drop (i + 1)) < 0
          · simp [hq]
          · have : ¬ idxP p (xs.drop (i + 1)) + 1 < 0 := by omega
            simp [hq, this]; omega
        clear hr
        simp [-mdOf, loopAt, loopsOf, Tryz.f298, h0, h1, h7, h8, hi, hi', hx, hw, hm, hf]
        exact hr2)
    (by
      rintro s o q ⟨h0, h1, h7, h8, hr⟩
      simp [idxP] at hr
      simp [loopAt, loopsOf, Tryz.f298, h0, h1, h7, h8, hr])
    xs.length 0 s o q (by omega) hI)
  simp only [loopAt, loopsOf, Tryz.f298] at lp
  obtain ⟨X, A, B, C, hx⟩ := lp _ rfl
  have hz : idxP p xs = if idxP p xs < 0 then -1 else idxP p xs := by
    cases xs with
    | nil => simp [idxP]
    | cons x r =>
      unfold idxP
      split
      · simp
      · split
        · simp
        · have : ¬ idxP p r + 1 < 0 := by omega
          simp [this]
  simp [← hz] at hx
  by_cases h : idxP p xs < 0
  · have h1 : idxP p xs = -1 := by rw [hz]; simp [h]
    simp [h] at hx
    simp [hx, h1]
  · have h2 : 0 ≤ idxP p xs := by omega
    simp [h, h2] at hx
    simp [hx]
theorem containsFunc_196_0 (xs : List Rd) (g : Nat)  (p : Rd → Bool) (hl : xs.length < 9223372036854775807) (hm : E.md g = []) (hf : E.flat g = true) (hp : ∀ x ∈ xs, run E (.call g [.t (rdT x)]) = some (.res [xB (p x)] [])) :
    run E (.call 196 [.t (.list (xs.map rdT)), .fn g []]) = some (.res [xB (xs.any p)] []) := by
  rw [run_call E 196 _ rfl Tryz.func196 rfl rfl rfl (by simp)]
  have h := indexFunc_298_0 xs g  p hl hm hf hp
  simp [h, idxP_ge]
theorem indexFunc_204_0 (xs : List Chg) (g : Nat)  (p : Chg → Bool) (hl : xs.length < 9223372036854775807) (hm : E.md g = []) (hf : E.flat g = true) (hp : ∀ x ∈ xs, run E (.call g [.t (chgT x)]) = some (.res [xB (p x)] [])) :
    run E (.call 204 [.t (.list (xs.map chgT)), .fn g []]) = some (.res [xI (idxP p xs)] []) := by
  rw [run_call E 204 _ rfl Tryz.func204 rfl rfl rfl (by simp)]
  rw [E_md] at hm
  have lp := fun (r : Int) (hr : r = idxP p xs) => sk (fun s o q hI => loop_for (c := loopAt Tryz.f204 0) (N := 19)
    (fun i s o q => s 0 = .t (.list (xs.map chgT)) ∧ s 1 = .fn g [] ∧ s 7 = .t (.int .i64 xs.length) ∧ s 8 = .t (.int .i64 i) ∧ r = if idxP p (xs.drop i) < 0 then -1 else idxP p (xs.drop i) + i)
    (fun e s' o' q' => e = (if r < 0 then .exit 0 else .ret) ∧ (0 ≤ r → s' 4 = .t (.int .i64 r))) xs.length
    (by
      rintro i s o q hi ⟨h0, h1, h7, h8, hr⟩
      have hd : xs.drop i = xs[i] :: xs.drop (i + 1) := by rw [List.drop_eq_getElem_cons hi]
      have hi' : (i : Int) < (xs.length : Int) := by omega
      have hw := wrap_succ (n := i) (by omega)
      have hx := hp xs[i] (List.getElem_mem hi)
      rw [hd, idxP] at hr
      cases hpx : p xs[i] with
      | true =>
        simp [hpx] at hr hx
        have hr' : ¬ r < 0 := by omega
        simp [-mdOf, loopAt, loopsOf, Tryz.f204, h0, h1, h7, h8, hi, hi', hx, hw, hm, hf, hr', hr]
      | false =>
        simp [hpx] at hr hx
        have hr2 : r = if idxP p (xs.drop (i + 1)) < 0 then -1 else idxP p (xs.drop (i + 1)) + ((i : Int) + 1) := by
          rw [hr]
          by_cases hq : idxP p (xs.drop (i + 1)) < 0
          · simp [hq]
          · have : ¬ idxP p (xs.drop (i + 1)) + 1 < 0 := by omega
            simp [hq, this]; omega
        clear hr
        simp [-mdOf, loopAt, loopsOf, Tryz.f204, h0, h1, h7, h8, hi, hi', hx, hw, hm, hf]
        exact hr2)
    (by
      rintro s o q ⟨h0, h1, h7, h8, hr⟩
      simp [idxP] at hr
      simp [loopAt, loopsOf, Tryz.f204, h0, h1, h7, h8, hr])
    xs.length 0 s o q (by omega) hI)
  simp only [loopAt, loopsOf, Tryz.f204] at lp
  obtain ⟨X, A, B, C, hx⟩ := lp _ rfl
  have hz : idxP p xs = if idxP p xs < 0 then -1 else idxP p xs := by
    cases xs with
    | nil => simp [idxP]
    | cons x r =>
      unfold idxP
      split
      · simp
      · split
        · simp
        · have : ¬ idxP p r + 1 < 0 := by omega
          simp [this]
  simp [← hz] at hx
  by_cases h : idxP p xs < 0
  · have h1 : idxP p xs = -1 := by rw [hz]; simp [h]
    simp [h] at hx
    simp [hx, h1]
  · have h2 : 0 ≤ idxP p xs := by omega
    simp [h, h2] at hx
    simp [hx]
theorem containsFunc_99_0 (xs : List Chg) (g : Nat)  (p : Chg → Bool) (hl : xs.length < 9223372036854775807) (hm : E.md g = []) (hf : E.flat g = true) (hp : ∀ x ∈ xs, run E (.call g [.t (chgT x)]) = some (.res [xB (p x)] [])) :
    run E (.call 99 [.t (.list (xs.map chgT)), .fn g []]) = some (.res [xB (xs.any p)] []) := by
  rw [run_call E 99 _ rfl Tryz.func99 rfl rfl rfl (by simp)]
  have h := indexFunc_204_0 xs g  p hl hm hf hp
  simp [h, idxP_ge]
theorem indexFunc_204_1 (xs : List Chg) (g : Nat) (c0 : List T) (p : Chg → Bool) (hl : xs.length < 9223372036854775807) (hm : E.md g = []) (hf : E.flat g = true) (hp : ∀ x ∈ xs, run E (.call g [.t (chgT x), .dref c0]) = some (.res [xB (p x)] [])) :
    run E (.call 204 [.t (.list (xs.map chgT)), .fn g [c0]]) = some (.res [xI (idxP p xs)] []) := by
  rw [run_call E 204 _ rfl Tryz.func204 rfl rfl rfl (by simp)]
  rw [E_md] at hm
  have lp := fun (r : Int) (hr : r = idxP p xs) => sk (fun s o q hI => loop_for (c := loopAt Tryz.f204 0) (N := 19)
    (fun i s o q => s 0 = .t (.list (xs.map chgT)) ∧ s 1 = .fn g [.dptr c0] ∧ s 7 = .t (.int .i64 xs.length) ∧ s 8 = .t (.int .i64 i) ∧ r = if idxP p (xs.drop i) < 0 then -1 else idxP p (xs.drop i) + i)
    (fun e s' o' q' => e = (if r < 0 then .exit 0 else .ret) ∧ (0 ≤ r → s' 4 = .t (.int .i64 r))) xs.length
    (by
      rintro i s o q hi ⟨h0, h1, h7, h8, hr⟩
      have hd : xs.drop i = xs[i] :: xs.drop (i + 1) := by rw [List.drop_eq_getElem_cons hi]
      have hi' : (i : Int) < (xs.length : Int) := by omega
      have hw := wrap_succ (n := i) (by omega)
      have hx := hp xs[i] (List.getElem_mem hi)
      rw [hd, idxP] at hr
      cases hpx : p xs[i] with
      | true =>
        simp [hpx] at hr hx
        have hr' : ¬ r < 0 := by omega
        simp [-mdOf, loopAt, loopsOf, Tryz.f204, h0, h1, h7, h8, hi, hi', hx, hw, hm, hf, hr', hr]
      | false =>
        simp [hpx] at hr hx
        have hr2 : r = if idxP p (xs.drop (i + 1)) < 0 then -1 else idxP p (xs.drop (i + 1)) + ((i : Int) + 1) := by
          rw [hr]
          by_cases hq : idxP p (xs.drop (i + 1)) < 0
          · simp [hq]
          · have : ¬ idxP p (xs.drop (i + 1)) + 1 < 0 := by omega
            simp [hq, this]; omega
        clear hr
        simp [-mdOf, loopAt, loopsOf, Tryz.f204, h0, h1, h7, h8, hi, hi', hx, hw, hm, hf]
        exact hr2)
    (by
      rintro s o q ⟨h0, h1, h7, h8, hr⟩
      simp [idxP] at hr
      simp [loopAt, loopsOf, Tryz.f204, h0, h1, h7, h8, hr])
    xs.length 0 s o q (by omega) hI)
  simp only [loopAt, loopsOf, Tryz.f204] at lp
  obtain ⟨X, A, B, C, hx⟩ := lp _ rfl
  have hz : idxP p xs = if idxP p xs < 0 then -1 else idxP p xs := by
    cases xs with
    | nil => simp [idxP]
    | cons x r =>
      unfold idxP
      split
      · simp
      · split
        · simp
        · have : ¬ idxP p r + 1 < 0 := by omega
          simp [this]
  simp [← hz] at hx
  by_cases h : idxP p xs < 0
  · have h1 : idxP p xs = -1 := by rw [hz]; simp [h]
    simp [h] at hx
    simp [hx, h1]
  · have h2 : 0 ≤ idxP p xs := by omega
    simp [h, h2] at hx
    simp [hx]
theorem containsFunc_99_1 (xs : List Chg) (g : Nat) (c0 : List T) (p : Chg → Bool) (hl : xs.length < 9223372036854775807) (hm : E.md g = []) (hf : E.flat g = true) (hp : ∀ x ∈ xs, run E (.call g [.t (chgT x), .dref c0]) = some (.res [xB (p x)] [])) :
    run E (.call 99 [.t (.list (xs.map chgT)), .fn g [c0]]) = some (.res [xB (xs.any p)] []) := by
  rw [run_call E 99 _ rfl Tryz.func99 rfl rfl rfl (by simp)]
  have h := indexFunc_204_1 xs g c0 p hl hm hf hp
  simp [h, idxP_ge]
theorem indexFunc_315_1 (xs : List Wr) (g : Nat) (c0 : List T) (p : Wr → Bool) (hl : xs.length < 9223372036854775807) (hm : E.md g = []) (hf : E.flat g = true) (hp : ∀ x ∈ xs, run E (.call g [.t (wrT x), .dref c0]) = some (.res [xB (p x)] [])) :
    run E (.call 315 [.t (.list (xs.map wrT)), .fn g [c0]]) = some (.res [xI (idxP p xs)] []) := by
  rw [run_call E 315 _ rfl Tryz.func315 rfl rfl rfl (by simp)]
  rw [E_md] at hm
  have lp := fun (r : Int) (hr : r = idxP p xs) => sk (fun s o q hI => loop_for (c := loopAt Tryz.f315 0) (N := 19)
    (fun i s o q => s 0 = .t (.list (xs.map wrT)) ∧ s 1 = .fn g [.dptr c0] ∧ s 7 = .t (.int .i64 xs.length) ∧ s 8 = .t (.int .i64 i) ∧ r = if idxP p (xs.drop i) < 0 then -1 else idxP p (xs.drop i) + i)
    (fun e s' o' q' => e = (if r < 0 then .exit 0 else .ret) ∧ (0 ≤ r → s' 4 = .t (.int .i64 r))) xs.length
    (by
      rintro i s o q hi ⟨h0, h1, h7, h8, hr⟩
      have hd : xs.drop i = xs[i] :: xs.drop (i + 1) := by rw [List.drop_eq_getElem_cons hi]
      have hi' : (i : Int) < (xs.length : Int) := by omega
      have hw := wrap_succ (n := i) (by omega)
      have hx := hp xs[i] (List.getElem_mem hi)
      rw [hd, idxP] at hr
      cases hpx : p xs[i] with
      | true =>
        simp [hpx] at hr hx
        have hr' : ¬ r < 0 := by omega
        simp [-mdOf, loopAt, loopsOf, Tryz.f315, h0, h1, h7, h8, hi, hi', hx, hw, hm, hf, hr', hr]
      | false =>
        simp [hpx] at hr hx
        have hr2 : r = if idxP p (xs.drop (i + 1)) < 0 then -1 else idxP p (xs.drop (i + 1)) + ((i : Int) + 1) := by
          rw [hr]
          by_cases hq : idxP p (xs.drop (i + 1)) < 0
          · simp [hq]
          · have : ¬ idxP p (xs.drop (i + 1)) + 1 < 0 := by omega
            simp [hq, this]; omega
        clear hr
        simp [-mdOf, loopAt, loopsOf, Tryz.f315, h0, h1, h7, h8, hi, hi', hx, hw, hm, hf]
        exact hr2)
    (by
      rintro s o q ⟨h0, h1, h7, h8, hr⟩
      simp [idxP] at hr
      simp [loopAt, loopsOf, Tryz.f315, h0, h1, h7, h8, hr])
    xs.length 0 s o q (by omega) hI)
  simp only [loopAt, loopsOf, Tryz.f315] at lp
  obtain ⟨X, A, B, C, hx⟩ := lp _ rfl
  have hz : idxP p xs = if idxP p xs < 0 then -1 else idxP p xs := by
    cases xs with
    | nil => simp [idxP]
    | cons x r =>
      unfold idxP
      split
      · simp
      · split
        · simp
        · have : ¬ idxP p r + 1 < 0 := by omega
          simp [this]
  simp [← hz] at hx
  by_cases h : idxP p xs < 0
  · have h1 : idxP p xs = -1 := by rw [hz]; simp [h]
    simp [h] at hx
    simp [hx, h1]
  · have h2 : 0 ≤ idxP p xs := by omega
    simp [h, h2] at hx
    simp [hx]
theorem containsFunc_231_1 (xs : List Wr) (g : Nat) (c0 : List T) (p : Wr → Bool) (hl : xs.length < 9223372036854775807) (hm : E.md g = []) (hf : E.flat g = true) (hp : ∀ x ∈ xs, run E (.call g [.t (wrT x), .dref c0]) = some (.res [xB (p x)] [])) :
    run E (.call 231 [.t (.list (xs.map wrT)), .fn g [c0]]) = some (.res [xB (xs.any p)] []) := by
  rw [run_call E 231 _ rfl Tryz.func231 rfl rfl rfl (by simp)]
  have h := indexFunc_315_1 xs g c0 p hl hm hf hp
  simp [h, idxP_ge]
theorem indexFunc_234_1 (xs : List Dn) (g : Nat) (c0 : List T) (p : Dn → Bool) (hl : xs.length < 9223372036854775807) (hm : E.md g = []) (hf : E.flat g = true) (hp : ∀ x ∈ xs, run E (.call g [.t (dnT x), .dref c0]) = some (.res [xB (p x)] [])) :
    run E (.call 234 [.t (.list (xs.map dnT)), .fn g [c0]]) = some (.res [xI (idxP p xs)] []) := by
  rw [run_call E 234 _ rfl Tryz.func234 rfl rfl rfl (by simp)]
  rw [E_md] at hm
  have lp := fun (r : Int) (hr : r = idxP p xs) => sk (fun s o q hI => loop_for (c := loopAt Tryz.f234 0) (N := 19)
    (fun i s o q => s 0 = .t (.list (xs.map dnT)) ∧ s 1 = .fn g [.dptr c0] ∧ s 7 = .t (.int .i64 xs.length) ∧ s 8 = .t (.int .i64 i) ∧ r = if idxP p (xs.drop i) < 0 then -1 else idxP p (xs.drop i) + i)
    (fun e s' o' q' => e = (if r < 0 then .exit 0 else .ret) ∧ (0 ≤ r → s' 4 = .t (.int .i64 r))) xs.length
    (by
      rintro i s o q hi ⟨h0, h1, h7, h8, hr⟩
      have hd : xs.drop i = xs[i] :: xs.drop (i + 1) := by rw [List.drop_eq_getElem_cons hi]
      have hi' : (i : Int) < (xs.length : Int) := by omega
      have hw := wrap_succ (n := i) (by omega)
      have hx := hp xs[i] (List.getElem_mem hi)
      rw [hd, idxP] at hr
      cases hpx : p xs[i] with
      | true =>
        simp [hpx] at hr hx
        have hr' : ¬ r < 0 := by omega
        simp [-mdOf, loopAt, loopsOf, Tryz.f234, h0, h1, h7, h8, hi, hi', hx, hw, hm, hf, hr', hr]
      | false =>
        simp [hpx] at hr hx
        have hr2 : r = if idxP p (xs.drop (i + 1)) < 0 then -1 else idxP p (xs.drop (i + 1)) + ((i : Int) + 1) := by
          rw [hr]
          by_cases hq : idxP p (xs.drop (i + 1)) < 0
          · simp [hq]
          · have : ¬ idxP p (xs.drop (i + 1)) + 1 < 0 := by omega
            simp [hq, this]; omega
        clear hr
        simp [-mdOf, loopAt, loopsOf, Tryz.f234, h0, h1, h7, h8, hi, hi', hx, hw, hm, hf]
        exact hr2)
    (by
      rintro s o q ⟨h0, h1, h7, h8, hr⟩
      simp [idxP] at hr
      simp [loopAt, loopsOf, Tryz.f234, h0, h1, h7, h8, hr])
    xs.length 0 s o q (by omega) hI)
  simp only [loopAt, loopsOf, Tryz.f234] at lp
  obtain ⟨X, A, B, C, hx⟩ := lp _ rfl
  have hz : idxP p xs = if idxP p xs < 0 then -1 else idxP p xs := by
    cases xs with
    | nil => simp [idxP]
    | cons x r =>
      unfold idxP
      split
      · simp
      · split
        · simp
        · have : ¬ idxP p r + 1 < 0 := by omega
          simp [this]
  simp [← hz] at hx
  by_cases h : idxP p xs < 0
  · have h1 : idxP p xs = -1 := by rw [hz]; simp [h]
    simp [h] at hx
    simp [hx, h1]
  · have h2 : 0 ≤ idxP p xs := by omega
    simp [h, h2] at hx
    simp [hx]
theorem containsFunc_133_1 (xs : List Dn) (g : Nat) (c0 : List T) (p : Dn → Bool) (hl : xs.length < 9223372036854775807) (hm : E.md g = []) (hf : E.flat g = true) (hp : ∀ x ∈ xs, run E (.call g [.t (dnT x), .dref c0]) = some (.res [xB (p x)] [])) :
    run E (.call 133 [.t (.list (xs.map dnT)), .fn g [c0]]) = some (.res [xB (xs.any p)] []) := by
  rw [run_call E 133 _ rfl Tryz.func133 rfl rfl rfl (by simp)]
  have h := indexFunc_234_1 xs g c0 p hl hm hf hp
  simp [h, idxP_ge]
end Go.Yd
/- A filter against a document: both sides' Matches. -/
set_option linter.unusedSimpArgs false
set_option linter.unusedVariables false
namespace Go.Yd
open Go.Ev Go.Proofs Go.Pu
set_option maxRecDepth 100000
set_option maxHeartbeats 16000000
def matchC (c : List Trm) (doc : Val) : Bool := c.all (fun t => matchT t doc)
def matchF (f : List (List Trm)) (doc : Val) : Bool := f.any (fun c => matchC c doc)
abbrev valC (v : Val) : List T := [.int .i64 v.k, .int .i64 v.n, .str v.t]
/-- All terms are right. -/
def clsFit (c : List Trm) : Prop := c.length < 4294967295 ∧ ∀ t ∈ c, okP 5 t.v = true ∧ opOK t.op t.v = true ∧ t.path.length < 4294967295
def filFit (f : List (List Trm)) : Prop := f.length < 4294967295 ∧ ∀ c ∈ f, clsFit c
def matchesOut (f : List (List Trm)) (doc : Val) : Bool × Int := if filterOK f && isDocP doc then (matchF f doc, 0) else (false, 1)
end Go.Yd
/- Reads, writes, changes, what was committed: what they are, which are right; the checks of one of them. -/
set_option linter.unusedSimpArgs false
set_option linter.unusedVariables false
namespace Go.Yd
open Go.Ev Go.Proofs Go.Pu
set_option maxRecDepth 100000
set_option maxHeartbeats 16000000
structure Rd.Sm (r : Rd) : Prop where
  coll : r.coll.length < 4294967296
  filter : filterSm r.filter
structure Wr.Sm (w : Wr) : Prop where
  coll : w.coll.length < 4294967296
  v : w.v.t.length < 4294967296
structure Chg.Sm (c : Chg) : Prop where
  w : c.w.Sm
  before : c.before.t.length < 4294967296
structure Dn.Sm (d : Dn) : Prop where
  reads : d.reads.length < 4294967296 ∧ ∀ r ∈ d.reads, r.Sm
  changes : d.changes.length < 4294967296 ∧ ∀ c ∈ d.changes, c.Sm
def readOK (r : Rd) : Bool := nameP r.coll && filterOK r.filter
def writeOK (w : Wr) : Bool := nameP w.coll && in1 0 19 w.id && verDoc w.id w.gone w.v
def chgOK (c : Chg) : Bool := writeOK c.w && verDoc c.w.id (!c.was) c.before
theorem inR (a b c : Int) : run E (.call 92 [xI a, xI b, xI c]) = some (.res [xB (in1 b c a)] []) := inRange a b c
theorem in1_low {a b c : Int} (h : in1 a b c = true) : a ≤ c := by
  unfold in1 at h
  simp at h
  exact h.1
theorem implReadOK (r : Rd) (h : r.Sm) : run E (.call 198 [.t (rdT r)]) = some (.res [xB (readOK r)] []) := by
  rw [run_call E 198 _ rfl Tryz.func198 rfl rfl rfl (by simp)]
  have h1 := isShort r.coll (by have := h.coll; omega)
  have h2 := implFilterOK r.filter h.filter
  unfold readOK
  cases hn : nameP r.coll <;> rw [hn] at h1 <;> simp [h1, h2]
theorem specReadOK (r : Rd) (h : r.Sm) : run E (.call 84 [.t (rdT r)]) = some (.res [xB (readOK r)] []) := by
  rw [run_call E 84 _ rfl Tryz.func84 rfl rfl rfl (by simp)]
  have h1 := l01Name r.coll (by have := h.coll; omega)
  have h2 := specFilterOK r.filter h.filter
  unfold readOK
  cases hn : nameP r.coll <;> rw [hn] at h1 <;> simp [h1, h2]
theorem implWriteOK (w : Wr) (h : w.Sm) : run E (.call 89 [.t (wrT w)]) = some (.res [xB (writeOK w)] []) := by
  rw [run_call E 89 _ rfl Tryz.func89 rfl rfl rfl (by simp)]
  have h1 := isShort w.coll (by have := h.coll; omega)
  have h2 := inR w.id 0 19
  have h3 := implDocOK w.gone w.v w.id h.v
  unfold writeOK
  cases hn : nameP w.coll with
  | false => rw [hn] at h1; simp [h1]
  | true =>
    rw [hn] at h1
    cases hi : in1 0 19 w.id with
    | false => rw [hi] at h2; simp [h1, h2]
    | true =>
      rw [hi] at h2
      rw [verDocI_eq _ _ _ (in1_low hi)] at h3
      simp [h1, h2, h3]
theorem specWriteOK (w : Wr) (h : w.Sm) : run E (.call 85 [.t (wrT w)]) = some (.res [xB (writeOK w)] []) := by
  rw [run_call E 85 _ rfl Tryz.func85 rfl rfl rfl (by simp)]
  have h1 := l01Name w.coll (by have := h.coll; omega)
  have h2 := l01In1 w.id 0 19
  have h3 := specDocOK w.id w.gone w.v h.v
  unfold writeOK
  cases hn : nameP w.coll with
  | false => rw [hn] at h1; simp [h1]
  | true =>
    rw [hn] at h1
    cases hi : in1 0 19 w.id with
    | false => rw [hi] at h2; simp [h1, h2]
    | true =>
      rw [hi] at h2
      simp [h1, h2, h3]
theorem writeOK_id {w : Wr} (h : writeOK w = true) : 0 ≤ w.id ∧ w.id ≤ 19 := by
  unfold writeOK in1 at h
  simp at h
  exact h.1.2
theorem implChgOK (c : Chg) (h : c.Sm) : run E (.call 206 [.t (chgT c)]) = some (.res [xB (chgOK c)] []) := by
  rw [run_call E 206 _ rfl Tryz.func206 rfl rfl rfl (by simp)]
  have h1 := implWriteOK c.w h.w
  have h3 := implDocOK (!c.was) c.before c.w.id h.before
  unfold chgOK
  cases hn : writeOK c.w with
  | false => rw [hn] at h1; simp [h1]
  | true =>
    rw [hn] at h1
    rw [verDocI_eq _ _ _ (writeOK_id hn).1] at h3
    simp [h1, h3]
theorem specChgOK (c : Chg) (h : c.Sm) : run E (.call 202 [.t (chgT c)]) = some (.res [xB (chgOK c)] []) := by
  rw [run_call E 202 _ rfl Tryz.func202 rfl rfl rfl (by simp)]
  have h1 := specWriteOK c.w h.w
  have h3 := specDocOK c.w.id (!c.was) c.before h.before
  unfold chgOK
  cases hn : writeOK c.w with
  | false => rw [hn] at h1; simp [h1]
  | true =>
    rw [hn] at h1
    simp [h1, h3]
theorem readClosure (r : Rd) (h : r.Sm) : run E (.call 197 [.t (rdT r)]) = some (.res [xB (!readOK r)] []) := by
  rw [run_call E 197 _ rfl Tryz.func197 rfl rfl rfl (by simp)]
  simp [implReadOK r h]
theorem areReads (l : List Rd) (hl : l.length < 4294967296) (h : ∀ r ∈ l, r.Sm) : run E (.call 93 [.t (.list (l.map rdT))]) = some (.res [xB (l.all readOK)] []) := by
  rw [run_call E 93 _ rfl Tryz.func93 rfl rfl rfl (by simp)]
  have hc := containsFunc_196_0 l 197 (fun r => !readOK r) (by omega) rfl (by simp) (fun r hr => readClosure r (h r hr))
  rw [any_not_all] at hc
  simp [hc, -List.all_eq_true]
theorem chgClosure (c : Chg) (h : c.Sm) : run E (.call 205 [.t (chgT c)]) = some (.res [xB (!chgOK c)] []) := by
  rw [run_call E 205 _ rfl Tryz.func205 rfl rfl rfl (by simp)]
  simp [implChgOK c h]
theorem areChanges (l : List Chg) (hl : l.length < 4294967296) (h : ∀ r ∈ l, r.Sm) : run E (.call 103 [.t (.list (l.map chgT))]) = some (.res [xB (l.all chgOK)] []) := by
  rw [run_call E 103 _ rfl Tryz.func103 rfl rfl rfl (by simp)]
  have hc := containsFunc_99_0 l 205 (fun r => !chgOK r) (by omega) rfl (by simp) (fun r hr => chgClosure r (h r hr))
  rw [any_not_all] at hc
  simp [hc, -List.all_eq_true]
def sameC (a b : Chg) : Bool := (a.w.coll == b.w.coll) && (a.w.id == b.w.id)
theorem sameC_comm (a b : Chg) : sameC a b = sameC b a := by
  unfold sameC
  rw [Bool.eq_iff_iff]
  simp
  constructor <;> rintro ⟨h1, h2⟩ <;> exact ⟨h1.symm, h2.symm⟩
theorem sameDoc (a b : Chg) : run E (.call 101 [.t (chgT a), .t (chgT b)]) = some (.res [xB (sameC a b)] []) := by
  rw [run_call E 101 _ rfl Tryz.func101 rfl rfl rfl (by simp)]
  unfold sameC
  cases hc : (a.w.coll == b.w.coll) <;> simp [hc]
abbrev chgC (c : Chg) : List T := [.str c.w.coll, .int .i64 c.w.id, .bool c.w.gone, .int .i64 c.w.v.k, .int .i64 c.w.v.n, .str c.w.v.t, .int .i64 c.before.k, .int .i64 c.before.n, .str c.before.t, .bool c.was]
theorem doneClosure (o c : Chg) : run E (.call 100 [.t (chgT o), .dref (chgC c)]) = some (.res [xB (sameC c o)] []) := by
  rw [run_call E 100 _ rfl Tryz.func100 rfl rfl rfl (by simp)]
  simp [sameDoc c o]
/-- No two are of one document. -/
def distGo : List Chg → List Chg → Bool
  | _, [] => true
  | s, c :: r => !s.any (sameC c) && distGo (s ++ [c]) r
def timesOK (d : Dn) : Bool := decide (0 ≤ d.snap) && in1 1 10000 d.at_ && decide (d.snap < d.at_)
def doneOK (d : Dn) : Bool := distGo [] d.changes && (timesOK d && decide (d.reads.length ≤ 20) && decide (d.changes.length ≤ 60) && d.reads.all readOK && d.changes.all chgOK)
theorem times_spec (d : Dn) : timesOK d = (in1 0 10000 d.snap && in1 (d.snap + 1) 10000 d.at_) := by
  unfold timesOK in1
  rw [Bool.eq_iff_iff]
  simp
  omega
end Go.Yd
/- The law FnExactTermMatches over plain data. -/
set_option linter.unusedSimpArgs false
set_option linter.unusedVariables false
namespace Go.Yd
open Go.Ev Go.Proofs Go.Pu
set_option maxRecDepth 100000
set_option maxHeartbeats 16000000
end Go.Yd
/- Updates: the law's own functions, UpdateOK of both sides. -/
set_option linter.unusedSimpArgs false
set_option linter.unusedVariables false
namespace Go.Yd
open Go.Ev Go.Proofs Go.Pu
set_option maxRecDepth 100000
set_option maxHeartbeats 8000000
def updOK (t : Trm) : Bool := pathOK t.path && !(t.path == [105, 100]) && valueOK t.v && (if t.op = 2 then ((t.v.k == 0) && ((t.v.n == 0) && (t.v.t == []))) else if t.op = 3 then t.v.k == 2 else (t.op == 1) || ((t.op == 4) || (t.op == 5)))
end Go.Yd
/- The laws' own functions over reads, writes, changes, transactions, commands, stores (printed by genstr.py). -/
set_option linter.unusedSimpArgs false
set_option linter.unusedVariables false
namespace Go.Yd
open Go.Ev Go.Proofs Go.Pu
set_option maxRecDepth 100000
set_option maxHeartbeats 16000000
theorem szCol_le (c : Col) (k : Int) (h : 0 ≤ k) : szCol c k ≤ k := thenSz_le h (fun k hk => szB_le hk) (fun k hk => thenSz_le hk (fun k hk => lstChn_le _ k hk) (fun k hk => thenSz_le hk (fun k hk => lstDfn_le _ k hk) (fun k _ => Int.le_refl k)))
structure Txn.Sm (x : Txn) : Prop where
  reads : x.reads.length < 4294967296 ∧ ∀ r ∈ x.reads, r.Sm
  writes : x.writes.length < 4294967296 ∧ ∀ r ∈ x.writes, r.Sm
structure Cmd.Sm (x : Cmd) : Prop where
  coll : x.coll.length < 4294967296
  doc : x.doc.t.length < 4294967296
  q : x.q.Sm
  ups : x.ups.length < 4294967296 ∧ ∀ r ∈ x.ups, r.sm
  d : x.d.Sm
structure Sto.Sm (x : Sto) : Prop where
  colls : x.colls.length < 4294967296 ∧ ∀ r ∈ x.colls, r.Sm
  txns : x.txns.length < 4294967296 ∧ ∀ r ∈ x.txns, r.Sm
  done : x.done.length < 4294967296 ∧ ∀ r ∈ x.done, r.Sm
structure Rd.Wd (x : Rd) : Prop where
  coll : W x.coll.length
  filter : filWd x.filter
def szRd (x : Rd) : Int → Int := thenSz (szB x.coll.length) (thenSz (szFil x.filter) (fun k => k))
theorem szRd_le (x : Rd) (k : Int) (h : 0 ≤ k) : szRd x k ≤ k := (fun k hk => thenSz_le hk (fun k hk => szB_le hk) (fun k hk => thenSz_le hk (fun k hk => szFil_le x.filter k hk) (fun k _ => Int.le_refl k))) k h
theorem szLRd (x : Rd) (h : x.Wd) (l : Int) (h0 : 0 ≤ l) (hm : l ≤ 1048576) : run E (.call 187 [.t (rdT x), xI l]) = some (.res [xI (szRd x l)] []) := by
  rw [run_call E 187 _ rfl Tryz.func187 rfl rfl rfl (by simp)]
  unfold szRd thenSz
  have g0 : 0 ≤ l := h0
  have m0 : l ≤ 1048576 := hm
  have w0 := wrap_sz (l := l) h.coll g0 m0
  by_cases n0 : l - (x.coll.length : Int) < 0
  · have e0 : szB x.coll.length (l) = -1 := by simp [szB, n0]
    simp [w0, n0, e0]
  · have e0 : szB x.coll.length (l) = l - x.coll.length := by simp [szB, n0]
    have g1 : 0 ≤ l - (x.coll.length : Int) := by omega
    have m1 : l - (x.coll.length : Int) ≤ 1048576 := by omega
    have e1 := szFilter x.filter h.filter (l - (x.coll.length : Int)) g1 m1
    have q1 := szFil_le x.filter (l - (x.coll.length : Int)) g1
    by_cases n1 : szFil x.filter (l - (x.coll.length : Int)) < 0
    · simp [w0, n0, e0, e1, n1]
    · have g2 : 0 ≤ szFil x.filter (l - (x.coll.length : Int)) := by omega
      have m2 : szFil x.filter (l - (x.coll.length : Int)) ≤ 1048576 := by omega
      simp [w0, n0, e0, e1, n1]
theorem szRd_sm {x : Rd} {k : Int} (h0 : 0 ≤ k) (hm : k ≤ 1048576) (h : ¬ szRd x k < 0) : x.Sm := by
  obtain ⟨a0, b0⟩ := thenSz_neg h
  have c0 := szB_le (n := x.coll.length) (l := k) (by omega)
  have s0 := szB_bound a0
  obtain ⟨a1, b1⟩ := thenSz_neg b0
  have c1 := szFil_le x.filter (szB x.coll.length (k)) (by omega)
  exact ⟨by omega, szFil_sm (by omega) (by omega) a1⟩
theorem toRd (x : Rd) (h : x.Sm) : run E (.call 190 [.t (rdT x)]) = some (.res [.agg [.t (.str x.coll), .row 236 (x.filter.map clsT)]] []) := by
  rw [run_call E 190 _ rfl Tryz.func190 rfl rfl rfl (by simp)]
  have t1 := toFilter x.filter h.filter.1 (fun c hc => (h.filter.2 c hc).1)
  simp [t1]
theorem eqRd (x : Rd) (h : x.Sm) : run E (.call 199 [.t (rdT x), .t (rdT x)]) = some (.res [xB true] []) := by
  rw [run_call E 199 _ rfl Tryz.func199 rfl rfl rfl (by simp)]
  have t1 := eqFilter x.filter h.filter.1 (fun c hc => (h.filter.2 c hc).1)
  simp [t1]
structure Wr.Wd (x : Wr) : Prop where
  coll : W x.coll.length
  v : W x.v.t.length
def szWr (x : Wr) : Int → Int := thenSz (szB x.coll.length) (thenSz (szVal x.v) (fun k => k))
theorem szWr_le (x : Wr) (k : Int) (h : 0 ≤ k) : szWr x k ≤ k := (fun k hk => thenSz_le hk (fun k hk => szB_le hk) (fun k hk => thenSz_le hk (fun k hk => szVal_le x.v k hk) (fun k _ => Int.le_refl k))) k h
theorem szLWr (x : Wr) (h : x.Wd) (l : Int) (h0 : 0 ≤ l) (hm : l ≤ 1048576) : run E (.call 188 [.t (wrT x), xI l]) = some (.res [xI (szWr x l)] []) := by
  rw [run_call E 188 _ rfl Tryz.func188 rfl rfl rfl (by simp)]
  unfold szWr thenSz
  have g0 : 0 ≤ l := h0
  have m0 : l ≤ 1048576 := hm
  have w0 := wrap_sz (l := l) h.coll g0 m0
  by_cases n0 : l - (x.coll.length : Int) < 0
  · have e0 : szB x.coll.length (l) = -1 := by simp [szB, n0]
    simp [w0, n0, e0]
  · have e0 : szB x.coll.length (l) = l - x.coll.length := by simp [szB, n0]
    have g1 : 0 ≤ l - (x.coll.length : Int) := by omega
    have m1 : l - (x.coll.length : Int) ≤ 1048576 := by omega
    have e1 := szValue x.v h.v (l - (x.coll.length : Int)) g1 m1
    have q1 := szVal_le x.v (l - (x.coll.length : Int)) g1
    by_cases n1 : szVal x.v (l - (x.coll.length : Int)) < 0
    · simp [w0, n0, e0, e1, n1]
    · have g2 : 0 ≤ szVal x.v (l - (x.coll.length : Int)) := by omega
      have m2 : szVal x.v (l - (x.coll.length : Int)) ≤ 1048576 := by omega
      simp [w0, n0, e0, e1, n1]
theorem szWr_sm {x : Wr} {k : Int} (h0 : 0 ≤ k) (hm : k ≤ 1048576) (h : ¬ szWr x k < 0) : x.Sm := by
  obtain ⟨a0, b0⟩ := thenSz_neg h
  have c0 := szB_le (n := x.coll.length) (l := k) (by omega)
  have s0 := szB_bound a0
  obtain ⟨a1, b1⟩ := thenSz_neg b0
  have c1 := szVal_le x.v (szB x.coll.length (k)) (by omega)
  have s1 := szB_bound a1
  exact ⟨by omega, by omega⟩
theorem toWr (x : Wr) (h : x.Sm) : run E (.call 191 [.t (wrT x)]) = some (.res [.agg [.t (.str x.coll), .t (.int .i64 x.id), .t (.bool x.gone), .t (.int .i64 x.v.k), .t (.int .i64 x.v.n), .t (.str x.v.t)]] []) := by
  rw [run_call E 191 _ rfl Tryz.func191 rfl rfl rfl (by simp)]
  simp [toValue x.v]
theorem eqWr (x : Wr) (h : x.Sm) : run E (.call 200 [.t (wrT x), .t (wrT x)]) = some (.res [xB true] []) := by
  rw [run_call E 200 _ rfl Tryz.func200 rfl rfl rfl (by simp)]
  simp [eqValue x.v]
structure Chg.Wd (x : Chg) : Prop where
  w : x.w.Wd
  before : W x.before.t.length
def szChg (x : Chg) : Int → Int := thenSz (szWr x.w) (thenSz (szVal x.before) (fun k => k))
theorem szChg_le (x : Chg) (k : Int) (h : 0 ≤ k) : szChg x k ≤ k := (fun k hk => thenSz_le hk (fun k hk => szWr_le x.w k hk) (fun k hk => thenSz_le hk (fun k hk => szVal_le x.before k hk) (fun k _ => Int.le_refl k))) k h
theorem szLChg (x : Chg) (h : x.Wd) (l : Int) (h0 : 0 ≤ l) (hm : l ≤ 1048576) : run E (.call 201 [.t (chgT x), xI l]) = some (.res [xI (szChg x l)] []) := by
  rw [run_call E 201 _ rfl Tryz.func201 rfl rfl rfl (by simp)]
  unfold szChg thenSz
  have g0 : 0 ≤ l := h0
  have m0 : l ≤ 1048576 := hm
  have e0 := szLWr x.w h.w (l) g0 m0
  have q0 := szWr_le x.w (l) g0
  by_cases n0 : szWr x.w (l) < 0
  · simp [e0, n0]
  · have g1 : 0 ≤ szWr x.w (l) := by omega
    have m1 : szWr x.w (l) ≤ 1048576 := by omega
    have e1 := szValue x.before h.before (szWr x.w (l)) g1 m1
    have q1 := szVal_le x.before (szWr x.w (l)) g1
    by_cases n1 : szVal x.before (szWr x.w (l)) < 0
    · simp [e0, n0, e1, n1]
    · have g2 : 0 ≤ szVal x.before (szWr x.w (l)) := by omega
      have m2 : szVal x.before (szWr x.w (l)) ≤ 1048576 := by omega
      simp [e0, n0, e1, n1]
theorem szChg_sm {x : Chg} {k : Int} (h0 : 0 ≤ k) (hm : k ≤ 1048576) (h : ¬ szChg x k < 0) : x.Sm := by
  obtain ⟨a0, b0⟩ := thenSz_neg h
  have c0 := szWr_le x.w (k) (by omega)
  obtain ⟨a1, b1⟩ := thenSz_neg b0
  have c1 := szVal_le x.before (szWr x.w (k)) (by omega)
  have s1 := szB_bound a1
  exact ⟨szWr_sm (by omega) (by omega) a0, by omega⟩
theorem toChg (x : Chg) (h : x.Sm) : run E (.call 203 [.t (chgT x)]) = some (.res [.agg [.t (.str x.w.coll), .t (.int .i64 x.w.id), .t (.bool x.w.gone), .t (.int .i64 x.w.v.k), .t (.int .i64 x.w.v.n), .t (.str x.w.v.t), .t (.int .i64 x.before.k), .t (.int .i64 x.before.n), .t (.str x.before.t), .t (.bool x.was)]] []) := by
  rw [run_call E 203 _ rfl Tryz.func203 rfl rfl rfl (by simp)]
  have t0 := toWr x.w h.w
  simp [t0, toValue x.before]
theorem eqChg (x : Chg) (h : x.Sm) : run E (.call 207 [.t (chgT x), .t (chgT x)]) = some (.res [xB true] []) := by
  rw [run_call E 207 _ rfl Tryz.func207 rfl rfl rfl (by simp)]
  have t0 := eqWr x.w h.w
  simp [t0, eqValue x.before]
end Go.Yd
/- The laws' own functions, part B (printed by genstr.py). -/
set_option linter.unusedSimpArgs false
set_option linter.unusedVariables false
namespace Go.Yd
open Go.Ev Go.Proofs Go.Pu
set_option maxRecDepth 100000
set_option maxHeartbeats 16000000
theorem sz_81 (xs : List Rd) (f : Rd → Int → Int) (hl : xs.length < 9223372036854775807) (hf : ∀ x ∈ xs, ∀ l, 0 ≤ l → l ≤ 1048576 → run E (.call 187 [.t (rdT x), xI l]) = some (.res [xI (f x l)] [])) (hle : ∀ x ∈ xs, ∀ k, 0 ≤ k → f x k ≤ k) (l : Int) (h0 : 0 ≤ l) (hm : l ≤ 1048576) :
    run E (.call 81 [.t (.list (xs.map rdT)), xI l]) = some (.res [xI (lstSz f xs l)] []) := by
  rw [run_call E 81 _ rfl Tryz.func81 rfl rfl rfl (by simp)]
  have hw : IntKind.i64.wrap (l - (xs.length : Int)) = l - xs.length := wrap_of (by omega) (by omega)
  unfold lstSz szB
  by_cases hb : l - (xs.length : Int) < 0
  · simp [hw, hb]
  · have hb0 : ¬ l < (xs.length : Int) := by omega
    have lp := fun (r : Int) (hr : r = goSz f xs (l - xs.length)) => sk (fun s o q hI => loop_for (c := loopAt Tryz.f81 0) (N := 27)
      (fun i s o q => ∃ k : Int, s 0 = .t (.list (xs.map rdT)) ∧ s 1 = .t (.int .i64 k) ∧ s 5 = .t (.int .i64 i) ∧ 0 ≤ k ∧ k ≤ 1048576 ∧ r = goSz f (xs.drop i) k)
      (fun e s' o' q' => e = (if r < 0 then .ret else .exit 0) ∧ (r < 0 → s' 4 = .t (.int .i64 r)) ∧ (0 ≤ r → s' 1 = .t (.int .i64 r))) xs.length
      (by
        rintro i s o q hi ⟨k, g0, g1, g5, hk0, hkm, hp⟩
        have hi' : (i : Int) < (xs.length : Int) := by omega
        have hwi := wrap_succ (n := i) (by omega)
        have hxi : xs[i]? = some xs[i] := List.getElem?_eq_getElem hi
        have hx := hf _ (List.getElem_mem hi) k hk0 hkm
        have hxl := hle _ (List.getElem_mem hi) k hk0
        rw [List.drop_eq_getElem_cons hi, goSz] at hp
        by_cases hn : f xs[i] k < 0
        · simp [hn] at hp
          simp [loopAt, loopsOf, Tryz.f81, g0, g1, g5, hi', hxi, hwi, hx, hn, hp]
        · simp [hn] at hp
          simp [loopAt, loopsOf, Tryz.f81, g0, g1, g5, hi', hxi, hwi, hx, hn]
          exact ⟨by omega, by omega, hp⟩)
      (by
        rintro s o q ⟨k, g0, g1, g5, hk0, hkm, hp⟩
        simp [goSz] at hp
        have hn : ¬ r < 0 := by omega
        have hn' : 0 ≤ r := by omega
        have hk1 : ¬ k < 0 := by omega
        simp [loopAt, loopsOf, Tryz.f81, g0, g1, g5, hp, hk1]
        try omega)
      xs.length 0 s o q (by omega) hI)
    simp only [loopAt, loopsOf, Tryz.f81] at lp
    obtain ⟨r, hr⟩ : ∃ r, r = goSz f xs (l - xs.length) := ⟨_, rfl⟩
    obtain ⟨X, A, B, C, hx⟩ := lp r hr
    have hx' := fun s o q a0 a1 a5 => hx s o q ⟨l - xs.length, a0, a1, a5, by omega, by omega, by simpa using hr⟩
    clear hx
    by_cases hn : r < 0
    · have hn' : ¬ 0 ≤ r := by omega
      simp [hn, hn'] at hx'
      simp [hw, hb, hb0, hx', hn, ← hr]
    · have hn' : 0 ≤ r := by omega
      simp [hn, hn'] at hx'
      simp [hw, hb, hb0, hx', hn, ← hr]
theorem to_87 (xs : List Rd) (hl : xs.length < 4294967296) (hf : ∀ x ∈ xs, run E (.call 190 [.t (rdT x)]) = some (.res [.agg [.t (.str x.coll), .row 236 (x.filter.map clsT)]] [])) :
    run E (.call 87 [.t (.list (xs.map rdT))]) = some (.res [.row 151 (xs.map rdT)] []) := by
  rw [run_call E 87 _ rfl Tryz.func87 rfl rfl rfl (by simp)]
  have lp := sk (fun s o q hI => loop_for (c := loopAt Tryz.f87 0) (N := 23)
    (fun i s o q => s 0 = .t (.list (xs.map rdT)) ∧ s 3 = .row 0 ∧ s 4 = .t (.int .i64 i) ∧ 0 < q ∧ o 0 = .row 151 ((xs.map rdT).take i ++ List.replicate (xs.length - i) (.agg [.str [], .list []])) true)
    (fun e s' o' q' => e = .exit 0 ∧ s' 3 = .row 0 ∧ o' 0 = .row 151 (xs.map rdT) true) xs.length
    (by
      rintro i s o q hi ⟨g0, g3, g4, hq, ho⟩
      have hi' : (i : Int) < (xs.length : Int) := by omega
      have hwi := wrap_succ (n := i) (by omega)
      have hxi : xs[i]? = some xs[i] := List.getElem?_eq_getElem hi
      have hx := hf _ (List.getElem_mem hi)
      have hq0 : q ≠ 0 := by omega
      have h0q : 0 ≠ q := by omega
      have hget := mid_get (xs.map rdT) (.agg [.str [], .list []]) i xs.length hi (by simp; omega)
      have hset := mid_set (xs.map rdT) (.agg [.str [], .list []]) (rdT xs[i]) i xs.length hi (by simp [hxi])
      simp [loopAt, loopsOf, Tryz.f87, g0, g3, g4, hi', hxi, hwi, hx, ho, hget, hset, hq0, h0q]
      try omega)
    (by
      rintro s o q ⟨g0, g3, g4, hq, ho⟩
      have hfull : (xs.map rdT).take xs.length = xs.map rdT := List.take_of_length_le (by simp)
      simp [hfull] at ho
      simp [loopAt, loopsOf, Tryz.f87, g0, g3, g4, ho])
    xs.length 0 s o q (by omega) hI)
  simp only [loopAt, loopsOf, Tryz.f87] at lp
  obtain ⟨X, A, B, C, hx⟩ := lp
  simp at hx
  have h1 : xs.length ≤ 140737488355328 := by omega
  have h2 : xs.length * 40 ≤ 140737488355328 := by omega
  simp [h1, h2, hx]
theorem eq_94 (xs : List Rd) (hl : xs.length < 9223372036854775807) (hf : ∀ x ∈ xs, run E (.call 199 [.t (rdT x), .t (rdT x)]) = some (.res [xB true] [])) :
    run E (.call 94 [.t (.list (xs.map rdT)), .t (.list (xs.map rdT))]) = some (.res [xB true] []) := by
  rw [run_call E 94 _ rfl Tryz.func94 rfl rfl rfl (by simp)]
  have d6 := d94_6
  simp [regionOf, findR, pick, Tryz.f94] at d6
  have dd := fun st => run_region_draw E st 6 _ d6
  clear d6
  have lp := sk (fun s o q hI => loop_for (c := loopAt Tryz.f94 0) (N := 27)
    (fun i s o q => s 0 = .t (.list (xs.map rdT)) ∧ s 1 = .t (.list (xs.map rdT)) ∧ s 5 = .t (.int .i64 i))
    (fun e s' o' q' => e = .exit 0) xs.length
    (by
      rintro i s o q hi ⟨g0, g1, g5⟩
      have hi' : (i : Int) < (xs.length : Int) := by omega
      have hwi := wrap_succ (n := i) (by omega)
      have hxi : xs[i]? = some xs[i] := List.getElem?_eq_getElem hi
      have hx := hf _ (List.getElem_mem hi)
      simp [loopAt, loopsOf, Tryz.f94, dd, g0, g1, g5, hi', hxi, hwi, hx])
    (by
      rintro s o q ⟨g0, g1, g5⟩
      simp [loopAt, loopsOf, Tryz.f94, g0, g1, g5])
    xs.length 0 s o q (by omega) hI)
  simp only [loopAt, loopsOf, Tryz.f94] at lp
  obtain ⟨X, A, B, C, hx⟩ := lp
  simp at hx
  simp [hx]
theorem sz_82 (xs : List Wr) (f : Wr → Int → Int) (hl : xs.length < 9223372036854775807) (hf : ∀ x ∈ xs, ∀ l, 0 ≤ l → l ≤ 1048576 → run E (.call 188 [.t (wrT x), xI l]) = some (.res [xI (f x l)] [])) (hle : ∀ x ∈ xs, ∀ k, 0 ≤ k → f x k ≤ k) (l : Int) (h0 : 0 ≤ l) (hm : l ≤ 1048576) :
    run E (.call 82 [.t (.list (xs.map wrT)), xI l]) = some (.res [xI (lstSz f xs l)] []) := by
  rw [run_call E 82 _ rfl Tryz.func82 rfl rfl rfl (by simp)]
  have hw : IntKind.i64.wrap (l - (xs.length : Int)) = l - xs.length := wrap_of (by omega) (by omega)
  unfold lstSz szB
  by_cases hb : l - (xs.length : Int) < 0
  · simp [hw, hb]
  · have hb0 : ¬ l < (xs.length : Int) := by omega
    have lp := fun (r : Int) (hr : r = goSz f xs (l - xs.length)) => sk (fun s o q hI => loop_for (c := loopAt Tryz.f82 0) (N := 27)
      (fun i s o q => ∃ k : Int, s 0 = .t (.list (xs.map wrT)) ∧ s 1 = .t (.int .i64 k) ∧ s 5 = .t (.int .i64 i) ∧ 0 ≤ k ∧ k ≤ 1048576 ∧ r = goSz f (xs.drop i) k)
      (fun e s' o' q' => e = (if r < 0 then .ret else .exit 0) ∧ (r < 0 → s' 4 = .t (.int .i64 r)) ∧ (0 ≤ r → s' 1 = .t (.int .i64 r))) xs.length
      (by
        rintro i s o q hi ⟨k, g0, g1, g5, hk0, hkm, hp⟩
        have hi' : (i : Int) < (xs.length : Int) := by omega
        have hwi := wrap_succ (n := i) (by omega)
        have hxi : xs[i]? = some xs[i] := List.getElem?_eq_getElem hi
        have hx := hf _ (List.getElem_mem hi) k hk0 hkm
        have hxl := hle _ (List.getElem_mem hi) k hk0
        rw [List.drop_eq_getElem_cons hi, goSz] at hp
        by_cases hn : f xs[i] k < 0
        · simp [hn] at hp
          simp [loopAt, loopsOf, Tryz.f82, g0, g1, g5, hi', hxi, hwi, hx, hn, hp]
        · simp [hn] at hp
          simp [loopAt, loopsOf, Tryz.f82, g0, g1, g5, hi', hxi, hwi, hx, hn]
          exact ⟨by omega, by omega, hp⟩)
      (by
        rintro s o q ⟨k, g0, g1, g5, hk0, hkm, hp⟩
        simp [goSz] at hp
        have hn : ¬ r < 0 := by omega
        have hn' : 0 ≤ r := by omega
        have hk1 : ¬ k < 0 := by omega
        simp [loopAt, loopsOf, Tryz.f82, g0, g1, g5, hp, hk1]
        try omega)
      xs.length 0 s o q (by omega) hI)
    simp only [loopAt, loopsOf, Tryz.f82] at lp
    obtain ⟨r, hr⟩ : ∃ r, r = goSz f xs (l - xs.length) := ⟨_, rfl⟩
    obtain ⟨X, A, B, C, hx⟩ := lp r hr
    have hx' := fun s o q a0 a1 a5 => hx s o q ⟨l - xs.length, a0, a1, a5, by omega, by omega, by simpa using hr⟩
    clear hx
    by_cases hn : r < 0
    · have hn' : ¬ 0 ≤ r := by omega
      simp [hn, hn'] at hx'
      simp [hw, hb, hb0, hx', hn, ← hr]
    · have hn' : 0 ≤ r := by omega
      simp [hn, hn'] at hx'
      simp [hw, hb, hb0, hx', hn, ← hr]
theorem to_88 (xs : List Wr) (hl : xs.length < 4294967296) (hf : ∀ x ∈ xs, run E (.call 191 [.t (wrT x)]) = some (.res [.agg [.t (.str x.coll), .t (.int .i64 x.id), .t (.bool x.gone), .t (.int .i64 x.v.k), .t (.int .i64 x.v.n), .t (.str x.v.t)]] [])) :
    run E (.call 88 [.t (.list (xs.map wrT))]) = some (.res [.row 154 (xs.map wrT)] []) := by
  rw [run_call E 88 _ rfl Tryz.func88 rfl rfl rfl (by simp)]
  have lp := sk (fun s o q hI => loop_for (c := loopAt Tryz.f88 0) (N := 23)
    (fun i s o q => s 0 = .t (.list (xs.map wrT)) ∧ s 3 = .row 0 ∧ s 4 = .t (.int .i64 i) ∧ 0 < q ∧ o 0 = .row 154 ((xs.map wrT).take i ++ List.replicate (xs.length - i) (.agg [.str [], .int .i64 0, .bool false, .int .i64 0, .int .i64 0, .str []])) true)
    (fun e s' o' q' => e = .exit 0 ∧ s' 3 = .row 0 ∧ o' 0 = .row 154 (xs.map wrT) true) xs.length
    (by
      rintro i s o q hi ⟨g0, g3, g4, hq, ho⟩
      have hi' : (i : Int) < (xs.length : Int) := by omega
      have hwi := wrap_succ (n := i) (by omega)
      have hxi : xs[i]? = some xs[i] := List.getElem?_eq_getElem hi
      have hx := hf _ (List.getElem_mem hi)
      have hq0 : q ≠ 0 := by omega
      have h0q : 0 ≠ q := by omega
      have hget := mid_get (xs.map wrT) (.agg [.str [], .int .i64 0, .bool false, .int .i64 0, .int .i64 0, .str []]) i xs.length hi (by simp; omega)
      have hset := mid_set (xs.map wrT) (.agg [.str [], .int .i64 0, .bool false, .int .i64 0, .int .i64 0, .str []]) (wrT xs[i]) i xs.length hi (by simp [hxi])
      simp [loopAt, loopsOf, Tryz.f88, g0, g3, g4, hi', hxi, hwi, hx, ho, hget, hset, hq0, h0q]
      try omega)
    (by
      rintro s o q ⟨g0, g3, g4, hq, ho⟩
      have hfull : (xs.map wrT).take xs.length = xs.map wrT := List.take_of_length_le (by simp)
      simp [hfull] at ho
      simp [loopAt, loopsOf, Tryz.f88, g0, g3, g4, ho])
    xs.length 0 s o q (by omega) hI)
  simp only [loopAt, loopsOf, Tryz.f88] at lp
  obtain ⟨X, A, B, C, hx⟩ := lp
  simp at hx
  have h1 : xs.length ≤ 140737488355328 := by omega
  have h2 : xs.length * 64 ≤ 140737488355328 := by omega
  simp [h1, h2, hx]
theorem eq_95 (xs : List Wr) (hl : xs.length < 9223372036854775807) (hf : ∀ x ∈ xs, run E (.call 200 [.t (wrT x), .t (wrT x)]) = some (.res [xB true] [])) :
    run E (.call 95 [.t (.list (xs.map wrT)), .t (.list (xs.map wrT))]) = some (.res [xB true] []) := by
  rw [run_call E 95 _ rfl Tryz.func95 rfl rfl rfl (by simp)]
  have d6 := d95_6
  simp [regionOf, findR, pick, Tryz.f95] at d6
  have dd := fun st => run_region_draw E st 6 _ d6
  clear d6
  have lp := sk (fun s o q hI => loop_for (c := loopAt Tryz.f95 0) (N := 27)
    (fun i s o q => s 0 = .t (.list (xs.map wrT)) ∧ s 1 = .t (.list (xs.map wrT)) ∧ s 5 = .t (.int .i64 i))
    (fun e s' o' q' => e = .exit 0) xs.length
    (by
      rintro i s o q hi ⟨g0, g1, g5⟩
      have hi' : (i : Int) < (xs.length : Int) := by omega
      have hwi := wrap_succ (n := i) (by omega)
      have hxi : xs[i]? = some xs[i] := List.getElem?_eq_getElem hi
      have hx := hf _ (List.getElem_mem hi)
      simp [loopAt, loopsOf, Tryz.f95, dd, g0, g1, g5, hi', hxi, hwi, hx])
    (by
      rintro s o q ⟨g0, g1, g5⟩
      simp [loopAt, loopsOf, Tryz.f95, g0, g1, g5])
    xs.length 0 s o q (by omega) hI)
  simp only [loopAt, loopsOf, Tryz.f95] at lp
  obtain ⟨X, A, B, C, hx⟩ := lp
  simp at hx
  simp [hx]
theorem sz_96 (xs : List Chg) (f : Chg → Int → Int) (hl : xs.length < 9223372036854775807) (hf : ∀ x ∈ xs, ∀ l, 0 ≤ l → l ≤ 1048576 → run E (.call 201 [.t (chgT x), xI l]) = some (.res [xI (f x l)] [])) (hle : ∀ x ∈ xs, ∀ k, 0 ≤ k → f x k ≤ k) (l : Int) (h0 : 0 ≤ l) (hm : l ≤ 1048576) :
    run E (.call 96 [.t (.list (xs.map chgT)), xI l]) = some (.res [xI (lstSz f xs l)] []) := by
  rw [run_call E 96 _ rfl Tryz.func96 rfl rfl rfl (by simp)]
  have hw : IntKind.i64.wrap (l - (xs.length : Int)) = l - xs.length := wrap_of (by omega) (by omega)
  unfold lstSz szB
  by_cases hb : l - (xs.length : Int) < 0
  · simp [hw, hb]
  · have hb0 : ¬ l < (xs.length : Int) := by omega
    have lp := fun (r : Int) (hr : r = goSz f xs (l - xs.length)) => sk (fun s o q hI => loop_for (c := loopAt Tryz.f96 0) (N := 27)
      (fun i s o q => ∃ k : Int, s 0 = .t (.list (xs.map chgT)) ∧ s 1 = .t (.int .i64 k) ∧ s 5 = .t (.int .i64 i) ∧ 0 ≤ k ∧ k ≤ 1048576 ∧ r = goSz f (xs.drop i) k)
      (fun e s' o' q' => e = (if r < 0 then .ret else .exit 0) ∧ (r < 0 → s' 4 = .t (.int .i64 r)) ∧ (0 ≤ r → s' 1 = .t (.int .i64 r))) xs.length
      (by
        rintro i s o q hi ⟨k, g0, g1, g5, hk0, hkm, hp⟩
        have hi' : (i : Int) < (xs.length : Int) := by omega
        have hwi := wrap_succ (n := i) (by omega)
        have hxi : xs[i]? = some xs[i] := List.getElem?_eq_getElem hi
        have hx := hf _ (List.getElem_mem hi) k hk0 hkm
        have hxl := hle _ (List.getElem_mem hi) k hk0
        rw [List.drop_eq_getElem_cons hi, goSz] at hp
        by_cases hn : f xs[i] k < 0
        · simp [hn] at hp
          simp [loopAt, loopsOf, Tryz.f96, g0, g1, g5, hi', hxi, hwi, hx, hn, hp]
        · simp [hn] at hp
          simp [loopAt, loopsOf, Tryz.f96, g0, g1, g5, hi', hxi, hwi, hx, hn]
          exact ⟨by omega, by omega, hp⟩)
      (by
        rintro s o q ⟨k, g0, g1, g5, hk0, hkm, hp⟩
        simp [goSz] at hp
        have hn : ¬ r < 0 := by omega
        have hn' : 0 ≤ r := by omega
        have hk1 : ¬ k < 0 := by omega
        simp [loopAt, loopsOf, Tryz.f96, g0, g1, g5, hp, hk1]
        try omega)
      xs.length 0 s o q (by omega) hI)
    simp only [loopAt, loopsOf, Tryz.f96] at lp
    obtain ⟨r, hr⟩ : ∃ r, r = goSz f xs (l - xs.length) := ⟨_, rfl⟩
    obtain ⟨X, A, B, C, hx⟩ := lp r hr
    have hx' := fun s o q a0 a1 a5 => hx s o q ⟨l - xs.length, a0, a1, a5, by omega, by omega, by simpa using hr⟩
    clear hx
    by_cases hn : r < 0
    · have hn' : ¬ 0 ≤ r := by omega
      simp [hn, hn'] at hx'
      simp [hw, hb, hb0, hx', hn, ← hr]
    · have hn' : 0 ≤ r := by omega
      simp [hn, hn'] at hx'
      simp [hw, hb, hb0, hx', hn, ← hr]
theorem to_98 (xs : List Chg) (hl : xs.length < 4294967296) (hf : ∀ x ∈ xs, run E (.call 203 [.t (chgT x)]) = some (.res [.agg [.t (.str x.w.coll), .t (.int .i64 x.w.id), .t (.bool x.w.gone), .t (.int .i64 x.w.v.k), .t (.int .i64 x.w.v.n), .t (.str x.w.v.t), .t (.int .i64 x.before.k), .t (.int .i64 x.before.n), .t (.str x.before.t), .t (.bool x.was)]] [])) :
    run E (.call 98 [.t (.list (xs.map chgT))]) = some (.res [.row 167 (xs.map chgT)] []) := by
  rw [run_call E 98 _ rfl Tryz.func98 rfl rfl rfl (by simp)]
  have lp := sk (fun s o q hI => loop_for (c := loopAt Tryz.f98 0) (N := 23)
    (fun i s o q => s 0 = .t (.list (xs.map chgT)) ∧ s 3 = .row 0 ∧ s 4 = .t (.int .i64 i) ∧ 0 < q ∧ o 0 = .row 167 ((xs.map chgT).take i ++ List.replicate (xs.length - i) (.agg [.str [], .int .i64 0, .bool false, .int .i64 0, .int .i64 0, .str [], .int .i64 0, .int .i64 0, .str [], .bool false])) true)
    (fun e s' o' q' => e = .exit 0 ∧ s' 3 = .row 0 ∧ o' 0 = .row 167 (xs.map chgT) true) xs.length
    (by
      rintro i s o q hi ⟨g0, g3, g4, hq, ho⟩
      have hi' : (i : Int) < (xs.length : Int) := by omega
      have hwi := wrap_succ (n := i) (by omega)
      have hxi : xs[i]? = some xs[i] := List.getElem?_eq_getElem hi
      have hx := hf _ (List.getElem_mem hi)
      have hq0 : q ≠ 0 := by omega
      have h0q : 0 ≠ q := by omega
      have hget := mid_get (xs.map chgT) (.agg [.str [], .int .i64 0, .bool false, .int .i64 0, .int .i64 0, .str [], .int .i64 0, .int .i64 0, .str [], .bool false]) i xs.length hi (by simp; omega)
      have hset := mid_set (xs.map chgT) (.agg [.str [], .int .i64 0, .bool false, .int .i64 0, .int .i64 0, .str [], .int .i64 0, .int .i64 0, .str [], .bool false]) (chgT xs[i]) i xs.length hi (by simp [hxi])
      simp [loopAt, loopsOf, Tryz.f98, g0, g3, g4, hi', hxi, hwi, hx, ho, hget, hset, hq0, h0q]
      try omega)
    (by
      rintro s o q ⟨g0, g3, g4, hq, ho⟩
      have hfull : (xs.map chgT).take xs.length = xs.map chgT := List.take_of_length_le (by simp)
      simp [hfull] at ho
      simp [loopAt, loopsOf, Tryz.f98, g0, g3, g4, ho])
    xs.length 0 s o q (by omega) hI)
  simp only [loopAt, loopsOf, Tryz.f98] at lp
  obtain ⟨X, A, B, C, hx⟩ := lp
  simp at hx
  have h1 : xs.length ≤ 140737488355328 := by omega
  have h2 : xs.length * 104 ≤ 140737488355328 := by omega
  simp [h1, h2, hx]
theorem eq_104 (xs : List Chg) (hl : xs.length < 9223372036854775807) (hf : ∀ x ∈ xs, run E (.call 207 [.t (chgT x), .t (chgT x)]) = some (.res [xB true] [])) :
    run E (.call 104 [.t (.list (xs.map chgT)), .t (.list (xs.map chgT))]) = some (.res [xB true] []) := by
  rw [run_call E 104 _ rfl Tryz.func104 rfl rfl rfl (by simp)]
  have d6 := d104_6
  simp [regionOf, findR, pick, Tryz.f104] at d6
  have dd := fun st => run_region_draw E st 6 _ d6
  clear d6
  have lp := sk (fun s o q hI => loop_for (c := loopAt Tryz.f104 0) (N := 27)
    (fun i s o q => s 0 = .t (.list (xs.map chgT)) ∧ s 1 = .t (.list (xs.map chgT)) ∧ s 5 = .t (.int .i64 i))
    (fun e s' o' q' => e = .exit 0) xs.length
    (by
      rintro i s o q hi ⟨g0, g1, g5⟩
      have hi' : (i : Int) < (xs.length : Int) := by omega
      have hwi := wrap_succ (n := i) (by omega)
      have hxi : xs[i]? = some xs[i] := List.getElem?_eq_getElem hi
      have hx := hf _ (List.getElem_mem hi)
      simp [loopAt, loopsOf, Tryz.f104, dd, g0, g1, g5, hi', hxi, hwi, hx])
    (by
      rintro s o q ⟨g0, g1, g5⟩
      simp [loopAt, loopsOf, Tryz.f104, g0, g1, g5])
    xs.length 0 s o q (by omega) hI)
  simp only [loopAt, loopsOf, Tryz.f104] at lp
  obtain ⟨X, A, B, C, hx⟩ := lp
  simp at hx
  simp [hx]
end Go.Yd
/- The laws' own functions, part C (printed by genstr.py). -/
set_option linter.unusedSimpArgs false
set_option linter.unusedVariables false
namespace Go.Yd
open Go.Ev Go.Proofs Go.Pu
set_option maxRecDepth 100000
set_option maxHeartbeats 16000000
structure Dn.Wd (x : Dn) : Prop where
  reads : W x.reads.length ∧ ∀ y ∈ x.reads, y.Wd
  changes : W x.changes.length ∧ ∀ y ∈ x.changes, y.Wd
def szDn (x : Dn) : Int → Int := thenSz (lstSz szRd x.reads) (thenSz (lstSz szChg x.changes) (fun k => k))
theorem szDn_le (x : Dn) (k : Int) (h : 0 ≤ k) : szDn x k ≤ k := (fun k hk => thenSz_le hk (fun k hk => lstSz_le hk (fun y _ k hk => szRd_le y k hk)) (fun k hk => thenSz_le hk (fun k hk => lstSz_le hk (fun y _ k hk => szChg_le y k hk)) (fun k _ => Int.le_refl k))) k h
theorem szLDn (x : Dn) (h : x.Wd) (l : Int) (h0 : 0 ≤ l) (hm : l ≤ 1048576) : run E (.call 25 [.t (dnT x), xI l]) = some (.res [xI (szDn x l)] []) := by
  rw [run_call E 25 _ rfl Tryz.func25 rfl rfl rfl (by simp)]
  unfold szDn thenSz
  have g0 : 0 ≤ l := h0
  have m0 : l ≤ 1048576 := hm
  have e0 := sz_81 x.reads szRd (by have := h.reads.1; unfold W at this; omega) (fun y hy l h0 hm => szLRd y (h.reads.2 y hy) l h0 hm) (fun y _ k hk => szRd_le y k hk) (l) g0 m0
  have q0 := lstSz_le (f := szRd) (xs := x.reads) (l := l) g0 (fun y _ k hk => szRd_le y k hk)
  by_cases n0 : lstSz szRd x.reads (l) < 0
  · simp [e0, n0]
  · have g1 : 0 ≤ lstSz szRd x.reads (l) := by omega
    have m1 : lstSz szRd x.reads (l) ≤ 1048576 := by omega
    have e1 := sz_96 x.changes szChg (by have := h.changes.1; unfold W at this; omega) (fun y hy l h0 hm => szLChg y (h.changes.2 y hy) l h0 hm) (fun y _ k hk => szChg_le y k hk) (lstSz szRd x.reads (l)) g1 m1
    have q1 := lstSz_le (f := szChg) (xs := x.changes) (l := lstSz szRd x.reads (l)) g1 (fun y _ k hk => szChg_le y k hk)
    by_cases n1 : lstSz szChg x.changes (lstSz szRd x.reads (l)) < 0
    · simp [e0, n0, e1, n1]
    · have g2 : 0 ≤ lstSz szChg x.changes (lstSz szRd x.reads (l)) := by omega
      have m2 : lstSz szChg x.changes (lstSz szRd x.reads (l)) ≤ 1048576 := by omega
      simp [e0, n0, e1, n1]
theorem szDn_sm {x : Dn} {k : Int} (h0 : 0 ≤ k) (hm : k ≤ 1048576) (h : ¬ szDn x k < 0) : x.Sm := by
  obtain ⟨a0, b0⟩ := thenSz_neg h
  have c0 := lstSz_le (f := szRd) (xs := x.reads) (l := k) (by omega) (fun y _ k hk => szRd_le y k hk)
  obtain ⟨s0, t0⟩ := lstSz_all (P := fun y : Rd => y.Sm) (m := 1048576) (by omega) (by omega) (fun y _ k hk => szRd_le y k hk) (fun y _ k hk hm h => szRd_sm hk hm h) a0
  obtain ⟨a1, b1⟩ := thenSz_neg b0
  have c1 := lstSz_le (f := szChg) (xs := x.changes) (l := lstSz szRd x.reads (k)) (by omega) (fun y _ k hk => szChg_le y k hk)
  obtain ⟨s1, t1⟩ := lstSz_all (P := fun y : Chg => y.Sm) (m := 1048576) (by omega) (by omega) (fun y _ k hk => szChg_le y k hk) (fun y _ k hk hm h => szChg_sm hk hm h) a1
  exact ⟨⟨by omega, t0⟩, ⟨by omega, t1⟩⟩
theorem toDn (x : Dn) (h : x.Sm) : run E (.call 27 [.t (dnT x)]) = some (.res [.agg [.t (.int .i64 x.snap), .t (.int .i64 x.at_), .row 151 (x.reads.map rdT), .row 167 (x.changes.map chgT), .t (.bool x.inn), .t (.bool x.out)]] []) := by
  rw [run_call E 27 _ rfl Tryz.func27 rfl rfl rfl (by simp)]
  have t2 := to_87 x.reads h.reads.1 (fun y hy => toRd y (h.reads.2 y hy))
  have t3 := to_98 x.changes h.changes.1 (fun y hy => toChg y (h.changes.2 y hy))
  simp [t2, t3]
theorem eqDn (x : Dn) (h : x.Sm) : run E (.call 29 [.t (dnT x), .t (dnT x)]) = some (.res [xB true] []) := by
  rw [run_call E 29 _ rfl Tryz.func29 rfl rfl rfl (by simp)]
  have t2 := eq_94 x.reads (by have := h.reads.1; omega) (fun y hy => eqRd y (h.reads.2 y hy))
  have t3 := eq_104 x.changes (by have := h.changes.1; omega) (fun y hy => eqChg y (h.changes.2 y hy))
  simp [t2, t3]
structure Txn.Wd (x : Txn) : Prop where
  reads : W x.reads.length ∧ ∀ y ∈ x.reads, y.Wd
  writes : W x.writes.length ∧ ∀ y ∈ x.writes, y.Wd
def szTxn (x : Txn) : Int → Int := thenSz (lstSz szRd x.reads) (thenSz (lstSz szWr x.writes) (fun k => k))
theorem szTxn_le (x : Txn) (k : Int) (h : 0 ≤ k) : szTxn x k ≤ k := (fun k hk => thenSz_le hk (fun k hk => lstSz_le hk (fun y _ k hk => szRd_le y k hk)) (fun k hk => thenSz_le hk (fun k hk => lstSz_le hk (fun y _ k hk => szWr_le y k hk)) (fun k _ => Int.le_refl k))) k h
theorem szLTxn (x : Txn) (h : x.Wd) (l : Int) (h0 : 0 ≤ l) (hm : l ≤ 1048576) : run E (.call 20 [.t (txnT x), xI l]) = some (.res [xI (szTxn x l)] []) := by
  rw [run_call E 20 _ rfl Tryz.func20 rfl rfl rfl (by simp)]
  unfold szTxn thenSz
  have g0 : 0 ≤ l := h0
  have m0 : l ≤ 1048576 := hm
  have e0 := sz_81 x.reads szRd (by have := h.reads.1; unfold W at this; omega) (fun y hy l h0 hm => szLRd y (h.reads.2 y hy) l h0 hm) (fun y _ k hk => szRd_le y k hk) (l) g0 m0
  have q0 := lstSz_le (f := szRd) (xs := x.reads) (l := l) g0 (fun y _ k hk => szRd_le y k hk)
  by_cases n0 : lstSz szRd x.reads (l) < 0
  · simp [e0, n0]
  · have g1 : 0 ≤ lstSz szRd x.reads (l) := by omega
    have m1 : lstSz szRd x.reads (l) ≤ 1048576 := by omega
    have e1 := sz_82 x.writes szWr (by have := h.writes.1; unfold W at this; omega) (fun y hy l h0 hm => szLWr y (h.writes.2 y hy) l h0 hm) (fun y _ k hk => szWr_le y k hk) (lstSz szRd x.reads (l)) g1 m1
    have q1 := lstSz_le (f := szWr) (xs := x.writes) (l := lstSz szRd x.reads (l)) g1 (fun y _ k hk => szWr_le y k hk)
    by_cases n1 : lstSz szWr x.writes (lstSz szRd x.reads (l)) < 0
    · simp [e0, n0, e1, n1]
    · have g2 : 0 ≤ lstSz szWr x.writes (lstSz szRd x.reads (l)) := by omega
      have m2 : lstSz szWr x.writes (lstSz szRd x.reads (l)) ≤ 1048576 := by omega
      simp [e0, n0, e1, n1]
theorem szTxn_sm {x : Txn} {k : Int} (h0 : 0 ≤ k) (hm : k ≤ 1048576) (h : ¬ szTxn x k < 0) : x.Sm := by
  obtain ⟨a0, b0⟩ := thenSz_neg h
  have c0 := lstSz_le (f := szRd) (xs := x.reads) (l := k) (by omega) (fun y _ k hk => szRd_le y k hk)
  obtain ⟨s0, t0⟩ := lstSz_all (P := fun y : Rd => y.Sm) (m := 1048576) (by omega) (by omega) (fun y _ k hk => szRd_le y k hk) (fun y _ k hk hm h => szRd_sm hk hm h) a0
  obtain ⟨a1, b1⟩ := thenSz_neg b0
  have c1 := lstSz_le (f := szWr) (xs := x.writes) (l := lstSz szRd x.reads (k)) (by omega) (fun y _ k hk => szWr_le y k hk)
  obtain ⟨s1, t1⟩ := lstSz_all (P := fun y : Wr => y.Sm) (m := 1048576) (by omega) (by omega) (fun y _ k hk => szWr_le y k hk) (fun y _ k hk hm h => szWr_sm hk hm h) a1
  exact ⟨⟨by omega, t0⟩, ⟨by omega, t1⟩⟩
theorem toTxn (x : Txn) (h : x.Sm) : run E (.call 22 [.t (txnT x)]) = some (.res [.agg [.t (.int .i64 x.session), .t (.int .i64 x.snap), .row 151 (x.reads.map rdT), .row 154 (x.writes.map wrT)]] []) := by
  rw [run_call E 22 _ rfl Tryz.func22 rfl rfl rfl (by simp)]
  have t2 := to_87 x.reads h.reads.1 (fun y hy => toRd y (h.reads.2 y hy))
  have t3 := to_88 x.writes h.writes.1 (fun y hy => toWr y (h.writes.2 y hy))
  simp [t2, t3]
theorem eqTxn (x : Txn) (h : x.Sm) : run E (.call 24 [.t (txnT x), .t (txnT x)]) = some (.res [xB true] []) := by
  rw [run_call E 24 _ rfl Tryz.func24 rfl rfl rfl (by simp)]
  have t2 := eq_94 x.reads (by have := h.reads.1; omega) (fun y hy => eqRd y (h.reads.2 y hy))
  have t3 := eq_95 x.writes (by have := h.writes.1; omega) (fun y hy => eqWr y (h.writes.2 y hy))
  simp [t2, t3]
end Go.Yd
/- The laws' own functions, part D (printed by genstr.py). -/
set_option linter.unusedSimpArgs false
set_option linter.unusedVariables false
namespace Go.Yd
open Go.Ev Go.Proofs Go.Pu
set_option maxRecDepth 100000
set_option maxHeartbeats 16000000
theorem sz_123 (xs : List Col) (f : Col → Int → Int) (hl : xs.length < 9223372036854775807) (hf : ∀ x ∈ xs, ∀ l, 0 ≤ l → l ≤ 1048576 → run E (.call 227 [.t (colT x), xI l]) = some (.res [xI (f x l)] [])) (hle : ∀ x ∈ xs, ∀ k, 0 ≤ k → f x k ≤ k) (l : Int) (h0 : 0 ≤ l) (hm : l ≤ 1048576) :
    run E (.call 123 [.t (.list (xs.map colT)), xI l]) = some (.res [xI (lstSz f xs l)] []) := by
  rw [run_call E 123 _ rfl Tryz.func123 rfl rfl rfl (by simp)]
  have hw : IntKind.i64.wrap (l - (xs.length : Int)) = l - xs.length := wrap_of (by omega) (by omega)
  unfold lstSz szB
  by_cases hb : l - (xs.length : Int) < 0
  · simp [hw, hb]
  · have hb0 : ¬ l < (xs.length : Int) := by omega
    have lp := fun (r : Int) (hr : r = goSz f xs (l - xs.length)) => sk (fun s o q hI => loop_for (c := loopAt Tryz.f123 0) (N := 27)
      (fun i s o q => ∃ k : Int, s 0 = .t (.list (xs.map colT)) ∧ s 1 = .t (.int .i64 k) ∧ s 5 = .t (.int .i64 i) ∧ 0 ≤ k ∧ k ≤ 1048576 ∧ r = goSz f (xs.drop i) k)
      (fun e s' o' q' => e = (if r < 0 then .ret else .exit 0) ∧ (r < 0 → s' 4 = .t (.int .i64 r)) ∧ (0 ≤ r → s' 1 = .t (.int .i64 r))) xs.length
      (by
        rintro i s o q hi ⟨k, g0, g1, g5, hk0, hkm, hp⟩
        have hi' : (i : Int) < (xs.length : Int) := by omega
        have hwi := wrap_succ (n := i) (by omega)
        have hxi : xs[i]? = some xs[i] := List.getElem?_eq_getElem hi
        have hx := hf _ (List.getElem_mem hi) k hk0 hkm
        have hxl := hle _ (List.getElem_mem hi) k hk0
        rw [List.drop_eq_getElem_cons hi, goSz] at hp
        by_cases hn : f xs[i] k < 0
        · simp [hn] at hp
          simp [loopAt, loopsOf, Tryz.f123, g0, g1, g5, hi', hxi, hwi, hx, hn, hp]
        · simp [hn] at hp
          simp [loopAt, loopsOf, Tryz.f123, g0, g1, g5, hi', hxi, hwi, hx, hn]
          exact ⟨by omega, by omega, hp⟩)
      (by
        rintro s o q ⟨k, g0, g1, g5, hk0, hkm, hp⟩
        simp [goSz] at hp
        have hn : ¬ r < 0 := by omega
        have hn' : 0 ≤ r := by omega
        have hk1 : ¬ k < 0 := by omega
        simp [loopAt, loopsOf, Tryz.f123, g0, g1, g5, hp, hk1]
        try omega)
      xs.length 0 s o q (by omega) hI)
    simp only [loopAt, loopsOf, Tryz.f123] at lp
    obtain ⟨r, hr⟩ : ∃ r, r = goSz f xs (l - xs.length) := ⟨_, rfl⟩
    obtain ⟨X, A, B, C, hx⟩ := lp r hr
    have hx' := fun s o q a0 a1 a5 => hx s o q ⟨l - xs.length, a0, a1, a5, by omega, by omega, by simpa using hr⟩
    clear hx
    by_cases hn : r < 0
    · have hn' : ¬ 0 ≤ r := by omega
      simp [hn, hn'] at hx'
      simp [hw, hb, hb0, hx', hn, ← hr]
    · have hn' : 0 ≤ r := by omega
      simp [hn, hn'] at hx'
      simp [hw, hb, hb0, hx', hn, ← hr]
theorem to_128 (xs : List Col) (hl : xs.length < 4294967296) (hf : ∀ x ∈ xs, run E (.call 229 [.t (colT x)]) = some (.res [.agg [.t (.str x.name), .row 198 (x.chains.map chnT), .row 79 (x.defs.map dfnT)]] [])) :
    run E (.call 128 [.t (.list (xs.map colT))]) = some (.res [.row 195 (xs.map colT)] []) := by
  rw [run_call E 128 _ rfl Tryz.func128 rfl rfl rfl (by simp)]
  have lp := sk (fun s o q hI => loop_for (c := loopAt Tryz.f128 0) (N := 23)
    (fun i s o q => s 0 = .t (.list (xs.map colT)) ∧ s 3 = .row 0 ∧ s 4 = .t (.int .i64 i) ∧ 0 < q ∧ o 0 = .row 195 ((xs.map colT).take i ++ List.replicate (xs.length - i) (.agg [.str [], .list [], .list []])) true)
    (fun e s' o' q' => e = .exit 0 ∧ s' 3 = .row 0 ∧ o' 0 = .row 195 (xs.map colT) true) xs.length
    (by
      rintro i s o q hi ⟨g0, g3, g4, hq, ho⟩
      have hi' : (i : Int) < (xs.length : Int) := by omega
      have hwi := wrap_succ (n := i) (by omega)
      have hxi : xs[i]? = some xs[i] := List.getElem?_eq_getElem hi
      have hx := hf _ (List.getElem_mem hi)
      have hq0 : q ≠ 0 := by omega
      have h0q : 0 ≠ q := by omega
      have hget := mid_get (xs.map colT) (.agg [.str [], .list [], .list []]) i xs.length hi (by simp; omega)
      have hset := mid_set (xs.map colT) (.agg [.str [], .list [], .list []]) (colT xs[i]) i xs.length hi (by simp [hxi])
      simp [loopAt, loopsOf, Tryz.f128, g0, g3, g4, hi', hxi, hwi, hx, ho, hget, hset, hq0, h0q]
      try omega)
    (by
      rintro s o q ⟨g0, g3, g4, hq, ho⟩
      have hfull : (xs.map colT).take xs.length = xs.map colT := List.take_of_length_le (by simp)
      simp [hfull] at ho
      simp [loopAt, loopsOf, Tryz.f128, g0, g3, g4, ho])
    xs.length 0 s o q (by omega) hI)
  simp only [loopAt, loopsOf, Tryz.f128] at lp
  obtain ⟨X, A, B, C, hx⟩ := lp
  simp at hx
  have h1 : xs.length ≤ 140737488355328 := by omega
  have h2 : xs.length * 64 ≤ 140737488355328 := by omega
  simp [h1, h2, hx]
theorem eq_135 (xs : List Col) (hl : xs.length < 9223372036854775807) (hf : ∀ x ∈ xs, run E (.call 235 [.t (colT x), .t (colT x)]) = some (.res [xB true] [])) :
    run E (.call 135 [.t (.list (xs.map colT)), .t (.list (xs.map colT))]) = some (.res [xB true] []) := by
  rw [run_call E 135 _ rfl Tryz.func135 rfl rfl rfl (by simp)]
  have d6 := d135_6
  simp [regionOf, findR, pick, Tryz.f135] at d6
  have dd := fun st => run_region_draw E st 6 _ d6
  clear d6
  have lp := sk (fun s o q hI => loop_for (c := loopAt Tryz.f135 0) (N := 27)
    (fun i s o q => s 0 = .t (.list (xs.map colT)) ∧ s 1 = .t (.list (xs.map colT)) ∧ s 5 = .t (.int .i64 i))
    (fun e s' o' q' => e = .exit 0) xs.length
    (by
      rintro i s o q hi ⟨g0, g1, g5⟩
      have hi' : (i : Int) < (xs.length : Int) := by omega
      have hwi := wrap_succ (n := i) (by omega)
      have hxi : xs[i]? = some xs[i] := List.getElem?_eq_getElem hi
      have hx := hf _ (List.getElem_mem hi)
      simp [loopAt, loopsOf, Tryz.f135, dd, g0, g1, g5, hi', hxi, hwi, hx])
    (by
      rintro s o q ⟨g0, g1, g5⟩
      simp [loopAt, loopsOf, Tryz.f135, g0, g1, g5])
    xs.length 0 s o q (by omega) hI)
  simp only [loopAt, loopsOf, Tryz.f135] at lp
  obtain ⟨X, A, B, C, hx⟩ := lp
  simp at hx
  simp [hx]
theorem sz_124 (xs : List Txn) (f : Txn → Int → Int) (hl : xs.length < 9223372036854775807) (hf : ∀ x ∈ xs, ∀ l, 0 ≤ l → l ≤ 1048576 → run E (.call 20 [.t (txnT x), xI l]) = some (.res [xI (f x l)] [])) (hle : ∀ x ∈ xs, ∀ k, 0 ≤ k → f x k ≤ k) (l : Int) (h0 : 0 ≤ l) (hm : l ≤ 1048576) :
    run E (.call 124 [.t (.list (xs.map txnT)), xI l]) = some (.res [xI (lstSz f xs l)] []) := by
  rw [run_call E 124 _ rfl Tryz.func124 rfl rfl rfl (by simp)]
  have hw : IntKind.i64.wrap (l - (xs.length : Int)) = l - xs.length := wrap_of (by omega) (by omega)
  unfold lstSz szB
  by_cases hb : l - (xs.length : Int) < 0
  · simp [hw, hb]
  · have hb0 : ¬ l < (xs.length : Int) := by omega
    have lp := fun (r : Int) (hr : r = goSz f xs (l - xs.length)) => sk (fun s o q hI => loop_for (c := loopAt Tryz.f124 0) (N := 27)
      (fun i s o q => ∃ k : Int, s 0 = .t (.list (xs.map txnT)) ∧ s 1 = .t (.int .i64 k) ∧ s 5 = .t (.int .i64 i) ∧ 0 ≤ k ∧ k ≤ 1048576 ∧ r = goSz f (xs.drop i) k)
      (fun e s' o' q' => e = (if r < 0 then .ret else .exit 0) ∧ (r < 0 → s' 4 = .t (.int .i64 r)) ∧ (0 ≤ r → s' 1 = .t (.int .i64 r))) xs.length
      (by
        rintro i s o q hi ⟨k, g0, g1, g5, hk0, hkm, hp⟩
        have hi' : (i : Int) < (xs.length : Int) := by omega
        have hwi := wrap_succ (n := i) (by omega)
        have hxi : xs[i]? = some xs[i] := List.getElem?_eq_getElem hi
        have hx := hf _ (List.getElem_mem hi) k hk0 hkm
        have hxl := hle _ (List.getElem_mem hi) k hk0
        rw [List.drop_eq_getElem_cons hi, goSz] at hp
        by_cases hn : f xs[i] k < 0
        · simp [hn] at hp
          simp [loopAt, loopsOf, Tryz.f124, g0, g1, g5, hi', hxi, hwi, hx, hn, hp]
        · simp [hn] at hp
          simp [loopAt, loopsOf, Tryz.f124, g0, g1, g5, hi', hxi, hwi, hx, hn]
          exact ⟨by omega, by omega, hp⟩)
      (by
        rintro s o q ⟨k, g0, g1, g5, hk0, hkm, hp⟩
        simp [goSz] at hp
        have hn : ¬ r < 0 := by omega
        have hn' : 0 ≤ r := by omega
        have hk1 : ¬ k < 0 := by omega
        simp [loopAt, loopsOf, Tryz.f124, g0, g1, g5, hp, hk1]
        try omega)
      xs.length 0 s o q (by omega) hI)
    simp only [loopAt, loopsOf, Tryz.f124] at lp
    obtain ⟨r, hr⟩ : ∃ r, r = goSz f xs (l - xs.length) := ⟨_, rfl⟩
    obtain ⟨X, A, B, C, hx⟩ := lp r hr
    have hx' := fun s o q a0 a1 a5 => hx s o q ⟨l - xs.length, a0, a1, a5, by omega, by omega, by simpa using hr⟩
    clear hx
    by_cases hn : r < 0
    · have hn' : ¬ 0 ≤ r := by omega
      simp [hn, hn'] at hx'
      simp [hw, hb, hb0, hx', hn, ← hr]
    · have hn' : 0 ≤ r := by omega
      simp [hn, hn'] at hx'
      simp [hw, hb, hb0, hx', hn, ← hr]
theorem to_129 (xs : List Txn) (hl : xs.length < 4294967296) (hf : ∀ x ∈ xs, run E (.call 22 [.t (txnT x)]) = some (.res [.agg [.t (.int .i64 x.session), .t (.int .i64 x.snap), .row 151 (x.reads.map rdT), .row 154 (x.writes.map wrT)]] [])) :
    run E (.call 129 [.t (.list (xs.map txnT))]) = some (.res [.row 48 (xs.map txnT)] []) := by
  rw [run_call E 129 _ rfl Tryz.func129 rfl rfl rfl (by simp)]
  have lp := sk (fun s o q hI => loop_for (c := loopAt Tryz.f129 0) (N := 23)
    (fun i s o q => s 0 = .t (.list (xs.map txnT)) ∧ s 3 = .row 0 ∧ s 4 = .t (.int .i64 i) ∧ 0 < q ∧ o 0 = .row 48 ((xs.map txnT).take i ++ List.replicate (xs.length - i) (.agg [.int .i64 0, .int .i64 0, .list [], .list []])) true)
    (fun e s' o' q' => e = .exit 0 ∧ s' 3 = .row 0 ∧ o' 0 = .row 48 (xs.map txnT) true) xs.length
    (by
      rintro i s o q hi ⟨g0, g3, g4, hq, ho⟩
      have hi' : (i : Int) < (xs.length : Int) := by omega
      have hwi := wrap_succ (n := i) (by omega)
      have hxi : xs[i]? = some xs[i] := List.getElem?_eq_getElem hi
      have hx := hf _ (List.getElem_mem hi)
      have hq0 : q ≠ 0 := by omega
      have h0q : 0 ≠ q := by omega
      have hget := mid_get (xs.map txnT) (.agg [.int .i64 0, .int .i64 0, .list [], .list []]) i xs.length hi (by simp; omega)
      have hset := mid_set (xs.map txnT) (.agg [.int .i64 0, .int .i64 0, .list [], .list []]) (txnT xs[i]) i xs.length hi (by simp [hxi])
      simp [loopAt, loopsOf, Tryz.f129, g0, g3, g4, hi', hxi, hwi, hx, ho, hget, hset, hq0, h0q]
      try omega)
    (by
      rintro s o q ⟨g0, g3, g4, hq, ho⟩
      have hfull : (xs.map txnT).take xs.length = xs.map txnT := List.take_of_length_le (by simp)
      simp [hfull] at ho
      simp [loopAt, loopsOf, Tryz.f129, g0, g3, g4, ho])
    xs.length 0 s o q (by omega) hI)
  simp only [loopAt, loopsOf, Tryz.f129] at lp
  obtain ⟨X, A, B, C, hx⟩ := lp
  simp at hx
  have h1 : xs.length ≤ 140737488355328 := by omega
  have h2 : xs.length * 64 ≤ 140737488355328 := by omega
  simp [h1, h2, hx]
theorem eq_136 (xs : List Txn) (hl : xs.length < 9223372036854775807) (hf : ∀ x ∈ xs, run E (.call 24 [.t (txnT x), .t (txnT x)]) = some (.res [xB true] [])) :
    run E (.call 136 [.t (.list (xs.map txnT)), .t (.list (xs.map txnT))]) = some (.res [xB true] []) := by
  rw [run_call E 136 _ rfl Tryz.func136 rfl rfl rfl (by simp)]
  have d6 := d136_6
  simp [regionOf, findR, pick, Tryz.f136] at d6
  have dd := fun st => run_region_draw E st 6 _ d6
  clear d6
  have lp := sk (fun s o q hI => loop_for (c := loopAt Tryz.f136 0) (N := 27)
    (fun i s o q => s 0 = .t (.list (xs.map txnT)) ∧ s 1 = .t (.list (xs.map txnT)) ∧ s 5 = .t (.int .i64 i))
    (fun e s' o' q' => e = .exit 0) xs.length
    (by
      rintro i s o q hi ⟨g0, g1, g5⟩
      have hi' : (i : Int) < (xs.length : Int) := by omega
      have hwi := wrap_succ (n := i) (by omega)
      have hxi : xs[i]? = some xs[i] := List.getElem?_eq_getElem hi
      have hx := hf _ (List.getElem_mem hi)
      simp [loopAt, loopsOf, Tryz.f136, dd, g0, g1, g5, hi', hxi, hwi, hx])
    (by
      rintro s o q ⟨g0, g1, g5⟩
      simp [loopAt, loopsOf, Tryz.f136, g0, g1, g5])
    xs.length 0 s o q (by omega) hI)
  simp only [loopAt, loopsOf, Tryz.f136] at lp
  obtain ⟨X, A, B, C, hx⟩ := lp
  simp at hx
  simp [hx]
theorem sz_40 (xs : List Dn) (f : Dn → Int → Int) (hl : xs.length < 9223372036854775807) (hf : ∀ x ∈ xs, ∀ l, 0 ≤ l → l ≤ 1048576 → run E (.call 25 [.t (dnT x), xI l]) = some (.res [xI (f x l)] [])) (hle : ∀ x ∈ xs, ∀ k, 0 ≤ k → f x k ≤ k) (l : Int) (h0 : 0 ≤ l) (hm : l ≤ 1048576) :
    run E (.call 40 [.t (.list (xs.map dnT)), xI l]) = some (.res [xI (lstSz f xs l)] []) := by
  rw [run_call E 40 _ rfl Tryz.func40 rfl rfl rfl (by simp)]
  have hw : IntKind.i64.wrap (l - (xs.length : Int)) = l - xs.length := wrap_of (by omega) (by omega)
  unfold lstSz szB
  by_cases hb : l - (xs.length : Int) < 0
  · simp [hw, hb]
  · have hb0 : ¬ l < (xs.length : Int) := by omega
    have lp := fun (r : Int) (hr : r = goSz f xs (l - xs.length)) => sk (fun s o q hI => loop_for (c := loopAt Tryz.f40 0) (N := 27)
      (fun i s o q => ∃ k : Int, s 0 = .t (.list (xs.map dnT)) ∧ s 1 = .t (.int .i64 k) ∧ s 5 = .t (.int .i64 i) ∧ 0 ≤ k ∧ k ≤ 1048576 ∧ r = goSz f (xs.drop i) k)
      (fun e s' o' q' => e = (if r < 0 then .ret else .exit 0) ∧ (r < 0 → s' 4 = .t (.int .i64 r)) ∧ (0 ≤ r → s' 1 = .t (.int .i64 r))) xs.length
      (by
        rintro i s o q hi ⟨k, g0, g1, g5, hk0, hkm, hp⟩
        have hi' : (i : Int) < (xs.length : Int) := by omega
        have hwi := wrap_succ (n := i) (by omega)
        have hxi : xs[i]? = some xs[i] := List.getElem?_eq_getElem hi
        have hx := hf _ (List.getElem_mem hi) k hk0 hkm
        have hxl := hle _ (List.getElem_mem hi) k hk0
        rw [List.drop_eq_getElem_cons hi, goSz] at hp
        by_cases hn : f xs[i] k < 0
        · simp [hn] at hp
          simp [loopAt, loopsOf, Tryz.f40, g0, g1, g5, hi', hxi, hwi, hx, hn, hp]
        · simp [hn] at hp
          simp [loopAt, loopsOf, Tryz.f40, g0, g1, g5, hi', hxi, hwi, hx, hn]
          exact ⟨by omega, by omega, hp⟩)
      (by
        rintro s o q ⟨k, g0, g1, g5, hk0, hkm, hp⟩
        simp [goSz] at hp
        have hn : ¬ r < 0 := by omega
        have hn' : 0 ≤ r := by omega
        have hk1 : ¬ k < 0 := by omega
        simp [loopAt, loopsOf, Tryz.f40, g0, g1, g5, hp, hk1]
        try omega)
      xs.length 0 s o q (by omega) hI)
    simp only [loopAt, loopsOf, Tryz.f40] at lp
    obtain ⟨r, hr⟩ : ∃ r, r = goSz f xs (l - xs.length) := ⟨_, rfl⟩
    obtain ⟨X, A, B, C, hx⟩ := lp r hr
    have hx' := fun s o q a0 a1 a5 => hx s o q ⟨l - xs.length, a0, a1, a5, by omega, by omega, by simpa using hr⟩
    clear hx
    by_cases hn : r < 0
    · have hn' : ¬ 0 ≤ r := by omega
      simp [hn, hn'] at hx'
      simp [hw, hb, hb0, hx', hn, ← hr]
    · have hn' : 0 ≤ r := by omega
      simp [hn, hn'] at hx'
      simp [hw, hb, hb0, hx', hn, ← hr]
theorem to_42 (xs : List Dn) (hl : xs.length < 4294967296) (hf : ∀ x ∈ xs, run E (.call 27 [.t (dnT x)]) = some (.res [.agg [.t (.int .i64 x.snap), .t (.int .i64 x.at_), .row 151 (x.reads.map rdT), .row 167 (x.changes.map chgT), .t (.bool x.inn), .t (.bool x.out)]] [])) :
    run E (.call 42 [.t (.list (xs.map dnT))]) = some (.res [.row 59 (xs.map dnT)] []) := by
  rw [run_call E 42 _ rfl Tryz.func42 rfl rfl rfl (by simp)]
  have lp := sk (fun s o q hI => loop_for (c := loopAt Tryz.f42 0) (N := 23)
    (fun i s o q => s 0 = .t (.list (xs.map dnT)) ∧ s 3 = .row 0 ∧ s 4 = .t (.int .i64 i) ∧ 0 < q ∧ o 0 = .row 59 ((xs.map dnT).take i ++ List.replicate (xs.length - i) (.agg [.int .i64 0, .int .i64 0, .list [], .list [], .bool false, .bool false])) true)
    (fun e s' o' q' => e = .exit 0 ∧ s' 3 = .row 0 ∧ o' 0 = .row 59 (xs.map dnT) true) xs.length
    (by
      rintro i s o q hi ⟨g0, g3, g4, hq, ho⟩
      have hi' : (i : Int) < (xs.length : Int) := by omega
      have hwi := wrap_succ (n := i) (by omega)
      have hxi : xs[i]? = some xs[i] := List.getElem?_eq_getElem hi
      have hx := hf _ (List.getElem_mem hi)
      have hq0 : q ≠ 0 := by omega
      have h0q : 0 ≠ q := by omega
      have hget := mid_get (xs.map dnT) (.agg [.int .i64 0, .int .i64 0, .list [], .list [], .bool false, .bool false]) i xs.length hi (by simp; omega)
      have hset := mid_set (xs.map dnT) (.agg [.int .i64 0, .int .i64 0, .list [], .list [], .bool false, .bool false]) (dnT xs[i]) i xs.length hi (by simp [hxi])
      simp [loopAt, loopsOf, Tryz.f42, g0, g3, g4, hi', hxi, hwi, hx, ho, hget, hset, hq0, h0q]
      try omega)
    (by
      rintro s o q ⟨g0, g3, g4, hq, ho⟩
      have hfull : (xs.map dnT).take xs.length = xs.map dnT := List.take_of_length_le (by simp)
      simp [hfull] at ho
      simp [loopAt, loopsOf, Tryz.f42, g0, g3, g4, ho])
    xs.length 0 s o q (by omega) hI)
  simp only [loopAt, loopsOf, Tryz.f42] at lp
  obtain ⟨X, A, B, C, hx⟩ := lp
  simp at hx
  have h1 : xs.length ≤ 140737488355328 := by omega
  have h2 : xs.length * 72 ≤ 140737488355328 := by omega
  simp [h1, h2, hx]
theorem eq_45 (xs : List Dn) (hl : xs.length < 9223372036854775807) (hf : ∀ x ∈ xs, run E (.call 29 [.t (dnT x), .t (dnT x)]) = some (.res [xB true] [])) :
    run E (.call 45 [.t (.list (xs.map dnT)), .t (.list (xs.map dnT))]) = some (.res [xB true] []) := by
  rw [run_call E 45 _ rfl Tryz.func45 rfl rfl rfl (by simp)]
  have d6 := d45_6
  simp [regionOf, findR, pick, Tryz.f45] at d6
  have dd := fun st => run_region_draw E st 6 _ d6
  clear d6
  have lp := sk (fun s o q hI => loop_for (c := loopAt Tryz.f45 0) (N := 27)
    (fun i s o q => s 0 = .t (.list (xs.map dnT)) ∧ s 1 = .t (.list (xs.map dnT)) ∧ s 5 = .t (.int .i64 i))
    (fun e s' o' q' => e = .exit 0) xs.length
    (by
      rintro i s o q hi ⟨g0, g1, g5⟩
      have hi' : (i : Int) < (xs.length : Int) := by omega
      have hwi := wrap_succ (n := i) (by omega)
      have hxi : xs[i]? = some xs[i] := List.getElem?_eq_getElem hi
      have hx := hf _ (List.getElem_mem hi)
      simp [loopAt, loopsOf, Tryz.f45, dd, g0, g1, g5, hi', hxi, hwi, hx])
    (by
      rintro s o q ⟨g0, g1, g5⟩
      simp [loopAt, loopsOf, Tryz.f45, g0, g1, g5])
    xs.length 0 s o q (by omega) hI)
  simp only [loopAt, loopsOf, Tryz.f45] at lp
  obtain ⟨X, A, B, C, hx⟩ := lp
  simp at hx
  simp [hx]
end Go.Yd
/- The laws' own functions, part E (printed by genstr.py). -/
set_option linter.unusedSimpArgs false
set_option linter.unusedVariables false
namespace Go.Yd
open Go.Ev Go.Proofs Go.Pu
set_option maxRecDepth 100000
set_option maxHeartbeats 16000000
structure Cmd.Wd (x : Cmd) : Prop where
  coll : W x.coll.length
  doc : W x.doc.t.length
  q : x.q.Wd
  ups : W x.ups.length ∧ ∀ y ∈ x.ups, y.wd
  d : x.d.Wd
def szCmd (x : Cmd) : Int → Int := thenSz (szB x.coll.length) (thenSz (szVal x.doc) (thenSz (szQry x.q) (thenSz (lstSz szTrm x.ups) (thenSz (szDfn x.d) (fun k => k)))))
structure Sto.Wd (x : Sto) : Prop where
  colls : W x.colls.length ∧ ∀ y ∈ x.colls, y.Wd
  txns : W x.txns.length ∧ ∀ y ∈ x.txns, y.Wd
  done : W x.done.length ∧ ∀ y ∈ x.done, y.Wd
def szSto (x : Sto) : Int → Int := thenSz (lstSz szCol x.colls) (thenSz (lstSz szTxn x.txns) (thenSz (lstSz szDn x.done) (fun k => k)))
theorem szLSto (x : Sto) (h : x.Wd) (l : Int) (h0 : 0 ≤ l) (hm : l ≤ 1048576) : run E (.call 35 [.t (stoT x), xI l]) = some (.res [xI (szSto x l)] []) := by
  rw [run_call E 35 _ rfl Tryz.func35 rfl rfl rfl (by simp)]
  unfold szSto thenSz
  have g0 : 0 ≤ l := h0
  have m0 : l ≤ 1048576 := hm
  have e0 := sz_123 x.colls szCol (by have := h.colls.1; unfold W at this; omega) (fun y hy l h0 hm => szColl y (h.colls.2 y hy) l h0 hm) (fun y _ k hk => szCol_le y k hk) (l) g0 m0
  have q0 := lstSz_le (f := szCol) (xs := x.colls) (l := l) g0 (fun y _ k hk => szCol_le y k hk)
  by_cases n0 : lstSz szCol x.colls (l) < 0
  · simp [e0, n0]
  · have g1 : 0 ≤ lstSz szCol x.colls (l) := by omega
    have m1 : lstSz szCol x.colls (l) ≤ 1048576 := by omega
    have e1 := sz_124 x.txns szTxn (by have := h.txns.1; unfold W at this; omega) (fun y hy l h0 hm => szLTxn y (h.txns.2 y hy) l h0 hm) (fun y _ k hk => szTxn_le y k hk) (lstSz szCol x.colls (l)) g1 m1
    have q1 := lstSz_le (f := szTxn) (xs := x.txns) (l := lstSz szCol x.colls (l)) g1 (fun y _ k hk => szTxn_le y k hk)
    by_cases n1 : lstSz szTxn x.txns (lstSz szCol x.colls (l)) < 0
    · simp [e0, n0, e1, n1]
    · have g2 : 0 ≤ lstSz szTxn x.txns (lstSz szCol x.colls (l)) := by omega
      have m2 : lstSz szTxn x.txns (lstSz szCol x.colls (l)) ≤ 1048576 := by omega
      have e2 := sz_40 x.done szDn (by have := h.done.1; unfold W at this; omega) (fun y hy l h0 hm => szLDn y (h.done.2 y hy) l h0 hm) (fun y _ k hk => szDn_le y k hk) (lstSz szTxn x.txns (lstSz szCol x.colls (l))) g2 m2
      have q2 := lstSz_le (f := szDn) (xs := x.done) (l := lstSz szTxn x.txns (lstSz szCol x.colls (l))) g2 (fun y _ k hk => szDn_le y k hk)
      by_cases n2 : lstSz szDn x.done (lstSz szTxn x.txns (lstSz szCol x.colls (l))) < 0
      · simp [e0, n0, e1, n1, e2, n2]
      · have g3 : 0 ≤ lstSz szDn x.done (lstSz szTxn x.txns (lstSz szCol x.colls (l))) := by omega
        have m3 : lstSz szDn x.done (lstSz szTxn x.txns (lstSz szCol x.colls (l))) ≤ 1048576 := by omega
        simp [e0, n0, e1, n1, e2, n2]
theorem szSto_sm {x : Sto} {k : Int} (h0 : 0 ≤ k) (hm : k ≤ 1048576) (h : ¬ szSto x k < 0) : x.Sm := by
  obtain ⟨a0, b0⟩ := thenSz_neg h
  have c0 := lstSz_le (f := szCol) (xs := x.colls) (l := k) (by omega) (fun y _ k hk => szCol_le y k hk)
  obtain ⟨s0, t0⟩ := lstSz_all (P := fun y : Col => y.Sm) (m := 1048576) (by omega) (by omega) (fun y _ k hk => szCol_le y k hk) (fun y _ k hk hm h => szCol_sm hk hm h) a0
  obtain ⟨a1, b1⟩ := thenSz_neg b0
  have c1 := lstSz_le (f := szTxn) (xs := x.txns) (l := lstSz szCol x.colls (k)) (by omega) (fun y _ k hk => szTxn_le y k hk)
  obtain ⟨s1, t1⟩ := lstSz_all (P := fun y : Txn => y.Sm) (m := 1048576) (by omega) (by omega) (fun y _ k hk => szTxn_le y k hk) (fun y _ k hk hm h => szTxn_sm hk hm h) a1
  obtain ⟨a2, b2⟩ := thenSz_neg b1
  have c2 := lstSz_le (f := szDn) (xs := x.done) (l := lstSz szTxn x.txns (lstSz szCol x.colls (k))) (by omega) (fun y _ k hk => szDn_le y k hk)
  obtain ⟨s2, t2⟩ := lstSz_all (P := fun y : Dn => y.Sm) (m := 1048576) (by omega) (by omega) (fun y _ k hk => szDn_le y k hk) (fun y _ k hk hm h => szDn_sm hk hm h) a2
  exact ⟨⟨by omega, t0⟩, ⟨by omega, t1⟩, ⟨by omega, t2⟩⟩
theorem toSto (x : Sto) (h : x.Sm) : run E (.call 37 [.t (stoT x)]) = some (.res [.agg [.row 195 (x.colls.map colT), .row 48 (x.txns.map txnT), .row 59 (x.done.map dnT), .t (.int .i64 x.clock)]] []) := by
  rw [run_call E 37 _ rfl Tryz.func37 rfl rfl rfl (by simp)]
  have t0 := to_128 x.colls h.colls.1 (fun y hy => toColl y (h.colls.2 y hy))
  have t1 := to_129 x.txns h.txns.1 (fun y hy => toTxn y (h.txns.2 y hy))
  have t2 := to_42 x.done h.done.1 (fun y hy => toDn y (h.done.2 y hy))
  simp [t0, t1, t2]
theorem eqSto (x : Sto) (h : x.Sm) : run E (.call 39 [.t (stoT x), .t (stoT x)]) = some (.res [xB true] []) := by
  rw [run_call E 39 _ rfl Tryz.func39 rfl rfl rfl (by simp)]
  have t0 := eq_135 x.colls (by have := h.colls.1; omega) (fun y hy => eqColl y (h.colls.2 y hy))
  have t1 := eq_136 x.txns (by have := h.txns.1; omega) (fun y hy => eqTxn y (h.txns.2 y hy))
  have t2 := eq_45 x.done (by have := h.done.1; omega) (fun y hy => eqDn y (h.done.2 y hy))
  simp [t0, t1, t2]
end Go.Yd
/- What comes in, as plain data: reads, writes, changes, transactions, commands, stores (printed by gendec.py). -/
set_option linter.unusedSimpArgs false
set_option linter.unusedVariables false
namespace Go.Yd
open Go.Ev Go.Proofs Go.Pu
set_option maxRecDepth 100000
set_option maxHeartbeats 4000000
theorem dec252 {n : Nat} {ts : List T} (h : typed E (n + 8) 252 ts) : ∃ x : Rd, T.agg ts = rdT x ∧ x.Wd := by
  obtain ⟨h1, h2⟩ := typed_struct (by simp) h
  simp at h1 h2
  obtain ⟨g0, g1⟩ := h2
  match ts, h1 with
  | [c0, c1], _ =>
    obtain ⟨x0, e0, w0⟩ := typed_str g0
    obtain ⟨x1, e1, w1⟩ := dec24 g1
    simp at e0 e1
    exact ⟨⟨x0, x1⟩, by simp [e0, e1], ⟨w0, w1⟩⟩
theorem dec39 {n : Nat} {ts : List T} (h : typed E (n + 9) 39 ts) : ∃ c : List Rd, ts = [.list (c.map rdT)] ∧ W c.length ∧ ∀ x ∈ c, x.Wd := by
  obtain ⟨xs, rfl, h1, h2⟩ := typed_slice (by simp) (by simp) h
  obtain ⟨l, rfl, h4⟩ := list_choose (enc := rdT) (P := Rd.Wd) (fun x hx => by
    obtain ⟨cs, e, _, h⟩ := h2 x hx
    simp at e h
    obtain ⟨t, h3, h4⟩ := dec252 h
    exact ⟨t, e.trans h3, h4⟩)
  exact ⟨l, rfl, by simpa using h1, h4⟩
theorem dec255 {n : Nat} {ts : List T} (h : typed E (n + 3) 255 ts) : ∃ x : Wr, T.agg ts = wrT x ∧ x.Wd := by
  obtain ⟨h1, h2⟩ := typed_struct (by simp) h
  simp at h1 h2
  obtain ⟨g0, g1, g2, g3⟩ := h2
  match ts, h1 with
  | [c0, c1, c2, c3, c4, c5], _ =>
    obtain ⟨x0, e0, w0⟩ := typed_str g0
    obtain ⟨x1, e1⟩ := typed_int g1
    obtain ⟨x2, e2⟩ := typed_bool g2
    obtain ⟨x3, e3, w3⟩ := dec26 g3
    simp at e0 e1 e2 e3
    exact ⟨⟨x0, x1, x2, x3⟩, by simp [e0, e1, e2, e3], ⟨w0, w3⟩⟩
theorem dec40 {n : Nat} {ts : List T} (h : typed E (n + 4) 40 ts) : ∃ c : List Wr, ts = [.list (c.map wrT)] ∧ W c.length ∧ ∀ x ∈ c, x.Wd := by
  obtain ⟨xs, rfl, h1, h2⟩ := typed_slice (by simp) (by simp) h
  obtain ⟨l, rfl, h4⟩ := list_choose (enc := wrT) (P := Wr.Wd) (fun x hx => by
    obtain ⟨cs, e, _, h⟩ := h2 x hx
    simp at e h
    obtain ⟨t, h3, h4⟩ := dec255 h
    exact ⟨t, e.trans h3, h4⟩)
  exact ⟨l, rfl, by simpa using h1, h4⟩
theorem dec267 {n : Nat} {ts : List T} (h : typed E (n + 4) 267 ts) : ∃ x : Chg, T.agg ts = chgT x ∧ x.Wd := by
  obtain ⟨h1, h2⟩ := typed_struct (by simp) h
  simp at h1 h2
  obtain ⟨g0, g1, g2⟩ := h2
  match ts, h1 with
  | [c0, c1, c2, c3, c4, c5, c6, c7, c8, c9], _ =>
    obtain ⟨x0, e0, w0⟩ := dec255 g0
    obtain ⟨x1, e1, w1⟩ := dec26 g1
    obtain ⟨x2, e2⟩ := typed_bool g2
    simp at e0 e1 e2
    exact ⟨⟨x0, x1, x2⟩, by simp [e0, e1, e2], ⟨w0, w1⟩⟩
theorem dec52 {n : Nat} {ts : List T} (h : typed E (n + 5) 52 ts) : ∃ c : List Chg, ts = [.list (c.map chgT)] ∧ W c.length ∧ ∀ x ∈ c, x.Wd := by
  obtain ⟨xs, rfl, h1, h2⟩ := typed_slice (by simp) (by simp) h
  obtain ⟨l, rfl, h4⟩ := list_choose (enc := chgT) (P := Chg.Wd) (fun x hx => by
    obtain ⟨cs, e, _, h⟩ := h2 x hx
    simp at e h
    obtain ⟨t, h3, h4⟩ := dec267 h
    exact ⟨t, e.trans h3, h4⟩)
  exact ⟨l, rfl, by simpa using h1, h4⟩
theorem dec54 {n : Nat} {ts : List T} (h : typed E (n + 10) 54 ts) : ∃ x : Dn, T.agg ts = dnT x ∧ x.Wd := by
  obtain ⟨h1, h2⟩ := typed_struct (by simp) h
  simp at h1 h2
  obtain ⟨g0, g1, g2, g3, g4, g5⟩ := h2
  match ts, h1 with
  | [c0, c1, c2, c3, c4, c5], _ =>
    obtain ⟨x0, e0⟩ := typed_int g0
    obtain ⟨x1, e1⟩ := typed_int g1
    obtain ⟨x2, e2, w2⟩ := dec39 g2
    obtain ⟨x3, e3, w3⟩ := dec52 g3
    obtain ⟨x4, e4⟩ := typed_bool g4
    obtain ⟨x5, e5⟩ := typed_bool g5
    simp at e0 e1 e2 e3 e4 e5
    exact ⟨⟨x0, x1, x2, x3, x4, x5⟩, by simp [e0, e1, e2, e3, e4, e5], ⟨w2, w3⟩⟩
theorem dec87 {n : Nat} {ts : List T} (h : typed E (n + 11) 87 ts) : ∃ c : List Dn, ts = [.list (c.map dnT)] ∧ W c.length ∧ ∀ x ∈ c, x.Wd := by
  obtain ⟨xs, rfl, h1, h2⟩ := typed_slice (by simp) (by simp) h
  obtain ⟨l, rfl, h4⟩ := list_choose (enc := dnT) (P := Dn.Wd) (fun x hx => by
    obtain ⟨cs, e, _, h⟩ := h2 x hx
    simp at e h
    obtain ⟨t, h3, h4⟩ := dec54 h
    exact ⟨t, e.trans h3, h4⟩)
  exact ⟨l, rfl, by simpa using h1, h4⟩
theorem dec42 {n : Nat} {ts : List T} (h : typed E (n + 10) 42 ts) : ∃ x : Txn, T.agg ts = txnT x ∧ x.Wd := by
  obtain ⟨h1, h2⟩ := typed_struct (by simp) h
  simp at h1 h2
  obtain ⟨g0, g1, g2, g3⟩ := h2
  match ts, h1 with
  | [c0, c1, c2, c3], _ =>
    obtain ⟨x0, e0⟩ := typed_int g0
    obtain ⟨x1, e1⟩ := typed_int g1
    obtain ⟨x2, e2, w2⟩ := dec39 g2
    obtain ⟨x3, e3, w3⟩ := dec40 g3
    simp at e0 e1 e2 e3
    exact ⟨⟨x0, x1, x2, x3⟩, by simp [e0, e1, e2, e3], ⟨w2, w3⟩⟩
theorem dec86 {n : Nat} {ts : List T} (h : typed E (n + 11) 86 ts) : ∃ c : List Txn, ts = [.list (c.map txnT)] ∧ W c.length ∧ ∀ x ∈ c, x.Wd := by
  obtain ⟨xs, rfl, h1, h2⟩ := typed_slice (by simp) (by simp) h
  obtain ⟨l, rfl, h4⟩ := list_choose (enc := txnT) (P := Txn.Wd) (fun x hx => by
    obtain ⟨cs, e, _, h⟩ := h2 x hx
    simp at e h
    obtain ⟨t, h3, h4⟩ := dec42 h
    exact ⟨t, e.trans h3, h4⟩)
  exact ⟨l, rfl, by simpa using h1, h4⟩
theorem dec85 {n : Nat} {ts : List T} (h : typed E (n + 11) 85 ts) : ∃ c : List Col, ts = [.list (c.map colT)] ∧ W c.length ∧ ∀ x ∈ c, x.Wd := by
  obtain ⟨xs, rfl, h1, h2⟩ := typed_slice (by simp) (by simp) h
  obtain ⟨l, rfl, h4⟩ := list_choose (enc := colT) (P := Col.Wd) (fun x hx => by
    obtain ⟨cs, e, _, h⟩ := h2 x hx
    simp at e h
    obtain ⟨t, h3, h4⟩ := dec291 h
    exact ⟨t, e.trans h3, h4⟩)
  exact ⟨l, rfl, by simpa using h1, h4⟩
theorem dec89 {n : Nat} {ts : List T} (h : typed E (n + 12) 89 ts) : ∃ x : Sto, T.agg ts = stoT x ∧ x.Wd := by
  obtain ⟨h1, h2⟩ := typed_struct (by simp) h
  simp at h1 h2
  obtain ⟨g0, g1, g2, g3⟩ := h2
  match ts, h1 with
  | [c0, c1, c2, c3], _ =>
    obtain ⟨x0, e0, w0⟩ := dec85 g0
    obtain ⟨x1, e1, w1⟩ := dec86 g1
    obtain ⟨x2, e2, w2⟩ := dec87 g2
    obtain ⟨x3, e3⟩ := typed_int g3
    simp at e0 e1 e2 e3
    exact ⟨⟨x0, x1, x2, x3⟩, by simp [e0, e1, e2, e3], ⟨w0, w1, w2⟩⟩
end Go.Yd
/- DoneOK: both. -/
set_option linter.unusedSimpArgs false
set_option linter.unusedVariables false
namespace Go.Yd
open Go.Ev Go.Proofs Go.Pu
set_option maxRecDepth 100000
set_option maxHeartbeats 16000000
abbrev dnBox (d : Dn) : Ob := .box 59 [.t (.int .i64 d.snap), .t (.int .i64 d.at_), .t (.list (d.reads.map rdT)), .t (.list (d.changes.map chgT)), .t (.bool d.inn), .t (.bool d.out)]
theorem implDone_loop (d : Dn) (h : d.Sm) (b : Bool) (hb : b = distGo [] d.changes) : ∀ s o q, (s 1 = .ptr 0 0 ∧ s 6 = .t (.list (d.changes.map chgT)) ∧ s 7 = .t (.int .i64 d.changes.length) ∧ s 8 = .t (.int .i64 0) ∧ o 0 = dnBox d ∧ 0 < q) →
    ∃ e s' o' q', run E (.code (.loop (loopAt Tryz.f28 0)) ⟨s, o, q, 57⟩) = some (.st e ⟨s', o', q', 57⟩) ∧ e = (if b then .exit 0 else .ret) ∧ s' 1 = .ptr 0 0 ∧ o' 0 = dnBox d ∧ 0 < q' ∧ (b = false → s' 2 = .t (.bool false)) := by
  intro s o q hI
  refine loop_for (c := loopAt Tryz.f28 0) (N := 57)
    (fun i s o q => s 1 = .ptr 0 0 ∧ s 6 = .t (.list (d.changes.map chgT)) ∧ s 7 = .t (.int .i64 d.changes.length) ∧ s 8 = .t (.int .i64 i) ∧ o 0 = dnBox d ∧ 0 < q ∧ b = distGo (d.changes.take i) (d.changes.drop i))
    (fun e s' o' q' => e = (if b then .exit 0 else .ret) ∧ s' 1 = .ptr 0 0 ∧ o' 0 = dnBox d ∧ 0 < q' ∧ (b = false → s' 2 = .t (.bool false))) d.changes.length ?_ ?_
    d.changes.length 0 s o q (by omega) ⟨hI.1, hI.2.1, hI.2.2.1, hI.2.2.2.1, hI.2.2.2.2.1, hI.2.2.2.2.2, by simpa using hb⟩
  · rintro i s o q hi ⟨h1, h6, h7, h8, ho, hq, hp⟩
    have hq0 : q ≠ 0 := by omega
    have h0q : 0 ≠ q := by omega
    have hxi : d.changes[i]? = some d.changes[i] := List.getElem?_eq_getElem hi
    have hi' : (i : Int) < (d.changes.length : Int) := by omega
    have hil : i ≤ d.changes.length := by omega
    have hw := wrap_succ (n := i) (by have := h.changes.1; omega)
    have hc := containsFunc_99_1 (d.changes.take i) 100 (chgC d.changes[i]) (sameC d.changes[i]) (by have := h.changes.1; simp; omega) rfl (by simp) (fun x _ => doneClosure x d.changes[i])
    rw [List.map_take] at hc
    have htk : d.changes.take (i + 1) = d.changes.take i ++ [d.changes[i]] := by rw [List.take_add_one, hxi]; rfl
    rw [List.drop_eq_getElem_cons hi, distGo, ← htk] at hp
    generalize hz : (d.changes.take i).any (sameC d.changes[i]) = z at *
    cases z with
    | true =>
      simp at hp
      simp [loopAt, loopsOf, Tryz.f28, h1, h6, h7, h8, ho, hq0, h0q, hi', hil, hxi, hw, hc, hp, hq]
    | false =>
      simp at hp
      simp [loopAt, loopsOf, Tryz.f28, h1, h6, h7, h8, ho, hq0, h0q, hi', hil, hxi, hw, hc]
      rw [hp, htk]
  · rintro s o q ⟨h1, h6, h7, h8, ho, hq, hp⟩
    simp [distGo] at hp
    simp [loopAt, loopsOf, Tryz.f28, h1, h6, h7, h8, ho, hp, hq]
theorem implDoneOK (d : Dn) (h : d.Sm) : run E (.call 28 [.t (dnT d)]) = some (.res [xB (doneOK d)] []) := by
  rw [run_call E 28 _ rfl Tryz.func28 rfl rfl rfl (by simp)]
  have h2 := isTime d.at_
  have h3 := areReads d.reads h.reads.1 h.reads.2
  have h4 := areChanges d.changes h.changes.1 h.changes.2
  have l20 : ((d.reads.length : Int) ≤ 20) = (d.reads.length ≤ 20) := by simp; omega
  have l60 : ((d.changes.length : Int) ≤ 60) = (d.changes.length ≤ 60) := by simp; omega
  unfold doneOK timesOK
  cases hb : distGo [] d.changes with
  | false =>
    obtain ⟨X, A, B, C, hx⟩ := sk (implDone_loop d h false hb.symm)
    simp [loopAt, loopsOf, Tryz.f28] at hx
    simp [hx]
  | true =>
    obtain ⟨X, A, B, C, hx⟩ := sk (implDone_loop d h true hb.symm)
    simp [loopAt, loopsOf, Tryz.f28] at hx
    by_cases c1 : 0 ≤ d.snap
    · cases c2 : in1 1 10000 d.at_ with
      | false => rw [c2] at h2; simp [hx, c1, h2]
      | true =>
        rw [c2] at h2
        by_cases c3 : d.snap < d.at_
        · by_cases c4 : d.reads.length ≤ 20
          · by_cases c5 : d.changes.length ≤ 60
            · cases c6 : d.reads.all readOK with
              | false => rw [c6] at h3; simp [hx, c1, h2, c3, l20, c4, l60, c5, h3, -List.all_eq_true, -List.all_eq_false]
              | true => rw [c6] at h3; simp [hx, c1, h2, c3, l20, c4, l60, c5, h3, h4, -List.all_eq_true, -List.all_eq_false]
            · simp [hx, c1, h2, c3, l20, c4, l60, c5]
          · simp [hx, c1, h2, c3, l20, c4]
        · simp [hx, c1, h2, c3]
    · simp [hx, c1]
def chgsGo : List Chg → List Chg → Bool
  | _, [] => true
  | s, c :: r => chgOK c && (!s.any (fun x => sameC x c) && chgsGo (s ++ [c]) r)
theorem chgsGo_eq : ∀ (r s : List Chg), chgsGo s r = (r.all chgOK && distGo s r)
  | [], s => rfl
  | c :: r, s => by
    have e : (fun x => sameC x c) = sameC c := by funext x; exact sameC_comm x c
    rw [chgsGo, distGo, chgsGo_eq r, List.all_cons, e]
    cases chgOK c <;> cases r.all chgOK <;> simp
theorem specLists_reads (rs : List Rd) (cs : List Chg) (hl : rs.length < 4294967296) (h : ∀ r ∈ rs, r.Sm) (b : Bool) (hb : b = rs.all readOK) : ∀ s o q, (s 0 = .t (.list (rs.map rdT)) ∧ s 1 = .t (.list (cs.map chgT)) ∧ s 5 = .t (.int .i64 0)) →
    ∃ e s' o' q', run E (.code (.loop (loopAt Tryz.f97 0)) ⟨s, o, q, 73⟩) = some (.st e ⟨s', o', q', 73⟩) ∧ e = (if b then .exit 0 else .ret) ∧ s' 0 = .t (.list (rs.map rdT)) ∧ s' 1 = .t (.list (cs.map chgT)) ∧ (b = false → s' 4 = .t (.bool false)) := by
  intro s o q hI
  refine loop_for (c := loopAt Tryz.f97 0) (N := 73)
    (fun i s o q => s 0 = .t (.list (rs.map rdT)) ∧ s 1 = .t (.list (cs.map chgT)) ∧ s 5 = .t (.int .i64 i) ∧ b = (rs.drop i).all readOK)
    (fun e s' o' q' => e = (if b then .exit 0 else .ret) ∧ s' 0 = .t (.list (rs.map rdT)) ∧ s' 1 = .t (.list (cs.map chgT)) ∧ (b = false → s' 4 = .t (.bool false))) rs.length ?_ ?_
    rs.length 0 s o q (by omega) ⟨hI.1, hI.2.1, hI.2.2, by simpa using hb⟩
  · rintro i s o q hi ⟨h0, h1, h5, hp⟩
    have hxi : rs[i]? = some rs[i] := List.getElem?_eq_getElem hi
    have hi' : (i : Int) < (rs.length : Int) := by omega
    have hw := wrap_succ (n := i) (by omega)
    have hd := specReadOK rs[i] (h _ (List.getElem_mem hi))
    rw [List.drop_eq_getElem_cons hi, List.all_cons] at hp
    cases hok : readOK rs[i] <;> simp [hok] at hp hd <;> simp [loopAt, loopsOf, Tryz.f97, h0, h1, h5, hi', hxi, hw, hd, hp]
  · rintro s o q ⟨h0, h1, h5, hp⟩
    simp at hp
    simp [loopAt, loopsOf, Tryz.f97, h0, h1, h5, hp]
theorem specLists_in (rs : List Rd) (cs : List Chg) (hl : cs.length < 4294967296) (i : Nat) (hi : i < cs.length) (z : Bool) (hz : z = (cs.take i).any (fun x => sameC x cs[i])) : ∀ s o q, (s 0 = .t (.list (rs.map rdT)) ∧ s 1 = .t (.list (cs.map chgT)) ∧ s 6 = .t (.int .i64 i) ∧ s 7 = .t (.int .i64 0)) →
    ∃ e s' o' q', run E (.code (.loop (loopAt Tryz.f97 2)) ⟨s, o, q, 73⟩) = some (.st e ⟨s', o', q', 73⟩) ∧ e = (if z then .ret else .exit 4) ∧ s' 0 = .t (.list (rs.map rdT)) ∧ s' 1 = .t (.list (cs.map chgT)) ∧ s' 6 = .t (.int .i64 i) ∧ (z = true → s' 4 = .t (.bool false)) := by
  intro s o q hI
  have d14 := d97_14
  simp [regionOf, findR, pick, Tryz.f97] at d14
  have dd := fun st => run_region_draw E st 14 _ d14
  clear d14
  refine loop_for (c := loopAt Tryz.f97 2) (N := 73)
    (fun j s o q => s 0 = .t (.list (rs.map rdT)) ∧ s 1 = .t (.list (cs.map chgT)) ∧ s 6 = .t (.int .i64 i) ∧ s 7 = .t (.int .i64 j) ∧ z = ((cs.take i).drop j).any (fun x => sameC x cs[i]))
    (fun e s' o' q' => e = (if z then .ret else .exit 4) ∧ s' 0 = .t (.list (rs.map rdT)) ∧ s' 1 = .t (.list (cs.map chgT)) ∧ s' 6 = .t (.int .i64 i) ∧ (z = true → s' 4 = .t (.bool false))) i ?_ ?_
    i 0 s o q (by omega) ⟨hI.1, hI.2.1, hI.2.2.1, hI.2.2.2, by simpa using hz⟩
  · rintro j s o q hj ⟨h0, h1, h6, h7, hp⟩
    have hjd : j < cs.length := by omega
    have hxi : cs[i]? = some cs[i] := List.getElem?_eq_getElem hi
    have hxj : cs[j]? = some cs[j] := List.getElem?_eq_getElem hjd
    have hi' : (i : Int) < (cs.length : Int) := by omega
    have hj' : (j : Int) < (cs.length : Int) := by omega
    have hji : (j : Int) < (i : Int) := by omega
    have hw := wrap_succ (n := j) (by omega)
    rw [List.drop_eq_getElem_cons (by simp; omega), List.any_cons, List.getElem_take] at hp
    cases he : (cs[j].w.coll == cs[i].w.coll) with
    | true =>
      by_cases hd : cs[j].w.id = cs[i].w.id
      · have e : sameC cs[j] cs[i] = true := by simp [sameC, he, hd]
        rw [e, Bool.true_or] at hp
        simp [loopAt, loopsOf, Tryz.f97, dd, h0, h1, h6, h7, hxi, hxj, hi', hj', hji, hw, he, hd, hp, -List.any_eq_true, -List.any_eq_false]
      · have e : sameC cs[j] cs[i] = false := by simp [sameC, he, hd]
        rw [e, Bool.false_or] at hp
        simp [loopAt, loopsOf, Tryz.f97, dd, h0, h1, h6, h7, hxi, hxj, hi', hj', hji, hw, he, hd, -List.any_eq_true, -List.any_eq_false]
        exact hp
    | false =>
      have e : sameC cs[j] cs[i] = false := by simp [sameC, he]
      rw [e, Bool.false_or] at hp
      simp [loopAt, loopsOf, Tryz.f97, dd, h0, h1, h6, h7, hxi, hxj, hi', hj', hji, hw, he, -List.any_eq_true, -List.any_eq_false]
      exact hp
  · rintro s o q ⟨h0, h1, h6, h7, hp⟩
    simp at hp
    simp [loopAt, loopsOf, Tryz.f97, h0, h1, h6, h7, hp]
theorem specLists_chgs (rs : List Rd) (cs : List Chg) (hl : cs.length < 4294967296) (h : ∀ r ∈ cs, r.Sm) (b : Bool) (hb : b = chgsGo [] cs) : ∀ s o q, (s 0 = .t (.list (rs.map rdT)) ∧ s 1 = .t (.list (cs.map chgT)) ∧ s 6 = .t (.int .i64 0)) →
    ∃ e s' o' q', run E (.code (.loop (loopAt Tryz.f97 1)) ⟨s, o, q, 73⟩) = some (.st e ⟨s', o', q', 73⟩) ∧ e = (if b then .exit 2 else .ret) ∧ s' 0 = .t (.list (rs.map rdT)) ∧ s' 1 = .t (.list (cs.map chgT)) ∧ (b = false → s' 4 = .t (.bool false)) := by
  intro s o q hI
  refine loop_for (c := loopAt Tryz.f97 1) (N := 73)
    (fun i s o q => s 0 = .t (.list (rs.map rdT)) ∧ s 1 = .t (.list (cs.map chgT)) ∧ s 6 = .t (.int .i64 i) ∧ b = chgsGo (cs.take i) (cs.drop i))
    (fun e s' o' q' => e = (if b then .exit 2 else .ret) ∧ s' 0 = .t (.list (rs.map rdT)) ∧ s' 1 = .t (.list (cs.map chgT)) ∧ (b = false → s' 4 = .t (.bool false))) cs.length ?_ ?_
    cs.length 0 s o q (by omega) ⟨hI.1, hI.2.1, hI.2.2, by simpa using hb⟩
  · rintro i s o q hi ⟨h0, h1, h6, hp⟩
    have hxi : cs[i]? = some cs[i] := List.getElem?_eq_getElem hi
    have hi' : (i : Int) < (cs.length : Int) := by omega
    have hw := wrap_succ (n := i) (by omega)
    have hd := specChgOK cs[i] (h _ (List.getElem_mem hi))
    have htk : cs.take (i + 1) = cs.take i ++ [cs[i]] := by rw [List.take_add_one, hxi]; rfl
    obtain ⟨z, hz⟩ : ∃ z, z = (cs.take i).any (fun x => sameC x cs[i]) := ⟨_, rfl⟩
    obtain ⟨X, A, B, C, hx⟩ := sk (specLists_in rs cs hl i hi z hz)
    simp only [loopAt, loopsOf, Tryz.f97] at hx
    rw [List.drop_eq_getElem_cons hi, chgsGo, ← htk, ← hz] at hp
    clear hz
    cases hO : chgOK cs[i] with
    | false =>
      simp [hO] at hp hd
      simp [loopAt, loopsOf, Tryz.f97, h0, h1, h6, hi', hxi, hw, hd, hp]
    | true =>
      cases z with
      | true =>
        simp [hO] at hp hd hx
        simp [loopAt, loopsOf, Tryz.f97, h0, h1, h6, hi', hxi, hw, hd, hp, hx]
      | false =>
        simp [hO] at hp hd hx
        simp [loopAt, loopsOf, Tryz.f97, h0, h1, h6, hi', hxi, hw, hd, hx]
        exact hp
  · rintro s o q ⟨h0, h1, h6, hp⟩
    simp [chgsGo] at hp
    simp [loopAt, loopsOf, Tryz.f97, h0, h1, h6, hp]
def listsOK (rs : List Rd) (cs : List Chg) : Bool := rs.all readOK && (chgsGo [] cs && (decide (rs.length ≤ 20) && decide (cs.length ≤ 60)))
theorem specLists (rs : List Rd) (cs : List Chg) (hl : rs.length < 4294967296) (h : ∀ r ∈ rs, r.Sm) (hl2 : cs.length < 4294967296) (h2 : ∀ r ∈ cs, r.Sm) : run E (.call 97 [.t (.list (rs.map rdT)), .t (.list (cs.map chgT))]) = some (.res [xB (listsOK rs cs)] []) := by
  rw [run_call E 97 _ rfl Tryz.func97 rfl rfl rfl (by simp)]
  have l20 : ((rs.length : Int) ≤ 20) = (rs.length ≤ 20) := by simp; omega
  have l60 : ((cs.length : Int) ≤ 60) = (cs.length ≤ 60) := by simp; omega
  unfold listsOK
  cases hb : rs.all readOK with
  | false =>
    obtain ⟨X, A, B, C, hx⟩ := sk (specLists_reads rs cs hl h false hb.symm)
    simp [loopAt, loopsOf, Tryz.f97] at hx
    simp [hx]
  | true =>
    obtain ⟨X, A, B, C, hx⟩ := sk (specLists_reads rs cs hl h true hb.symm)
    simp [loopAt, loopsOf, Tryz.f97] at hx
    cases hb2 : chgsGo [] cs with
    | false =>
      obtain ⟨X2, A2, B2, C2, hx2⟩ := sk (specLists_chgs rs cs hl2 h2 false hb2.symm)
      simp [loopAt, loopsOf, Tryz.f97] at hx2
      simp (maxDischargeDepth := 6) [hx, hx2]
    | true =>
      obtain ⟨X2, A2, B2, C2, hx2⟩ := sk (specLists_chgs rs cs hl2 h2 true hb2.symm)
      simp [loopAt, loopsOf, Tryz.f97] at hx2
      by_cases c4 : rs.length ≤ 20
      · by_cases c5 : cs.length ≤ 60 <;> simp (maxDischargeDepth := 6) [hx, hx2, l20, l60, c4, c5]
      · simp (maxDischargeDepth := 6) [hx, hx2, l20, c4]
theorem done_eq (d : Dn) : doneOK d = (in1 0 10000 d.snap && (in1 (d.snap + 1) 10000 d.at_ && listsOK d.reads d.changes)) := by
  unfold doneOK listsOK
  rw [times_spec, chgsGo_eq]
  generalize distGo [] d.changes = a1; generalize in1 0 10000 d.snap = a2; generalize in1 (d.snap + 1) 10000 d.at_ = a3; generalize decide (d.reads.length ≤ 20) = a4; generalize decide (d.changes.length ≤ 60) = a5; generalize d.reads.all readOK = a6; generalize d.changes.all chgOK = a7
  revert a1 a2 a3 a4 a5 a6 a7
  decide
theorem specDoneOK (d : Dn) (h : d.Sm) : run E (.call 26 [.t (dnT d)]) = some (.res [xB (doneOK d)] []) := by
  rw [run_call E 26 _ rfl Tryz.func26 rfl rfl rfl (by simp)]
  have h1 := l01In1 d.snap 0 10000
  have h2 := l01In1 d.at_ (d.snap + 1) 10000
  have h3 := specLists d.reads d.changes h.reads.1 h.reads.2 h.changes.1 h.changes.2
  rw [done_eq]
  cases c1 : in1 0 10000 d.snap with
  | false => rw [c1] at h1; simp [h1]
  | true =>
    have hw : IntKind.i64.wrap (d.snap + 1) = d.snap + 1 := by
      have := in1_low c1
      unfold in1 at c1
      simp at c1
      exact wrap_of (by omega) (by omega)
    rw [c1] at h1
    cases c2 : in1 (d.snap + 1) 10000 d.at_ with
    | false => rw [c2] at h2; simp [h1, h2, hw]
    | true => rw [c2] at h2; simp [h1, h2, h3, hw]
end Go.Yd
/- Lists in order: collections, what was committed: both sides. -/
set_option linter.unusedSimpArgs false
set_option linter.unusedVariables false
namespace Go.Yd
open Go.Ev Go.Proofs Go.Pu
set_option maxRecDepth 100000
set_option maxHeartbeats 16000000
def stepsFrom (n : Nat) (P : Nat → Bool) (i : Nat) : Bool := ((List.range n).drop i).all P
theorem stepsFrom_lt {n i : Nat} {P : Nat → Bool} (h : i < n) : stepsFrom n P i = (P i && stepsFrom n P (i + 1)) := by
  unfold stepsFrom
  rw [List.drop_eq_getElem_cons (by simpa using h)]
  simp
theorem stepsFrom_end {n : Nat} {P : Nat → Bool} : stepsFrom n P n = true := by
  unfold stepsFrom
  rw [List.drop_of_length_le (by simp)]
  rfl
theorem steps_all {n : Nat} {P : Nat → Bool} : stepsFrom n P 0 = true ↔ ∀ i, i < n → P i = true := by
  unfold stepsFrom
  simp
/-- Each is right, and in order with the one ahead. -/
def seqStep {α : Type} (ok : α → Bool) (ord : α → α → Bool) (l : List α) : Nat → Bool
  | 0 => match l[0]? with
    | some c => ok c
    | none => true
  | k + 1 => match l[k]?, l[k + 1]? with
    | some p, some c => ok c && ord p c
    | _, _ => true
theorem seq_zero {α : Type} {ok : α → Bool} {ord : α → α → Bool} {l : List α} (h : 0 < l.length) : seqStep ok ord l 0 = ok l[0] := by
  simp [seqStep, List.getElem?_eq_getElem h]
theorem seq_succ {α : Type} {ok : α → Bool} {ord : α → α → Bool} {l : List α} {k : Nat} (h : k + 1 < l.length) : seqStep ok ord l (k + 1) = (ok l[k + 1] && ord l[k] l[k + 1]) := by
  have h' : k < l.length := by omega
  simp [seqStep, List.getElem?_eq_getElem h, List.getElem?_eq_getElem h']
def seqOK {α : Type} (ok : α → Bool) (ord : α → α → Bool) (l : List α) : Bool := stepsFrom l.length (seqStep ok ord l) 0
theorem seq_plain {α : Type} (ok : α → Bool) (l : List α) : stepsFrom l.length (seqStep ok (fun _ _ => true) l) 0 = l.all ok := by
  rw [Bool.eq_iff_iff, steps_all, List.all_eq_true]
  have hst : ∀ i (hi : i < l.length), seqStep ok (fun _ _ => true) l i = ok l[i] := by
    intro i hi
    cases i with
    | zero => rw [seq_zero hi]
    | succ k => rw [seq_succ hi]; simp
  constructor
  · intro h x hx
    obtain ⟨i, hi, rfl⟩ := List.getElem_of_mem hx
    rw [← hst i hi]; exact h i hi
  · intro h i hi
    rw [hst i hi]; exact h _ (List.getElem_mem hi)
theorem plain_step {α : Type} {ok : α → Bool} {l : List α} {i : Nat} (hi : i < l.length) : seqStep ok (fun _ _ => true) l i = ok l[i] := by
  cases i with
  | zero => rw [seq_zero hi]
  | succ k => rw [seq_succ hi]; simp
def collOrd (a b : Col) : Bool := Op.bytesLess a.name b.name
theorem specColls_loop (l : List Col) (hl : l.length < 4294967296) (h : ∀ c ∈ l, c.Sm) (b : Bool) (hb : b = seqOK collOK collOrd l) : ∀ s o q, (s 0 = .t (.list (l.map colT)) ∧ s 3 = .t (.int .i64 0)) →
    ∃ e s' o' q', run E (.code (.loop (loopAt Tryz.f125 0)) ⟨s, o, q, 37⟩) = some (.st e ⟨s', o', q', 37⟩) ∧ e = (if b then .exit 0 else .ret) ∧ s' 0 = .t (.list (l.map colT)) ∧ (b = false → s' 2 = .t (.bool false)) := by
  intro s o q hI
  have d4 := d125_4
  simp [regionOf, findR, pick, Tryz.f125] at d4
  have dd := fun st => run_region_draw E st 4 _ d4
  clear d4
  refine loop_for (c := loopAt Tryz.f125 0) (N := 37)
    (fun i s o q => s 0 = .t (.list (l.map colT)) ∧ s 3 = .t (.int .i64 i) ∧ b = stepsFrom l.length (seqStep collOK collOrd l) i)
    (fun e s' o' q' => e = (if b then .exit 0 else .ret) ∧ s' 0 = .t (.list (l.map colT)) ∧ (b = false → s' 2 = .t (.bool false))) l.length ?_ ?_
    l.length 0 s o q (by omega) ⟨hI.1, hI.2, hb⟩
  · rintro i s o q hi ⟨h0, h3, hp⟩
    have hxi : l[i]? = some l[i] := List.getElem?_eq_getElem hi
    have hi' : (i : Int) < (l.length : Int) := by omega
    have hw := wrap_succ (n := i) (by omega)
    have hc := specCollOK l[i] (h _ (List.getElem_mem hi))
    rw [stepsFrom_lt hi] at hp
    cases i with
    | zero =>
      rw [seq_zero hi] at hp
      simp at h3 hw hxi hi'
      generalize collOK l[0] = z at *
      cases z <;> simp at hp <;> simp [loopAt, loopsOf, Tryz.f125, dd, h0, h3, hi, hi', hxi, hw, hc, hp]
    | succ k =>
      rw [seq_succ hi] at hp
      have hk : k < l.length := by omega
      have hxk : l[k]? = some l[k] := List.getElem?_eq_getElem hk
      have hwk := wrap_nat (n := k) (by omega)
      have hpos : (0 : Int) < (k : Int) + 1 := by omega
      have hge : (0 : Int) ≤ (k : Int) + 1 := by omega
      simp at h3 hw hi'
      rw [show collOrd l[k] l[k + 1] = Op.bytesLess l[k].name l[k + 1].name from rfl] at hp
      generalize collOK l[k + 1] = z at *
      generalize hy : Op.bytesLess l[k].name l[k + 1].name = y at *
      cases z <;> cases y <;> simp at hp <;> simp [loopAt, loopsOf, Tryz.f125, dd, h0, h3, hi, hi', hxi, hw, hc, hp, hk, hxk, hwk, hpos, hge, hy]
  · rintro s o q ⟨h0, h3, hp⟩
    rw [stepsFrom_end] at hp
    simp [loopAt, loopsOf, Tryz.f125, h0, h3, hp]
def collsOK (l : List Col) : Bool := seqOK collOK collOrd l && decide (l.length ≤ 3)
theorem specColls (l : List Col) (hl : l.length < 4294967296) (h : ∀ c ∈ l, c.Sm) : run E (.call 125 [.t (.list (l.map colT))]) = some (.res [xB (collsOK l)] []) := by
  rw [run_call E 125 _ rfl Tryz.func125 rfl rfl rfl (by simp)]
  obtain ⟨b, hb⟩ : ∃ b, b = seqOK collOK collOrd l := ⟨_, rfl⟩
  obtain ⟨X, A, B, C, hx⟩ := sk (specColls_loop l hl h b hb)
  simp only [loopAt, loopsOf, Tryz.f125] at hx
  have l3 : ((l.length : Int) ≤ 3) = (l.length ≤ 3) := by simp; omega
  unfold collsOK
  rw [← hb]
  cases b <;> simp at hx <;> simp [hx, l3]
theorem implColls_loop (l : List Col) (hl : l.length < 4294967296) (h : ∀ c ∈ l, c.Sm) (b : Bool) (hb : b = seqOK collOK collOrd l) : ∀ s o q, (s 0 = .t (.list (l.map colT)) ∧ s 5 = .t (.list (l.map colT)) ∧ s 6 = .t (.int .i64 l.length) ∧ s 7 = .t (.int .i64 0)) →
    ∃ e s' o' q', run E (.code (.loop (loopAt Tryz.f130 0)) ⟨s, o, q, 34⟩) = some (.st e ⟨s', o', q', 34⟩) ∧ e = (if b then .exit 0 else .ret) ∧ s' 0 = .t (.list (l.map colT)) ∧ (b = false → s' 2 = .t (.bool false)) := by
  intro s o q hI
  have d4 := d130_4
  simp [regionOf, findR, pick, Tryz.f130] at d4
  have dd := fun st => run_region_draw E st 4 _ d4
  clear d4
  refine loop_for (c := loopAt Tryz.f130 0) (N := 34)
    (fun i s o q => s 0 = .t (.list (l.map colT)) ∧ s 5 = .t (.list (l.map colT)) ∧ s 6 = .t (.int .i64 l.length) ∧ s 7 = .t (.int .i64 i) ∧ b = stepsFrom l.length (seqStep collOK collOrd l) i)
    (fun e s' o' q' => e = (if b then .exit 0 else .ret) ∧ s' 0 = .t (.list (l.map colT)) ∧ (b = false → s' 2 = .t (.bool false))) l.length ?_ ?_
    l.length 0 s o q (by omega) ⟨hI.1, hI.2.1, hI.2.2.1, hI.2.2.2, hb⟩
  · rintro i s o q hi ⟨h0, h5, h6, h7, hp⟩
    have hxi : l[i]? = some l[i] := List.getElem?_eq_getElem hi
    have hi' : (i : Int) < (l.length : Int) := by omega
    have hw := wrap_succ (n := i) (by omega)
    have hc := implCollOK l[i] (h _ (List.getElem_mem hi))
    rw [stepsFrom_lt hi] at hp
    cases i with
    | zero =>
      rw [seq_zero hi] at hp
      simp at h7 hw hxi hi'
      generalize collOK l[0] = z at *
      cases z <;> simp at hp <;> simp [loopAt, loopsOf, Tryz.f130, dd, h0, h5, h6, h7, hi, hi', hxi, hw, hc, hp]
    | succ k =>
      rw [seq_succ hi] at hp
      have hk : k < l.length := by omega
      have hxk : l[k]? = some l[k] := List.getElem?_eq_getElem hk
      have hwk := wrap_nat (n := k) (by omega)
      have hpos : (0 : Int) < (k : Int) + 1 := by omega
      have hge : (0 : Int) ≤ (k : Int) + 1 := by omega
      simp at h7 hw hi'
      rw [show collOrd l[k] l[k + 1] = Op.bytesLess l[k].name l[k + 1].name from rfl] at hp
      generalize collOK l[k + 1] = z at *
      generalize hy : Op.bytesLess l[k].name l[k + 1].name = y at *
      cases z <;> cases y <;> simp at hp <;> simp [loopAt, loopsOf, Tryz.f130, dd, h0, h5, h6, h7, hi, hi', hxi, hw, hc, hp, hk, hxk, hwk, hpos, hge, hy]
  · rintro s o q ⟨h0, h5, h6, h7, hp⟩
    rw [stepsFrom_end] at hp
    simp [loopAt, loopsOf, Tryz.f130, h0, h5, h6, h7, hp]
theorem implColls (l : List Col) (hl : l.length < 4294967296) (h : ∀ c ∈ l, c.Sm) : run E (.call 130 [.t (.list (l.map colT))]) = some (.res [xB (collsOK l)] []) := by
  rw [run_call E 130 _ rfl Tryz.func130 rfl rfl rfl (by simp)]
  obtain ⟨b, hb⟩ : ∃ b, b = seqOK collOK collOrd l := ⟨_, rfl⟩
  obtain ⟨X, A, B, C, hx⟩ := sk (implColls_loop l hl h b hb)
  simp only [loopAt, loopsOf, Tryz.f130] at hx
  have l3 : ((l.length : Int) ≤ 3) = (l.length ≤ 3) := by simp; omega
  unfold collsOK
  rw [← hb]
  cases b <;> simp at hx <;> simp [hx, l3]
/-! What was committed. -/
def dnFine (d : Dn) : Bool := doneOK d && !(d.inn && d.out)
def dnOrd (a b : Dn) : Bool := decide (a.at_ < b.at_)
theorem specDones_loop (l : List Dn) (hl : l.length < 4294967296) (h : ∀ c ∈ l, c.Sm) (b : Bool) (hb : b = seqOK dnFine dnOrd l) : ∀ s o q, (s 0 = .t (.list (l.map dnT)) ∧ s 3 = .t (.int .i64 0)) →
    ∃ e s' o' q', run E (.code (.loop (loopAt Tryz.f126 0)) ⟨s, o, q, 51⟩) = some (.st e ⟨s', o', q', 51⟩) ∧ e = (if b then .exit 0 else .ret) ∧ s' 0 = .t (.list (l.map dnT)) ∧ (b = false → s' 2 = .t (.bool false)) := by
  intro s o q hI
  have d4 := d126_4
  simp [regionOf, findR, pick, Tryz.f126] at d4
  have dd := fun st => run_region_draw E st 4 _ d4
  clear d4
  refine loop_for (c := loopAt Tryz.f126 0) (N := 51)
    (fun i s o q => s 0 = .t (.list (l.map dnT)) ∧ s 3 = .t (.int .i64 i) ∧ b = stepsFrom l.length (seqStep dnFine dnOrd l) i)
    (fun e s' o' q' => e = (if b then .exit 0 else .ret) ∧ s' 0 = .t (.list (l.map dnT)) ∧ (b = false → s' 2 = .t (.bool false))) l.length ?_ ?_
    l.length 0 s o q (by omega) ⟨hI.1, hI.2, hb⟩
  · rintro i s o q hi ⟨h0, h3, hp⟩
    have hxi : l[i]? = some l[i] := List.getElem?_eq_getElem hi
    have hi' : (i : Int) < (l.length : Int) := by omega
    have hw := wrap_succ (n := i) (by omega)
    have hc := specDoneOK l[i] (h _ (List.getElem_mem hi))
    rw [stepsFrom_lt hi] at hp
    cases i with
    | zero =>
      rw [seq_zero hi] at hp
      simp at h3 hw hxi hi'
      rw [show dnFine l[0] = (doneOK l[0] && !(l[0].inn && l[0].out)) from rfl] at hp
      generalize doneOK l[0] = z at *
      generalize hx1 : l[0].inn = x1 at *
      generalize hx2 : l[0].out = x2 at *
      simp only [dnT, hx1, hx2] at hc
      cases z <;> cases x1 <;> cases x2 <;> simp at hp <;> simp [loopAt, loopsOf, Tryz.f126, dd, h0, h3, hi, hi', hxi, hw, hc, hp, hx1, hx2]
    | succ k =>
      rw [seq_succ hi] at hp
      have hk : k < l.length := by omega
      have hxk : l[k]? = some l[k] := List.getElem?_eq_getElem hk
      have hwk := wrap_nat (n := k) (by omega)
      have hpos : (0 : Int) < (k : Int) + 1 := by omega
      have hge : (0 : Int) ≤ (k : Int) + 1 := by omega
      simp at h3 hw hi'
      rw [show dnFine l[k + 1] = (doneOK l[k + 1] && !(l[k + 1].inn && l[k + 1].out)) from rfl, show dnOrd l[k] l[k + 1] = decide (l[k].at_ < l[k + 1].at_) from rfl] at hp
      generalize doneOK l[k + 1] = z at *
      generalize hx1 : l[k + 1].inn = x1 at *
      generalize hx2 : l[k + 1].out = x2 at *
      simp only [dnT, hx1, hx2] at hc
      by_cases hy : l[k].at_ < l[k + 1].at_
      · have hy' : ¬ l[k + 1].at_ ≤ l[k].at_ := by omega
        cases z <;> cases x1 <;> cases x2 <;> simp [hy] at hp <;> simp [loopAt, loopsOf, Tryz.f126, dd, h0, h3, hi, hi', hxi, hw, hc, hp, hk, hxk, hwk, hpos, hge, hy, hy', hx1, hx2]
      · have hy' : l[k + 1].at_ ≤ l[k].at_ := by omega
        cases z <;> cases x1 <;> cases x2 <;> simp [hy] at hp <;> simp [loopAt, loopsOf, Tryz.f126, dd, h0, h3, hi, hi', hxi, hw, hc, hp, hk, hxk, hwk, hpos, hge, hy, hy', hx1, hx2]
  · rintro s o q ⟨h0, h3, hp⟩
    rw [stepsFrom_end] at hp
    simp [loopAt, loopsOf, Tryz.f126, h0, h3, hp]
def donesOK (l : List Dn) : Bool := seqOK dnFine dnOrd l && decide (l.length ≤ 30)
theorem specDones (l : List Dn) (hl : l.length < 4294967296) (h : ∀ c ∈ l, c.Sm) : run E (.call 126 [.t (.list (l.map dnT))]) = some (.res [xB (donesOK l)] []) := by
  rw [run_call E 126 _ rfl Tryz.func126 rfl rfl rfl (by simp)]
  obtain ⟨b, hb⟩ : ∃ b, b = seqOK dnFine dnOrd l := ⟨_, rfl⟩
  obtain ⟨X, A, B, C, hx⟩ := sk (specDones_loop l hl h b hb)
  simp only [loopAt, loopsOf, Tryz.f126] at hx
  have l3 : ((l.length : Int) ≤ 30) = (l.length ≤ 30) := by simp; omega
  unfold donesOK
  rw [← hb]
  cases b <;> simp at hx <;> simp [hx, l3]
theorem implDones_loop (l : List Dn) (hl : l.length < 4294967296) (h : ∀ c ∈ l, c.Sm) (b : Bool) (hb : b = seqOK dnFine dnOrd l) : ∀ s o q, (s 0 = .t (.list (l.map dnT)) ∧ s 5 = .t (.list (l.map dnT)) ∧ s 6 = .t (.int .i64 l.length) ∧ s 7 = .t (.int .i64 0)) →
    ∃ e s' o' q', run E (.code (.loop (loopAt Tryz.f131 0)) ⟨s, o, q, 42⟩) = some (.st e ⟨s', o', q', 42⟩) ∧ e = (if b then .exit 0 else .ret) ∧ s' 0 = .t (.list (l.map dnT)) ∧ (b = false → s' 2 = .t (.bool false)) := by
  intro s o q hI
  have d4 := d131_4
  simp [regionOf, findR, pick, Tryz.f131] at d4
  have dd := fun st => run_region_draw E st 4 _ d4
  clear d4
  refine loop_for (c := loopAt Tryz.f131 0) (N := 42)
    (fun i s o q => s 0 = .t (.list (l.map dnT)) ∧ s 5 = .t (.list (l.map dnT)) ∧ s 6 = .t (.int .i64 l.length) ∧ s 7 = .t (.int .i64 i) ∧ b = stepsFrom l.length (seqStep dnFine dnOrd l) i)
    (fun e s' o' q' => e = (if b then .exit 0 else .ret) ∧ s' 0 = .t (.list (l.map dnT)) ∧ (b = false → s' 2 = .t (.bool false))) l.length ?_ ?_
    l.length 0 s o q (by omega) ⟨hI.1, hI.2.1, hI.2.2.1, hI.2.2.2, hb⟩
  · rintro i s o q hi ⟨h0, h5, h6, h7, hp⟩
    have hxi : l[i]? = some l[i] := List.getElem?_eq_getElem hi
    have hi' : (i : Int) < (l.length : Int) := by omega
    have hw := wrap_succ (n := i) (by omega)
    have hc := implDoneOK l[i] (h _ (List.getElem_mem hi))
    rw [stepsFrom_lt hi] at hp
    cases i with
    | zero =>
      rw [seq_zero hi] at hp
      simp at h7 hw hxi hi'
      rw [show dnFine l[0] = (doneOK l[0] && !(l[0].inn && l[0].out)) from rfl] at hp
      generalize doneOK l[0] = z at *
      generalize hx1 : l[0].inn = x1 at *
      generalize hx2 : l[0].out = x2 at *
      simp only [dnT, hx1, hx2] at hc
      cases z <;> cases x1 <;> cases x2 <;> simp at hp <;> simp [loopAt, loopsOf, Tryz.f131, dd, h0, h5, h6, h7, hi, hi', hxi, hw, hc, hp, hx1, hx2]
    | succ k =>
      rw [seq_succ hi] at hp
      have hk : k < l.length := by omega
      have hxk : l[k]? = some l[k] := List.getElem?_eq_getElem hk
      have hwk := wrap_nat (n := k) (by omega)
      have hpos : (0 : Int) < (k : Int) + 1 := by omega
      have hge : (0 : Int) ≤ (k : Int) + 1 := by omega
      simp at h7 hw hi'
      rw [show dnFine l[k + 1] = (doneOK l[k + 1] && !(l[k + 1].inn && l[k + 1].out)) from rfl, show dnOrd l[k] l[k + 1] = decide (l[k].at_ < l[k + 1].at_) from rfl] at hp
      generalize doneOK l[k + 1] = z at *
      generalize hx1 : l[k + 1].inn = x1 at *
      generalize hx2 : l[k + 1].out = x2 at *
      simp only [dnT, hx1, hx2] at hc
      by_cases hy : l[k].at_ < l[k + 1].at_
      · have hy' : ¬ l[k + 1].at_ ≤ l[k].at_ := by omega
        cases z <;> cases x1 <;> cases x2 <;> simp [hy] at hp <;> simp [loopAt, loopsOf, Tryz.f131, dd, h0, h5, h6, h7, hi, hi', hxi, hw, hc, hp, hk, hxk, hwk, hpos, hge, hy, hy', hx1, hx2]
      · have hy' : l[k + 1].at_ ≤ l[k].at_ := by omega
        cases z <;> cases x1 <;> cases x2 <;> simp [hy] at hp <;> simp [loopAt, loopsOf, Tryz.f131, dd, h0, h5, h6, h7, hi, hi', hxi, hw, hc, hp, hk, hxk, hwk, hpos, hge, hy, hy', hx1, hx2]
  · rintro s o q ⟨h0, h5, h6, h7, hp⟩
    rw [stepsFrom_end] at hp
    simp [loopAt, loopsOf, Tryz.f131, h0, h5, h6, h7, hp]
theorem implDones (l : List Dn) (hl : l.length < 4294967296) (h : ∀ c ∈ l, c.Sm) : run E (.call 131 [.t (.list (l.map dnT))]) = some (.res [xB (donesOK l)] []) := by
  rw [run_call E 131 _ rfl Tryz.func131 rfl rfl rfl (by simp)]
  obtain ⟨b, hb⟩ : ∃ b, b = seqOK dnFine dnOrd l := ⟨_, rfl⟩
  obtain ⟨X, A, B, C, hx⟩ := sk (implDones_loop l hl h b hb)
  simp only [loopAt, loopsOf, Tryz.f131] at hx
  have l3 : ((l.length : Int) ≤ 30) = (l.length ≤ 30) := by simp; omega
  unfold donesOK
  rw [← hb]
  cases b <;> simp at hx <;> simp [hx, l3]
end Go.Yd
/- TxnOK: both sides. -/
set_option linter.unusedSimpArgs false
set_option linter.unusedVariables false
namespace Go.Yd
open Go.Ev Go.Proofs Go.Pu
set_option maxRecDepth 100000
set_option maxHeartbeats 16000000
theorem isPlaceN (n : Int) : run E (.call 91 [xI n, xI 4]) = some (.res [xB (in1 0 3 n)] []) := by
  rw [run_call E 91 _ rfl Tryz.func91 rfl rfl rfl (by simp)]
  have hw : IntKind.i64.wrap 3 = 3 := by decide
  simp [inR n 0 3, hw]
/-- A write stands ahead of another. -/
def wrOrd (a b : Wr) : Bool := Op.bytesLess a.coll b.coll || ((a.coll == b.coll) && decide (a.id < b.id))
theorem specWrLess (a b : Wr) : run E (.call 86 [.t (wrT a), .t (wrT b)]) = some (.res [xB (wrOrd a b)] []) := by
  rw [run_call E 86 _ rfl Tryz.func86 rfl rfl rfl (by simp)]
  unfold wrOrd
  cases h1 : Op.bytesLess a.coll b.coll with
  | true => simp [h1]
  | false =>
    by_cases h2 : a.coll = b.coll
    · have h3 : Op.bytesLess b.coll b.coll = false := bytesLess_irrefl _
      by_cases h4 : a.id < b.id <;> simp [h2, h3, h4]
    · have hb : (a.coll == b.coll) = false := by simpa using h2
      simp [h1, h2, hb]
theorem cmpWr (a b : Wr) : ∃ c : Int, run E (.call 90 [.t (wrT a), .t (wrT b)]) = some (.res [xI c] []) ∧ decide (0 ≤ c) = !wrOrd a b := by
  have h1 := compare a.coll b.coll
  have h2 := compareInt a.id b.id
  have h3 := cmpOr (Lib.compareBytes a.coll b.coll) (cmpI a.id b.id)
  have d1 := d90_1
  simp [regionOf, findR, pick, Tryz.f90] at d1
  have dd := fun st => run_region_draw E st 1 _ d1
  clear d1
  refine ⟨orI (Lib.compareBytes a.coll b.coll) (cmpI a.id b.id), ?_, ?_⟩
  · rw [run_call E 90 _ rfl Tryz.func90 rfl rfl rfl (by simp)]
    have hr2 : ([0, 1] : List Nat) = List.range 2 := rfl
    simp [dd, h1, h2, h3, hr2]
  · unfold wrOrd
    by_cases he : a.coll = b.coll
    · have h0 : Lib.compareBytes b.coll b.coll = 0 := by rw [compareBytes_eq]
      rw [he, h0, bytesLess_irrefl]
      simp only [orI, if_true, beq_self_eq_true, Bool.true_and, Bool.false_or]
      unfold cmpI
      by_cases h4 : a.id < b.id
      · simp [h4]
      · by_cases h5 : b.id < a.id <;> simp [h4, h5]
    · rw [cmpB_sign _ _ he]
      have hb : (a.coll == b.coll) = false := by simpa using he
      rw [hb]
      cases h1 : Op.bytesLess a.coll b.coll <;> simp [orI]
abbrev txnB (t : Txn) : Ob := .box 48 [.t (.int .i64 t.session), .t (.int .i64 t.snap), .t (.list (t.reads.map rdT)), .t (.list (t.writes.map wrT))]
theorem implTxn_loop (t : Txn) (h : t.Sm) (b : Bool) (hb : b = seqOK writeOK wrOrd t.writes) : ∀ s o q, (s 1 = .ptr 0 0 ∧ s 6 = .t (.list (t.writes.map wrT)) ∧ s 7 = .t (.int .i64 t.writes.length) ∧ s 8 = .t (.int .i64 0) ∧ o 0 = txnB t ∧ 0 < q) →
    ∃ e s' o' q', run E (.code (.loop (loopAt Tryz.f23 0)) ⟨s, o, q, 51⟩) = some (.st e ⟨s', o', q', 51⟩) ∧ e = (if b then .exit 0 else .ret) ∧ s' 1 = .ptr 0 0 ∧ o' 0 = txnB t ∧ (b = false → s' 2 = .t (.bool false)) := by
  intro s o q hI
  have d4 := d23_4
  simp [regionOf, findR, pick, Tryz.f23] at d4
  have dd := fun st => run_region_draw E st 4 _ d4
  clear d4
  have hlen := h.writes.1
  refine loop_for (c := loopAt Tryz.f23 0) (N := 51)
    (fun i s o q => s 1 = .ptr 0 0 ∧ s 6 = .t (.list (t.writes.map wrT)) ∧ s 7 = .t (.int .i64 t.writes.length) ∧ s 8 = .t (.int .i64 i) ∧ o 0 = txnB t ∧ 0 < q ∧ b = stepsFrom t.writes.length (seqStep writeOK wrOrd t.writes) i)
    (fun e s' o' q' => e = (if b then .exit 0 else .ret) ∧ s' 1 = .ptr 0 0 ∧ o' 0 = txnB t ∧ (b = false → s' 2 = .t (.bool false))) t.writes.length ?_ ?_
    t.writes.length 0 s o q (by omega) ⟨hI.1, hI.2.1, hI.2.2.1, hI.2.2.2.1, hI.2.2.2.2.1, hI.2.2.2.2.2, hb⟩
  · rintro i s o q hi ⟨h1, h6, h7, h8, ho, hq, hp⟩
    have hq0 : q ≠ 0 := by omega
    have h0q : 0 ≠ q := by omega
    have hxi : t.writes[i]? = some t.writes[i] := List.getElem?_eq_getElem hi
    have hi' : (i : Int) < (t.writes.length : Int) := by omega
    have hw := wrap_succ (n := i) (by omega)
    have hc := implWriteOK t.writes[i] (h.writes.2 _ (List.getElem_mem hi))
    rw [stepsFrom_lt hi] at hp
    cases i with
    | zero =>
      rw [seq_zero hi] at hp
      simp at h8 hw hxi hi'
      generalize writeOK t.writes[0] = z at *
      cases z <;> simp at hp <;> simp [loopAt, loopsOf, Tryz.f23, dd, h1, h6, h7, h8, ho, hq0, h0q, hq, hi, hi', hxi, hw, hc, hp]
    | succ k =>
      rw [seq_succ hi] at hp
      have hk : k < t.writes.length := by omega
      have hxk : t.writes[k]? = some t.writes[k] := List.getElem?_eq_getElem hk
      have hwk := wrap_nat (n := k) (by omega)
      have hpos : (0 : Int) < (k : Int) + 1 := by omega
      have hge : (0 : Int) ≤ (k : Int) + 1 := by omega
      obtain ⟨c, hcm, hcs⟩ := cmpWr t.writes[k] t.writes[k + 1]
      simp at h8 hw hi'
      generalize writeOK t.writes[k + 1] = z at *
      generalize wrOrd t.writes[k] t.writes[k + 1] = y at *
      by_cases hc0 : 0 ≤ c
      · have hy : y = false := by simpa [hc0] using hcs
        subst hy
        cases z <;> simp at hp <;> simp [loopAt, loopsOf, Tryz.f23, dd, h1, h6, h7, h8, ho, hq0, h0q, hq, hi, hi', hxi, hw, hc, hp, hk, hxk, hwk, hpos, hge, hcm, hc0]
      · have hy : y = true := by simpa [hc0] using hcs
        subst hy
        cases z <;> simp at hp <;> simp [loopAt, loopsOf, Tryz.f23, dd, h1, h6, h7, h8, ho, hq0, h0q, hq, hi, hi', hxi, hw, hc, hp, hk, hxk, hwk, hpos, hge, hcm, hc0]
  · rintro s o q ⟨h1, h6, h7, h8, ho, hq, hp⟩
    rw [stepsFrom_end] at hp
    simp [loopAt, loopsOf, Tryz.f23, h1, h6, h7, h8, ho, hp]
def txnI (t : Txn) : Bool := seqOK writeOK wrOrd t.writes && (in1 0 3 t.session && in1 0 10000 t.snap && decide (t.reads.length ≤ 20) && t.reads.all readOK)
theorem implTxnOK (t : Txn) (h : t.Sm) : run E (.call 23 [.t (txnT t)]) = some (.res [xB (txnI t)] []) := by
  rw [run_call E 23 _ rfl Tryz.func23 rfl rfl rfl (by simp)]
  obtain ⟨b, hb⟩ : ∃ b, b = seqOK writeOK wrOrd t.writes := ⟨_, rfl⟩
  obtain ⟨X, A, B, C, hx⟩ := sk (implTxn_loop t h b hb)
  simp only [loopAt, loopsOf, Tryz.f23] at hx
  have h1 := isPlaceN t.session
  have h2 := inR t.snap 0 10000
  have h3 := areReads t.reads h.reads.1 h.reads.2
  have l20 : ((t.reads.length : Int) ≤ 20) = (t.reads.length ≤ 20) := by have := h.reads.1; simp; omega
  unfold txnI
  rw [← hb]
  cases b with
  | false => simp at hx; simp [hx]
  | true =>
    simp at hx
    generalize in1 0 3 t.session = z1 at *
    generalize in1 0 10000 t.snap = z2 at *
    generalize t.reads.all readOK = z3 at *
    by_cases c4 : t.reads.length ≤ 20
    · cases z1 <;> cases z2 <;> simp [hx, h1, h2, h3, l20, c4]
    · cases z1 <;> cases z2 <;> simp [hx, h1, h2, h3, l20, c4]
theorem specTxn_reads (t : Txn) (h : t.Sm) (b : Bool) (hb : b = stepsFrom t.reads.length (seqStep readOK (fun _ _ => true) t.reads) 0) : ∀ s o q, (s 1 = .ptr 0 0 ∧ s 3 = .t (.int .i64 0) ∧ o 0 = txnB t) →
    ∃ e s' o' q', run E (.code (.loop (loopAt Tryz.f21 0)) ⟨s, o, q, 74⟩) = some (.st e ⟨s', o', q', 74⟩) ∧ e = (if b then .exit 0 else .ret) ∧ s' 1 = .ptr 0 0 ∧ o' 0 = txnB t ∧ (b = false → s' 2 = .t (.bool false)) := by
  intro s o q hI
  have hlen := h.reads.1
  refine loop_for (c := loopAt Tryz.f21 0) (N := 74)
    (fun i s o q => s 1 = .ptr 0 0 ∧ s 3 = .t (.int .i64 i) ∧ o 0 = txnB t ∧ b = stepsFrom t.reads.length (seqStep readOK (fun _ _ => true) t.reads) i)
    (fun e s' o' q' => e = (if b then .exit 0 else .ret) ∧ s' 1 = .ptr 0 0 ∧ o' 0 = txnB t ∧ (b = false → s' 2 = .t (.bool false))) t.reads.length ?_ ?_
    t.reads.length 0 s o q (by omega) ⟨hI.1, hI.2.1, hI.2.2, hb⟩
  · rintro i s o q hi ⟨h1, h3, ho, hp⟩
    have hxi : t.reads[i]? = some t.reads[i] := List.getElem?_eq_getElem hi
    have hi' : (i : Int) < (t.reads.length : Int) := by omega
    have hw := wrap_succ (n := i) (by omega)
    have hc := specReadOK t.reads[i] (h.reads.2 _ (List.getElem_mem hi))
    rw [stepsFrom_lt hi, plain_step hi] at hp
    generalize readOK t.reads[i] = z at *
    cases z <;> simp at hp <;> simp [loopAt, loopsOf, Tryz.f21, h1, h3, ho, hi, hi', hxi, hw, hc, hp]
  · rintro s o q ⟨h1, h3, ho, hp⟩
    rw [stepsFrom_end] at hp
    simp [loopAt, loopsOf, Tryz.f21, h1, h3, ho, hp]
theorem specTxn_writes (t : Txn) (h : t.Sm) (b : Bool) (hb : b = seqOK writeOK wrOrd t.writes) : ∀ s o q, (s 1 = .ptr 0 0 ∧ s 4 = .t (.int .i64 0) ∧ o 0 = txnB t) →
    ∃ e s' o' q', run E (.code (.loop (loopAt Tryz.f21 1)) ⟨s, o, q, 74⟩) = some (.st e ⟨s', o', q', 74⟩) ∧ e = (if b then .exit 2 else .ret) ∧ (b = false → s' 2 = .t (.bool false)) := by
  intro s o q hI
  have d11 := d21_11
  simp [regionOf, findR, pick, Tryz.f21] at d11
  have dd := fun st => run_region_draw E st 11 _ d11
  clear d11
  have hlen := h.writes.1
  refine loop_for (c := loopAt Tryz.f21 1) (N := 74)
    (fun i s o q => s 1 = .ptr 0 0 ∧ s 4 = .t (.int .i64 i) ∧ o 0 = txnB t ∧ b = stepsFrom t.writes.length (seqStep writeOK wrOrd t.writes) i)
    (fun e s' o' q' => e = (if b then .exit 2 else .ret) ∧ (b = false → s' 2 = .t (.bool false))) t.writes.length ?_ ?_
    t.writes.length 0 s o q (by omega) ⟨hI.1, hI.2.1, hI.2.2, hb⟩
  · rintro i s o q hi ⟨h1, h4, ho, hp⟩
    have hxi : t.writes[i]? = some t.writes[i] := List.getElem?_eq_getElem hi
    have hi' : (i : Int) < (t.writes.length : Int) := by omega
    have hw := wrap_succ (n := i) (by omega)
    have hc := specWriteOK t.writes[i] (h.writes.2 _ (List.getElem_mem hi))
    rw [stepsFrom_lt hi] at hp
    cases i with
    | zero =>
      rw [seq_zero hi] at hp
      simp at h4 hw hxi hi'
      generalize writeOK t.writes[0] = z at *
      cases z <;> simp at hp <;> simp [loopAt, loopsOf, Tryz.f21, dd, h1, h4, ho, hi, hi', hxi, hw, hc, hp]
    | succ k =>
      rw [seq_succ hi] at hp
      have hk : k < t.writes.length := by omega
      have hxk : t.writes[k]? = some t.writes[k] := List.getElem?_eq_getElem hk
      have hwk := wrap_nat (n := k) (by omega)
      have hpos : (0 : Int) < (k : Int) + 1 := by omega
      have hge : (0 : Int) ≤ (k : Int) + 1 := by omega
      have hls := specWrLess t.writes[k] t.writes[k + 1]
      simp at h4 hw hi'
      generalize writeOK t.writes[k + 1] = z at *
      generalize wrOrd t.writes[k] t.writes[k + 1] = y at *
      cases z <;> cases y <;> simp at hp <;> simp [loopAt, loopsOf, Tryz.f21, dd, h1, h4, ho, hi, hi', hxi, hw, hc, hp, hk, hxk, hwk, hpos, hge, hls]
  · rintro s o q ⟨h1, h4, ho, hp⟩
    rw [stepsFrom_end] at hp
    simp [loopAt, loopsOf, Tryz.f21, h1, h4, ho, hp]
def txnS (t : Txn) : Bool := txnI t && decide (t.writes.length ≤ 60)
theorem specTxnOK (t : Txn) (h : t.Sm) : run E (.call 21 [.t (txnT t)]) = some (.res [xB (txnS t)] []) := by
  rw [run_call E 21 _ rfl Tryz.func21 rfl rfl rfl (by simp)]
  obtain ⟨b, hb⟩ : ∃ b, b = seqOK writeOK wrOrd t.writes := ⟨_, rfl⟩
  obtain ⟨z3, hz3⟩ : ∃ z3, z3 = t.reads.all readOK := ⟨_, rfl⟩
  obtain ⟨X, A, B, C, hx⟩ := sk (specTxn_writes t h b hb)
  obtain ⟨X2, A2, B2, C2, hx2⟩ := sk (specTxn_reads t h z3 (by rw [seq_plain]; exact hz3))
  simp only [loopAt, loopsOf, Tryz.f21] at hx hx2
  have h1 := l01In1 t.session 0 3
  have h2 := l01In1 t.snap 0 10000
  have l20 : (20 < (t.reads.length : Int)) = (20 < t.reads.length) := by have := h.reads.1; simp; omega
  have l60 : (60 < (t.writes.length : Int)) = (60 < t.writes.length) := by have := h.writes.1; simp; omega
  unfold txnS txnI
  rw [← hb, ← hz3]
  generalize in1 0 3 t.session = z1 at *
  generalize in1 0 10000 t.snap = z2 at *
  clear hb hz3
  by_cases c4 : 20 < t.reads.length
  · have c4' : ¬ t.reads.length ≤ 20 := by omega
    cases z1 <;> cases z2 <;> simp [h1, h2, l20, c4, c4']
  · have c4' : t.reads.length ≤ 20 := by omega
    by_cases c5 : 60 < t.writes.length
    · have c5' : ¬ t.writes.length ≤ 60 := by omega
      cases z1 <;> cases z2 <;> simp [h1, h2, l20, c4, c4', l60, c5, c5']
    · have c5' : t.writes.length ≤ 60 := by omega
      cases z1 <;> cases z2 <;> try simp [h1, h2, l20, c4, c4', l60, c5, c5']
      cases z3 with
      | false => simp at hx2; simp [h1, h2, l20, c4, c4', l60, c5, c5', hx2]
      | true => cases b <;> simp at hx hx2 <;> simp [h1, h2, l20, c4, c4', l60, c5, c5', hx, hx2]
end Go.Yd
/- StoreOK: the parts of both sides. -/
set_option linter.unusedSimpArgs false
set_option linter.unusedVariables false
namespace Go.Yd
open Go.Ev Go.Proofs Go.Pu
set_option maxRecDepth 100000
set_option maxHeartbeats 16000000
theorem indexFunc_316_1 (xs : List Col) (g : Nat) (c0 : List T) (p : Col → Bool) (hl : xs.length < 9223372036854775807) (hm : E.md g = []) (hf : E.flat g = true) (hp : ∀ x ∈ xs, run E (.call g [.t (colT x), .dref c0]) = some (.res [xB (p x)] [])) :
    run E (.call 316 [.t (.list (xs.map colT)), .fn g [c0]]) = some (.res [xI (idxP p xs)] []) := by
  rw [run_call E 316 _ rfl Tryz.func316 rfl rfl rfl (by simp)]
  rw [E_md] at hm
  have lp := fun (r : Int) (hr : r = idxP p xs) => sk (fun s o q hI => loop_for (c := loopAt Tryz.f316 0) (N := 19)
    (fun i s o q => s 0 = .t (.list (xs.map colT)) ∧ s 1 = .fn g [.dptr c0] ∧ s 7 = .t (.int .i64 xs.length) ∧ s 8 = .t (.int .i64 i) ∧ r = if idxP p (xs.drop i) < 0 then -1 else idxP p (xs.drop i) + i)
    (fun e s' o' q' => e = (if r < 0 then .exit 0 else .ret) ∧ (0 ≤ r → s' 4 = .t (.int .i64 r))) xs.length
    (by
      rintro i s o q hi ⟨h0, h1, h7, h8, hr⟩
      have hd : xs.drop i = xs[i] :: xs.drop (i + 1) := by rw [List.drop_eq_getElem_cons hi]
      have hi' : (i : Int) < (xs.length : Int) := by omega
      have hw := wrap_succ (n := i) (by omega)
      have hx := hp xs[i] (List.getElem_mem hi)
      rw [hd, idxP] at hr
      cases hpx : p xs[i] with
      | true =>
        simp [hpx] at hr hx
        have hr' : ¬ r < 0 := by omega
        simp [-mdOf, loopAt, loopsOf, Tryz.f316, h0, h1, h7, h8, hi, hi', hx, hw, hm, hf, hr', hr]
      | false =>
        simp [hpx] at hr hx
        have hr2 : r = if idxP p (xs.drop (i + 1)) < 0 then -1 else idxP p (xs.drop (i + 1)) + ((i : Int) + 1) := by
          rw [hr]
          by_cases hq : idxP p (xs.drop (i + 1)) < 0
          · simp [hq]
          · have : ¬ idxP p (xs.drop (i + 1)) + 1 < 0 := by omega
            simp [hq, this]; omega
        clear hr
        simp [-mdOf, loopAt, loopsOf, Tryz.f316, h0, h1, h7, h8, hi, hi', hx, hw, hm, hf]
        exact hr2)
    (by
      rintro s o q ⟨h0, h1, h7, h8, hr⟩
      simp [idxP] at hr
      simp [loopAt, loopsOf, Tryz.f316, h0, h1, h7, h8, hr])
    xs.length 0 s o q (by omega) hI)
  simp only [loopAt, loopsOf, Tryz.f316] at lp
  obtain ⟨X, A, B, C, hx⟩ := lp _ rfl
  have hz : idxP p xs = if idxP p xs < 0 then -1 else idxP p xs := by
    cases xs with
    | nil => simp [idxP]
    | cons x r =>
      unfold idxP
      split
      · simp
      · split
        · simp
        · have : ¬ idxP p r + 1 < 0 := by omega
          simp [this]
  simp [← hz] at hx
  by_cases h : idxP p xs < 0
  · have h1 : idxP p xs = -1 := by rw [hz]; simp [h]
    simp [h] at hx
    simp [hx, h1]
  · have h2 : 0 ≤ idxP p xs := by omega
    simp [h, h2] at hx
    simp [hx]
end Go.Yd
