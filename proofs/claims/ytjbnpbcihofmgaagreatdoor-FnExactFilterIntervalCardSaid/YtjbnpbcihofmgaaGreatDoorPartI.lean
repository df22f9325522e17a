/- The interval of a clause and of a filter: spec's and impl's. -/
import Derived.Test.YtjbnpbcihofmgaaGreatDoorPartH
import Derived.Test.YtjbnpbcihofmgaaGreatDoorPartF
import Derived.Test.YtjbnpbcihofmgaaGreatDoorPartG
set_option linter.unusedSimpArgs false
set_option linter.unusedVariables false
namespace Go.Zd
open Go.Ev Go.Proofs Go.Pu
set_option maxRecDepth 100000
set_option maxHeartbeats 16000000
def saysB (t : Trm) : Bool := decide (t.op = 2) || decide (t.op = 7) || decide (t.op = 8) || decide (t.op = 10)
def hitB (p : Prt) (t : Trm) : Bool := t.path == p.path && !saysB t
def clauseI (p : Prt) (c : List Trm) : Ivl := match c.find? (hitB p) with
  | some t => implIv t p.desc
  | none => opnI
def clStep (p : Prt) (out : Ivl) (t : Trm) : Ivl := if ((t.path == p.path) && out.opn && (out.low == [])) = true then specIv t p.desc else out
theorem implIv_closed (t : Trm) (f : Bool) (hv : okP 5 t.v = true) (ho : opOK t.op t.v = true) (hs : saysB t = false) : (implIv t f).opn = false := by
  obtain ⟨r, hk⟩ := keyI_cons t.v f hv
  have ht := keyI_take t.v f hv
  have hr := okP_range hv
  have hb : ∀ n : Int, 1 ≤ n → n ≤ 6 → ∃ h : UInt8, h < 255 ∧ kindB n f = [h] := by
    intro n h1 h6
    have hn : (byteAt n 0).toNat = n.toNat := by
      have := byteAt_nat n 0 (by omega)
      simp at this
      omega
    cases f with
    | false =>
      refine ⟨_, ?_, rfl⟩
      rw [UInt8.lt_iff_toNat_lt, hn]
      have : (255 : UInt8).toNat = 255 := rfl
      omega
    | true =>
      refine ⟨turnB (byteAt n 0), ?_, rfl⟩
      rw [UInt8.lt_iff_toNat_lt]
      have h1 : (255 : UInt8).toNat = 255 := rfl
      have h2 : (turnB (byteAt n 0)).toNat = 255 - (byteAt n 0).toNat := by
        unfold turnB
        rw [UInt8.toNat_sub]
        have := (byteAt n 0).toNat_lt
        omega
      omega
  obtain ⟨h, hh, hkb⟩ := hb (t.v.k + 1) (by omega) (by omega)
  rw [hkb] at hk ht
  have hk' : keyI t.v f = h :: r := by simpa using hk
  obtain ⟨x, hx, _⟩ := begin_cons h r hh
  have b1 := begin_one h hh
  have hop : 1 ≤ t.op ∧ t.op ≤ 10 := by
    unfold opOK at ho
    split at ho
    · omega
    · split at ho
      · omega
      · split at ho
        · omega
        · split at ho
          · omega
          · simp at ho; omega
  unfold saysB at hs
  simp at hs
  obtain ⟨⟨⟨s2, s7⟩, s8⟩, s10⟩ := hs
  unfold implIv
  rw [ht, hk', hx, b1]
  by_cases o9 : t.op = 9
  · have hn9 : 0 ≤ t.v.n ∧ t.v.n ≤ 5 := by
      rw [o9] at ho
      simp [opOK] at ho
      exact ho.2
    obtain ⟨h2, hh2, hkb2⟩ := hb (t.v.n + 1) (by omega) (by omega)
    have b2 := begin_one h2 hh2
    have e : flipO t.op f = 9 := by cases f <;> simp [flipO, o9]
    simp [e, hkb2, b2]
  · have h6 : t.op = 1 ∨ t.op = 3 ∨ t.op = 4 ∨ t.op = 5 ∨ t.op = 6 := by omega
    rcases h6 with o | o | o | o | o <;> cases f <;> simp [flipO, o]
theorem fold_closed (p : Prt) : ∀ (c : List Trm) (out : Ivl), out.opn = false → c.foldl (clStep p) out = out
  | [], out, h => rfl
  | t :: r, out, h => by
    have : clStep p out t = out := by unfold clStep; simp [h]
    rw [List.foldl_cons, this]
    exact fold_closed p r out h
theorem specIv_says (t : Trm) (f : Bool) (h : saysB t = true) : specIv t f = opnI := by
  unfold saysB at h
  simp at h
  unfold specIv
  have h1 : ¬ t.op = 1 := by omega
  have h2 : ¬ (t.op = 3 ∨ t.op = 5 ∨ t.op = 4 ∨ t.op = 6) := by omega
  have h3 : ¬ t.op = 9 := by omega
  rw [if_neg h1, if_neg h2, if_neg h3]
theorem clause_eq (p : Prt) : ∀ (c : List Trm), (∀ t ∈ c, okP 5 t.v = true ∧ opOK t.op t.v = true) → c.foldl (clStep p) opnI = clauseI p c
  | [], _ => rfl
  | t :: r, h => by
    have ih := clause_eq p r (fun x hx => h x (by simp [hx]))
    obtain ⟨hv, ho⟩ := h t (by simp)
    rw [List.foldl_cons]
    unfold clauseI
    rw [List.find?_cons]
    cases hp : (t.path == p.path) with
    | false =>
      have e1 : clStep p opnI t = opnI := by unfold clStep; simp [hp]
      have e2 : hitB p t = false := by unfold hitB; simp [hp]
      rw [e1, e2]
      exact ih
    | true =>
      have e1 : clStep p opnI t = specIv t p.desc := by unfold clStep; simp [hp]
      rw [e1]
      cases hs : saysB t with
      | true =>
        have e2 : hitB p t = false := by unfold hitB; simp [hs]
        rw [e2, specIv_says t _ hs]
        exact ih
      | false =>
        have e2 : hitB p t = true := by unfold hitB; simp [hp, hs]
        rw [e2, specIv_eq t _ hv]
        simp only
        exact fold_closed p r _ (implIv_closed t _ hv ho hs)
end Go.Zd
/- The interval of a clause: spec's l07Clause and impl's, run. -/
set_option linter.unusedSimpArgs false
set_option linter.unusedVariables false
namespace Go.Zd
open Go.Ev Go.Proofs Go.Pu
set_option maxRecDepth 100000
set_option maxHeartbeats 16000000
abbrev ivlS (i : Ivl) : List SV := [.t (.str i.low), .t (.str i.high), .t (.bool i.opn)]
def trmS (t : Trm) : List SV := [.t (.int .i64 t.op), .t (.str t.path), .t (.int .i64 t.v.k), .t (.int .i64 t.v.n), .t (.str t.v.t)]
def termsOK (c : List Trm) : Prop := ∀ t ∈ c, okP 5 t.v = true ∧ opOK t.op t.v = true ∧ t.path.length < 4294967296
theorem specClause (c : List Trm) (p : Prt) (hl : c.length < 4294967296) (h : termsOK c) : run E (.call 173 [.t (clsT c), .t (prtT p)]) = some (.res [ivlX (clauseI p c)] []) := by
  rw [run_call E 173 _ rfl Tryz.func173 rfl rfl rfl (by simp)]
  have lp := fun (R : Ivl) (hR : R = c.foldl (clStep p) opnI) => sk (fun s o q hI => loop_for (c := loopAt Tryz.f173 0) (N := 40)
    (fun i s o q => ∃ cur : Ivl, s 2 = .ptr 0 0 ∧ s 3 = .ptr 1 0 ∧ s 4 = .ptr 2 0 ∧ s 5 = .ptr 3 0 ∧ s 6 = .t (.int .i64 i) ∧ o 0 = .box 173 [.t (.list (c.map trmT))] ∧ o 1 = .box 108 [.t (.str p.path), .t (.bool p.desc)] ∧ o 2 = .box 104 (ivlS ⟨[], [], false⟩) ∧ o 3 = .box 104 (ivlS cur) ∧ 3 < q ∧ R = (c.drop i).foldl (clStep p) cur)
    (fun e s' o' q' => e = .exit 0 ∧ s' 4 = .ptr 2 0 ∧ s' 5 = .ptr 3 0 ∧ o' 2 = .box 104 (ivlS ⟨[], [], false⟩) ∧ o' 3 = .box 104 (ivlS R)) c.length
    (by
      rintro i s o q hi ⟨cur, h2, h3, h4, h5, h6, o0, o1, o2, o3, hq, hp⟩
      have hi' : (i : Int) < (c.length : Int) := by omega
      have hwi := wrap_succ (n := i) (by omega)
      have hxi : c[i]? = some c[i] := List.getElem?_eq_getElem hi
      have g0 : ¬ 0 = q := by omega
      have g1 : ¬ 1 = q := by omega
      have g2 : ¬ 2 = q := by omega
      have g3 : ¬ 3 = q := by omega
      have g4 : 3 < q + 1 := by omega
      obtain ⟨hv, ho, hpl⟩ := h c[i] (List.getElem_mem hi)
      have hr := okP_range hv
      have hsp := specTermIv c[i] p.desc hv (by omega)
      rw [List.drop_eq_getElem_cons hi, List.foldl_cons] at hp
      obtain ⟨cl, ch, co⟩ := cur
      cases hpe : (c[i].path == p.path) with
      | false =>
        have e1 : clStep p ⟨cl, ch, co⟩ c[i] = ⟨cl, ch, co⟩ := by unfold clStep; simp [hpe]
        rw [e1] at hp
        simp [loopAt, loopsOf, Tryz.f173, h2, h3, h4, h5, h6, o0, o1, o2, o3, hi, hi', hwi, hxi, hpe, g0, g1, g2, g3, g4]
        exact ⟨⟨cl, ch, co⟩, ⟨rfl, rfl, rfl⟩, hp⟩
      | true =>
        cases co with
        | false =>
          have e1 : clStep p ⟨cl, ch, false⟩ c[i] = ⟨cl, ch, false⟩ := by unfold clStep; simp
          rw [e1] at hp
          simp [loopAt, loopsOf, Tryz.f173, h2, h3, h4, h5, h6, o0, o1, o2, o3, hi, hi', hwi, hxi, hpe, g0, g1, g2, g3, g4]
          exact ⟨⟨cl, ch, false⟩, ⟨rfl, rfl, rfl⟩, hp⟩
        | true =>
          cases hle : (cl == []) with
          | false =>
            have e1 : clStep p ⟨cl, ch, true⟩ c[i] = ⟨cl, ch, true⟩ := by unfold clStep; simp [hle]
            rw [e1] at hp
            simp [loopAt, loopsOf, Tryz.f173, h2, h3, h4, h5, h6, o0, o1, o2, o3, hi, hi', hwi, hxi, hpe, hle, g0, g1, g2, g3, g4]
            exact ⟨⟨cl, ch, true⟩, ⟨rfl, rfl, rfl⟩, hp⟩
          | true =>
            have e1 : clStep p ⟨cl, ch, true⟩ c[i] = specIv c[i] p.desc := by unfold clStep; simp [hle, hpe]
            rw [e1] at hp
            generalize specIv c[i] p.desc = iv at *
            obtain ⟨il, ih, io⟩ := iv
            simp [loopAt, loopsOf, Tryz.f173, h2, h3, h4, h5, h6, o0, o1, o2, o3, hi, hi', hwi, hxi, hpe, hle, hsp, g0, g1, g2, g3, g4]
            exact ⟨⟨il, ih, io⟩, ⟨rfl, rfl, rfl⟩, hp⟩)
    (by
      rintro s o q ⟨cur, h2, h3, h4, h5, h6, o0, o1, o2, o3, hq, hp⟩
      simp at hp
      subst hp
      simp [loopAt, loopsOf, Tryz.f173, h2, h3, h4, h5, h6, o0, o1, o2, o3])
    c.length 0 s o q (by omega) hI)
  simp only [loopAt, loopsOf, Tryz.f173] at lp
  obtain ⟨X, A, B, C, hl⟩ := lp _ rfl
  have hl' := fun s o q a0 a1 a2 a3 a4 a5 a6 a7 a8 a9 => hl s o q ⟨opnI, a0, a1, a2, a3, a4, a5, a6, a7, a8, a9, rfl⟩
  clear hl lp
  rw [clause_eq p c (fun t ht => ⟨(h t ht).1, (h t ht).2.1⟩)] at hl'
  generalize clauseI p c = R at *
  obtain ⟨rl, rh, ro⟩ := R
  simp at hl'
  simp [hl']
theorem implClause (c : List Trm) (p : Prt) (hl : c.length < 4294967296) (h : termsOK c) : run E (.call 175 [.t (clsT c), .t (prtT p)]) = some (.res [ivlX (clauseI p c)] []) := by
  rw [run_call E 175 _ rfl Tryz.func175 rfl rfl rfl (by simp)]
  have lp := fun (R : Option Trm) (hR : R = c.find? (hitB p)) => sk (fun s o q hI => loop_for (c := loopAt Tryz.f175 0) (N := 30)
    (fun i s o q => s 2 = .ptr 0 0 ∧ s 3 = .ptr 1 0 ∧ s 4 = .ptr 2 0 ∧ s 8 = .t (.list (c.map trmT)) ∧ s 9 = .t (.int .i64 c.length) ∧ s 10 = .t (.int .i64 i) ∧ o 1 = .box 108 [.t (.str p.path), .t (.bool p.desc)] ∧ o 2 = .box 104 (ivlS ⟨[], [], false⟩) ∧ 2 < q ∧ R = (c.drop i).find? (hitB p))
    (fun e s' o' q' => e = (if R.isSome then .ret else .exit 0) ∧ s' 4 = .ptr 2 0 ∧ o' 2 = .box 104 (ivlS (match R with
      | some t => implIv t p.desc
      | none => ⟨[], [], false⟩))) c.length
    (by
      rintro i s o q hi ⟨h2, h3, h4, h8, h9, h10, o1, o2, hq, hp⟩
      have hi' : (i : Int) < (c.length : Int) := by omega
      have hwi := wrap_succ (n := i) (by omega)
      have hxi : c[i]? = some c[i] := List.getElem?_eq_getElem hi
      have g1 : ¬ 1 = q := by omega
      have g2 : ¬ 2 = q := by omega
      have g4 : 2 < q + 1 := by omega
      obtain ⟨hv, ho, hpl⟩ := h c[i] (List.getElem_mem hi)
      have hr := okP_range hv
      have hsp := implTermIv c[i] p.desc hv (by omega)
      have hsa := saysAll c[i]
      have e0 : (decide (c[i].op = 2) || decide (c[i].op = 7) || decide (c[i].op = 8) || decide (c[i].op = 10)) = saysB c[i] := rfl
      rw [e0] at hsa
      clear e0
      rw [List.drop_eq_getElem_cons hi, List.find?_cons] at hp
      cases hpe : (c[i].path == p.path) with
      | false =>
        have e1 : hitB p c[i] = false := by unfold hitB; simp [hpe]
        rw [e1] at hp
        simp [loopAt, loopsOf, Tryz.f175, h2, h3, h4, h8, h9, h10, o1, o2, hi, hi', hwi, hxi, hpe, g1, g2, g4]
        exact hp
      | true =>
        cases hs : saysB c[i] with
        | true =>
          rw [hs] at hsa
          have e1 : hitB p c[i] = false := by unfold hitB; simp [hs]
          rw [e1] at hp
          simp [loopAt, loopsOf, Tryz.f175, h2, h3, h4, h8, h9, h10, o1, o2, hi, hi', hwi, hxi, hpe, hsa, g1, g2, g4]
          exact hp
        | false =>
          rw [hs] at hsa
          have e1 : hitB p c[i] = true := by unfold hitB; simp [hs, hpe]
          rw [e1] at hp
          simp only at hp
          rw [hp]
          simp [loopAt, loopsOf, Tryz.f175, h2, h3, h4, h8, h9, h10, o1, o2, hi, hi', hwi, hxi, hpe, hsa, hsp, g1, g2, g4])
    (by
      rintro s o q ⟨h2, h3, h4, h8, h9, h10, o1, o2, hq, hp⟩
      simp at hp
      subst hp
      simp [loopAt, loopsOf, Tryz.f175, h2, h3, h4, h8, h9, h10, o1, o2])
    c.length 0 s o q (by omega) hI)
  simp only [loopAt, loopsOf, Tryz.f175] at lp
  unfold clauseI
  cases hf : c.find? (hitB p) with
  | none =>
    obtain ⟨X, A, B, C, hx⟩ := lp none hf.symm
    have hx' := fun s o q a0 a1 a2 a3 a4 a5 a6 a7 a8 => hx s o q ⟨a0, a1, a2, a3, a4, a5, a6, a7, a8, hf.symm⟩
    simp at hx'
    simp [hx']
  | some t =>
    obtain ⟨X, A, B, C, hx⟩ := lp (some t) hf.symm
    have hx' := fun s o q a0 a1 a2 a3 a4 a5 a6 a7 a8 => hx s o q ⟨a0, a1, a2, a3, a4, a5, a6, a7, a8, hf.symm⟩
    simp at hx'
    simp [hx']
end Go.Zd
/- The interval of a filter: spec's l07Filter and impl's; FilterInterval of both. -/
set_option linter.unusedSimpArgs false
set_option linter.unusedVariables false
namespace Go.Zd
open Go.Ev Go.Proofs Go.Pu
set_option maxRecDepth 100000
set_option maxHeartbeats 16000000
def flStep (p : Prt) (out : Ivl) (c : List Trm) : Ivl := ⟨minS out.low (clauseI p c).low, maxS out.high (clauseI p c).high, out.opn || (clauseI p c).opn⟩
def closeI (i : Ivl) : Ivl := if i.opn then ⟨i.low, [], true⟩ else i
def filterI (p : Prt) : List (List Trm) → Ivl
  | [] => opnI
  | c :: r => closeI (r.foldl (flStep p) (clauseI p c))
def clausesOK (f : List (List Trm)) : Prop := ∀ c ∈ f, c.length < 4294967296 ∧ termsOK c
theorem minS_nf (x y : Bytes) : minS x y = if Op.bytesLess x y = true ∨ x = y then x else y := by unfold minS; simp
theorem maxS_nf (x y : Bytes) : maxS x y = if Op.bytesLess x y = false then x else y := by unfold maxS; simp
theorem specFilter (f : List (List Trm)) (p : Prt) (hl : f.length < 4294967296) (h0 : 0 < f.length) (h : clausesOK f) : run E (.call 113 [.t (filT f), .t (prtT p)]) = some (.res [ivlX (filterI p f)] []) := by
  rw [run_call E 113 _ rfl Tryz.func113 rfl rfl rfl (by simp)]
  have d1 := d113_1
  simp [regionOf, findR, pick, Tryz.f113] at d1
  have dd1 := fun st => run_region_draw E st 1 _ d1
  clear d1
  have d5 := d113_5
  simp [regionOf, findR, pick, Tryz.f113] at d5
  have dd5 := fun st => run_region_draw E st 5 _ d5
  clear d5
  have lp := fun (R : Ivl) => sk (fun s o q hI => loop_for (c := loopAt Tryz.f113 0) (N := 51)
    (fun i s o q => ∃ cur : Ivl, 1 ≤ i ∧ s 2 = .ptr 0 0 ∧ s 3 = .ptr 1 0 ∧ s 4 = .ptr 2 0 ∧ s 5 = .ptr 3 0 ∧ s 6 = .t (.int .i64 i) ∧ o 0 = .box 42 [.t (.list (f.map clsT))] ∧ o 1 = .box 108 [.t (.str p.path), .t (.bool p.desc)] ∧ o 2 = .box 104 (ivlS ⟨[], [], false⟩) ∧ o 3 = .box 104 (ivlS cur) ∧ 3 < q ∧ R = (f.drop i).foldl (flStep p) cur)
    (fun e s' o' q' => e = .exit 0 ∧ s' 4 = .ptr 2 0 ∧ s' 5 = .ptr 3 0 ∧ o' 2 = .box 104 (ivlS ⟨[], [], false⟩) ∧ o' 3 = .box 104 (ivlS R)) f.length
    (by
      rintro i s o q hi ⟨cur, hi1, h2, h3, h4, h5, h6, o0, o1, o2, o3, hq, hp⟩
      have hi' : (i : Int) < (f.length : Int) := by omega
      have hwi := wrap_succ (n := i) (by omega)
      have hxi : f[i]? = some f[i] := List.getElem?_eq_getElem hi
      have g0 : ¬ 0 = q := by omega
      have g1 : ¬ 1 = q := by omega
      have g2 : ¬ 2 = q := by omega
      have g3 : ¬ 3 = q := by omega
      have g4 : 3 < q + 1 := by omega
      have g5 : ¬ q = 3 := by omega
      obtain ⟨hcl, hco⟩ := h f[i] (List.getElem_mem hi)
      have hsp := specClause f[i] p hcl hco
      rw [List.drop_eq_getElem_cons hi, List.foldl_cons] at hp
      obtain ⟨cl, ch, co⟩ := cur
      cases co <;> simp [loopAt, loopsOf, Tryz.f113, dd5, h2, h3, h4, h5, h6, o0, o1, o2, o3, hi, hi', hwi, hxi, hsp, g0, g1, g2, g3, g4, g5]
      · exact ⟨flStep p ⟨cl, ch, false⟩ f[i], ⟨by simp [flStep, minS_nf], by simp [flStep, maxS_nf], by simp [flStep]⟩, hp⟩
      · exact ⟨flStep p ⟨cl, ch, true⟩ f[i], ⟨by simp [flStep, minS_nf], by simp [flStep, maxS_nf], by simp [flStep]⟩, hp⟩)
    (by
      rintro s o q ⟨cur, hi1, h2, h3, h4, h5, h6, o0, o1, o2, o3, hq, hp⟩
      simp at hp
      subst hp
      simp [loopAt, loopsOf, Tryz.f113, h2, h3, h4, h5, h6, o0, o1, o2, o3])
    (f.length - 1) 1 s o q (by omega) hI)
  simp only [loopAt, loopsOf, Tryz.f113] at lp
  cases f with
  | nil => simp at h0
  | cons c r =>
    obtain ⟨hcl, hco⟩ := h c (by simp)
    have hsp := specClause c p hcl hco
    unfold filterI
    obtain ⟨iv, hiv⟩ : ∃ iv, iv = clauseI p c := ⟨_, rfl⟩
    obtain ⟨R, hR⟩ : ∃ R, R = r.foldl (flStep p) iv := ⟨_, rfl⟩
    simp only [← hiv, ← hR] at hsp ⊢
    obtain ⟨X, A, B, C, hl'⟩ := lp R
    have hx' := fun s o q a0 a1 a2 a3 a4 a5 a6 a7 a8 a9 => hl' s o q ⟨iv, Nat.le_refl _, a0, a1, a2, a3, a4, a5, a6, a7, a8, a9, by simpa using hR⟩
    clear hl' lp hR hiv
    obtain ⟨rl, rh, ro⟩ := R
    obtain ⟨il, ih, io⟩ := iv
    simp at hx'
    cases ro <;> simp [closeI, hx', dd1, hsp]
end Go.Zd
/- The interval of a filter: impl's; FilterInterval of both. -/
set_option linter.unusedSimpArgs false
set_option linter.unusedVariables false
namespace Go.Zd
open Go.Ev Go.Proofs Go.Pu
set_option maxRecDepth 100000
set_option maxHeartbeats 16000000
theorem implFilter (f : List (List Trm)) (p : Prt) (hl : f.length < 4294967296) (h0 : 0 < f.length) (h : clausesOK f) : run E (.call 116 [.t (filT f), .t (prtT p)]) = some (.res [ivlX (filterI p f)] []) := by
  rw [run_call E 116 _ rfl Tryz.func116 rfl rfl rfl (by simp)]
  have d1 := d116_1
  simp [regionOf, findR, pick, Tryz.f116] at d1
  have dd1 := fun st => run_region_draw E st 1 _ d1
  clear d1
  have n6 := n116_6
  have s6 := s116_6
  simp [regionOf, findR, pick, Tryz.f116] at n6 s6
  have dd6 := fun st => run_region_drawS E st 6 _ n6 s6
  clear n6 s6
  cases f with
  | nil => simp at h0
  | cons c r =>
  have lp := fun (R : Ivl) => sk (fun s o q hI => loop_for (c := loopAt Tryz.f116 0) (N := 50)
    (fun i s o q => ∃ cur : Ivl, s 3 = .ptr 1 0 ∧ s 4 = .ptr 2 0 ∧ s 5 = .ptr 3 0 ∧ s 17 = .t (.list (r.map clsT)) ∧ s 18 = .t (.int .i64 r.length) ∧ s 19 = .t (.int .i64 i) ∧ o 1 = .box 108 [.t (.str p.path), .t (.bool p.desc)] ∧ o 2 = .box 104 (ivlS ⟨[], [], false⟩) ∧ o 3 = .box 104 (ivlS cur) ∧ 3 < q ∧ R = (r.drop i).foldl (flStep p) cur)
    (fun e s' o' q' => e = .exit 0 ∧ s' 4 = .ptr 2 0 ∧ s' 5 = .ptr 3 0 ∧ o' 2 = .box 104 (ivlS ⟨[], [], false⟩) ∧ o' 3 = .box 104 (ivlS R)) r.length
    (by
      rintro i s o q hi ⟨cur, h3, h4, h5, h17, h18, h19, o1, o2, o3, hq, hp⟩
      have hlr : r.length < 4294967296 := by simp at hl; omega
      have hi' : (i : Int) < (r.length : Int) := by omega
      have hwi := wrap_succ (n := i) (by omega)
      have hxi : r[i]? = some r[i] := List.getElem?_eq_getElem hi
      have g1 : ¬ 1 = q := by omega
      have g2 : ¬ 2 = q := by omega
      have g3 : ¬ 3 = q := by omega
      have g4 : 3 < q + 1 + 1 := by omega
      have g5 : ¬ 1 = q + 1 := by omega
      have g6 : ¬ 2 = q + 1 := by omega
      have g7 : ¬ 3 = q + 1 := by omega
      have g8 : ¬ q + 1 = 3 := by omega
      have g9 : ¬ q = 2 := by omega
      have g10 : ¬ q = 0 := by omega
      obtain ⟨hcl, hco⟩ := h r[i] (by simp)
      have hsp := implClause r[i] p hcl hco
      rw [List.drop_eq_getElem_cons hi, List.foldl_cons] at hp
      obtain ⟨cl, ch, co⟩ := cur
      cases co <;> simp [loopAt, loopsOf, Tryz.f116, dd6, h3, h4, h5, h17, h18, h19, o1, o2, o3, hi, hi', hwi, hxi, hsp, g1, g2, g3, g4, g5, g6, g7, g8, g9, g10]
      · exact ⟨flStep p ⟨cl, ch, false⟩ r[i], ⟨by simp [flStep, minS_nf], by simp [flStep, maxS_nf], by simp [flStep]⟩, hp⟩
      · exact ⟨flStep p ⟨cl, ch, true⟩ r[i], ⟨by simp [flStep, minS_nf], by simp [flStep, maxS_nf], by simp [flStep]⟩, hp⟩)
    (by
      rintro s o q ⟨cur, h3, h4, h5, h17, h18, h19, o1, o2, o3, hq, hp⟩
      simp at hp
      subst hp
      simp [loopAt, loopsOf, Tryz.f116, h3, h4, h5, h17, h18, h19, o1, o2, o3])
    r.length 0 s o q (by omega) hI)
  simp only [loopAt, loopsOf, Tryz.f116] at lp
  obtain ⟨hcl, hco⟩ := h c (by simp)
  have hsp := implClause c p hcl hco
  unfold filterI
  obtain ⟨iv, hiv⟩ : ∃ iv, iv = clauseI p c := ⟨_, rfl⟩
  obtain ⟨R, hR⟩ : ∃ R, R = r.foldl (flStep p) iv := ⟨_, rfl⟩
  simp only [← hiv, ← hR] at hsp ⊢
  obtain ⟨X, A, B, C, hl'⟩ := lp R
  have hx' := fun s o q a0 a1 a2 a3 a4 a5 a6 a7 a8 a9 => hl' s o q ⟨iv, a0, a1, a2, a3, a4, a5, a6, a7, a8, a9, by simpa using hR⟩
  clear hl' lp hR hiv
  obtain ⟨rl, rh, ro⟩ := R
  obtain ⟨il, ih, io⟩ := iv
  simp at hx'
  have htk : (r.map clsT).take r.length = r.map clsT := List.take_of_length_le (by simp)
  cases ro <;> simp [closeI, hx', dd1, hsp, htk]
theorem terms_ok {f : List (List Trm)} (h : filterOK f = true) (hs : filterSm f) : clausesOK f := by
  intro c hc
  have hcs := hs.2 c hc
  unfold filterOK at h
  simp only [Bool.and_eq_true] at h
  have hco := List.all_eq_true.1 h.2 c hc
  unfold clauseOK at hco
  simp only [Bool.and_eq_true] at hco
  refine ⟨hcs.1, fun t ht => ?_⟩
  have hto := List.all_eq_true.1 hco.2 t ht
  unfold termOK at hto
  simp only [Bool.and_eq_true] at hto
  exact ⟨hto.1.2, hto.2, (hcs.2 t ht).1⟩
/-- What FilterInterval answers. -/
def fivOut (f : List (List Trm)) (p : Prt) : Ivl × Int := if filterOK f && pathOK p.path then (filterI p f, 0) else (⟨[], [], false⟩, 1)
theorem specFilterInterval (f : List (List Trm)) (p : Prt) (hs : filterSm f) (hp : p.path.length < 4294967296) : run E (.call 54 [.t (filT f), .t (prtT p)]) = some (.res [ivlX (fivOut f p).1, xI (fivOut f p).2] []) := by
  rw [run_call E 54 _ rfl Tryz.func54 rfl rfl rfl (by simp)]
  have h1 := specFilterOK f hs
  have h2 := specPathOK p.path hp
  unfold fivOut
  cases hf : filterOK f with
  | false => rw [hf] at h1; simp [h1]
  | true =>
    rw [hf] at h1
    cases hq : pathOK p.path with
    | false => rw [hq] at h2; simp [h1, h2]
    | true =>
      rw [hq] at h2
      have hf' := hf
      unfold filterOK at hf'
      simp at hf'
      have h3 := specFilter f p hs.1 (by omega) (terms_ok hf hs)
      simp [h1, h2, h3]
theorem implFilterInterval (f : List (List Trm)) (p : Prt) (hs : filterSm f) (hp : p.path.length < 4294967296) : run E (.call 57 [.t (filT f), .t (prtT p)]) = some (.res [ivlX (fivOut f p).1, xI (fivOut f p).2] []) := by
  rw [run_call E 57 _ rfl Tryz.func57 rfl rfl rfl (by simp)]
  have h1 := implFilterOK f hs
  have h2 := partOK p hp
  unfold fivOut
  cases hf : filterOK f with
  | false => rw [hf] at h1; simp [h1]
  | true =>
    rw [hf] at h1
    cases hq : pathOK p.path with
    | false => rw [hq] at h2; simp [h1, h2]
    | true =>
      rw [hq] at h2
      have hf' := hf
      unfold filterOK at hf'
      simp at hf'
      have h3 := implFilter f p hs.1 (by omega) (terms_ok hf hs)
      simp [h1, h2, h3]
theorem eqInterval (i : Ivl) : run E (.call 58 [.t (ivlT i), .t (ivlT i)]) = some (.res [xB true] []) := by
  rw [run_call E 58 _ rfl Tryz.func58 rfl rfl rfl (by simp)]
  simp
end Go.Zd
/- The law FnExactFilterInterval over plain data. -/
set_option linter.unusedSimpArgs false
set_option linter.unusedVariables false
namespace Go.Zd
open Go.Ev Go.Proofs Go.Pu
set_option maxRecDepth 100000
set_option maxHeartbeats 16000000
theorem lawFilterInterval (f : List (List Trm)) (p : Prt) (hf : filWd f) (hp : W p.path.length) : run E (.call 11 [.t (filT f), .t (prtT p)]) = some (.res [xB true] []) := by
  rw [run_call E 11 _ rfl Tryz.func11 rfl rfl rfl (by simp)]
  have h1 := szFilter f hf 1048576 (by omega) (by omega)
  by_cases hn : szFil f 1048576 < 0
  · simp [h1, hn]
  · have hs := szFil_sm (by omega) (by omega) hn
    have hle : szFil f 1048576 ≤ 1048576 := szFil_le f 1048576 (by omega)
    have h2 := szPart p hp (szFil f 1048576) (by omega) hle
    generalize szFil f 1048576 = k at *
    by_cases hm : szPrt p k < 0
    · simp [h1, hn, h2, hm]
    · have hpb : (p.path.length : Int) ≤ k := szB_bound hm
      have h3 := toFilter f hs.1 (fun c hc => (hs.2 c hc).1)
      have h4 := toPart p
      have h5 := specFilterInterval f p hs (by omega)
      have h6 := implFilterInterval f p hs (by omega)
      have h7 := eqInterval (fivOut f p).1
      have h8 := eqFilter f hs.1 (fun c hc => (hs.2 c hc).1)
      have n8 := n11_8
      have s8 := s11_8
      simp [regionOf, findR, pick, Tryz.f11] at n8 s8
      have dd8 := fun st => run_region_drawS E st 8 _ n8 s8
      clear n8 s8
      have d10 := d11_10
      simp [regionOf, findR, pick, Tryz.f11] at d10
      have dd10 := fun st => run_region_draw E st 10 _ d10
      clear d10
      have d13 := d11_13
      simp [regionOf, findR, pick, Tryz.f11] at d13
      have dd13 := fun st => run_region_draw E st 13 _ d13
      clear d13
      obtain ⟨o, ho⟩ : ∃ o, o = fivOut f p := ⟨_, rfl⟩
      rw [← ho] at h5 h6 h7
      obtain ⟨⟨il, ih, io⟩, c⟩ := o
      simp at h5 h6 h7
      simp [h1, hn, h2, hm, h3, h4, h5, h6, h7, h8, dd8, dd10, dd13]
end Go.Zd
