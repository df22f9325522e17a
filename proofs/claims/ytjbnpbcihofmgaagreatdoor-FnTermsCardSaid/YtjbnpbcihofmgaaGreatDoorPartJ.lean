/- What is drawn from a text of bytes: terms. -/
import Derived.Test.YtjbnpbcihofmgaaGreatDoorPartI
import Derived.Test.YtjbnpbcihofmgaaGreatDoorPartG
set_option linter.unusedSimpArgs false
set_option linter.unusedVariables false
namespace Go.Zd
open Go.Ev Go.Proofs Go.Pu
set_option maxRecDepth 100000
set_option maxHeartbeats 8000000
def seven : List Bytes := [[97], [98], [99], [116, 97, 103, 115], [97, 46, 98], [116, 97, 103, 115, 46, 97], [105, 100]]
theorem seven_ok : ∀ x ∈ seven, pathOK x = true := by decide
theorem srcSeven (s : Src) (m : Nat) (hm : m < 1000000000) (h : s.Ok m) : ∃ (x : Bytes) (s' : Src), run E (.call 160 [srcX s, .t (.list [.str [97], .str [98], .str [99], .str [116, 97, 103, 115], .str [97, 46, 98], .str [116, 97, 103, 115, 46, 97], .str [105, 100]])]) = some (.res [xS x] [some (srcX s')]) ∧ pathOK x = true ∧ s'.Ok (m + 1) := by
  obtain ⟨x, s', h1, h2, h3⟩ := srcPick s m hm h seven (by decide) (by decide)
  exact ⟨x, s', h1, seven_ok x h2, h3⟩
theorem drawTerm (s : Src) (m : Nat) (hm : m + 1000 < 1000000000) (h : s.Ok m) : ∃ t s', run E (.call 105 [srcX s]) = some (.res [trmX t] [some (srcX s')]) ∧ termOK t = true := by
  obtain ⟨r, s0, a0, b0, c0⟩ := srcNext s m (by omega) h 10 (by omega) (by omega)
  obtain ⟨p, s1, a1, b1, c1⟩ := srcSeven s0 (m + 1) (by omega) c0
  obtain ⟨v, s2, a2, b2, c2⟩ := draws1 s1 (m + 1 + 1) (by omega) c1
  simp at a0 a2
  obtain ⟨Y, hY⟩ : ∃ Y, run E (.call 105 [srcX s]) = Y := ⟨_, rfl⟩
  rw [hY]
  rw [run_call E 105 _ rfl Tryz.func105 rfl rfl rfl (by simp)] at hY
  have small : ∀ op : Int, 1 ≤ op → op ≤ 6 → termOK ⟨op, p, v⟩ = true := by
    intro op h1 h2
    have e7 : ¬ op = 7 := by omega
    have e8 : ¬ op = 8 := by omega
    have e9 : ¬ op = 9 := by omega
    have e10 : ¬ op = 10 := by omega
    simp [termOK, b1, valueOK, b2, opOK, e7, e8, e9, e10, h1, h2]
  rcases (by omega : r = 0 ∨ r = 1 ∨ r = 2 ∨ r = 3 ∨ r = 4 ∨ r = 5 ∨ r = 6 ∨ r = 7 ∨ r = 8 ∨ r = 9) with rfl | rfl | rfl | rfl | rfl | rfl | rfl | rfl | rfl | rfl
  iterate 6
    · simp [a0, a1, a2] at hY
      subst hY
      refine ⟨⟨_, p, v⟩, s2, rfl, small _ ?_ ?_⟩ <;> decide
  · obtain ⟨x, s3, a3, b3, c3⟩ := drawScalar s2 (m + 1 + 1 + 82) (by omega) c2
    obtain ⟨y, s4, a4, b4, c4⟩ := drawScalar s3 (m + 1 + 1 + 82 + 4) (by omega) c3
    have hl := l01List [x, y] (fun z hz => by
      simp at hz
      rcases hz with rfl | rfl
      · exact okP_little b3.1
      · exact okP_little b4.1) (by simp)
    simp at hl
    simp [a0, a1, a2, a3, a4, hl] at hY
    subst hY
    refine ⟨⟨7, p, ⟨4, 0, encP x ++ encP y⟩⟩, s4, rfl, ?_⟩
    simp [termOK, b1, valueOK, pair_ok x y b3 b4, opOK]
  · obtain ⟨n, s3, a3, b3, c3⟩ := srcNext s2 (m + 1 + 1 + 82) (by omega) c2 2 (by omega) (by omega)
    simp at a3
    simp [a0, a1, a2, a3] at hY
    subst hY
    refine ⟨⟨8, p, ⟨1, n, []⟩⟩, s3, rfl, ?_⟩
    simp [termOK, b1, valueOK, (scalar_bool n b3).1, opOK]
  · obtain ⟨n, s3, a3, b3, c3⟩ := srcNext s2 (m + 1 + 1 + 82) (by omega) c2 6 (by omega) (by omega)
    have i1 := l01Int n
    simp at a3
    simp [a0, a1, a2, a3, i1] at hY
    subst hY
    refine ⟨⟨9, p, ⟨2, n, []⟩⟩, s3, rfl, ?_⟩
    have hle : (n : Int) ≤ 5 := by omega
    simp [termOK, b1, valueOK, (scalar_int n (by omega) (by omega)).1, opOK]
    try omega
  · obtain ⟨n, s3, a3, b3, c3⟩ := srcNext s2 (m + 1 + 1 + 82) (by omega) c2 3 (by omega) (by omega)
    have i1 := l01Int n
    simp at a3
    simp [a0, a1, a2, a3, i1] at hY
    subst hY
    refine ⟨⟨10, p, ⟨2, n, []⟩⟩, s3, rfl, ?_⟩
    simp [termOK, b1, valueOK, (scalar_int n (by omega) (by omega)).1, opOK]
theorem termOf (bs : Bytes) (h : bs.length ≤ 1048576) : ∃ t, run E (.call 44 [.t (.list (bs.map byteT))]) = some (.res [trmX t] []) ∧ termOK t = true := by
  obtain ⟨s, h1, h2⟩ := l00Source bs h
  obtain ⟨t, s', h3, h4⟩ := drawTerm s 0 (by omega) h2
  refine ⟨t, ?_, h4⟩
  rw [run_call E 44 _ rfl Tryz.func44 rfl rfl rfl (by simp)]
  simp [h1, h3]
end Go.Zd
/- The law FnExactTermMatches over plain data. -/
set_option linter.unusedSimpArgs false
set_option linter.unusedVariables false
namespace Go.Zd
open Go.Ev Go.Proofs Go.Pu
set_option maxRecDepth 100000
set_option maxHeartbeats 16000000
theorem lawTermMatches (t : Trm) (v : Val) (ht : t.wd) (hv : W v.t.length) : run E (.call 5 [.t (trmT t), xV v]) = some (.res [xB true] []) := by
  rw [run_call E 5 _ rfl Tryz.func5 rfl rfl rfl (by simp)]
  have h1 := szTerm t ht 1048576 (by omega) (by omega)
  by_cases hn : szTrm t 1048576 < 0
  · simp [h1, hn]
  · have hs := szTrm_sm (by omega) (by omega) hn
    have hle := szTrm_le t 1048576 (by omega)
    have h2 := szValue v hv (szTrm t 1048576) (by omega) hle
    generalize szTrm t 1048576 = k at *
    by_cases hm : szVal v k < 0
    · simp [h1, hn, h2, hm]
    · have hvb : (v.t.length : Int) ≤ k := szB_bound hm
      have h3 := toTerm t
      have h4 := toValue v
      have h5 := specTermMatches t v hs (by omega)
      have h6 := implTermMatches t v hs (by omega)
      have d8 := d5_8
      simp [regionOf, findR, pick, Tryz.f5] at d8
      have dd8 := fun st => run_region_draw E st 8 _ d8
      clear d8
      have d9 := d5_9
      simp [regionOf, findR, pick, Tryz.f5] at d9
      have dd9 := fun st => run_region_draw E st 9 _ d9
      clear d9
      generalize (termOK t && isDocP v && matchT t v) = b at *
      cases hb : (termOK t && isDocP v) <;> rw [hb] at h5 h6 <;> simp at h5 h6 <;> simp [h1, hn, h2, hm, h3, h4, h5, h6, dd8, dd9]
end Go.Zd
/- The law FnTerms over plain data. -/
set_option linter.unusedSimpArgs false
set_option linter.unusedVariables false
namespace Go.Zd
open Go.Ev Go.Proofs Go.Pu
set_option maxRecDepth 100000
set_option maxHeartbeats 16000000
/-- What is told of one path and one value, for an operation. -/
def fitP (p : Bytes) (v doc : Val) (op : Nat) : Bool := matchT ⟨op, p, v⟩ doc
theorem any_or {α : Type} (f g h : α → Bool) (l : List α) (he : ∀ x ∈ l, f x = (g x || h x)) : l.any f = (l.any g || l.any h) := by
  induction l with
  | nil => rfl
  | cons a r ih =>
    simp only [List.any_cons]
    rw [he a (by simp), ih (fun x hx => he x (List.mem_cons_of_mem _ hx))]
    cases g a <;> cases h a <;> simp
theorem fit_ne (p : Bytes) (v doc : Val) : fitP p v doc 2 = !fitP p v doc 1 := by
  have e : oneT 2 v = oneT 1 v := by funext x; simp [oneT]
  simp [fitP, matchT, standP, e]
theorem stand_ok (p : Bytes) (op : Int) (v doc : Val) (h : okP 5 doc = true) : ∀ y ∈ standP ⟨op, p, v⟩ doc, okP 5 y = true := by
  intro y hy
  unfold standP at hy
  split at hy
  · simp at hy; subst hy; decide
  · exact getP_ok _ 5 doc (by omega) h y hy
theorem same_ord (x v : Val) (hx : okP 5 x = true) (hv : okP 5 v = true) : sameV x v = ((x.k == v.k) && decide (ordD 5 x v = 0)) := by
  rw [Bool.eq_iff_iff, sameV_iff]
  simp only [Bool.and_eq_true, beq_iff_eq, decide_eq_true_eq]
  constructor
  · rintro rfl; exact ⟨rfl, ordD_refl 5 x hx⟩
  · rintro ⟨_, h⟩; exact ordD_zero 5 x v hx hv h
theorem fit_le (p : Bytes) (v doc : Val) (hv : okP 5 v = true) (hd : okP 5 doc = true) : fitP p v doc 4 = (fitP p v doc 3 || fitP p v doc 1) := by
  have hs := stand_ok p 4 v doc hd
  have e3 : standP ⟨3, p, v⟩ doc = standP ⟨4, p, v⟩ doc := by simp [standP]
  have e1 : standP ⟨1, p, v⟩ doc = standP ⟨4, p, v⟩ doc := by simp [standP]
  have h := any_or (oneT 4 v) (oneT 3 v) (oneT 1 v) (standP ⟨4, p, v⟩ doc) (fun x hx => by
    simp only [oneT]
    simp only [if_true, if_false, reduceCtorEq]
    have hso := same_ord x v (hs x hx) hv
    simp [hso]
    cases (x.k == v.k) <;> simp
    by_cases h : ordD 5 x v < 0
    · have : ordD 5 x v ≤ 0 := by omega
      simp [h, this]
    · by_cases h2 : ordD 5 x v = 0
      · simp [h2]
      · have : ¬ ordD 5 x v ≤ 0 := by omega
        simp [h, h2, this])
  simp [fitP, matchT, e3, e1, h]
theorem fit_ge (p : Bytes) (v doc : Val) (hv : okP 5 v = true) (hd : okP 5 doc = true) : fitP p v doc 6 = (fitP p v doc 5 || fitP p v doc 1) := by
  have hs := stand_ok p 6 v doc hd
  have e3 : standP ⟨5, p, v⟩ doc = standP ⟨6, p, v⟩ doc := by simp [standP]
  have e1 : standP ⟨1, p, v⟩ doc = standP ⟨6, p, v⟩ doc := by simp [standP]
  have h := any_or (oneT 6 v) (oneT 5 v) (oneT 1 v) (standP ⟨6, p, v⟩ doc) (fun x hx => by
    simp only [oneT]
    simp only [if_true, if_false, reduceCtorEq]
    have hso := same_ord x v (hs x hx) hv
    simp [hso]
    cases (x.k == v.k) <;> simp
    by_cases h : 0 < ordD 5 x v
    · have : 0 ≤ ordD 5 x v := by omega
      simp [h, this]
    · by_cases h2 : ordD 5 x v = 0
      · simp [h2]
      · have : ¬ 0 ≤ ordD 5 x v := by omega
        simp [h, h2, this])
  simp [fitP, matchT, e3, e1, h]
theorem fit_there (p : Bytes) (doc : Val) : matchT ⟨8, p, ⟨1, 0, []⟩⟩ doc = !matchT ⟨8, p, ⟨1, 1, []⟩⟩ doc := by
  simp [matchT]
theorem termOK_small (t : Trm) (v : Val) (ht : termOK t = true) (hv : okP 5 v = true) (op : Int) (h1 : 1 ≤ op) (h2 : op ≤ 6) : termOK ⟨op, t.path, v⟩ = true := by
  have hp : pathOK t.path = true := by simp [termOK] at ht; exact ht.1.1
  have e7 : ¬ op = 7 := by omega
  have e8 : ¬ op = 8 := by omega
  have e9 : ¬ op = 9 := by omega
  have e10 : ¬ op = 10 := by omega
  simp [termOK, hp, valueOK, hv, opOK, e7, e8, e9, e10, h1, h2]
theorem terms_loop (t : Trm) (v doc : Val) (ht : termOK t = true) (hts : t.path.length < 4294967296) (hv : okP 5 v = true) (hd : okP 5 doc = true) (hk : doc.k = 5) : ∀ s o q, (s 5 = .ptr 0 0 ∧ s 6 = .ptr 1 0 ∧ s 7 = .t (.str t.path) ∧ s 8 = .ptr 2 0 ∧ s 9 = .row 3 ∧ s 10 = .t (.int .i64 1) ∧ o 0 = valB doc ∧ o 1 = .box 55 [.t (.int .i64 t.op), .t (.str t.path), .t (.int .i64 t.v.k), .t (.int .i64 t.v.n), .t (.str t.v.t)] ∧ o 2 = valB v ∧ o 3 = .row 4 [] true ∧ 3 < q) →
    ∃ e s' o' q', run E (.code (.loop (loopAt Tryz.f9 0)) ⟨s, o, q, 153⟩) = some (.st e ⟨s', o', q', 153⟩) ∧ ∃ r, e = .exit 0 ∧ s' 5 = .ptr 0 0 ∧ s' 6 = .ptr 1 0 ∧ s' 7 = .t (.str t.path) ∧ s' 8 = .ptr 2 0 ∧ s' 9 = .row r ∧ o' 0 = valB doc ∧ o' 1 = .box 55 [.t (.int .i64 t.op), .t (.str t.path), .t (.int .i64 t.v.k), .t (.int .i64 t.v.n), .t (.str t.v.t)] ∧ o' r = .row 4 [.bool (fitP t.path v doc 1), .bool (fitP t.path v doc 2), .bool (fitP t.path v doc 3), .bool (fitP t.path v doc 4), .bool (fitP t.path v doc 5), .bool (fitP t.path v doc 6)] true := by
  intro s o q hI
  obtain ⟨F, hF⟩ : ∃ F, F = fitP t.path v doc := ⟨_, rfl⟩
  rw [← hF]
  have hcall1 : ∀ i : Nat, i < 6 → run E (.call 26 [.t (trmT ⟨(i : Int) + 1, t.path, v⟩), xV doc]) = some (.res [xB (F (i + 1)), xI 0] []) := by
    intro i hi
    have h1 := implTermMatches ⟨(i : Int) + 1, t.path, v⟩ doc ⟨hts, by have := okP_size hv; simp only; omega⟩ (by have := okP_size hd; omega)
    rw [termOK_small t v ht hv _ (by omega) (by omega)] at h1
    have h2 : isDocP doc = true := by simp [isDocP, valueOK, hd, hk]
    rw [h2] at h1
    have h3 : F (i + 1) = matchT ⟨(i : Int) + 1, t.path, v⟩ doc := by rw [hF]; rfl
    rw [h3]
    simpa using h1
  have hcall2 : ∀ i : Nat, i < 6 → run E (.call 24 [.t (trmT ⟨(i : Int) + 1, t.path, v⟩), xV doc]) = some (.res [xB (F (i + 1)), xI 0] []) := by
    intro i hi
    have h1 := specTermMatches ⟨(i : Int) + 1, t.path, v⟩ doc ⟨hts, by have := okP_size hv; simp only; omega⟩ (by have := okP_size hd; omega)
    rw [termOK_small t v ht hv _ (by omega) (by omega)] at h1
    have h2 : isDocP doc = true := by simp [isDocP, valueOK, hd, hk]
    rw [h2] at h1
    have h3 : F (i + 1) = matchT ⟨(i : Int) + 1, t.path, v⟩ doc := by rw [hF]; rfl
    rw [h3]
    simpa using h1
  clear hF
  refine loop_for (c := loopAt Tryz.f9 0) (N := 153)
    (fun i s o q => ∃ (r : Nat), s 5 = .ptr 0 0 ∧ s 6 = .ptr 1 0 ∧ s 7 = .t (.str t.path) ∧ s 8 = .ptr 2 0 ∧ s 9 = .row r ∧ s 10 = .t (.int .i64 (i + 1 : Nat)) ∧ o 0 = valB doc ∧ o 1 = .box 55 [.t (.int .i64 t.op), .t (.str t.path), .t (.int .i64 t.v.k), .t (.int .i64 t.v.n), .t (.str t.v.t)] ∧ o 2 = valB v ∧ o r = .row 4 ((List.range i).map fun j => .bool (F (j + 1))) true ∧ 2 < r ∧ r < q)
    (fun e s' o' q' => ∃ r, e = .exit 0 ∧ s' 5 = .ptr 0 0 ∧ s' 6 = .ptr 1 0 ∧ s' 7 = .t (.str t.path) ∧ s' 8 = .ptr 2 0 ∧ s' 9 = .row r ∧ o' 0 = valB doc ∧ o' 1 = .box 55 [.t (.int .i64 t.op), .t (.str t.path), .t (.int .i64 t.v.k), .t (.int .i64 t.v.n), .t (.str t.v.t)] ∧ o' r = .row 4 [.bool (F 1), .bool (F 2), .bool (F 3), .bool (F 4), .bool (F 5), .bool (F 6)] true) 6 ?_ ?_
    6 0 s o q (by omega) (by
      obtain ⟨h5, h6, h7, h8, h9, h10, ho0, ho1, ho2, ho3, hq⟩ := hI
      exact ⟨3, h5, h6, h7, h8, h9, h10, ho0, ho1, ho2, by simpa using ho3, by omega, hq⟩)
  · rintro i s o q hi ⟨r, h5, h6, h7, h8, h9, h10, ho0, ho1, ho2, hor, hr2, hrq⟩
    have hi' : (i : Int) + 1 ≤ 6 := by omega
    have hwi := wrap_succ (n := i + 1) (by omega)
    have hc1 := hcall1 i hi
    have hc2 := hcall2 i hi
    have e0 : 0 ≠ q := by omega
    have e1 : 1 ≠ q := by omega
    have e2 : 2 ≠ q := by omega
    have e3 : r ≠ q := by omega
    have e4 : r ≠ q + 1 := by omega
    have e5 : 0 ≠ r := by omega
    have e6 : 1 ≠ r := by omega
    have e7 : 2 ≠ r := by omega
    have e8 : q ≠ 0 := by omega
    have e9 : q ≠ 1 := by omega
    have e10 : q ≠ 2 := by omega
    have e11 : q ≠ r := by omega
    have e12 : r ≠ 0 := by omega
    have e13 : r ≠ 1 := by omega
    have e14 : r ≠ 2 := by omega
    have e15 : 2 ≠ q + 1 := by omega
    have e16 : 1 ≠ q + 1 := by omega
    obtain ⟨L, hL⟩ : ∃ L : List T, L = (List.range i).map fun j => .bool (F (j + 1)) := ⟨_, rfl⟩
    have hLn : ((List.range (i + 1)).map fun j => T.bool (F (j + 1))) = L ++ [.bool (F (i + 1))] := by rw [hL, List.range_succ]; simp
    have hLl : L.length = i := by rw [hL]; simp
    rw [← hL] at hor
    rw [hLn]
    clear hL hLn
    have hcat : L.length + 1 ≤ 140737488355328 := by omega
    generalize F (i + 1) = b at *
    simp at h10 hwi
    simp [loopAt, loopsOf, Tryz.f9, h5, h6, h7, h8, h9, h10, ho0, ho1, ho2, hor, hi', hwi, hc1, hc2, e0, e1, e2, e3, e4, e5, e6, e7, e8, e9, e10, e11, e12, e13, e14, e15, e16, hcat]
    omega
  · rintro s o q ⟨r, h5, h6, h7, h8, h9, h10, ho0, ho1, ho2, hor, hr2, hrq⟩
    have hr6 : ((List.range 6).map fun j => T.bool (F (j + 1))) = [.bool (F 1), .bool (F 2), .bool (F 3), .bool (F 4), .bool (F 5), .bool (F 6)] := rfl
    rw [hr6] at hor
    simp at h10
    simp [loopAt, loopsOf, Tryz.f9, h5, h6, h7, h8, h9, h10, ho0, ho1, hor]
theorem lawTerms (c0 c1 : Bytes) : run E (.call 9 [.t (.list (c0.map byteT)), .t (.list (c1.map byteT))]) = some (.res [xB true] []) := by
  rw [run_call E 9 _ rfl Tryz.func9 rfl rfl rfl (by simp)]
  by_cases n0 : (1048576 : Int) < (c0.length : Int)
  · simp [n0]
  · by_cases n1 : (1048576 : Int) < (c1.length : Int)
    · simp [n0, n1]
    · obtain ⟨doc, a1, a2, a3⟩ := docOfCode c0 (by omega)
      obtain ⟨t, b1, b2⟩ := termOf c1 (by omega)
      obtain ⟨v, e1, e2⟩ := valueOf c1 (by omega)
      have hp : pathOK t.path = true := by simp [termOK] at b2; exact b2.1.1
      have htv : okP 5 t.v = true := by simp [termOK, valueOK] at b2; exact b2.1.2
      have hpl : t.path.length ≤ 50 := by
        unfold pathOK at hp
        simp only [Bool.and_eq_true, decide_eq_true_eq] at hp
        exact hp.1.1
      have h1 := specValueOK doc (by have := okP_size a2; omega)
      have h2 := specValueOK v (by have := okP_size e2; omega)
      have h3 := implTermOK t ⟨by omega, by have := okP_size htv; omega⟩
      have hv1 : valueOK doc = true := a2
      have hv2 : valueOK v = true := e2
      rw [hv1] at h1
      rw [hv2] at h2
      rw [b2] at h3
      have hdoc : isDocP doc = true := by simp [isDocP, valueOK, a2, a3]
      have m1 := implTermMatches ⟨8, t.path, ⟨1, 1, []⟩⟩ doc ⟨by simp only; omega, by simp⟩ (by have := okP_size a2; omega)
      have m2 := implTermMatches ⟨8, t.path, ⟨1, 0, []⟩⟩ doc ⟨by simp only; omega, by simp⟩ (by have := okP_size a2; omega)
      have k1 : termOK ⟨8, t.path, ⟨1, 1, []⟩⟩ = true := by
        have : okP 5 ⟨1, 1, []⟩ = true := by decide
        simp [termOK, hp, valueOK, this, opOK]
      have k2 : termOK ⟨8, t.path, ⟨1, 0, []⟩⟩ = true := by
        have : okP 5 ⟨1, 0, []⟩ = true := by decide
        simp [termOK, hp, valueOK, this, opOK]
      rw [k1, hdoc] at m1
      rw [k2, hdoc, fit_there] at m2
      obtain ⟨X, A, B, C, M, hx⟩ := sk1 (terms_loop t v doc b2 (by omega) e2 a2 a3)
      simp only [loopAt, loopsOf, Tryz.f9] at hx
      rw [fit_ne, fit_le t.path v doc e2 a2, fit_ge t.path v doc e2 a2] at hx
      have d20 := d9_20
      simp [regionOf, findR, pick, Tryz.f9] at d20
      have dd20 := fun st => run_region_draw E st 20 _ d20
      clear d20
      generalize matchT ⟨8, t.path, ⟨1, 1, []⟩⟩ doc = f8 at *
      generalize fitP t.path v doc 1 = f1 at *
      generalize fitP t.path v doc 3 = f3 at *
      generalize fitP t.path v doc 5 = f5 at *
      simp at m1 m2 hx
      cases f8 <;> cases f1 <;> cases f3 <;> cases f5 <;> simp at m1 m2 hx <;> simp [n0, n1, a1, b1, e1, h1, h2, h3, m1, m2, hx, dd20]
end Go.Zd
