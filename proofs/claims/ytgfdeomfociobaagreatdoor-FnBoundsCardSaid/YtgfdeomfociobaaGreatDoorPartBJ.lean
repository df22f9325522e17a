/- What is drawn from a text of bytes: terms. -/
import Derived.Test.YtgfdeomfociobaaGreatDoorPartBI
import Derived.Test.YtgfdeomfociobaaGreatDoorPartBG
import Derived.Test.YtgfdeomfociobaaGreatDoorPartBH
import Derived.Test.YtgfdeomfociobaaGreatDoorPartBF
set_option linter.unusedSimpArgs false
set_option linter.unusedVariables false
namespace Go.Yd
open Go.Ev Go.Proofs Go.Pu
set_option maxRecDepth 100000
set_option maxHeartbeats 8000000
def seven : List Bytes := [[97], [98], [99], [116, 97, 103, 115], [97, 46, 98], [116, 97, 103, 115, 46, 97], [105, 100]]
theorem seven_ok : ∀ x ∈ seven, pathOK x = true := by decide
theorem srcSeven (s : Src) (m : Nat) (hm : m < 1000000000) (h : s.Ok m) : ∃ (x : Bytes) (s' : Src), run E (.call 250 [srcX s, .t (.list [.str [97], .str [98], .str [99], .str [116, 97, 103, 115], .str [97, 46, 98], .str [116, 97, 103, 115, 46, 97], .str [105, 100]])]) = some (.res [xS x] [some (srcX s')]) ∧ pathOK x = true ∧ s'.Ok (m + 1) := by
  obtain ⟨x, s', h1, h2, h3⟩ := srcPick s m hm h seven (by decide) (by decide)
  exact ⟨x, s', h1, seven_ok x h2, h3⟩
theorem drawTerm (s : Src) (m : Nat) (hm : m + 1000 < 1000000000) (h : s.Ok m) : ∃ t s', run E (.call 156 [srcX s]) = some (.res [trmX t] [some (srcX s')]) ∧ termOK t = true ∧ s'.Ok (m + 100) := by
  obtain ⟨r, s0, a0, b0, c0⟩ := srcNext s m (by omega) h 10 (by omega) (by omega)
  obtain ⟨p, s1, a1, b1, c1⟩ := srcSeven s0 (m + 1) (by omega) c0
  obtain ⟨v, s2, a2, b2, c2⟩ := draws1 s1 (m + 1 + 1) (by omega) c1
  simp at a0 a2
  obtain ⟨Y, hY⟩ : ∃ Y, run E (.call 156 [srcX s]) = Y := ⟨_, rfl⟩
  rw [hY]
  rw [run_call E 156 _ rfl Tryz.func156 rfl rfl rfl (by simp)] at hY
  have small : ∀ op : Int, 1 ≤ op → op ≤ 6 → termOK ⟨op, p, v⟩ = true := by
    intro op h1 h2
    have e7 : ¬ op = 7 := by omega
    have e8 : ¬ op = 8 := by omega
    have e9 : ¬ op = 9 := by omega
    have e10 : ¬ op = 10 := by omega
    simp [termOK, b1, valueOK, b2, opOK, e7, e8, e9, e10, h1, h2]
  rcases (by omega : r = 0 ∨ r = 1 ∨ r = 2 ∨ r = 3 ∨ r = 4 ∨ r = 5 ∨ r = 6 ∨ r = 7 ∨ r = 8 ∨ r = 9) with rfl | rfl | rfl | rfl | rfl | rfl | rfl | rfl | rfl | rfl
  iterate 6
    · simp [a0, a1, a2] at hY
      subst hY
      refine ⟨⟨_, p, v⟩, s2, rfl, small _ ?_ ?_, c2.up (by omega)⟩ <;> decide
  · obtain ⟨x, s3, a3, b3, c3⟩ := drawScalar s2 (m + 1 + 1 + 82) (by omega) c2
    obtain ⟨y, s4, a4, b4, c4⟩ := drawScalar s3 (m + 1 + 1 + 82 + 4) (by omega) c3
    have hl := l01List [x, y] (fun z hz => by
      simp at hz
      rcases hz with rfl | rfl
      · exact okP_little b3.1
      · exact okP_little b4.1) (by simp)
    simp at hl
    simp [a0, a1, a2, a3, a4, hl] at hY
    subst hY
    refine ⟨⟨7, p, ⟨4, 0, encP x ++ encP y⟩⟩, s4, rfl, ?_, c4.up (by omega)⟩
    simp [termOK, b1, valueOK, pair_ok x y b3 b4, opOK]
  · obtain ⟨n, s3, a3, b3, c3⟩ := srcNext s2 (m + 1 + 1 + 82) (by omega) c2 2 (by omega) (by omega)
    simp at a3
    simp [a0, a1, a2, a3] at hY
    subst hY
    refine ⟨⟨8, p, ⟨1, n, []⟩⟩, s3, rfl, ?_, c3.up (by omega)⟩
    simp [termOK, b1, valueOK, (scalar_bool n b3).1, opOK]
  · obtain ⟨n, s3, a3, b3, c3⟩ := srcNext s2 (m + 1 + 1 + 82) (by omega) c2 6 (by omega) (by omega)
    have i1 := l01Int n
    simp at a3
    simp [a0, a1, a2, a3, i1] at hY
    subst hY
    refine ⟨⟨9, p, ⟨2, n, []⟩⟩, s3, rfl, ?_, c3.up (by omega)⟩
    have hle : (n : Int) ≤ 5 := by omega
    simp [termOK, b1, valueOK, (scalar_int n (by omega) (by omega)).1, opOK]
    try omega
  · obtain ⟨n, s3, a3, b3, c3⟩ := srcNext s2 (m + 1 + 1 + 82) (by omega) c2 3 (by omega) (by omega)
    have i1 := l01Int n
    simp at a3
    simp [a0, a1, a2, a3, i1] at hY
    subst hY
    refine ⟨⟨10, p, ⟨2, n, []⟩⟩, s3, rfl, ?_, c3.up (by omega)⟩
    simp [termOK, b1, valueOK, (scalar_int n (by omega) (by omega)).1, opOK]
theorem termOf (bs : Bytes) (h : bs.length ≤ 1048576) : ∃ t, run E (.call 59 [.t (.list (bs.map byteT))]) = some (.res [trmX t] []) ∧ termOK t = true := by
  obtain ⟨s, h1, h2⟩ := l00Source bs h
  obtain ⟨t, s', h3, h4, _⟩ := drawTerm s 0 (by omega) h2
  refine ⟨t, ?_, h4⟩
  rw [run_call E 59 _ rfl Tryz.func59 rfl rfl rfl (by simp)]
  simp [h1, h3]
abbrev filB0 : Ob := .box 33 [.nil]
/-- One clause is drawn. -/
theorem drawClause_loop (n0 : Nat) (hn0 : n0 ≤ 2) (src : Src) (m : Nat) (hm : m + 2000 < 1000000000) (hs : src.Ok m) (R w0 b : Nat) (kk : Int) (cs : List T) : ∀ s o q, (s 0 = .ptr 0 0 ∧ s 2 = .ptr 1 0 ∧ s 3 = .ptr 3 0 ∧ s 4 = .t (.int .i64 kk) ∧ s 5 = .ptr b 0 ∧ s 6 = .t (.int .i64 n0) ∧ o 0 = srcB src ∧ o 1 = filB0 ∧ o 3 = .box 33 [.row R] ∧ o R = .row 236 cs true ∧ o b = .box 236 [.row w0] ∧ o w0 = .row 120 [] true ∧ 1 < R ∧ R ≠ 3 ∧ R < w0 ∧ 3 < w0 ∧ w0 < b ∧ b < q) →
    ∃ e s' o' q', run E (.code (.loop (loopAt Tryz.f166 1)) ⟨s, o, q, 39⟩) = some (.st e ⟨s', o', q', 39⟩) ∧ ∃ a : Nat × List Trm × Src, ((∀ x ∈ a.2.1, termOK x = true) ∧ a.2.1.length ≤ 2 ∧ a.2.2.Ok (m + 200)) ∧ (e = .exit 2 ∧ s' 0 = .ptr 0 0 ∧ s' 2 = .ptr 1 0 ∧ s' 3 = .ptr 3 0 ∧ s' 4 = .t (.int .i64 kk) ∧ s' 5 = .ptr b 0 ∧ o' 0 = srcB a.2.2 ∧ o' 1 = filB0 ∧ o' 3 = .box 33 [.row R] ∧ o' R = .row 236 cs true ∧ o' b = .box 236 [.row a.1] ∧ o' a.1 = .row 120 (a.2.1.map trmT) true ∧ R < a.1 ∧ 3 < a.1 ∧ a.1 ≠ b ∧ a.1 < q' ∧ b < q' ∧ R ≠ b ∧ 3 ≠ b ∧ 0 ≠ b ∧ 1 ≠ b ∧ R ≠ q' ∧ 3 ≠ q' ∧ 0 ≠ q' ∧ 1 ≠ q' ∧ a.1 ≠ R ∧ a.1 ≠ 3 ∧ q' ≠ R ∧ q' ≠ 3 ∧ q' ≠ 0 ∧ q' ≠ 1) := by
  intro s o q hI
  have n9 := n166_9
  have s9 := s166_9
  simp [regionOf, findR, pick, Tryz.f166] at n9 s9
  have dd := fun st => run_region_drawS E st 9 _ n9 s9
  clear n9 s9
  refine loop_wf (c := loopAt Tryz.f166 1) (N := 39)
    (fun k s o q => ∃ (r : Nat) (acc : List Trm) (sr : Src), s 0 = .ptr 0 0 ∧ s 2 = .ptr 1 0 ∧ s 3 = .ptr 3 0 ∧ s 4 = .t (.int .i64 kk) ∧ s 5 = .ptr b 0 ∧ s 6 = .t (.int .i64 k) ∧ o 0 = srcB sr ∧ o 1 = filB0 ∧ o 3 = .box 33 [.row R] ∧ o R = .row 236 cs true ∧ o b = .box 236 [.row r] ∧ o r = .row 120 (acc.map trmT) true ∧ 1 < R ∧ R ≠ 3 ∧ R < r ∧ 3 < r ∧ R < b ∧ 3 < b ∧ r ≠ b ∧ r < q ∧ b < q ∧ k ≤ 2 ∧ (∀ x ∈ acc, termOK x = true) ∧ acc.length + k ≤ 2 ∧ sr.Ok (m + (2 - k) * 100))
    (fun e s' o' q' => ∃ a : Nat × List Trm × Src, ((∀ x ∈ a.2.1, termOK x = true) ∧ a.2.1.length ≤ 2 ∧ a.2.2.Ok (m + 200)) ∧ (e = .exit 2 ∧ s' 0 = .ptr 0 0 ∧ s' 2 = .ptr 1 0 ∧ s' 3 = .ptr 3 0 ∧ s' 4 = .t (.int .i64 kk) ∧ s' 5 = .ptr b 0 ∧ o' 0 = srcB a.2.2 ∧ o' 1 = filB0 ∧ o' 3 = .box 33 [.row R] ∧ o' R = .row 236 cs true ∧ o' b = .box 236 [.row a.1] ∧ o' a.1 = .row 120 (a.2.1.map trmT) true ∧ R < a.1 ∧ 3 < a.1 ∧ a.1 ≠ b ∧ a.1 < q' ∧ b < q' ∧ R ≠ b ∧ 3 ≠ b ∧ 0 ≠ b ∧ 1 ≠ b ∧ R ≠ q' ∧ 3 ≠ q' ∧ 0 ≠ q' ∧ 1 ≠ q' ∧ a.1 ≠ R ∧ a.1 ≠ 3 ∧ q' ≠ R ∧ q' ≠ 3 ∧ q' ≠ 0 ∧ q' ≠ 1)) ?_
    n0 s o q (by
      obtain ⟨h0, h2, h3, h4, h5, h6, o0, o1, o3, oR, ob, ow, p1, p2, p3, p4, p5, p6⟩ := hI
      exact ⟨w0, [], src, h0, h2, h3, h4, h5, h6, o0, o1, o3, oR, ob, ow, p1, p2, p3, p4, by omega, by omega, by omega, by omega, p6, hn0, by simp, by simpa using hn0, hs.up (Nat.le_add_right _ _)⟩)
  rintro k s o q ⟨r, acc, sr, h0, h2, h3, h4, h5, h6, o0, o1, o3, oR, ob, ow, p1, p2, p3, p4, p5, p6, p7, p8, p9, hk, hacc, hlen, hok⟩
  cases k with
  | zero =>
    simp at h6
    simp [loopAt, loopsOf, Tryz.f166, h6]
    exact ⟨r, acc, sr, ⟨hacc, by omega, hok.up (by omega)⟩, h0, h2, h3, h4, h5, o0, o1, o3, oR, ob, ow, p3, p4, p7, p8, p9, by omega, by omega, by omega, by omega, by omega, by omega, by omega, by omega, by omega, by omega, by omega, by omega, by omega, by omega⟩
  | succ k =>
    obtain ⟨t, s', ht, hto, hso⟩ := drawTerm sr (m + (2 - (k + 1)) * 100) (by omega) hok
    have hso' : s'.Ok (m + (2 - k) * 100) := hso.up (by omega)
    have hpos : (0 : Int) < (k : Int) + 1 := by omega
    have hw2 := wrap_nat (n := k) (by omega)
    have a1 : b ≠ 0 := by omega
    have a2 : 0 ≠ b := by omega
    have a3 : b ≠ 1 := by omega
    have a4 : 1 ≠ b := by omega
    have a5 : b ≠ 3 := by omega
    have a6 : 3 ≠ b := by omega
    have a7 : b ≠ R := by omega
    have a8 : R ≠ b := by omega
    have a9 : b ≠ r := by omega
    have b1 : r ≠ 0 := by omega
    have b2 : 0 ≠ r := by omega
    have b3 : r ≠ 1 := by omega
    have b4 : 1 ≠ r := by omega
    have b5 : r ≠ 3 := by omega
    have b6 : 3 ≠ r := by omega
    have b7 : r ≠ R := by omega
    have b8 : R ≠ r := by omega
    have c1 : R ≠ 0 := by omega
    have c2 : 0 ≠ R := by omega
    have c3 : R ≠ 1 := by omega
    have c4 : 1 ≠ R := by omega
    have c6 : 3 ≠ R := by omega
    have e1 : q ≠ 0 := by omega
    have e2 : 0 ≠ q := by omega
    have e3 : q ≠ 1 := by omega
    have e4 : 1 ≠ q := by omega
    have e5 : q ≠ 3 := by omega
    have e6 : 3 ≠ q := by omega
    have e7 : q ≠ R := by omega
    have e8 : R ≠ q := by omega
    have e9 : q ≠ r := by omega
    have f1 : r ≠ q := by omega
    have f2 : r ≠ q + 1 := by omega
    have f3 : b ≠ q := by omega
    have f4 : q ≠ b := by omega
    have f5 : b ≠ q + 1 := by omega
    have f6 : q + 1 ≠ b := by omega
    have f7 : R ≠ q + 1 := by omega
    have f8 : 3 ≠ q + 1 := by omega
    have f9 : q + 1 ≠ R := by omega
    have hcat : acc.length + 1 ≤ 140737488355328 := by omega
    have hcat2 : (acc.length + 1) * 56 ≤ 140737488355328 := by omega
    simp at h6
    simp [loopAt, loopsOf, Tryz.f166, dd, h0, h2, h3, h4, h5, h6, o0, o1, o3, oR, ob, ow, hpos, hw2, ht, a1, a2, a3, a4, a5, a6, a7, a8, a9, b1, b2, b3, b4, b5, b6, b7, b8, c1, c2, c3, c4, c6, p2, p7, e1, e2, e3, e4, e5, e6, e7, e8, e9, f1, f2, f3, f4, f5, f6, f7, f8, f9, hcat, hcat2]
    exact ⟨k, by omega, rfl, q, acc ++ [t], s', ⟨rfl, rfl, rfl⟩, rfl, by simp [f4], p1, by omega, by omega, p5, p6, by omega, by omega, by omega, by omega, fun x hx => by
      rcases List.mem_append.1 hx with hx | hx
      · exact hacc x hx
      · simp at hx; subst hx; exact hto, by simp; omega, hso'⟩
theorem drawClause2 (n0 : Nat) (hn0 : n0 ≤ 2) (src : Src) (m : Nat) (hm : m + 2000 < 1000000000) (hs : src.Ok m) (R w0 b : Nat) (kk : Int) (cs : List T) : ∀ s o q, (s 0 = .ptr 0 0 ∧ s 2 = .ptr 1 0 ∧ s 3 = .ptr 3 0 ∧ s 4 = .t (.int .i64 kk) ∧ s 5 = .ptr b 0 ∧ s 6 = .t (.int .i64 n0) ∧ o 0 = srcB src ∧ o 1 = filB0 ∧ o 3 = .box 33 [.row R] ∧ o R = .row 236 cs true ∧ o b = .box 236 [.row w0] ∧ o w0 = .row 120 [] true ∧ 1 < R ∧ R ≠ 3 ∧ R < w0 ∧ 3 < w0 ∧ w0 < b ∧ b < q) →
    ∃ e s' o' q', run E (.code (.loop (loopAt Tryz.f166 1)) ⟨s, o, q, 39⟩) = some (.st e ⟨s', o', q', 39⟩) ∧ ∃ a : Nat × List Trm × Src, ((∀ x ∈ a.2.1, termOK x = true) ∧ a.2.1.length ≤ 2 ∧ a.2.2.Ok (m + 200)) ∧ (e = .exit 2 ∧ s' 0 = .ptr 0 0 ∧ s' 2 = .ptr 1 0 ∧ s' 3 = .ptr 3 0 ∧ s' 4 = .t (.int .i64 kk) ∧ s' 5 = .ptr b 0 ∧ o' 0 = srcB a.2.2 ∧ o' 1 = filB0 ∧ o' 3 = .box 33 [.row R] ∧ o' R = .row 236 cs true ∧ o' b = .box 236 [.row a.1] ∧ o' a.1 = .row 120 (a.2.1.map trmT) true ∧ R < a.1 ∧ 3 < a.1 ∧ a.1 ≠ b ∧ a.1 < q' ∧ b < q' ∧ R ≠ b ∧ 3 ≠ b ∧ 0 ≠ b ∧ 1 ≠ b ∧ R ≠ q' ∧ 3 ≠ q' ∧ 0 ≠ q' ∧ 1 ≠ q' ∧ a.1 ≠ R ∧ a.1 ≠ 3 ∧ q' ≠ R ∧ q' ≠ 3 ∧ q' ≠ 0 ∧ q' ≠ 1 ∧ R ≠ a.1 ∧ 3 ≠ a.1 ∧ 0 ≠ a.1 ∧ 1 ≠ a.1 ∧ a.1 ≠ 0 ∧ a.1 ≠ 1 ∧ a.1 ≠ q' ∧ q' ≠ a.1 ∧ b ≠ q' ∧ q' ≠ b ∧ b ≠ a.1 ∧ b ≠ R ∧ b ≠ 3 ∧ b ≠ 0 ∧ b ≠ 1 ∧ R < q' ∧ 3 < q' ∧ R < q' + 1 ∧ 3 < q' + 1 ∧ R ≠ q' + 1 ∧ 3 ≠ q' + 1 ∧ 0 < q' ∧ 1 < q' ∧ q' + 1 ≠ 3 ∧ 1 < q' + 1 ∧ 3 < q' + 1 + 1) := by
  intro s o q hI
  obtain ⟨e, s', o', q', hr, a, hg, f1, f2, f3, f4, f5, f6, f7, f8, f9, g1, g2, g3, r1, r2, r3, r4, r5, r6, r7, r8, r9, z1, z2, z3, z4, z5, z6, z7, z8, z9⟩ := drawClause_loop n0 hn0 src m hm hs R w0 b kk cs s o q hI
  have p0 := hI.2.2.2.2.2.2.2.2.2.2.2.2.1
  exact ⟨e, s', o', q', hr, a, hg, f1, f2, f3, f4, f5, f6, f7, f8, f9, g1, g2, g3, r1, r2, r3, r4, r5, r6, r7, r8, r9, z1, z2, z3, z4, z5, z6, z7, z8, by (repeat' apply And.intro) <;> omega⟩
theorem clauseOK_of {c : List Trm} (h : ∀ x ∈ c, termOK x = true) (hl : c.length ≤ 2) : clauseOK c = true := by
  unfold clauseOK
  simp only [Bool.and_eq_true, decide_eq_true_eq]
  exact ⟨by omega, List.all_eq_true.2 h⟩
theorem map_snoc (acc : List (List Trm)) (c : List Trm) : List.map clsT acc ++ [T.agg [T.list (List.map trmT c)]] = List.map clsT (acc ++ [c]) := by simp
theorem drawFilter_loop (n0 : Nat) (hn0 : n0 ≤ 2) (src : Src) (m : Nat) (hm : m + 5000 < 1000000000) (hs : src.Ok m) : ∀ s o q, (s 0 = .ptr 0 0 ∧ s 2 = .ptr 1 0 ∧ s 3 = .ptr 3 0 ∧ s 4 = .t (.int .i64 n0) ∧ o 0 = srcB src ∧ o 1 = filB0 ∧ o 3 = .box 33 [.row 2] ∧ o 2 = .row 236 [] true ∧ 3 < q) →
    ∃ e s' o' q', run E (.code (.loop (loopAt Tryz.f166 0)) ⟨s, o, q, 39⟩) = some (.st e ⟨s', o', q', 39⟩) ∧ ∃ a : Nat × List (List Trm) × Src, ((∀ x ∈ a.2.1, clauseOK x = true) ∧ a.2.1.length ≤ 2 ∧ (n0 = 0 ∨ a.2.1 ≠ []) ∧ a.2.2.Ok (m + 402)) ∧ (e = .exit 0 ∧ s' 0 = .ptr 0 0 ∧ s' 2 = .ptr 1 0 ∧ s' 3 = .ptr 3 0 ∧ o' 0 = srcB a.2.2 ∧ o' 1 = filB0 ∧ o' 3 = .box 33 [.row a.1] ∧ o' a.1 = .row 236 (a.2.1.map clsT) true ∧ 1 < a.1 ∧ a.1 ≠ 3 ∧ a.1 < q' ∧ 0 ≠ q' ∧ 1 ≠ q' ∧ 3 ≠ q' ∧ q' ≠ 0 ∧ q' ≠ 1 ∧ q' ≠ 3) := by
  intro s o q hI
  refine loop_wf (c := loopAt Tryz.f166 0) (N := 39)
    (fun k s o q => ∃ (r : Nat) (acc : List (List Trm)) (sr : Src), s 0 = .ptr 0 0 ∧ s 2 = .ptr 1 0 ∧ s 3 = .ptr 3 0 ∧ s 4 = .t (.int .i64 k) ∧ o 0 = srcB sr ∧ o 1 = filB0 ∧ o 3 = .box 33 [.row r] ∧ o r = .row 236 (acc.map clsT) true ∧ 1 < r ∧ r ≠ 3 ∧ r < q ∧ 3 < q ∧ k ≤ 2 ∧ (∀ x ∈ acc, clauseOK x = true) ∧ acc.length + k = n0 ∧ sr.Ok (m + (2 - k) * 201))
    (fun e s' o' q' => ∃ a : Nat × List (List Trm) × Src, ((∀ x ∈ a.2.1, clauseOK x = true) ∧ a.2.1.length ≤ 2 ∧ (n0 = 0 ∨ a.2.1 ≠ []) ∧ a.2.2.Ok (m + 402)) ∧ (e = .exit 0 ∧ s' 0 = .ptr 0 0 ∧ s' 2 = .ptr 1 0 ∧ s' 3 = .ptr 3 0 ∧ o' 0 = srcB a.2.2 ∧ o' 1 = filB0 ∧ o' 3 = .box 33 [.row a.1] ∧ o' a.1 = .row 236 (a.2.1.map clsT) true ∧ 1 < a.1 ∧ a.1 ≠ 3 ∧ a.1 < q' ∧ 0 ≠ q' ∧ 1 ≠ q' ∧ 3 ≠ q' ∧ q' ≠ 0 ∧ q' ≠ 1 ∧ q' ≠ 3)) ?_
    n0 s o q (by
      obtain ⟨h0, h2, h3, h4, o0, o1, o3, o2, p1⟩ := hI
      exact ⟨2, [], src, h0, h2, h3, h4, o0, o1, o3, o2, by omega, by omega, by omega, p1, hn0, by simp, by simp, hs.up (Nat.le_add_right _ _)⟩)
  rintro k s o q ⟨r, acc, sr, h0, h2, h3, h4, o0, o1, o3, oR, p1, p2, p3, p4, hk, hacc, hlen, hok⟩
  cases k with
  | zero =>
    simp at h4
    simp [loopAt, loopsOf, Tryz.f166, h4]
    exact ⟨r, acc, sr, ⟨hacc, by omega, by
      by_cases hz : n0 = 0
      · exact .inl hz
      · exact .inr (fun e => by subst e; simp at hlen; omega), hok.up (by omega)⟩, h0, h2, h3, o0, o1, o3, oR, p1, p2, p3, by omega, by omega, by omega, by omega, by omega, by omega⟩
  | succ k =>
    obtain ⟨n3, s1, hn, hlt, ok1⟩ := srcNext sr (m + (2 - (k + 1)) * 201) (by omega) hok 3 (by omega) (by omega)
    obtain ⟨X, A, B, C, M, hg, hx⟩ := skG (fun a : Nat × List Trm × Src => (∀ x ∈ a.2.1, termOK x = true) ∧ a.2.1.length ≤ 2 ∧ a.2.2.Ok (m + (2 - (k + 1)) * 201 + 1 + 200)) ((0, [], s1) : Nat × List Trm × Src) ⟨by simp, by simp, ok1.up (by omega)⟩ (drawClause2 n3 (by omega) s1 (m + (2 - (k + 1)) * 201 + 1) (by omega) ok1 r q (q + 1) (k + 1 : Nat) (acc.map clsT))
    simp only [loopAt, loopsOf, Tryz.f166] at hx
    simp at hx hn h4
    have hpos : (0 : Int) < (k : Int) + 1 := by omega
    have hw2 := wrap_nat (n := k) (by omega)
    have c1 : r ≠ 0 := by omega
    have c2 : 0 ≠ r := by omega
    have c3 : r ≠ 1 := by omega
    have c4 : 1 ≠ r := by omega
    have c6 : 3 ≠ r := by omega
    have e1 : q ≠ 0 := by omega
    have e2 : 0 ≠ q := by omega
    have e3 : q ≠ 1 := by omega
    have e4 : 1 ≠ q := by omega
    have e5 : q ≠ 3 := by omega
    have e6 : 3 ≠ q := by omega
    have e7 : q ≠ r := by omega
    have e8 : r ≠ q := by omega
    have f2 : r ≠ q + 1 := by omega
    have f3 : q + 1 ≠ r := by omega
    have f4 : 3 ≠ q + 1 := by omega
    have f5 : q + 1 ≠ 3 := by omega
    have hcat : acc.length + 1 ≤ 140737488355328 := by omega
    have hcat2 : (acc.length + 1) * 24 ≤ 140737488355328 := by omega
    simp (maxDischargeDepth := 6) [loopAt, loopsOf, Tryz.f166, h0, h2, h3, h4, o0, o1, o3, oR, hpos, hw2, hn, hx, c1, c2, c3, c4, c6, e1, e2, e3, e4, e5, e6, e7, e8, f2, f3, f4, f5, p1, p2, p3, p4, hcat, hcat2]
    refine ⟨k, by omega, rfl, ?_⟩
    apply Exists.intro
    apply Exists.intro
    apply Exists.intro
    refine ⟨⟨rfl, rfl, rfl⟩, rfl, ?_, ?_, ?_, ?_, by omega, ?_, ?_, ?_⟩
    · simp (maxDischargeDepth := 6) [loopAt, loopsOf, Tryz.f166, h0, h2, h3, h4, o0, o1, o3, oR, hpos, hw2, hn, hx, c1, c2, c3, c4, c6, e1, e2, e3, e4, e5, e6, e7, e8, f2, f3, f4, f5, p1, p2, p3, p4, hcat, hcat2]
      exact map_snoc acc _
    · simp (maxDischargeDepth := 6) [loopAt, loopsOf, Tryz.f166, h0, h2, h3, h4, o0, o1, o3, oR, hpos, hw2, hn, hx, c1, c2, c3, c4, c6, e1, e2, e3, e4, e5, e6, e7, e8, f2, f3, f4, f5, p1, p2, p3, p4, hcat, hcat2]
    · simp (maxDischargeDepth := 6) [loopAt, loopsOf, Tryz.f166, h0, h2, h3, h4, o0, o1, o3, oR, hpos, hw2, hn, hx, c1, c2, c3, c4, c6, e1, e2, e3, e4, e5, e6, e7, e8, f2, f3, f4, f5, p1, p2, p3, p4, hcat, hcat2]
    · simp (maxDischargeDepth := 6) [loopAt, loopsOf, Tryz.f166, h0, h2, h3, h4, o0, o1, o3, oR, hpos, hw2, hn, hx, c1, c2, c3, c4, c6, e1, e2, e3, e4, e5, e6, e7, e8, f2, f3, f4, f5, p1, p2, p3, p4, hcat, hcat2]
    · intro x hx'
      rcases List.mem_append.1 hx' with hx' | hx'
      · exact hacc x hx'
      · simp at hx'
        subst hx'
        exact clauseOK_of (hg _ _ _).1 (hg _ _ _).2.1
    · simp; omega
    · exact (hg _ _ _).2.2.up (by omega)
end Go.Yd
/- Keys are in order as values are, and none is the beginning of another's. -/
set_option linter.unusedSimpArgs false
set_option linter.unusedVariables false
namespace Go.Yd
open Go.Ev Go.Proofs Go.Pu
set_option maxRecDepth 100000
set_option maxHeartbeats 4000000
/-- Ahead at some byte, and alike before it. -/
def Ahd (a b : Bytes) : Prop := ∃ p x y s t, a = p ++ x :: s ∧ b = p ++ y :: t ∧ x < y
theorem Ahd.left {a b : Bytes} (h : Ahd a b) (q : Bytes) : Ahd (q ++ a) (q ++ b) := by
  obtain ⟨p, x, y, s, t, rfl, rfl, hxy⟩ := h
  exact ⟨q ++ p, x, y, s, t, by simp, by simp, hxy⟩
theorem Ahd.right {a b : Bytes} (h : Ahd a b) (c e : Bytes) : Ahd (a ++ c) (b ++ e) := by
  obtain ⟨p, x, y, s, t, rfl, rfl, hxy⟩ := h
  exact ⟨p, x, y, s ++ c, t ++ e, by simp, by simp, hxy⟩
theorem Ahd.cons {a b : Bytes} (h : Ahd a b) (c : UInt8) : Ahd (c :: a) (c :: b) := h.left [c]
theorem ahd_here {x y : UInt8} (h : x < y) (s t : Bytes) : Ahd (x :: s) (y :: t) := ⟨[], x, y, s, t, rfl, rfl, h⟩
theorem pos_of_ne {x : UInt8} (h : x ≠ 0) : (0 : UInt8) < x := by
  rw [UInt8.lt_iff_toNat_lt]
  have : x.toNat ≠ 0 := fun e => h (UInt8.toNat_inj.1 e)
  simp; omega
theorem esc_ahd : ∀ (a b : Bytes), Lib.compareBytes a b < 0 → Ahd (escP a) (escP b)
  | [], [], h => by simp [Lib.compareBytes] at h
  | [], y :: t, h => by
    by_cases hy : y = 0
    · subst hy
      simp only [escP, escGo, if_true, List.nil_append]
      exact (ahd_here (by decide) _ _).cons 0
    · simp only [escP, escGo, if_neg hy, List.nil_append]
      exact ahd_here (pos_of_ne hy) _ _
  | _ :: _, [], h => by simp [Lib.compareBytes] at h
  | x :: s, y :: t, h => by
    unfold Lib.compareBytes at h
    by_cases hxy : x < y
    · have hy : y ≠ 0 := by
        intro e; subst e
        rw [UInt8.lt_iff_toNat_lt] at hxy; simp at hxy
      by_cases hx : x = 0
      · subst hx
        simp only [escP, escGo, if_true, if_neg hy]
        exact ahd_here hxy _ _
      · simp only [escP, escGo, if_neg hx, if_neg hy]
        exact ahd_here hxy _ _
    · by_cases hyx : y < x
      · simp [hxy, hyx] at h
      · have e : x = y := by
          rw [UInt8.lt_iff_toNat_lt] at hxy hyx
          exact UInt8.toNat_inj.1 (by omega)
        subst e
        simp [hxy] at h
        have ih := esc_ahd s t h
        have := ih.left (if x = 0 then [x, 255] else [x])
        simpa [escP, escGo] using this
theorem byteAt_val (n j : Nat) : (byteAt (n : Int) j).toNat = n / 2 ^ (8 * j) % 256 := by
  have h := byteAt_wrap (n : Int) j
  have e : (n : Int).fdiv (2 ^ (8 * j)) = ((n / 2 ^ (8 * j) : Nat) : Int) := by
    rw [Int.fdiv_eq_ediv_of_nonneg _ (by exact_mod_cast Nat.zero_le _)]
    norm_cast
  rw [e] at h
  have hw : IntKind.u8.wrap ((n / 2 ^ (8 * j) : Nat) : Int) = ((n / 2 ^ (8 * j) % 256 : Nat) : Int) := by
    simp [IntKind.wrap, IntKind.bits, IntKind.signed]
  rw [hw] at h
  omega
theorem num_ahd (n m : Nat) : ∀ k, n % 2 ^ (8 * k) < m % 2 ^ (8 * k) → Ahd (numP n k) (numP m k)
  | 0, h => by simp at h; omega
  | k + 1, h => by
    have hp : (2 : Nat) ^ (8 * (k + 1)) = 2 ^ (8 * k) * 256 := by rw [Nat.mul_add, Nat.pow_add]
    rw [hp, Nat.mod_mul, Nat.mod_mul] at h
    unfold numP
    have bn := byteAt_val n k
    have bm := byteAt_val m k
    have hpos : 0 < 2 ^ (8 * k) := Nat.pow_pos (by omega)
    have l1 := Nat.mod_lt n hpos
    have l2 := Nat.mod_lt m hpos
    rcases Nat.lt_trichotomy (n / 2 ^ (8 * k) % 256) (m / 2 ^ (8 * k) % 256) with hlt | heq | hgt
    · refine ahd_here ?_ _ _
      rw [UInt8.lt_iff_toNat_lt, bn, bm]; exact hlt
    · have e : byteAt (n : Int) k = byteAt (m : Int) k := UInt8.toNat_inj.1 (by rw [bn, bm, heq])
      rw [e]
      rw [heq] at h
      exact (num_ahd n m k (by omega)).cons _
    · exfalso
      have : 2 ^ (8 * k) * (m / 2 ^ (8 * k) % 256) + 2 ^ (8 * k) ≤ 2 ^ (8 * k) * (n / 2 ^ (8 * k) % 256) := by
        have := Nat.mul_le_mul_left (2 ^ (8 * k)) (show m / 2 ^ (8 * k) % 256 + 1 ≤ n / 2 ^ (8 * k) % 256 by omega)
        rw [Nat.mul_add] at this
        omega
      omega
theorem cmpI_neg {a b : Int} : cmpI a b < 0 ↔ a < b := by rw [← iff_of_eq (cmpI_lt a b)]
theorem kind_cases {d : Nat} {v : Val} (h : okP d v = true) : v.k = 0 ∨ v.k = 1 ∨ v.k = 2 ∨ v.k = 3 ∨ v.k = 4 ∨ v.k = 5 := by
  unfold okP at h
  by_cases h0 : v.k = 0; · exact .inl h0
  by_cases h1 : v.k = 1; · exact .inr (.inl h1)
  by_cases h2 : v.k = 2; · exact .inr (.inr (.inl h2))
  by_cases h3 : v.k = 3; · exact .inr (.inr (.inr (.inl h3)))
  by_cases h4 : v.k = 4; · exact .inr (.inr (.inr (.inr (.inl h4))))
  by_cases h5 : v.k = 5; · exact .inr (.inr (.inr (.inr (.inr h5))))
  cases d <;> simp [h0, h1, h2, h3, h4, h5] at h
theorem kind_nat {d : Nat} {v : Val} (h : okP d v = true) : ∃ k : Nat, v.k = k ∧ k ≤ 5 := by
  rcases kind_cases h with h | h | h | h | h | h
  · exact ⟨0, h, by omega⟩
  · exact ⟨1, h, by omega⟩
  · exact ⟨2, h, by omega⟩
  · exact ⟨3, h, by omega⟩
  · exact ⟨4, h, by omega⟩
  · exact ⟨5, h, by omega⟩
theorem head_ahd {d : Nat} {a b : Val} (ha : okP d a = true) (hb : okP d b = true) (h : a.k < b.k) : Ahd (headK a) (headK b) := by
  obtain ⟨i, hi, hi5⟩ := kind_nat ha
  obtain ⟨j, hj, hj5⟩ := kind_nat hb
  unfold headK
  have h1 : a.k + 1 = ((i + 1 : Nat) : Int) := by rw [hi]; rfl
  have h2 : b.k + 1 = ((j + 1 : Nat) : Int) := by rw [hj]; rfl
  rw [h1, h2]
  refine num_ahd (i + 1) (j + 1) 1 ?_
  have : (2 : Nat) ^ (8 * 1) = 256 := by decide
  rw [this, Nat.mod_eq_of_lt (by omega), Nat.mod_eq_of_lt (by omega)]
  omega
/-- A key is its head and what comes behind. -/
def tailK : Nat → Val → Bytes
  | d, v =>
    if v.k = 0 then []
    else if v.k = 1 then numP v.n 1
    else if v.k = 2 then numP (v.n + 4611686018427387904) 8
    else if v.k = 3 then escP v.t
    else match d with
      | 0 => []
      | d + 1 =>
        if v.k = 4 then (itemsL v.t).flatMap (keyD d) ++ [0]
        else (fieldsL v.t).flatMap (fun f => [1] ++ escP f.name ++ keyD d f.v) ++ [0]
theorem keyD_head {d : Nat} {v : Val} (h : okP d v = true) : keyD d v = headK v ++ tailK d v := by
  cases d with
  | zero =>
    unfold keyD tailK
    unfold okP at h
    by_cases h0 : v.k = 0; · simp [h0]
    by_cases h1 : v.k = 1; · simp [h1]
    by_cases h2 : v.k = 2; · simp [h2]
    by_cases h3 : v.k = 3; · simp [h3]
    simp [h0, h1, h2, h3] at h
  | succ d =>
    unfold keyD tailK
    by_cases h0 : v.k = 0; · simp [h0]
    by_cases h1 : v.k = 1; · simp [h1]
    by_cases h2 : v.k = 2; · simp [h2]
    by_cases h3 : v.k = 3; · simp [h3]
    by_cases h4 : v.k = 4 <;> simp [h0, h1, h2, h3, h4]
theorem keyD_first {d : Nat} {v : Val} (h : okP d v = true) : ∃ c r, keyD d v = c :: r ∧ (0 : UInt8) < c := by
  rw [keyD_head h]
  obtain ⟨i, hi, hi5⟩ := kind_nat h
  refine ⟨byteAt (v.k + 1) 0, tailK d v, by simp [headK, numP], ?_⟩
  have h1 : v.k + 1 = ((i + 1 : Nat) : Int) := by rw [hi]; rfl
  have hb := byteAt_val (i + 1) 0
  rw [h1, UInt8.lt_iff_toNat_lt, hb]
  simp
  omega
theorem items_ahd {d : Nat} (ih : ∀ a b : Val, okP d a = true → okP d b = true → ordD d a b < 0 → Ahd (keyD d a) (keyD d b)) : ∀ (xs ys : List Val), (∀ x ∈ xs, okP d x = true) → (∀ y ∈ ys, okP d y = true) → ordL (ordD d) xs ys < 0 →
    Ahd (xs.flatMap (keyD d) ++ [0]) (ys.flatMap (keyD d) ++ [0])
  | [], [], _, _, h => by simp [ordL] at h
  | [], y :: ys, _, hy, _ => by
    obtain ⟨c, r, e, hc⟩ := keyD_first (hy y (by simp))
    simp only [List.flatMap_nil, List.nil_append, List.flatMap_cons, e, List.cons_append]
    exact ahd_here hc _ _
  | _ :: _, [], _, _, h => by simp [ordL] at h
  | x :: xs, y :: ys, hx, hy, h => by
    unfold ordL at h
    simp only [List.flatMap_cons, List.append_assoc]
    by_cases h0 : ordD d x y = 0
    · rw [if_pos h0] at h
      have e := ordD_zero d x y (hx x (by simp)) (hy y (by simp)) h0
      subst e
      exact (items_ahd ih xs ys (fun z hz => hx z (by simp [hz])) (fun z hz => hy z (by simp [hz])) h).left _
    · rw [if_neg h0] at h
      exact (ih x y (hx x (by simp)) (hy y (by simp)) h).right _ _
theorem fields_ahd {d : Nat} (ih : ∀ a b : Val, okP d a = true → okP d b = true → ordD d a b < 0 → Ahd (keyD d a) (keyD d b)) : ∀ (xs ys : List Fld), (∀ x ∈ xs, okP d x.v = true) → (∀ y ∈ ys, okP d y.v = true) →
    ordL (fun f g => orI (Lib.compareBytes f.name g.name) (ordD d f.v g.v)) xs ys < 0 →
    Ahd (xs.flatMap (fun f => [1] ++ escP f.name ++ keyD d f.v) ++ [0]) (ys.flatMap (fun f => [1] ++ escP f.name ++ keyD d f.v) ++ [0])
  | [], [], _, _, h => by simp [ordL] at h
  | [], y :: ys, _, hy, _ => by
    simp only [List.flatMap_nil, List.nil_append, List.flatMap_cons, List.cons_append]
    exact ahd_here (by decide) _ _
  | _ :: _, [], _, _, h => by simp [ordL] at h
  | x :: xs, y :: ys, hx, hy, h => by
    unfold ordL at h
    simp only [List.flatMap_cons, List.append_assoc]
    have hxx := hx x (by simp)
    have hyy := hy y (by simp)
    unfold orI at h
    by_cases hn : Lib.compareBytes x.name y.name = 0
    · have en : x.name = y.name := (compareBytes_eq x.name y.name).mp hn
      rw [if_pos hn] at h
      rw [en]
      refine Ahd.left ?_ _
      refine Ahd.left ?_ _
      by_cases h0 : ordD d x.v y.v = 0
      · rw [if_pos h0] at h
        have e := ordD_zero d x.v y.v hxx hyy h0
        rw [e]
        exact (fields_ahd ih xs ys (fun z hz => hx z (by simp [hz])) (fun z hz => hy z (by simp [hz])) h).left _
      · rw [if_neg h0] at h
        exact (ih _ _ hxx hyy h).right _ _
    · rw [if_neg hn, if_neg hn] at h
      refine Ahd.left ?_ _
      exact (esc_ahd _ _ h).right _ _
theorem int_range {d : Nat} {v : Val} (h : okP d v = true) (h2 : v.k = 2) : -1000000000000 ≤ v.n ∧ v.n ≤ 1000000000000 := by
  unfold okP at h
  simp [h2] at h
  omega
theorem bool_range {d : Nat} {v : Val} (h : okP d v = true) (h2 : v.k = 1) : 0 ≤ v.n ∧ v.n ≤ 1 := by
  unfold okP at h
  simp [h2] at h
  omega
theorem num_zero {d : Nat} {v : Val} (h : okP d v = true) (h1 : v.k ≠ 1) (h2 : v.k ≠ 2) : v.n = 0 := by
  rcases kind_cases h with h' | h' | h' | h' | h' | h'
  · unfold okP at h; simp [h'] at h; omega
  · exact absurd h' h1
  · exact absurd h' h2
  · unfold okP at h; simp [h'] at h; omega
  · obtain ⟨_, _, _, hn, _⟩ := okP_list h h'; exact hn
  · obtain ⟨_, _, _, hn, _⟩ := okP_doc h h'; exact hn
theorem text_none {d : Nat} {v : Val} (h : okP d v = true) (h1 : v.k = 0 ∨ v.k = 1 ∨ v.k = 2) : v.t = [] := by
  rcases h1 with h' | h' | h' <;> (unfold okP at h; simp [h'] at h; first | exact h.2 | exact h.2.2)
theorem key_ahd : ∀ (d : Nat) (a b : Val), okP d a = true → okP d b = true → ordD d a b < 0 → Ahd (keyD d a) (keyD d b) := by
  -- alike in kind and number
  have step : ∀ (d : Nat) (a b : Val), okP d a = true → okP d b = true → ordD d a b < 0 → (a.k = b.k → a.n = b.n → (a.k = 4 ∨ a.k = 5) → Ahd (tailK d a) (tailK d b)) → Ahd (keyD d a) (keyD d b) := by
    intro d a b ha hb h hdeep
    rw [keyD_head ha, keyD_head hb]
    by_cases hk : a.k = b.k
    · have eh : headK a = headK b := by unfold headK; rw [hk]
      rw [eh]
      refine Ahd.left ?_ _
      by_cases hn : a.n = b.n
      · by_cases hdp : a.k = 4 ∨ a.k = 5
        · exact hdeep hk hn hdp
        · have h4 : ¬ a.k = 4 := fun e => hdp (.inl e)
          have h5 : ¬ a.k = 5 := fun e => hdp (.inr e)
          have hz : orI (cmpI a.k b.k) (cmpI a.n b.n) = 0 := by
            unfold orI
            rw [if_pos ((cmpI_eq a.k b.k).mpr hk)]
            exact (cmpI_eq a.n b.n).mpr hn
          unfold ordD at h
          simp only [hz, if_true, h4, h5, if_false] at h
          by_cases h3 : a.k = 3
          · have h3' : b.k = 3 := by omega
            unfold tailK
            simp only [h3, h3']
            simpa using esc_ahd a.t b.t h
          · have hs : a.k = 0 ∨ a.k = 1 ∨ a.k = 2 := by
              rcases kind_cases ha with h' | h' | h' | h' | h' | h' <;> omega
            have e1 := text_none ha hs
            have e2 := text_none hb (by omega)
            rw [e1, e2] at h
            simp [Lib.compareBytes] at h
      · -- numbers differ
        have hz : orI (cmpI a.k b.k) (cmpI a.n b.n) = cmpI a.n b.n := by
          unfold orI
          rw [if_pos ((cmpI_eq a.k b.k).mpr hk)]
        have hne : ¬ cmpI a.n b.n = 0 := fun e => hn ((cmpI_eq a.n b.n).mp e)
        unfold ordD at h
        simp only [hz, if_neg hne] at h
        have hlt := cmpI_neg.1 h
        by_cases h1 : a.k = 1
        · have h1' : b.k = 1 := by omega
          obtain ⟨r1, r2⟩ := bool_range ha h1
          obtain ⟨r3, r4⟩ := bool_range hb h1'
          have ea : a.n = ((0 : Nat) : Int) := by omega
          have eb : b.n = ((1 : Nat) : Int) := by omega
          unfold tailK
          simp only [h1, h1', ea, eb]
          simpa using num_ahd 0 1 1 (by decide)
        · by_cases h2 : a.k = 2
          · have h2' : b.k = 2 := by omega
            obtain ⟨r1, r2⟩ := int_range ha h2
            obtain ⟨r3, r4⟩ := int_range hb h2'
            obtain ⟨i, hi⟩ : ∃ i : Nat, a.n + 4611686018427387904 = i := ⟨(a.n + 4611686018427387904).toNat, by omega⟩
            obtain ⟨j, hj⟩ : ∃ j : Nat, b.n + 4611686018427387904 = j := ⟨(b.n + 4611686018427387904).toNat, by omega⟩
            unfold tailK
            simp only [h2, h2', hi, hj]
            have hp : (2 : Nat) ^ (8 * 8) = 18446744073709551616 := by decide
            have := num_ahd i j 8 (by rw [hp, Nat.mod_eq_of_lt (by omega), Nat.mod_eq_of_lt (by omega)]; omega)
            simpa using this
          · have z1 := num_zero ha h1 h2
            have z2 := num_zero hb (by omega) (by omega)
            omega
    · have hz : orI (cmpI a.k b.k) (cmpI a.n b.n) = cmpI a.k b.k := by
        unfold orI
        rw [if_neg (fun e => hk ((cmpI_eq a.k b.k).mp e))]
      have hne : ¬ cmpI a.k b.k = 0 := fun e => hk ((cmpI_eq a.k b.k).mp e)
      unfold ordD at h
      simp only [hz, if_neg hne] at h
      exact (head_ahd ha hb (cmpI_neg.1 h)).right _ _
  intro d
  induction d with
  | zero =>
    intro a b ha hb h
    refine step 0 a b ha hb h (fun hk hn hdp => ?_)
    rcases hdp with h' | h'
    · obtain ⟨e, _, hd, _⟩ := okP_list ha h'; omega
    · obtain ⟨e, _, hd, _⟩ := okP_doc ha h'; omega
  | succ d ih =>
    intro a b ha hb h
    refine step (d + 1) a b ha hb h (fun hk hn hdp => ?_)
    have hz : orI (cmpI a.k b.k) (cmpI a.n b.n) = 0 := by
      unfold orI
      rw [if_pos ((cmpI_eq a.k b.k).mpr hk)]
      exact (cmpI_eq a.n b.n).mpr hn
    unfold ordD at h
    simp only [hz, if_true] at h
    rcases hdp with h4 | h5
    · have h4' : b.k = 4 := by omega
      obtain ⟨e, xs, hd, _, hi, hx⟩ := okP_list ha h4
      obtain rfl : d = e := by omega
      obtain ⟨e, ys, hd2, _, hj, hy⟩ := okP_list hb h4'
      obtain rfl : d = e := by omega
      simp only [h4, if_true] at h
      have ea : itemsL a.t = xs := by simp [itemsL, hi]
      have eb : itemsL b.t = ys := by simp [itemsL, hj]
      rw [ea, eb] at h
      have := items_ahd ih xs ys hx hy h
      unfold tailK
      simp only [h4, h4', ea, eb]
      simpa using this
    · have h5' : b.k = 5 := by omega
      have n4 : ¬ a.k = 4 := by omega
      have n4' : ¬ b.k = 4 := by omega
      obtain ⟨e, xs, hd, _, hi, _, hx⟩ := okP_doc ha h5
      obtain rfl : d = e := by omega
      obtain ⟨e, ys, hd2, _, hj, _, hy⟩ := okP_doc hb h5'
      obtain rfl : d = e := by omega
      simp only [h5] at h
      have ea : fieldsL a.t = xs := by simp [fieldsL, hi]
      have eb : fieldsL b.t = ys := by simp [fieldsL, hj]
      rw [ea, eb] at h
      have := fields_ahd ih xs ys (fun x hm => (hx x hm).2) (fun x hm => (hy x hm).2) (by simpa using h)
      unfold tailK
      simp only [h5, h5', ea, eb]
      simpa using this
end Go.Yd
/- The order of values: turned round, and in a row. -/
set_option linter.unusedSimpArgs false
set_option linter.unusedVariables false
namespace Go.Yd
open Go.Ev Go.Proofs Go.Pu
set_option maxRecDepth 100000
set_option maxHeartbeats 4000000
/-- An order on what is in S: it can be turned round, goes in a row, and tells all apart. -/
structure Ord3 {α : Type} (S : α → Prop) (f : α → α → Int) : Prop where
  anti : ∀ x y, S x → S y → f x y = - f y x
  row : ∀ x y z, S x → S y → S z → f x y ≤ 0 → f y z ≤ 0 → f x z ≤ 0
  zero : ∀ x y, S x → S y → f x y = 0 → x = y
theorem Ord3.lt {α : Type} {S : α → Prop} {f : α → α → Int} (h : Ord3 S f) {x y z : α} (hx : S x) (hy : S y) (hz : S z) (h1 : f x y ≤ 0) (h2 : f y z < 0) : f x z < 0 := by
  have h3 := h.row x y z hx hy hz h1 (by omega)
  by_cases he : f x z = 0
  · have := h.zero x z hx hz he
    subst this
    have := h.anti x y hx hy
    omega
  · omega
theorem Ord3.lt' {α : Type} {S : α → Prop} {f : α → α → Int} (h : Ord3 S f) {x y z : α} (hx : S x) (hy : S y) (hz : S z) (h1 : f x y < 0) (h2 : f y z ≤ 0) : f x z < 0 := by
  have h3 := h.row x y z hx hy hz (by omega) h2
  by_cases he : f x z = 0
  · have := h.zero x z hx hz he
    subst this
    have := h.anti x y hx hy
    omega
  · omega
theorem ordL_anti {α : Type} {S : α → Prop} {f : α → α → Int} (h : Ord3 S f) : ∀ (xs ys : List α), (∀ x ∈ xs, S x) → (∀ y ∈ ys, S y) → ordL f xs ys = - ordL f ys xs
  | [], [], _, _ => by simp [ordL]
  | [], _ :: _, _, _ => by simp [ordL]
  | _ :: _, [], _, _ => by simp [ordL]
  | x :: xs, y :: ys, hx, hy => by
    have h1 := h.anti x y (hx x (by simp)) (hy y (by simp))
    have ih := ordL_anti h xs ys (fun a ha => hx a (by simp [ha])) (fun a ha => hy a (by simp [ha]))
    unfold ordL
    by_cases he : f x y = 0
    · have : f y x = 0 := by omega
      rw [if_pos he, if_pos this]; exact ih
    · have : ¬ f y x = 0 := by omega
      rw [if_neg he, if_neg this]; exact h1
theorem ordL_row {α : Type} {S : α → Prop} {f : α → α → Int} (h : Ord3 S f) : ∀ (xs ys zs : List α), (∀ x ∈ xs, S x) → (∀ y ∈ ys, S y) → (∀ z ∈ zs, S z) → ordL f xs ys ≤ 0 → ordL f ys zs ≤ 0 → ordL f xs zs ≤ 0
  | [], ys, [], _, _, _, _, _ => by simp [ordL]
  | [], ys, _ :: _, _, _, _, _, _ => by simp [ordL]
  | _ :: _, [], _, _, _, _, h1, _ => by simp [ordL] at h1
  | _ :: _, _ :: _, [], _, _, _, _, h2 => by simp [ordL] at h2
  | x :: xs, y :: ys, z :: zs, hx, hy, hz, h1, h2 => by
    have sx := hx x (by simp)
    have sy := hy y (by simp)
    have sz := hz z (by simp)
    have ih := ordL_row h xs ys zs (fun a ha => hx a (by simp [ha])) (fun a ha => hy a (by simp [ha])) (fun a ha => hz a (by simp [ha]))
    unfold ordL at h1 h2 ⊢
    by_cases e1 : f x y = 0
    · have := h.zero x y sx sy e1
      subst this
      rw [if_pos e1] at h1
      by_cases e2 : f x z = 0
      · rw [if_pos e2] at h2 ⊢; exact ih h1 h2
      · rw [if_neg e2] at h2 ⊢; exact h2
    · rw [if_neg e1] at h1
      by_cases e2 : f y z = 0
      · have := h.zero y z sy sz e2
        subst this
        rw [if_neg e1]; exact h1
      · rw [if_neg e2] at h2
        have := h.lt sx sy sz h1 (by omega)
        rw [if_neg (by omega)]; omega
theorem cmpI_ord : Ord3 (fun _ => True) cmpI := by
  refine ⟨fun x y _ _ => ?_, fun x y z _ _ _ => ?_, fun x y _ _ h => by rwa [cmpI_eq] at h⟩
  · unfold cmpI
    split <;> split <;> (try split) <;> omega
  · unfold cmpI
    intro h1 h2
    split at h1 <;> split at h2 <;> split <;> (try split) <;> (try split at h1) <;> (try split at h2) <;> omega
theorem cmpB_ordL : ∀ (a b : Bytes), Lib.compareBytes a b = ordL (fun x y : UInt8 => cmpI x.toNat y.toNat) a b
  | [], [] => by simp [Lib.compareBytes, ordL]
  | [], _ :: _ => by simp [Lib.compareBytes, ordL]
  | _ :: _, [] => by simp [Lib.compareBytes, ordL]
  | x :: a, y :: b => by
    have ih := cmpB_ordL a b
    unfold Lib.compareBytes ordL
    rw [ih]
    generalize ordL (fun x y : UInt8 => cmpI x.toNat y.toNat) a b = r
    unfold cmpI
    simp only [UInt8.lt_iff_toNat_lt]
    by_cases h1 : x.toNat < y.toNat
    · have : (x.toNat : Int) < y.toNat := by omega
      simp [h1, this]
    · by_cases h2 : y.toNat < x.toNat
      · have e1 : ¬ (x.toNat : Int) < y.toNat := by omega
        have e2 : (y.toNat : Int) < x.toNat := by omega
        simp [h1, h2, e1, e2]
      · have e1 : ¬ (x.toNat : Int) < y.toNat := by omega
        have e2 : ¬ (y.toNat : Int) < x.toNat := by omega
        simp [h1, h2, e1, e2]
theorem byte_ord : Ord3 (fun _ => True) (fun x y : UInt8 => cmpI x.toNat y.toNat) := by
  refine ⟨fun x y _ _ => cmpI_ord.anti _ _ trivial trivial, fun x y z _ _ _ => cmpI_ord.row _ _ _ trivial trivial trivial, fun x y _ _ h => ?_⟩
  rw [cmpI_eq] at h
  exact UInt8.toNat_inj.1 (by omega)
theorem cmpB_ord : Ord3 (fun _ => True) Lib.compareBytes := by
  refine ⟨fun x y _ _ => ?_, fun x y z _ _ _ => ?_, fun x y _ _ h => by rwa [compareBytes_eq] at h⟩
  · rw [cmpB_ordL, cmpB_ordL]; exact ordL_anti byte_ord x y (fun _ _ => trivial) (fun _ _ => trivial)
  · rw [cmpB_ordL, cmpB_ordL, cmpB_ordL]; exact ordL_row byte_ord x y z (fun _ _ => trivial) (fun _ _ => trivial) (fun _ _ => trivial)
/-- One order ahead of another. -/
theorem orI_ord {α β γ : Type} {S : α → Prop} {T : β → Prop} {U : γ → Prop} {f : β → β → Int} {g : γ → γ → Int} (p : α → β) (q : α → γ) (hp : ∀ x, S x → T (p x)) (hq : ∀ x, S x → U (q x)) (hf : Ord3 T f) (hg : Ord3 U g) (he : ∀ x y, S x → S y → p x = p y → q x = q y → x = y) : Ord3 S (fun x y => orI (f (p x) (p y)) (g (q x) (q y))) := by
  refine ⟨fun x y hx hy => ?_, fun x y z hx hy hz h1 h2 => ?_, fun x y hx hy h => ?_⟩
  · have a := hf.anti _ _ (hp x hx) (hp y hy)
    have b := hg.anti _ _ (hq x hx) (hq y hy)
    unfold orI
    split <;> split <;> omega
  · unfold orI at h1 h2 ⊢
    by_cases e1 : f (p x) (p y) = 0
    · have ep := hf.zero _ _ (hp x hx) (hp y hy) e1
      rw [if_pos e1] at h1
      rw [ep]
      by_cases e2 : f (p y) (p z) = 0
      · rw [if_pos e2] at h2 ⊢
        exact hg.row _ _ _ (hq x hx) (hq y hy) (hq z hz) h1 h2
      · rw [if_neg e2] at h2 ⊢; exact h2
    · rw [if_neg e1] at h1
      by_cases e2 : f (p y) (p z) = 0
      · have ep := hf.zero _ _ (hp y hy) (hp z hz) e2
        rw [← ep, if_neg e1]; exact h1
      · rw [if_neg e2] at h2
        have := hf.lt (hp x hx) (hp y hy) (hp z hz) h1 (by omega)
        rw [if_neg (by omega)]; omega
  · obtain ⟨z1, z2⟩ := orI_zero h
    exact he x y hx hy (hf.zero _ _ (hp x hx) (hp y hy) z1) (hg.zero _ _ (hq x hx) (hq y hy) z2)
end Go.Yd
/- The order of values is an order. -/
set_option linter.unusedSimpArgs false
set_option linter.unusedVariables false
namespace Go.Yd
open Go.Ev Go.Proofs Go.Pu
set_option maxRecDepth 100000
set_option maxHeartbeats 4000000
theorem orDep {α β : Type} {S : α → Prop} {f : β → β → Int} {r : α → α → Int} (p : α → β) (hf : Ord3 (fun _ => True) f) (ha : ∀ x y, S x → S y → p x = p y → r x y = - r y x) (hr : ∀ x y z, S x → S y → S z → p x = p y → p y = p z → r x y ≤ 0 → r y z ≤ 0 → r x z ≤ 0) (hz : ∀ x y, S x → S y → p x = p y → r x y = 0 → x = y) : Ord3 S (fun x y => if f (p x) (p y) = 0 then r x y else f (p x) (p y)) := by
  refine ⟨fun x y hx hy => ?_, fun x y z hx hy hz h1 h2 => ?_, fun x y hx hy h => ?_⟩
  · have a := hf.anti (p x) (p y) trivial trivial
    by_cases e : f (p x) (p y) = 0
    · have e' : f (p y) (p x) = 0 := by omega
      simp only [if_pos e, if_pos e']
      exact ha x y hx hy (hf.zero _ _ trivial trivial e)
    · have e' : ¬ f (p y) (p x) = 0 := by omega
      simp only [if_neg e, if_neg e']
      exact a
  · by_cases e1 : f (p x) (p y) = 0
    · have ep := hf.zero _ _ trivial trivial e1
      simp only [if_pos e1] at h1
      rw [ep]
      by_cases e2 : f (p y) (p z) = 0
      · have eq := hf.zero _ _ trivial trivial e2
        simp only [if_pos e2] at h2 ⊢
        exact hr x y z hx hy hz ep eq h1 h2
      · simp only [if_neg e2] at h2 ⊢; exact h2
    · simp only [if_neg e1] at h1
      by_cases e2 : f (p y) (p z) = 0
      · have ep := hf.zero _ _ trivial trivial e2
        rw [← ep]; simp only [if_neg e1]; exact h1
      · simp only [if_neg e2] at h2
        have := hf.lt (x := p x) (y := p y) (z := p z) trivial trivial trivial h1 (by omega)
        have e3 : ¬ f (p x) (p z) = 0 := by omega
        simp only [if_neg e3]; omega
  · by_cases e : f (p x) (p y) = 0
    · simp only [if_pos e] at h
      exact hz x y hx hy (hf.zero _ _ trivial trivial e) h
    · simp only [if_neg e] at h
      exact absurd h e
theorem kn_ord : Ord3 (fun _ => True) (fun x y : Int × Int => orI (cmpI x.1 y.1) (cmpI x.2 y.2)) :=
  orI_ord (S := fun _ => True) (T := fun _ => True) (U := fun _ => True) Prod.fst Prod.snd (fun _ _ => trivial) (fun _ _ => trivial) cmpI_ord cmpI_ord (fun x y _ _ h1 h2 => by cases x; cases y; simp_all)
theorem ordL_tri {α : Type} {S : α → Prop} {f : α → α → Int} (h : Ord3 S f) : Ord3 (fun xs : List α => ∀ x ∈ xs, S x) (ordL f) :=
  ⟨fun x y hx hy => ordL_anti h x y hx hy, fun x y z hx hy hz => ordL_row h x y z hx hy hz, fun x y hx hy => ordL_zero (fun a ha b hb hz => h.zero a b (hx a ha) (hy b hb) hz)⟩
/-- What is told apart behind kind and number. -/
def restD (d : Nat) (a b : Val) : Int :=
  if a.k = 4 then (match d with
    | 0 => 0
    | d + 1 => ordL (ordD d) (itemsL a.t) (itemsL b.t))
  else if a.k = 5 then (match d with
    | 0 => 0
    | d + 1 => ordL (fun f g => orI (Lib.compareBytes f.name g.name) (ordD d f.v g.v)) (fieldsL a.t) (fieldsL b.t))
  else Lib.compareBytes a.t b.t
theorem ordD_rest (d : Nat) : ordD d = fun a b => if (fun x y : Int × Int => orI (cmpI x.1 y.1) (cmpI x.2 y.2)) (a.k, a.n) (b.k, b.n) = 0 then restD d a b else (fun x y : Int × Int => orI (cmpI x.1 y.1) (cmpI x.2 y.2)) (a.k, a.n) (b.k, b.n) := by
  funext a b
  unfold ordD restD
  rfl
theorem items_ok {d : Nat} {v : Val} (h : okP (d + 1) v = true) (hk : v.k = 4) : ∀ x ∈ itemsL v.t, okP d x = true := by
  obtain ⟨e, xs, hd, _, hi, hx⟩ := okP_list h hk
  obtain rfl : d = e := by omega
  simpa [itemsL, hi] using hx
theorem fields_ok {d : Nat} {v : Val} (h : okP (d + 1) v = true) (hk : v.k = 5) : ∀ x ∈ fieldsL v.t, okP d x.v = true := by
  obtain ⟨e, xs, hd, _, hi, _, hx⟩ := okP_doc h hk
  obtain rfl : d = e := by omega
  simp only [fieldsL, hi, Option.getD_some]
  exact fun x h => (hx x h).2
theorem fld_ord {d : Nat} (ih : Ord3 (fun v => okP d v = true) (ordD d)) : Ord3 (fun f : Fld => okP d f.v = true) (fun f g => orI (Lib.compareBytes f.name g.name) (ordD d f.v g.v)) :=
  orI_ord (T := fun _ => True) (U := fun v => okP d v = true) Fld.name Fld.v (fun _ _ => trivial) (fun _ h => h) cmpB_ord ih (fun x y _ _ h1 h2 => fld_eq h1 h2)
theorem ord_step (d : Nat) (ih : ∀ e, d = e + 1 → Ord3 (fun v => okP e v = true) (ordD e)) : Ord3 (fun v => okP d v = true) (ordD d) := by
  have hz : ∀ x y, okP d x = true → okP d y = true → ordD d x y = 0 → x = y := fun x y hx hy h => ordD_zero d x y hx hy h
  have hr := ordD_rest d
  have h0 : ∀ x y : Val, (x.k, x.n) = (y.k, y.n) → restD d x y = ordD d x y := by
    intro x y h
    simp only [Prod.mk.injEq] at h
    rw [hr]
    simp [h.1, h.2, orI, cmpI]
  rw [hr]
  refine orDep (fun v => (v.k, v.n)) kn_ord (fun x y hx hy h => ?_) (fun x y z hx hy hz' h1 h2 => ?_) (fun x y hx hy h e => hz x y hx hy (by rw [← h0 x y h]; exact e))
  · simp only [Prod.mk.injEq] at h
    unfold restD
    rw [← h.1]
    split
    · rename_i h4
      cases d with
      | zero => simp
      | succ d => exact (ordL_tri (ih d rfl)).anti _ _ (items_ok hx h4) (items_ok hy (by omega))
    · split
      · rename_i h5
        cases d with
        | zero => simp
        | succ d => exact (ordL_tri (fld_ord (ih d rfl))).anti _ _ (fields_ok hx h5) (fields_ok hy (by omega))
      · exact cmpB_ord.anti _ _ trivial trivial
  · simp only [Prod.mk.injEq] at h1 h2
    unfold restD
    rw [← h1.1]
    split
    · rename_i h4
      cases d with
      | zero => simp
      | succ d => exact (ordL_tri (ih d rfl)).row _ _ _ (items_ok hx h4) (items_ok hy (by omega)) (items_ok hz' (by omega))
    · split
      · rename_i h5
        cases d with
        | zero => simp
        | succ d => exact (ordL_tri (fld_ord (ih d rfl))).row _ _ _ (fields_ok hx h5) (fields_ok hy (by omega)) (fields_ok hz' (by omega))
      · exact cmpB_ord.row _ _ _ trivial trivial trivial
theorem ordD_ord : ∀ d : Nat, Ord3 (fun v => okP d v = true) (ordD d)
  | 0 => ord_step 0 (fun e h => by omega)
  | d + 1 => ord_step (d + 1) (fun e h => by
    have : d = e := by omega
    subst this
    exact ordD_ord d)
end Go.Yd
/- What a term lets in has its key in the term's interval. -/
set_option linter.unusedSimpArgs false
set_option linter.unusedVariables false
namespace Go.Yd
open Go.Ev Go.Proofs Go.Pu
set_option maxRecDepth 100000
set_option maxHeartbeats 4000000
theorem ordD_anti5 (a b : Val) (ha : okP 5 a = true) (hb : okP 5 b = true) : ordD 5 a b = - ordD 5 b a := (ordD_ord 5).anti a b ha hb
theorem less_left (p : Bytes) (a b : Bytes) : Op.bytesLess (p ++ a) (p ++ b) = Op.bytesLess a b := by
  induction p with
  | nil => rfl
  | cons x p ih =>
    have hx : ¬ x < x := by rw [UInt8.lt_iff_toNat_lt]; omega
    simp [Op.bytesLess, ih, hx]
theorem ahd_less {a b : Bytes} (h : Ahd a b) : Op.bytesLess a b = true := by
  obtain ⟨p, x, y, s, t, rfl, rfl, hxy⟩ := h
  rw [less_left]
  simp [Op.bytesLess, hxy]
theorem ahd_not {a b : Bytes} (h : Ahd a b) : Op.bytesLess b a = false := bytesLess_asymm (ahd_less h)
theorem less_ext (t s : Bytes) : Op.bytesLess (t ++ s) t = false := by
  have := less_left t s []
  rw [List.append_nil] at this
  rw [this]
  cases s <;> rfl
theorem turnB_lt {x y : UInt8} (h : x < y) : turnB y < turnB x := by
  rw [UInt8.lt_iff_toNat_lt] at h ⊢
  have e : ∀ b : UInt8, (turnB b).toNat = 255 - b.toNat := by
    intro b
    have hb : b.toNat < 256 := b.toNat_lt
    unfold turnB
    rw [UInt8.toNat_sub]
    simp
    omega
  have hy : y.toNat < 256 := y.toNat_lt
  rw [e, e]
  omega
theorem turn_ahd {a b : Bytes} (h : Ahd a b) : Ahd (turnP b) (turnP a) := by
  obtain ⟨p, x, y, s, t, rfl, rfl, hxy⟩ := h
  exact ⟨turnP p, turnB y, turnB x, turnP t, turnP s, by simp [turnP], by simp [turnP], turnB_lt hxy⟩
theorem behindN_form : ∀ (n : Nat) (t x : Bytes), behindN t n = some x → ∃ p c q r, t = p ++ c :: (q ++ r) ∧ x = p ++ [c + 1] ∧ c < 255 ∧ (∀ b ∈ q, b = 255) ∧ (p ++ c :: q).length = n
  | 0, t, x, h => by simp [behindN] at h
  | n + 1, t, x, h => by
    unfold behindN at h
    split at h
    · rename_i b hb
      have hn : n < t.length := (List.getElem?_eq_some_iff.1 hb).1
      have hbe : t[n] = b := (List.getElem?_eq_some_iff.1 hb).2
      split at h
      · rename_i hlt
        obtain rfl := Option.some.inj h
        refine ⟨t.take n, b, [], t.drop (n + 1), ?_, rfl, hlt, by simp, by simp; omega⟩
        rw [List.nil_append, ← hbe, ← List.drop_eq_getElem_cons hn, List.take_append_drop]
      · rename_i hnl
        obtain ⟨p, c, q, r, rfl, rfl, hc, hq, hl⟩ := behindN_form n t x h
        have hb255 : b = 255 := by
          rw [UInt8.lt_iff_toNat_lt] at hnl
          have : b.toNat < 256 := b.toNat_lt
          have e : (255 : UInt8).toNat = 255 := rfl
          exact UInt8.toNat_inj.1 (by omega)
        have hr : ∃ r', r = b :: r' := by
          have h1 : (p ++ c :: (q ++ r))[n]? = some b := hb
          have h2 : p ++ c :: (q ++ r) = (p ++ c :: q) ++ r := by simp
          rw [h2, List.getElem?_append_right (by omega), hl, Nat.sub_self] at h1
          cases r with
          | nil => simp at h1
          | cons z r' => simp at h1; exact ⟨r', by rw [h1]⟩
        obtain ⟨r', rfl⟩ := hr
        refine ⟨p, c, q ++ [b], r', by simp, rfl, hc, ?_, by simp at hl ⊢; omega⟩
        intro z hz
        rcases List.mem_append.1 hz with hz | hz
        · exact hq z hz
        · rw [List.mem_singleton.1 hz]; exact hb255
    · cases h
theorem behind_form {t x : Bytes} (h : behindP t = some x) : ∃ p c q, t = p ++ c :: q ∧ x = p ++ [c + 1] ∧ c < 255 ∧ ∀ b ∈ q, b = 255 := by
  obtain ⟨p, c, q, r, e, hx, hc, hq, hl⟩ := behindN_form t.length t x h
  have hr : r = [] := by
    have := congrArg List.length e
    simp at this hl
    exact List.eq_nil_of_length_eq_zero (by omega)
  subst hr
  exact ⟨p, c, q, by simpa using e, hx, hc, hq⟩
theorem succ_lt {c : UInt8} (h : c < 255) : c < c + 1 ∧ (c + 1).toNat = c.toNat + 1 := by
  rw [UInt8.lt_iff_toNat_lt] at h
  have e : (255 : UInt8).toNat = 255 := rfl
  have e2 : (c + 1).toNat = c.toNat + 1 := by
    rw [UInt8.toNat_add]
    have : (1 : UInt8).toNat = 1 := rfl
    omega
  exact ⟨by rw [UInt8.lt_iff_toNat_lt]; omega, e2⟩
/-- All that begins with a text stands ahead of what is behind it. -/
theorem behind_less {t x : Bytes} (h : behindP t = some x) (s : Bytes) : Op.bytesLess (t ++ s) x = true := by
  obtain ⟨p, c, q, rfl, rfl, hc, _⟩ := behind_form h
  exact ahd_less ⟨p, c, c + 1, q ++ s, [], by simp, by simp, (succ_lt hc).1⟩
theorem behind_ahd {t x b : Bytes} (h : behindP t = some x) (ha : Ahd t b) : Op.bytesLess b x = false := by
  obtain ⟨p, c, q, e1, rfl, hc, hq⟩ := behind_form h
  obtain ⟨P, a, e, s, u, e2, rfl, hae⟩ := ha
  rw [e1] at e2
  rcases Nat.lt_trichotomy P.length p.length with hl | hl | hl
  · -- told apart ahead of it
    obtain ⟨p', hp⟩ : ∃ p', p = P ++ a :: p' := by
      have h1 : P = p.take P.length := by
        have := congrArg (List.take P.length) e2
        rw [List.take_append_of_le_length (by omega), List.take_left] at this
        exact this.symm
      have h2 : (p ++ c :: q)[P.length]? = some a := by rw [e2]; simp
      rw [List.getElem?_append_left hl] at h2
      refine ⟨p.drop (P.length + 1), ?_⟩
      obtain ⟨g1, g2⟩ := List.getElem?_eq_some_iff.1 h2
      rw [← g2, ← List.drop_eq_getElem_cons g1]
      conv => lhs; rw [← List.take_append_drop P.length p]
      rw [← h1]
    subst hp
    exact ahd_not ⟨P, a, e, p' ++ [c + 1], u, by simp, rfl, hae⟩
  · have h1 : p = P ∧ c :: q = a :: s := List.append_inj e2 hl.symm
    obtain ⟨rfl, h2⟩ := h1
    injection h2 with h3 h4
    subst h3
    rw [less_left]
    obtain ⟨_, g2⟩ := succ_lt hc
    rw [UInt8.lt_iff_toNat_lt] at hae
    by_cases he : e = c + 1
    · subst he
      have hx : ¬ (c + 1 : UInt8) < c + 1 := by rw [UInt8.lt_iff_toNat_lt]; omega
      simp [Op.bytesLess, hx]
    · have hne : e.toNat ≠ (c + 1).toNat := fun h => he (UInt8.toNat_inj.1 h)
      have hx : ¬ e < c + 1 := by rw [UInt8.lt_iff_toNat_lt]; omega
      simp [Op.bytesLess, hx, he]
  · exfalso
    have h2 : (p ++ c :: q)[P.length]? = some a := by rw [e2]; simp
    rw [List.getElem?_append_right (by omega)] at h2
    obtain ⟨k, hk⟩ : ∃ k, P.length - p.length = k + 1 := ⟨P.length - p.length - 1, by omega⟩
    rw [hk, List.getElem?_cons_succ] at h2
    have := hq a (List.mem_of_getElem? h2)
    subst this
    rw [UInt8.lt_iff_toNat_lt] at hae
    have : e.toNat < 256 := e.toNat_lt
    have e' : (255 : UInt8).toNat = 255 := rfl
    omega
/-- A key lies in an interval. -/
def hasI (i : Ivl) (k : Bytes) : Bool := !Op.bytesLess k i.low && (i.opn || Op.bytesLess k i.high)
theorem begin_has (t s : Bytes) : hasI (beginP t) (t ++ s) = true := by
  unfold hasI beginP
  cases h : behindP t with
  | none => simp [less_ext]
  | some x => simp [less_ext, behind_less h]
theorem opn_has (k : Bytes) : hasI opnI k = true := by
  unfold hasI
  cases k <;> simp [Op.bytesLess]
theorem keyI_ahd {a b : Val} (f : Bool) (ha : okP 5 a = true) (hb : okP 5 b = true) (h : ordD 5 a b < 0) : if f then Ahd (keyI b f) (keyI a f) else Ahd (keyI a f) (keyI b f) := by
  have := key_ahd 5 a b ha hb h
  unfold keyI
  cases f with
  | false => simpa using this
  | true => simpa using turn_ahd this
theorem kind_closed {v : Val} (f : Bool) (h : okP 5 v = true) : ∃ c : UInt8, c < 255 ∧ kindB (v.k + 1) f = [c] := by
  obtain ⟨i, hi, hi5⟩ := kind_nat h
  have hb := byteAt_val (i + 1) 0
  have h1 : v.k + 1 = ((i + 1 : Nat) : Int) := by rw [hi]; rfl
  have hv : (byteAt (v.k + 1) 0).toNat = i + 1 := by rw [h1, hb]; simp; omega
  unfold kindB
  cases f with
  | false => exact ⟨byteAt (v.k + 1) 0, by rw [UInt8.lt_iff_toNat_lt, hv]; simp; omega, rfl⟩
  | true =>
    refine ⟨turnB (byteAt (v.k + 1) 0), ?_, rfl⟩
    rw [UInt8.lt_iff_toNat_lt]
    unfold turnB
    rw [UInt8.toNat_sub, hv]
    simp
    omega
/-- The interval's ends, of a key. -/
theorem key_ends {v : Val} (f : Bool) (h : okP 5 v = true) : ∃ c r x, keyI v f = c :: r ∧ (keyI v f).take 1 = [c] ∧ kindB (v.k + 1) f = [c] ∧ c < 255 ∧ beginP (keyI v f) = ⟨keyI v f, x, false⟩ ∧ behindP (keyI v f) = some x ∧ beginP [c] = ⟨[c], [c + 1], false⟩ := by
  obtain ⟨c, hc, hk⟩ := kind_closed f h
  obtain ⟨r, hr⟩ := keyI_cons v f h
  rw [hk] at hr
  have hr' : keyI v f = c :: r := hr
  obtain ⟨x, hx, _⟩ := begin_cons c r hc
  have hb : behindP (c :: r) = some x := by
    unfold beginP at hx
    split at hx
    · rename_i y hy
      injection hx with _ e2 _
      rw [hy, e2]
    · simp at hx
  refine ⟨c, r, x, hr', by rw [hr']; rfl, hk, hc, by rw [hr']; exact hx, by rw [hr']; exact hb, begin_one c hc⟩
theorem below_kind {c : UInt8} (hc : c < 255) (r : Bytes) : Op.bytesLess (c :: r) [c + 1] = true := by
  simp [Op.bytesLess, (succ_lt hc).1]
theorem above_kind (c : UInt8) (r : Bytes) : Op.bytesLess (c :: r) [c] = false := by
  have hx : ¬ c < c := by rw [UInt8.lt_iff_toNat_lt]; omega
  cases r <;> simp [Op.bytesLess, hx]
theorem term_in (t : Trm) (v : Val) (f : Bool) (hv : okP 5 v = true) (ht : okP 5 t.v = true) (h1 : 1 ≤ t.op) (h10 : t.op ≤ 10) (h : saysB t = false → oneT t.op t.v v = true) : hasI (implIv t f) (keyI v f) = true := by
  by_cases hs : saysB t = true
  · have : implIv t f = opnI := by rw [← specIv_eq t f ht]; exact specIv_says t f hs
    rw [this]; exact opn_has _
  have h := h (by simpa using hs)
  simp only [saysB, Bool.or_eq_true, decide_eq_true_eq] at hs
  have hop : t.op = 1 ∨ t.op = 3 ∨ t.op = 4 ∨ t.op = 5 ∨ t.op = 6 ∨ t.op = 9 := by omega
  obtain ⟨c, r, x, k1, k2, k3, k4, k5, k6, k7⟩ := key_ends f hv
  have hsame : ∀ z : Val, okP 5 z = true → z.k = v.k → kindB (z.k + 1) f = [c] := fun z _ e => by rw [e]; exact k3
  rcases hop with ho | ho | ho | ho | ho | ho
  · -- alike
    simp only [oneT, ho, if_true] at h
    have e := (sameV_iff _ _).1 h
    have : implIv t f = beginP (keyI t.v f) := by unfold implIv flipO; cases f <;> simp [ho]
    rw [this, ← e]
    have := begin_has (keyI v f) []
    rwa [List.append_nil] at this
  · -- less
    simp [oneT, ho] at h
    obtain ⟨hk, hlt⟩ := h
    obtain ⟨c', r', x', w1, w2, w3, w4, w5, w6, w7⟩ := key_ends f ht
    have ec : c' = c := by rw [hk] at k3; rw [k3] at w3; injection w3 with e; exact e.symm
    subst ec
    have ha := keyI_ahd f hv ht hlt
    cases f with
    | false =>
      have : implIv t false = ⟨[c'], keyI t.v false, false⟩ := by unfold implIv flipO; simp [ho, w2, w7]
      rw [this]
      simp at ha
      unfold hasI
      simp [ahd_less ha]
      rw [k1]; exact above_kind _ _
    | true =>
      have : implIv t true = ⟨x', [c' + 1], false⟩ := by unfold implIv flipO; simp [ho, w2, w7, w5]
      rw [this]
      simp at ha
      unfold hasI
      simp [behind_ahd w6 ha]
      rw [k1]; exact below_kind w4 _
  · simp [oneT, ho] at h
    obtain ⟨hk, hlt⟩ := h
    obtain ⟨c', r', x', w1, w2, w3, w4, w5, w6, w7⟩ := key_ends f ht
    have ec : c' = c := by rw [hk] at k3; rw [k3] at w3; injection w3 with e; exact e.symm
    subst ec
    have hcase : v = t.v ∨ ordD 5 v t.v < 0 := by
      by_cases h0 : ordD 5 v t.v = 0
      · exact .inl (ordD_zero 5 _ _ hv ht h0)
      · exact .inr (by omega)
    cases f with
    | false =>
      have : implIv t false = ⟨[c'], x', false⟩ := by unfold implIv flipO; simp [ho, w2, w7, w5]
      rw [this]
      unfold hasI
      have hlo : Op.bytesLess (keyI v false) [c'] = false := by rw [k1]; exact above_kind _ _
      rcases hcase with e | h2
      · have := behind_less w6 []
        rw [List.append_nil] at this
        rw [e] at hlo ⊢
        simp [this, hlo]
      · have ha := keyI_ahd false hv ht h2
        simp at ha
        have h3 := behind_less w6 []
        rw [List.append_nil] at h3
        simp [bytesLess_trans (ahd_less ha) h3, hlo]
    | true =>
      have : implIv t true = ⟨keyI t.v true, [c' + 1], false⟩ := by unfold implIv flipO; simp [ho, w2, w7]
      rw [this]
      unfold hasI
      have hhi : Op.bytesLess (keyI v true) [c' + 1] = true := by rw [k1]; exact below_kind w4 _
      rcases hcase with e | h2
      · rw [e] at hhi ⊢
        simp [bytesLess_irrefl, hhi]
      · have ha := keyI_ahd true hv ht h2
        simp at ha
        simp [ahd_not ha, hhi]
  · simp [oneT, ho] at h
    obtain ⟨hk, hlt⟩ := h
    have hlt : ordD 5 t.v v < 0 := by have := (ordD_anti5 t.v v ht hv); omega
    obtain ⟨c', r', x', w1, w2, w3, w4, w5, w6, w7⟩ := key_ends f ht
    have ec : c' = c := by rw [hk] at k3; rw [k3] at w3; injection w3 with e; exact e.symm
    subst ec
    have ha := keyI_ahd f ht hv hlt
    cases f with
    | true =>
      have : implIv t true = ⟨[c'], keyI t.v true, false⟩ := by unfold implIv flipO; simp [ho, w2, w7]
      rw [this]
      simp at ha
      unfold hasI
      simp [ahd_less ha]
      rw [k1]; exact above_kind _ _
    | false =>
      have : implIv t false = ⟨x', [c' + 1], false⟩ := by unfold implIv flipO; simp [ho, w2, w7, w5]
      rw [this]
      simp at ha
      unfold hasI
      simp [behind_ahd w6 ha]
      rw [k1]; exact below_kind w4 _
  · simp [oneT, ho] at h
    obtain ⟨hk, hlt⟩ := h
    obtain ⟨c', r', x', w1, w2, w3, w4, w5, w6, w7⟩ := key_ends f ht
    have ec : c' = c := by rw [hk] at k3; rw [k3] at w3; injection w3 with e; exact e.symm
    subst ec
    have hcase : v = t.v ∨ ordD 5 t.v v < 0 := by
      have := (ordD_anti5 t.v v ht hv)
      by_cases h0 : ordD 5 v t.v = 0
      · exact .inl (ordD_zero 5 _ _ hv ht h0)
      · exact .inr (by omega)
    cases f with
    | true =>
      have : implIv t true = ⟨[c'], x', false⟩ := by unfold implIv flipO; simp [ho, w2, w7, w5]
      rw [this]
      unfold hasI
      have hlo : Op.bytesLess (keyI v true) [c'] = false := by rw [k1]; exact above_kind _ _
      rcases hcase with e | h2
      · have := behind_less w6 []
        rw [List.append_nil] at this
        rw [e] at hlo ⊢
        simp [this, hlo]
      · have ha := keyI_ahd true ht hv h2
        simp at ha
        have h3 := behind_less w6 []
        rw [List.append_nil] at h3
        simp [bytesLess_trans (ahd_less ha) h3, hlo]
    | false =>
      have : implIv t false = ⟨keyI t.v false, [c' + 1], false⟩ := by unfold implIv flipO; simp [ho, w2, w7]
      rw [this]
      unfold hasI
      have hhi : Op.bytesLess (keyI v false) [c' + 1] = true := by rw [k1]; exact below_kind w4 _
      rcases hcase with e | h2
      · rw [e] at hhi ⊢
        simp [bytesLess_irrefl, hhi]
      · have ha := keyI_ahd false ht hv h2
        simp at ha
        simp [ahd_not ha, hhi]
  · simp [oneT, ho] at h
    have : implIv t f = beginP (kindB (t.v.n + 1) f) := by unfold implIv flipO; cases f <;> simp [ho]
    rw [this, ← h, k3, k1]
    exact begin_has [c] r
end Go.Yd
/- Reads, writes, changes, transactions, commands, stores as trees. -/
set_option linter.unusedSimpArgs false
set_option linter.unusedVariables false
namespace Go.Yd
open Go.Ev Go.Proofs Go.Pu
structure Rd where
  coll : Bytes
  filter : List (List Trm)
structure Wr where
  coll : Bytes
  id : Int
  gone : Bool
  v : Val
structure Chg where
  w : Wr
  before : Val
  was : Bool
structure Dn where
  snap : Int
  at_ : Int
  reads : List Rd
  changes : List Chg
  inn : Bool
  out : Bool
structure Txn where
  session : Int
  snap : Int
  reads : List Rd
  writes : List Wr
structure Cmd where
  kind : Int
  session : Int
  coll : Bytes
  doc : Val
  q : Qry
  ups : List Trm
  d : Dfn
structure Sto where
  colls : List Col
  txns : List Txn
  done : List Dn
  clock : Int
abbrev rdT (r : Rd) : T := .agg [.str r.coll, .list (r.filter.map clsT)]
abbrev wrT (w : Wr) : T := .agg [.str w.coll, .int .i64 w.id, .bool w.gone, .int .i64 w.v.k, .int .i64 w.v.n, .str w.v.t]
abbrev chgT (c : Chg) : T := .agg [.str c.w.coll, .int .i64 c.w.id, .bool c.w.gone, .int .i64 c.w.v.k, .int .i64 c.w.v.n, .str c.w.v.t, .int .i64 c.before.k, .int .i64 c.before.n, .str c.before.t, .bool c.was]
abbrev dnT (d : Dn) : T := .agg [.int .i64 d.snap, .int .i64 d.at_, .list (d.reads.map rdT), .list (d.changes.map chgT), .bool d.inn, .bool d.out]
abbrev txnT (t : Txn) : T := .agg [.int .i64 t.session, .int .i64 t.snap, .list (t.reads.map rdT), .list (t.writes.map wrT)]
abbrev cmdT (c : Cmd) : T := .agg [.int .i64 c.kind, .int .i64 c.session, .str c.coll, .int .i64 c.doc.k, .int .i64 c.doc.n, .str c.doc.t, .list (c.q.filter.map clsT), .list (c.q.sort.map prtT), .int .i64 c.q.skip, .int .i64 c.q.limit, .list (c.q.keep.map strT), .str c.q.hint, .list (c.ups.map trmT), .str c.d.name, .list (c.d.parts.map prtT)]
abbrev stoT (s : Sto) : T := .agg [.list (s.colls.map colT), .list (s.txns.map txnT), .list (s.done.map dnT), .int .i64 s.clock]
end Go.Yd
/- slices.IndexFunc, slices.ContainsFunc with captured variables. -/
set_option linter.unusedSimpArgs false
set_option linter.unusedVariables false
namespace Go.Yd
open Go.Ev Go.Proofs Go.Pu
set_option maxRecDepth 100000
set_option maxHeartbeats 4000000
theorem indexFunc_292_1 (xs : List Trm) (g : Nat) (c0 : List T) (p : Trm → Bool) (hl : xs.length < 9223372036854775807) (hm : E.md g = []) (hf : E.flat g = true) (hp : ∀ x ∈ xs, run E (.call g [.t (trmT x), .dref c0]) = some (.res [xB (p x)] [])) :
    run E (.call 292 [.t (.list (xs.map trmT)), .fn g [c0]]) = some (.res [xI (idxP p xs)] []) := by
  rw [run_call E 292 _ rfl Tryz.func292 rfl rfl rfl (by simp)]
  rw [E_md] at hm
  have lp := fun (r : Int) (hr : r = idxP p xs) => sk (fun s o q hI => loop_for (c := loopAt Tryz.f292 0) (N := 19)
    (fun i s o q => s 0 = .t (.list (xs.map trmT)) ∧ s 1 = .fn g [.dptr c0] ∧ s 7 = .t (.int .i64 xs.length) ∧ s 8 = .t (.int .i64 i) ∧ r = if idxP p (xs.drop i) < 0 then -1 else idxP p (xs.drop i) + i)
    (fun e s' o' q' => e = (if r < 0 then .exit 0 else .ret) ∧ (0 ≤ r → s' 4 = .t (.int .i64 r))) xs.length
    (by
      rintro i s o q hi ⟨h0, h1, h7, h8, hr⟩
      have hd : xs.drop i = xs[i] :: xs.drop (i + 1) := by rw [List.drop_eq_getElem_cons hi]
      have hi' : (i : Int) < (xs.length : Int) := by omega
      have hw := wrap_succ (n := i) (by omega)
      have hx := hp xs[i] (List.getElem_mem hi)
      rw [hd, idxP] at hr
      cases hpx : p xs[i] with
      | true =>
        simp [hpx] at hr hx
        have hr' : ¬ r < 0 := by omega
        simp [-mdOf, loopAt, loopsOf, Tryz.f292, h0, h1, h7, h8, hi, hi', hx, hw, hm, hf, hr', hr]
      | false =>
        simp [hpx] at hr hx
        have hr2 : r = if idxP p (xs.drop (i + 1)) < 0 then -1 else idxP p (xs.drop (i + 1)) + ((i : Int) + 1) := by
          rw [hr]
          by_cases hq : idxP p (xs.drop (i + 1)) < 0
          · simp [hq]
          · have : ¬ idxP p (xs.drop (i + 1)) + 1 < 0 := by omega
            simp [hq, this]; omega
        clear hr
        simp [-mdOf, loopAt, loopsOf, Tryz.f292, h0, h1, h7, h8, hi, hi', hx, hw, hm, hf]
        exact hr2)
    (by
      rintro s o q ⟨h0, h1, h7, h8, hr⟩
      simp [idxP] at hr
      simp [loopAt, loopsOf, Tryz.f292, h0, h1, h7, h8, hr])
    xs.length 0 s o q (by omega) hI)
  simp only [loopAt, loopsOf, Tryz.f292] at lp
  obtain ⟨X, A, B, C, hx⟩ := lp _ rfl
  have hz : idxP p xs = if idxP p xs < 0 then -1 else idxP p xs := by
    cases xs with
    | nil => simp [idxP]
    | cons x r =>
      unfold idxP
      split
      · simp
      · split
        · simp
        · have : ¬ idxP p r + 1 < 0 := by omega
          simp [this]
  simp [← hz] at hx
  by_cases h : idxP p xs < 0
  · have h1 : idxP p xs = -1 := by rw [hz]; simp [h]
    simp [h] at hx
    simp [hx, h1]
  · have h2 : 0 ≤ idxP p xs := by omega
    simp [h, h2] at hx
    simp [hx]
theorem containsFunc_182_1 (xs : List Trm) (g : Nat) (c0 : List T) (p : Trm → Bool) (hl : xs.length < 9223372036854775807) (hm : E.md g = []) (hf : E.flat g = true) (hp : ∀ x ∈ xs, run E (.call g [.t (trmT x), .dref c0]) = some (.res [xB (p x)] [])) :
    run E (.call 182 [.t (.list (xs.map trmT)), .fn g [c0]]) = some (.res [xB (xs.any p)] []) := by
  rw [run_call E 182 _ rfl Tryz.func182 rfl rfl rfl (by simp)]
  have h := indexFunc_292_1 xs g c0 p hl hm hf hp
  simp [h, idxP_ge]
theorem indexFunc_291_1 (xs : List (List Trm)) (g : Nat) (c0 : List T) (p : (List Trm) → Bool) (hl : xs.length < 9223372036854775807) (hm : E.md g = []) (hf : E.flat g = true) (hp : ∀ x ∈ xs, run E (.call g [.t (clsT x), .dref c0]) = some (.res [xB (p x)] [])) :
    run E (.call 291 [.t (.list (xs.map clsT)), .fn g [c0]]) = some (.res [xI (idxP p xs)] []) := by
  rw [run_call E 291 _ rfl Tryz.func291 rfl rfl rfl (by simp)]
  rw [E_md] at hm
  have lp := fun (r : Int) (hr : r = idxP p xs) => sk (fun s o q hI => loop_for (c := loopAt Tryz.f291 0) (N := 19)
    (fun i s o q => s 0 = .t (.list (xs.map clsT)) ∧ s 1 = .fn g [.dptr c0] ∧ s 7 = .t (.int .i64 xs.length) ∧ s 8 = .t (.int .i64 i) ∧ r = if idxP p (xs.drop i) < 0 then -1 else idxP p (xs.drop i) + i)
    (fun e s' o' q' => e = (if r < 0 then .exit 0 else .ret) ∧ (0 ≤ r → s' 4 = .t (.int .i64 r))) xs.length
    (by
      rintro i s o q hi ⟨h0, h1, h7, h8, hr⟩
      have hd : xs.drop i = xs[i] :: xs.drop (i + 1) := by rw [List.drop_eq_getElem_cons hi]
      have hi' : (i : Int) < (xs.length : Int) := by omega
      have hw := wrap_succ (n := i) (by omega)
      have hx := hp xs[i] (List.getElem_mem hi)
      rw [hd, idxP] at hr
      cases hpx : p xs[i] with
      | true =>
        simp [hpx] at hr hx
        have hr' : ¬ r < 0 := by omega
        simp [-mdOf, loopAt, loopsOf, Tryz.f291, h0, h1, h7, h8, hi, hi', hx, hw, hm, hf, hr', hr]
      | false =>
        simp [hpx] at hr hx
        have hr2 : r = if idxP p (xs.drop (i + 1)) < 0 then -1 else idxP p (xs.drop (i + 1)) + ((i : Int) + 1) := by
          rw [hr]
          by_cases hq : idxP p (xs.drop (i + 1)) < 0
          · simp [hq]
          · have : ¬ idxP p (xs.drop (i + 1)) + 1 < 0 := by omega
            simp [hq, this]; omega
        clear hr
        simp [-mdOf, loopAt, loopsOf, Tryz.f291, h0, h1, h7, h8, hi, hi', hx, hw, hm, hf]
        exact hr2)
    (by
      rintro s o q ⟨h0, h1, h7, h8, hr⟩
      simp [idxP] at hr
      simp [loopAt, loopsOf, Tryz.f291, h0, h1, h7, h8, hr])
    xs.length 0 s o q (by omega) hI)
  simp only [loopAt, loopsOf, Tryz.f291] at lp
  obtain ⟨X, A, B, C, hx⟩ := lp _ rfl
  have hz : idxP p xs = if idxP p xs < 0 then -1 else idxP p xs := by
    cases xs with
    | nil => simp [idxP]
    | cons x r =>
      unfold idxP
      split
      · simp
      · split
        · simp
        · have : ¬ idxP p r + 1 < 0 := by omega
          simp [this]
  simp [← hz] at hx
  by_cases h : idxP p xs < 0
  · have h1 : idxP p xs = -1 := by rw [hz]; simp [h]
    simp [h] at hx
    simp [hx, h1]
  · have h2 : 0 ≤ idxP p xs := by omega
    simp [h, h2] at hx
    simp [hx]
theorem containsFunc_180_1 (xs : List (List Trm)) (g : Nat) (c0 : List T) (p : (List Trm) → Bool) (hl : xs.length < 9223372036854775807) (hm : E.md g = []) (hf : E.flat g = true) (hp : ∀ x ∈ xs, run E (.call g [.t (clsT x), .dref c0]) = some (.res [xB (p x)] [])) :
    run E (.call 180 [.t (.list (xs.map clsT)), .fn g [c0]]) = some (.res [xB (xs.any p)] []) := by
  rw [run_call E 180 _ rfl Tryz.func180 rfl rfl rfl (by simp)]
  have h := indexFunc_291_1 xs g c0 p hl hm hf hp
  simp [h, idxP_ge]
theorem indexFunc_298_0 (xs : List Rd) (g : Nat)  (p : Rd → Bool) (hl : xs.length < 9223372036854775807) (hm : E.md g = []) (hf : E.flat g = true) (hp : ∀ x ∈ xs, run E (.call g [.t (rdT x)]) = some (.res [xB (p x)] [])) :
    run E (.call 298 [.t (.list (xs.map rdT)), .fn g []]) = some (.res [xI (idxP p xs)] []) := by
  rw [run_call E 298 _ rfl Tryz.func298 rfl rfl rfl (by simp)]
  rw [E_md] at hm
  have lp := fun (r : Int) (hr : r = idxP p xs) => sk (fun s o q hI => loop_for (c := loopAt Tryz.f298 0) (N := 19)
    (fun i s o q => s 0 = .t (.list (xs.map rdT)) ∧ s 1 = .fn g [] ∧ s 7 = .t (.int .i64 xs.length) ∧ s 8 = .t (.int .i64 i) ∧ r = if idxP p (xs.drop i) < 0 then -1 else idxP p (xs.drop i) + i)
    (fun e s' o' q' => e = (if r < 0 then .exit 0 else .ret) ∧ (0 ≤ r → s' 4 = .t (.int .i64 r))) xs.length
    (by
      rintro i s o q hi ⟨h0, h1, h7, h8, hr⟩
      have hd : xs.drop i = xs[i] :: xs.drop (i + 1) := by rw [List.drop_eq_getElem_cons hi]
      have hi' : (i : Int) < (xs.length : Int) := by omega
      have hw := wrap_succ (n := i) (by omega)
      have hx := hp xs[i] (List.getElem_mem hi)
      rw [hd, idxP] at hr
      cases hpx : p xs[i] with
      | true =>
        simp [hpx] at hr hx
        have hr' : ¬ r < 0 := by omega
        simp [-mdOf, loopAt, loopsOf, Tryz.f298, h0, h1, h7, h8, hi, hi', hx, hw, hm, hf, hr', hr]
      | false =>
        simp [hpx] at hr hx
        have hr2 : r = if idxP p (xs.drop (i + 1)) < 0 then -1 else idxP p (xs.drop (i + 1)) + ((i : Int) + 1) := by
          rw [hr]
          by_cases hq : idxP p (xs.drop (i + 1)) < 0
          · simp [hq]
          · have : ¬ idxP p (xs.drop (i + 1)) + 1 < 0 := by omega
            simp [hq, this]; omega
        clear hr
        simp [-mdOf, loopAt, loopsOf, Tryz.f298, h0, h1, h7, h8, hi, hi', hx, hw, hm, hf]
        exact hr2)
    (by
      rintro s o q ⟨h0, h1, h7, h8, hr⟩
      simp [idxP] at hr
      simp [loopAt, loopsOf, Tryz.f298, h0, h1, h7, h8, hr])
    xs.length 0 s o q (by omega) hI)
  simp only [loopAt, loopsOf, Tryz.f298] at lp
  obtain ⟨X, A, B, C, hx⟩ := lp _ rfl
  have hz : idxP p xs = if idxP p xs < 0 then -1 else idxP p xs := by
    cases xs with
    | nil => simp [idxP]
    | cons x r =>
      unfold idxP
      split
      · simp
      · split
        · simp
        · have : ¬ idxP p r + 1 < 0 := by omega
          simp [this]
  simp [← hz] at hx
  by_cases h : idxP p xs < 0
  · have h1 : idxP p xs = -1 := by rw [hz]; simp [h]
    simp [h] at hx
    simp [hx, h1]
  · have h2 : 0 ≤ idxP p xs := by omega
    simp [h, h2] at hx
    simp [hx]
theorem containsFunc_196_0 (xs : List Rd) (g : Nat)  (p : Rd → Bool) (hl : xs.length < 9223372036854775807) (hm : E.md g = []) (hf : E.flat g = true) (hp : ∀ x ∈ xs, run E (.call g [.t (rdT x)]) = some (.res [xB (p x)] [])) :
    run E (.call 196 [.t (.list (xs.map rdT)), .fn g []]) = some (.res [xB (xs.any p)] []) := by
  rw [run_call E 196 _ rfl Tryz.func196 rfl rfl rfl (by simp)]
  have h := indexFunc_298_0 xs g  p hl hm hf hp
  simp [h, idxP_ge]
theorem indexFunc_204_0 (xs : List Chg) (g : Nat)  (p : Chg → Bool) (hl : xs.length < 9223372036854775807) (hm : E.md g = []) (hf : E.flat g = true) (hp : ∀ x ∈ xs, run E (.call g [.t (chgT x)]) = some (.res [xB (p x)] [])) :
    run E (.call 204 [.t (.list (xs.map chgT)), .fn g []]) = some (.res [xI (idxP p xs)] []) := by
  rw [run_call E 204 _ rfl Tryz.func204 rfl rfl rfl (by simp)]
  rw [E_md] at hm
  have lp := fun (r : Int) (hr : r = idxP p xs) => sk (fun s o q hI => loop_for (c := loopAt Tryz.f204 0) (N := 19)
    (fun i s o q => s 0 = .t (.list (xs.map chgT)) ∧ s 1 = .fn g [] ∧ s 7 = .t (.int .i64 xs.length) ∧ s 8 = .t (.int .i64 i) ∧ r = if idxP p (xs.drop i) < 0 then -1 else idxP p (xs.drop i) + i)
    (fun e s' o' q' => e = (if r < 0 then .exit 0 else .ret) ∧ (0 ≤ r → s' 4 = .t (.int .i64 r))) xs.length
    (by
      rintro i s o q hi ⟨h0, h1, h7, h8, hr⟩
      have hd : xs.drop i = xs[i] :: xs.drop (i + 1) := by rw [List.drop_eq_getElem_cons hi]
      have hi' : (i : Int) < (xs.length : Int) := by omega
      have hw := wrap_succ (n := i) (by omega)
      have hx := hp xs[i] (List.getElem_mem hi)
      rw [hd, idxP] at hr
      cases hpx : p xs[i] with
      | true =>
        simp [hpx] at hr hx
        have hr' : ¬ r < 0 := by omega
        simp [-mdOf, loopAt, loopsOf, Tryz.f204, h0, h1, h7, h8, hi, hi', hx, hw, hm, hf, hr', hr]
      | false =>
        simp [hpx] at hr hx
        have hr2 : r = if idxP p (xs.drop (i + 1)) < 0 then -1 else idxP p (xs.drop (i + 1)) + ((i : Int) + 1) := by
          rw [hr]
          by_cases hq : idxP p (xs.drop (i + 1)) < 0
          · simp [hq]
          · have : ¬ idxP p (xs.drop (i + 1)) + 1 < 0 := by omega
            simp [hq, this]; omega
        clear hr
        simp [-mdOf, loopAt, loopsOf, Tryz.f204, h0, h1, h7, h8, hi, hi', hx, hw, hm, hf]
        exact hr2)
    (by
      rintro s o q ⟨h0, h1, h7, h8, hr⟩
      simp [idxP] at hr
      simp [loopAt, loopsOf, Tryz.f204, h0, h1, h7, h8, hr])
    xs.length 0 s o q (by omega) hI)
  simp only [loopAt, loopsOf, Tryz.f204] at lp
  obtain ⟨X, A, B, C, hx⟩ := lp _ rfl
  have hz : idxP p xs = if idxP p xs < 0 then -1 else idxP p xs := by
    cases xs with
    | nil => simp [idxP]
    | cons x r =>
      unfold idxP
      split
      · simp
      · split
        · simp
        · have : ¬ idxP p r + 1 < 0 := by omega
          simp [this]
  simp [← hz] at hx
  by_cases h : idxP p xs < 0
  · have h1 : idxP p xs = -1 := by rw [hz]; simp [h]
    simp [h] at hx
    simp [hx, h1]
  · have h2 : 0 ≤ idxP p xs := by omega
    simp [h, h2] at hx
    simp [hx]
theorem containsFunc_99_0 (xs : List Chg) (g : Nat)  (p : Chg → Bool) (hl : xs.length < 9223372036854775807) (hm : E.md g = []) (hf : E.flat g = true) (hp : ∀ x ∈ xs, run E (.call g [.t (chgT x)]) = some (.res [xB (p x)] [])) :
    run E (.call 99 [.t (.list (xs.map chgT)), .fn g []]) = some (.res [xB (xs.any p)] []) := by
  rw [run_call E 99 _ rfl Tryz.func99 rfl rfl rfl (by simp)]
  have h := indexFunc_204_0 xs g  p hl hm hf hp
  simp [h, idxP_ge]
theorem indexFunc_204_1 (xs : List Chg) (g : Nat) (c0 : List T) (p : Chg → Bool) (hl : xs.length < 9223372036854775807) (hm : E.md g = []) (hf : E.flat g = true) (hp : ∀ x ∈ xs, run E (.call g [.t (chgT x), .dref c0]) = some (.res [xB (p x)] [])) :
    run E (.call 204 [.t (.list (xs.map chgT)), .fn g [c0]]) = some (.res [xI (idxP p xs)] []) := by
  rw [run_call E 204 _ rfl Tryz.func204 rfl rfl rfl (by simp)]
  rw [E_md] at hm
  have lp := fun (r : Int) (hr : r = idxP p xs) => sk (fun s o q hI => loop_for (c := loopAt Tryz.f204 0) (N := 19)
    (fun i s o q => s 0 = .t (.list (xs.map chgT)) ∧ s 1 = .fn g [.dptr c0] ∧ s 7 = .t (.int .i64 xs.length) ∧ s 8 = .t (.int .i64 i) ∧ r = if idxP p (xs.drop i) < 0 then -1 else idxP p (xs.drop i) + i)
    (fun e s' o' q' => e = (if r < 0 then .exit 0 else .ret) ∧ (0 ≤ r → s' 4 = .t (.int .i64 r))) xs.length
    (by
      rintro i s o q hi ⟨h0, h1, h7, h8, hr⟩
      have hd : xs.drop i = xs[i] :: xs.drop (i + 1) := by rw [List.drop_eq_getElem_cons hi]
      have hi' : (i : Int) < (xs.length : Int) := by omega
      have hw := wrap_succ (n := i) (by omega)
      have hx := hp xs[i] (List.getElem_mem hi)
      rw [hd, idxP] at hr
      cases hpx : p xs[i] with
      | true =>
        simp [hpx] at hr hx
        have hr' : ¬ r < 0 := by omega
        simp [-mdOf, loopAt, loopsOf, Tryz.f204, h0, h1, h7, h8, hi, hi', hx, hw, hm, hf, hr', hr]
      | false =>
        simp [hpx] at hr hx
        have hr2 : r = if idxP p (xs.drop (i + 1)) < 0 then -1 else idxP p (xs.drop (i + 1)) + ((i : Int) + 1) := by
          rw [hr]
          by_cases hq : idxP p (xs.drop (i + 1)) < 0
          · simp [hq]
          · have : ¬ idxP p (xs.drop (i + 1)) + 1 < 0 := by omega
            simp [hq, this]; omega
        clear hr
        simp [-mdOf, loopAt, loopsOf, Tryz.f204, h0, h1, h7, h8, hi, hi', hx, hw, hm, hf]
        exact hr2)
    (by
      rintro s o q ⟨h0, h1, h7, h8, hr⟩
      simp [idxP] at hr
      simp [loopAt, loopsOf, Tryz.f204, h0, h1, h7, h8, hr])
    xs.length 0 s o q (by omega) hI)
  simp only [loopAt, loopsOf, Tryz.f204] at lp
  obtain ⟨X, A, B, C, hx⟩ := lp _ rfl
  have hz : idxP p xs = if idxP p xs < 0 then -1 else idxP p xs := by
    cases xs with
    | nil => simp [idxP]
    | cons x r =>
      unfold idxP
      split
      · simp
      · split
        · simp
        · have : ¬ idxP p r + 1 < 0 := by omega
          simp [this]
  simp [← hz] at hx
  by_cases h : idxP p xs < 0
  · have h1 : idxP p xs = -1 := by rw [hz]; simp [h]
    simp [h] at hx
    simp [hx, h1]
  · have h2 : 0 ≤ idxP p xs := by omega
    simp [h, h2] at hx
    simp [hx]
theorem containsFunc_99_1 (xs : List Chg) (g : Nat) (c0 : List T) (p : Chg → Bool) (hl : xs.length < 9223372036854775807) (hm : E.md g = []) (hf : E.flat g = true) (hp : ∀ x ∈ xs, run E (.call g [.t (chgT x), .dref c0]) = some (.res [xB (p x)] [])) :
    run E (.call 99 [.t (.list (xs.map chgT)), .fn g [c0]]) = some (.res [xB (xs.any p)] []) := by
  rw [run_call E 99 _ rfl Tryz.func99 rfl rfl rfl (by simp)]
  have h := indexFunc_204_1 xs g c0 p hl hm hf hp
  simp [h, idxP_ge]
theorem indexFunc_306_0 (xs : List Trm) (g : Nat)  (p : Trm → Bool) (hl : xs.length < 9223372036854775807) (hm : E.md g = []) (hf : E.flat g = true) (hp : ∀ x ∈ xs, run E (.call g [.t (trmT x)]) = some (.res [xB (p x)] [])) :
    run E (.call 306 [.t (.list (xs.map trmT)), .fn g []]) = some (.res [xI (idxP p xs)] []) := by
  rw [run_call E 306 _ rfl Tryz.func306 rfl rfl rfl (by simp)]
  rw [E_md] at hm
  have lp := fun (r : Int) (hr : r = idxP p xs) => sk (fun s o q hI => loop_for (c := loopAt Tryz.f306 0) (N := 19)
    (fun i s o q => s 0 = .t (.list (xs.map trmT)) ∧ s 1 = .fn g [] ∧ s 7 = .t (.int .i64 xs.length) ∧ s 8 = .t (.int .i64 i) ∧ r = if idxP p (xs.drop i) < 0 then -1 else idxP p (xs.drop i) + i)
    (fun e s' o' q' => e = (if r < 0 then .exit 0 else .ret) ∧ (0 ≤ r → s' 4 = .t (.int .i64 r))) xs.length
    (by
      rintro i s o q hi ⟨h0, h1, h7, h8, hr⟩
      have hd : xs.drop i = xs[i] :: xs.drop (i + 1) := by rw [List.drop_eq_getElem_cons hi]
      have hi' : (i : Int) < (xs.length : Int) := by omega
      have hw := wrap_succ (n := i) (by omega)
      have hx := hp xs[i] (List.getElem_mem hi)
      rw [hd, idxP] at hr
      cases hpx : p xs[i] with
      | true =>
        simp [hpx] at hr hx
        have hr' : ¬ r < 0 := by omega
        simp [-mdOf, loopAt, loopsOf, Tryz.f306, h0, h1, h7, h8, hi, hi', hx, hw, hm, hf, hr', hr]
      | false =>
        simp [hpx] at hr hx
        have hr2 : r = if idxP p (xs.drop (i + 1)) < 0 then -1 else idxP p (xs.drop (i + 1)) + ((i : Int) + 1) := by
          rw [hr]
          by_cases hq : idxP p (xs.drop (i + 1)) < 0
          · simp [hq]
          · have : ¬ idxP p (xs.drop (i + 1)) + 1 < 0 := by omega
            simp [hq, this]; omega
        clear hr
        simp [-mdOf, loopAt, loopsOf, Tryz.f306, h0, h1, h7, h8, hi, hi', hx, hw, hm, hf]
        exact hr2)
    (by
      rintro s o q ⟨h0, h1, h7, h8, hr⟩
      simp [idxP] at hr
      simp [loopAt, loopsOf, Tryz.f306, h0, h1, h7, h8, hr])
    xs.length 0 s o q (by omega) hI)
  simp only [loopAt, loopsOf, Tryz.f306] at lp
  obtain ⟨X, A, B, C, hx⟩ := lp _ rfl
  have hz : idxP p xs = if idxP p xs < 0 then -1 else idxP p xs := by
    cases xs with
    | nil => simp [idxP]
    | cons x r =>
      unfold idxP
      split
      · simp
      · split
        · simp
        · have : ¬ idxP p r + 1 < 0 := by omega
          simp [this]
  simp [← hz] at hx
  by_cases h : idxP p xs < 0
  · have h1 : idxP p xs = -1 := by rw [hz]; simp [h]
    simp [h] at hx
    simp [hx, h1]
  · have h2 : 0 ≤ idxP p xs := by omega
    simp [h, h2] at hx
    simp [hx]
theorem containsFunc_219_0 (xs : List Trm) (g : Nat)  (p : Trm → Bool) (hl : xs.length < 9223372036854775807) (hm : E.md g = []) (hf : E.flat g = true) (hp : ∀ x ∈ xs, run E (.call g [.t (trmT x)]) = some (.res [xB (p x)] [])) :
    run E (.call 219 [.t (.list (xs.map trmT)), .fn g []]) = some (.res [xB (xs.any p)] []) := by
  rw [run_call E 219 _ rfl Tryz.func219 rfl rfl rfl (by simp)]
  have h := indexFunc_306_0 xs g  p hl hm hf hp
  simp [h, idxP_ge]
theorem indexFunc_315_1 (xs : List Wr) (g : Nat) (c0 : List T) (p : Wr → Bool) (hl : xs.length < 9223372036854775807) (hm : E.md g = []) (hf : E.flat g = true) (hp : ∀ x ∈ xs, run E (.call g [.t (wrT x), .dref c0]) = some (.res [xB (p x)] [])) :
    run E (.call 315 [.t (.list (xs.map wrT)), .fn g [c0]]) = some (.res [xI (idxP p xs)] []) := by
  rw [run_call E 315 _ rfl Tryz.func315 rfl rfl rfl (by simp)]
  rw [E_md] at hm
  have lp := fun (r : Int) (hr : r = idxP p xs) => sk (fun s o q hI => loop_for (c := loopAt Tryz.f315 0) (N := 19)
    (fun i s o q => s 0 = .t (.list (xs.map wrT)) ∧ s 1 = .fn g [.dptr c0] ∧ s 7 = .t (.int .i64 xs.length) ∧ s 8 = .t (.int .i64 i) ∧ r = if idxP p (xs.drop i) < 0 then -1 else idxP p (xs.drop i) + i)
    (fun e s' o' q' => e = (if r < 0 then .exit 0 else .ret) ∧ (0 ≤ r → s' 4 = .t (.int .i64 r))) xs.length
    (by
      rintro i s o q hi ⟨h0, h1, h7, h8, hr⟩
      have hd : xs.drop i = xs[i] :: xs.drop (i + 1) := by rw [List.drop_eq_getElem_cons hi]
      have hi' : (i : Int) < (xs.length : Int) := by omega
      have hw := wrap_succ (n := i) (by omega)
      have hx := hp xs[i] (List.getElem_mem hi)
      rw [hd, idxP] at hr
      cases hpx : p xs[i] with
      | true =>
        simp [hpx] at hr hx
        have hr' : ¬ r < 0 := by omega
        simp [-mdOf, loopAt, loopsOf, Tryz.f315, h0, h1, h7, h8, hi, hi', hx, hw, hm, hf, hr', hr]
      | false =>
        simp [hpx] at hr hx
        have hr2 : r = if idxP p (xs.drop (i + 1)) < 0 then -1 else idxP p (xs.drop (i + 1)) + ((i : Int) + 1) := by
          rw [hr]
          by_cases hq : idxP p (xs.drop (i + 1)) < 0
          · simp [hq]
          · have : ¬ idxP p (xs.drop (i + 1)) + 1 < 0 := by omega
            simp [hq, this]; omega
        clear hr
        simp [-mdOf, loopAt, loopsOf, Tryz.f315, h0, h1, h7, h8, hi, hi', hx, hw, hm, hf]
        exact hr2)
    (by
      rintro s o q ⟨h0, h1, h7, h8, hr⟩
      simp [idxP] at hr
      simp [loopAt, loopsOf, Tryz.f315, h0, h1, h7, h8, hr])
    xs.length 0 s o q (by omega) hI)
  simp only [loopAt, loopsOf, Tryz.f315] at lp
  obtain ⟨X, A, B, C, hx⟩ := lp _ rfl
  have hz : idxP p xs = if idxP p xs < 0 then -1 else idxP p xs := by
    cases xs with
    | nil => simp [idxP]
    | cons x r =>
      unfold idxP
      split
      · simp
      · split
        · simp
        · have : ¬ idxP p r + 1 < 0 := by omega
          simp [this]
  simp [← hz] at hx
  by_cases h : idxP p xs < 0
  · have h1 : idxP p xs = -1 := by rw [hz]; simp [h]
    simp [h] at hx
    simp [hx, h1]
  · have h2 : 0 ≤ idxP p xs := by omega
    simp [h, h2] at hx
    simp [hx]
theorem containsFunc_231_1 (xs : List Wr) (g : Nat) (c0 : List T) (p : Wr → Bool) (hl : xs.length < 9223372036854775807) (hm : E.md g = []) (hf : E.flat g = true) (hp : ∀ x ∈ xs, run E (.call g [.t (wrT x), .dref c0]) = some (.res [xB (p x)] [])) :
    run E (.call 231 [.t (.list (xs.map wrT)), .fn g [c0]]) = some (.res [xB (xs.any p)] []) := by
  rw [run_call E 231 _ rfl Tryz.func231 rfl rfl rfl (by simp)]
  have h := indexFunc_315_1 xs g c0 p hl hm hf hp
  simp [h, idxP_ge]
theorem indexFunc_234_1 (xs : List Dn) (g : Nat) (c0 : List T) (p : Dn → Bool) (hl : xs.length < 9223372036854775807) (hm : E.md g = []) (hf : E.flat g = true) (hp : ∀ x ∈ xs, run E (.call g [.t (dnT x), .dref c0]) = some (.res [xB (p x)] [])) :
    run E (.call 234 [.t (.list (xs.map dnT)), .fn g [c0]]) = some (.res [xI (idxP p xs)] []) := by
  rw [run_call E 234 _ rfl Tryz.func234 rfl rfl rfl (by simp)]
  rw [E_md] at hm
  have lp := fun (r : Int) (hr : r = idxP p xs) => sk (fun s o q hI => loop_for (c := loopAt Tryz.f234 0) (N := 19)
    (fun i s o q => s 0 = .t (.list (xs.map dnT)) ∧ s 1 = .fn g [.dptr c0] ∧ s 7 = .t (.int .i64 xs.length) ∧ s 8 = .t (.int .i64 i) ∧ r = if idxP p (xs.drop i) < 0 then -1 else idxP p (xs.drop i) + i)
    (fun e s' o' q' => e = (if r < 0 then .exit 0 else .ret) ∧ (0 ≤ r → s' 4 = .t (.int .i64 r))) xs.length
    (by
      rintro i s o q hi ⟨h0, h1, h7, h8, hr⟩
      have hd : xs.drop i = xs[i] :: xs.drop (i + 1) := by rw [List.drop_eq_getElem_cons hi]
      have hi' : (i : Int) < (xs.length : Int) := by omega
      have hw := wrap_succ (n := i) (by omega)
      have hx := hp xs[i] (List.getElem_mem hi)
      rw [hd, idxP] at hr
      cases hpx : p xs[i] with
      | true =>
        simp [hpx] at hr hx
        have hr' : ¬ r < 0 := by omega
        simp [-mdOf, loopAt, loopsOf, Tryz.f234, h0, h1, h7, h8, hi, hi', hx, hw, hm, hf, hr', hr]
      | false =>
        simp [hpx] at hr hx
        have hr2 : r = if idxP p (xs.drop (i + 1)) < 0 then -1 else idxP p (xs.drop (i + 1)) + ((i : Int) + 1) := by
          rw [hr]
          by_cases hq : idxP p (xs.drop (i + 1)) < 0
          · simp [hq]
          · have : ¬ idxP p (xs.drop (i + 1)) + 1 < 0 := by omega
            simp [hq, this]; omega
        clear hr
        simp [-mdOf, loopAt, loopsOf, Tryz.f234, h0, h1, h7, h8, hi, hi', hx, hw, hm, hf]
        exact hr2)
    (by
      rintro s o q ⟨h0, h1, h7, h8, hr⟩
      simp [idxP] at hr
      simp [loopAt, loopsOf, Tryz.f234, h0, h1, h7, h8, hr])
    xs.length 0 s o q (by omega) hI)
  simp only [loopAt, loopsOf, Tryz.f234] at lp
  obtain ⟨X, A, B, C, hx⟩ := lp _ rfl
  have hz : idxP p xs = if idxP p xs < 0 then -1 else idxP p xs := by
    cases xs with
    | nil => simp [idxP]
    | cons x r =>
      unfold idxP
      split
      · simp
      · split
        · simp
        · have : ¬ idxP p r + 1 < 0 := by omega
          simp [this]
  simp [← hz] at hx
  by_cases h : idxP p xs < 0
  · have h1 : idxP p xs = -1 := by rw [hz]; simp [h]
    simp [h] at hx
    simp [hx, h1]
  · have h2 : 0 ≤ idxP p xs := by omega
    simp [h, h2] at hx
    simp [hx]
theorem containsFunc_133_1 (xs : List Dn) (g : Nat) (c0 : List T) (p : Dn → Bool) (hl : xs.length < 9223372036854775807) (hm : E.md g = []) (hf : E.flat g = true) (hp : ∀ x ∈ xs, run E (.call g [.t (dnT x), .dref c0]) = some (.res [xB (p x)] [])) :
    run E (.call 133 [.t (.list (xs.map dnT)), .fn g [c0]]) = some (.res [xB (xs.any p)] []) := by
  rw [run_call E 133 _ rfl Tryz.func133 rfl rfl rfl (by simp)]
  have h := indexFunc_234_1 xs g c0 p hl hm hf hp
  simp [h, idxP_ge]
end Go.Yd
/- A filter against a document: both sides' Matches. -/
set_option linter.unusedSimpArgs false
set_option linter.unusedVariables false
namespace Go.Yd
open Go.Ev Go.Proofs Go.Pu
set_option maxRecDepth 100000
set_option maxHeartbeats 16000000
def matchC (c : List Trm) (doc : Val) : Bool := c.all (fun t => matchT t doc)
def matchF (f : List (List Trm)) (doc : Val) : Bool := f.any (fun c => matchC c doc)
abbrev valC (v : Val) : List T := [.int .i64 v.k, .int .i64 v.n, .str v.t]
theorem opOK_seven {v : Val} (h : opOK 7 v = true) : v.k = 4 := by
  unfold opOK at h
  simpa using h
theorem termM (t : Trm) (doc : Val) (h : okP 5 t.v = true ∧ opOK t.op t.v = true ∧ t.path.length < 4294967295) (hd : okP 5 doc = true) : run E (.call 162 [.t (trmT t), xV doc]) = some (.res [xB (matchT t doc)] []) :=
  implTerm t doc 5 (by omega) (opOK_range h.2.1) (fun e => by have := h.2.1; rw [e] at this; exact opOK_seven this) h.2.2 h.1 hd
theorem termS (t : Trm) (doc : Val) (h : okP 5 t.v = true ∧ opOK t.op t.v = true ∧ t.path.length < 4294967295) (hd : okP 5 doc = true) : run E (.call 289 [.t (trmT t), xV doc]) = some (.res [xB (matchT t doc)] []) :=
  specTerm t doc 5 (by omega) (opOK_range h.2.1) h.2.2 h.1 hd
/-- All terms are right. -/
def clsFit (c : List Trm) : Prop := c.length < 4294967295 ∧ ∀ t ∈ c, okP 5 t.v = true ∧ opOK t.op t.v = true ∧ t.path.length < 4294967295
def filFit (f : List (List Trm)) : Prop := f.length < 4294967295 ∧ ∀ c ∈ f, clsFit c
theorem pathOK_len {p : Bytes} (h : pathOK p = true) : p.length ≤ 50 := by
  unfold pathOK at h
  simp at h
  exact h.1.1
theorem fil_fit {f : List (List Trm)} (h : filterOK f = true) (hs : filterSm f) : filFit f := by
  have hc := terms_ok h hs
  unfold filterOK at h
  simp only [Bool.and_eq_true, decide_eq_true_eq] at h
  refine ⟨by have := h.1; omega, fun c hcm => ?_⟩
  have hck := List.all_eq_true.1 h.2 c hcm
  unfold clauseOK at hck
  simp only [Bool.and_eq_true, decide_eq_true_eq] at hck
  refine ⟨by have := hck.1; omega, fun t ht => ?_⟩
  obtain ⟨h1, h2, _⟩ := (hc c hcm).2 t ht
  have ht := List.all_eq_true.1 hck.2 t ht
  unfold termOK at ht
  simp only [Bool.and_eq_true] at ht
  have := pathOK_len ht.1.1
  exact ⟨h1, h2, by omega⟩
theorem matchClosT (t : Trm) (doc : Val) (h : okP 5 t.v = true ∧ opOK t.op t.v = true ∧ t.path.length < 4294967295) (hd : okP 5 doc = true) : run E (.call 185 [.t (trmT t), .dref (valC doc)]) = some (.res [xB (!matchT t doc)] []) := by
  rw [run_call E 185 _ rfl Tryz.func185 rfl rfl rfl (by simp)]
  simp [termM t doc h hd]
theorem matchClosC (c : List Trm) (doc : Val) (h : clsFit c) (hd : okP 5 doc = true) : run E (.call 184 [.t (clsT c), .dref (valC doc)]) = some (.res [xB (matchC c doc)] []) := by
  rw [run_call E 184 _ rfl Tryz.func184 rfl rfl rfl (by simp)]
  have hc := containsFunc_182_1 c 185 (valC doc) (fun t => !matchT t doc) (by have := h.1; omega) rfl (by simp) (fun t ht => matchClosT t doc (h.2 t ht) hd)
  rw [any_not_all] at hc
  simp [hc, matchC, -List.all_eq_true]
theorem implMatchF (f : List (List Trm)) (doc : Val) (h : filFit f) (hd : okP 5 doc = true) : run E (.call 79 [.t (filT f), xV doc]) = some (.res [xB (matchF f doc)] []) := by
  rw [run_call E 79 _ rfl Tryz.func79 rfl rfl rfl (by simp)]
  have hc := containsFunc_180_1 f 184 (valC doc) (fun c => matchC c doc) (by have := h.1; omega) rfl (by simp) (fun c hcm => matchClosC c doc (h.2 c hcm) hd)
  simp [hc, matchF, -List.any_eq_true]
theorem specMatchC (c : List Trm) (doc : Val) (h : clsFit c) (hd : okP 5 doc = true) : run E (.call 178 [.t (clsT c), xV doc]) = some (.res [xB (matchC c doc)] []) := by
  rw [run_call E 178 _ rfl Tryz.func178 rfl rfl rfl (by simp)]
  have d4 := d178_4
  simp [regionOf, findR, pick, Tryz.f178] at d4
  have dd := fun st => run_region_draw E st 4 _ d4
  clear d4
  have lp := fun b (hb : b = matchC c doc) => sk (fun s o q hI => loop_for (c := loopAt Tryz.f178 0) (N := 21)
    (fun i s o q => s 2 = .ptr 0 0 ∧ s 3 = .ptr 1 0 ∧ s 5 = .t (.int .i64 i) ∧ o 0 = .box 236 [.t (.list (c.map trmT))] ∧ o 1 = .box 35 [.t (.int .i64 doc.k), .t (.int .i64 doc.n), .t (.str doc.t)] ∧ b = (c.drop i).all (fun t => matchT t doc))
    (fun e s' o' q' => e = (if b then .exit 0 else .ret) ∧ (b = false → s' 4 = .t (.bool false))) c.length
    (by
      rintro i s o q hi ⟨g2, g3, g5, o0, o1, hp⟩
      have hi' : (i : Int) < (c.length : Int) := by omega
      have hwi := wrap_succ (n := i) (by have := h.1; omega)
      have hxi : c[i]? = some c[i] := List.getElem?_eq_getElem hi
      have ht := termS c[i] doc (h.2 _ (List.getElem_mem hi)) hd
      rw [List.drop_eq_getElem_cons hi, List.all_cons] at hp
      cases hok : matchT c[i] doc <;> simp [hok] at hp ht <;> simp [loopAt, loopsOf, Tryz.f178, dd, g2, g3, g5, o0, o1, hi', hxi, hwi, ht, hp])
    (by
      rintro s o q ⟨g2, g3, g5, o0, o1, hp⟩
      simp at hp
      simp [loopAt, loopsOf, Tryz.f178, g2, g3, g5, o0, o1, hp])
    c.length 0 s o q (by omega) hI)
  simp only [loopAt, loopsOf, Tryz.f178] at lp
  cases hb : matchC c doc with
  | true =>
    obtain ⟨X, A, B, C, hx⟩ := lp true hb.symm
    simp [matchC, -List.all_eq_true] at hx hb
    simp [hx, hb, -List.all_eq_true]
  | false =>
    obtain ⟨X, A, B, C, hx⟩ := lp false hb.symm
    simp [matchC, -List.all_eq_true, -List.all_eq_false] at hx hb
    simp [hx, hb, -List.all_eq_true, -List.all_eq_false]
theorem specMatchF (f : List (List Trm)) (doc : Val) (h : filFit f) (hd : okP 5 doc = true) : run E (.call 75 [.t (filT f), xV doc]) = some (.res [xB (matchF f doc)] []) := by
  rw [run_call E 75 _ rfl Tryz.func75 rfl rfl rfl (by simp)]
  have d4 := d75_4
  simp [regionOf, findR, pick, Tryz.f75] at d4
  have dd := fun st => run_region_draw E st 4 _ d4
  clear d4
  have lp := fun b (hb : b = matchF f doc) => sk (fun s o q hI => loop_for (c := loopAt Tryz.f75 0) (N := 20)
    (fun i s o q => s 2 = .ptr 0 0 ∧ s 3 = .ptr 1 0 ∧ s 5 = .t (.int .i64 i) ∧ o 0 = .box 33 [.t (.list (f.map clsT))] ∧ o 1 = .box 35 [.t (.int .i64 doc.k), .t (.int .i64 doc.n), .t (.str doc.t)] ∧ b = (f.drop i).any (fun c => matchC c doc))
    (fun e s' o' q' => e = (if b then .ret else .exit 0) ∧ (b = true → s' 4 = .t (.bool true))) f.length
    (by
      rintro i s o q hi ⟨g2, g3, g5, o0, o1, hp⟩
      have hi' : (i : Int) < (f.length : Int) := by omega
      have hwi := wrap_succ (n := i) (by have := h.1; omega)
      have hxi : f[i]? = some f[i] := List.getElem?_eq_getElem hi
      have ht := specMatchC f[i] doc (h.2 _ (List.getElem_mem hi)) hd
      rw [List.drop_eq_getElem_cons hi, List.any_cons] at hp
      cases hok : matchC f[i] doc <;> simp [hok] at hp ht <;> simp [loopAt, loopsOf, Tryz.f75, dd, g2, g3, g5, o0, o1, hi', hxi, hwi, ht, hp])
    (by
      rintro s o q ⟨g2, g3, g5, o0, o1, hp⟩
      simp at hp
      simp [loopAt, loopsOf, Tryz.f75, g2, g3, g5, o0, o1, hp])
    f.length 0 s o q (by omega) hI)
  simp only [loopAt, loopsOf, Tryz.f75] at lp
  cases hb : matchF f doc with
  | true =>
    obtain ⟨X, A, B, C, hx⟩ := lp true hb.symm
    simp [matchF, -List.any_eq_true] at hx hb
    simp [hx, hb, -List.any_eq_true]
  | false =>
    obtain ⟨X, A, B, C, hx⟩ := lp false hb.symm
    simp [matchF, -List.any_eq_true, -List.any_eq_false] at hx hb
    simp [hx, hb, -List.any_eq_true, -List.any_eq_false]
def matchesOut (f : List (List Trm)) (doc : Val) : Bool × Int := if filterOK f && isDocP doc then (matchF f doc, 0) else (false, 1)
theorem doc_ok {v : Val} (h : isDocP v = true) : okP 5 v = true ∧ v.k = 5 := by
  unfold isDocP valueOK at h
  simp only [Bool.and_eq_true, beq_iff_eq, decide_eq_true_eq] at h
  exact ⟨h.1, h.2⟩
theorem implMatches (f : List (List Trm)) (doc : Val) (hs : filterSm f) (hd : doc.t.length < 4294967296) : run E (.call 18 [.t (filT f), xV doc]) = some (.res [xB (matchesOut f doc).1, xI (matchesOut f doc).2] []) := by
  rw [run_call E 18 _ rfl Tryz.func18 rfl rfl rfl (by simp)]
  have h1 := implFilterOK f hs
  have h2 := isDoc doc hd
  unfold matchesOut
  cases hf : filterOK f with
  | false => rw [hf] at h1; simp [h1]
  | true =>
    rw [hf] at h1
    cases hk : isDocP doc with
    | false => rw [hk] at h2; simp [h1, h2]
    | true =>
      rw [hk] at h2
      have h3 := implMatchF f doc (fil_fit hf hs) (doc_ok hk).1
      simp [h1, h2, h3]
theorem specMatches (f : List (List Trm)) (doc : Val) (hs : filterSm f) (hd : doc.t.length < 4294967296) : run E (.call 15 [.t (filT f), xV doc]) = some (.res [xB (matchesOut f doc).1, xI (matchesOut f doc).2] []) := by
  rw [run_call E 15 _ rfl Tryz.func15 rfl rfl rfl (by simp)]
  have h1 := specFilterOK f hs
  have h2 := l03Doc doc hd
  unfold matchesOut
  cases hf : filterOK f with
  | false => rw [hf] at h1; simp [h1]
  | true =>
    rw [hf] at h1
    cases hk : isDocP doc with
    | false => rw [hk] at h2; simp [h1, h2]
    | true =>
      rw [hk] at h2
      have h3 := specMatchF f doc (fil_fit hf hs) (doc_ok hk).1
      simp [h1, h2, h3]
end Go.Yd
/- Each document that a filter lets in has a key in the filter's interval. -/
set_option linter.unusedSimpArgs false
set_option linter.unusedVariables false
namespace Go.Yd
open Go.Ev Go.Proofs Go.Pu
set_option maxRecDepth 100000
set_option maxHeartbeats 4000000
theorem min_low {k x : Bytes} (y : Bytes) (h : Op.bytesLess k x = false) : Op.bytesLess k (minS x y) = false ∧ Op.bytesLess k (minS y x) = false := by
  rw [minS_nf, minS_nf]
  constructor
  · split
    · exact h
    · rename_i hc
      have hyx : Op.bytesLess y x = true := by
        cases hq : Op.bytesLess y x with
        | true => rfl
        | false =>
          cases hp : Op.bytesLess x y with
          | true => exact absurd (.inl hp) hc
          | false => exact absurd (.inr (bytesLess_tri hp hq)) hc
      cases hk : Op.bytesLess k y with
      | false => rfl
      | true => rw [bytesLess_trans hk hyx] at h; cases h
  · split
    · rename_i hc
      rcases hc with hc | hc
      · cases hk : Op.bytesLess k y with
        | false => rfl
        | true => rw [bytesLess_trans hk hc] at h; cases h
      · rw [hc]; exact h
    · exact h
theorem max_high {k x : Bytes} (y : Bytes) (h : Op.bytesLess k x = true) : Op.bytesLess k (maxS x y) = true ∧ Op.bytesLess k (maxS y x) = true := by
  rw [maxS_nf, maxS_nf]
  constructor
  · split
    · exact h
    · rename_i hc
      have hc : Op.bytesLess x y = true := by simpa using hc
      exact bytesLess_trans h hc
  · split
    · rename_i hc
      cases hq : Op.bytesLess x y with
      | true => exact bytesLess_trans h hq
      | false => rw [bytesLess_tri hc hq]; exact h
    · exact h
theorem step_has (p : Prt) (out : Ivl) (c : List Trm) (k : Bytes) (h : hasI out k = true ∨ hasI (clauseI p c) k = true) : hasI (flStep p out c) k = true := by
  unfold flStep hasI at *
  simp only [Bool.and_eq_true, Bool.not_eq_true', Bool.or_eq_true] at *
  rcases h with ⟨h1, h2⟩ | ⟨h1, h2⟩
  · refine ⟨(min_low _ h1).1, ?_⟩
    rcases h2 with h2 | h2
    · exact .inl (.inl h2)
    · exact .inr (max_high _ h2).1
  · refine ⟨(min_low _ h1).2, ?_⟩
    rcases h2 with h2 | h2
    · exact .inl (.inr h2)
    · exact .inr (max_high _ h2).2
theorem fold_has (p : Prt) (k : Bytes) : ∀ (r : List (List Trm)) (out : Ivl), (hasI out k = true ∨ ∃ c ∈ r, hasI (clauseI p c) k = true) → hasI (r.foldl (flStep p) out) k = true
  | [], out, h => by
    rcases h with h | ⟨c, hc, _⟩
    · exact h
    · simp at hc
  | c :: r, out, h => by
    rw [List.foldl_cons]
    refine fold_has p k r _ ?_
    rcases h with h | ⟨c', hc, h⟩
    · exact .inl (step_has p out c k (.inl h))
    · rcases List.mem_cons.1 hc with rfl | hc
      · exact .inl (step_has p out _ k (.inr h))
      · exact .inr ⟨c', hc, h⟩
theorem close_has (i : Ivl) (k : Bytes) (h : hasI i k = true) : hasI (closeI i) k = true := by
  unfold closeI
  split
  · rename_i ho
    unfold hasI at *
    simp only [ho] at h
    simpa using h
  · exact h
theorem filter_has (p : Prt) (f : List (List Trm)) (c : List Trm) (hc : c ∈ f) (k : Bytes) (h : hasI (clauseI p c) k = true) : hasI (filterI p f) k = true := by
  cases f with
  | nil => simp at hc
  | cons c0 r =>
    unfold filterI
    refine close_has _ _ (fold_has p k r _ ?_)
    rcases List.mem_cons.1 hc with rfl | hc
    · exact .inl h
    · exact .inr ⟨c, hc, h⟩
theorem dedV_keep : ∀ (xs acc : List Val), (∀ x ∈ acc, x ∈ dedV acc xs) ∧ ∀ x ∈ xs, x ∈ dedV acc xs
  | [], acc => ⟨fun x hx => hx, by simp⟩
  | y :: r, acc => by
    unfold dedV
    by_cases h : acc.any (fun z => sameV z y) = true
    · rw [if_pos h]
      obtain ⟨h1, h2⟩ := dedV_keep r acc
      refine ⟨h1, fun x hx => ?_⟩
      rcases List.mem_cons.1 hx with rfl | hx
      · rw [List.any_eq_true] at h
        obtain ⟨z, hz, hs⟩ := h
        rw [← (sameV_iff _ _).1 hs]
        exact h1 z hz
      · exact h2 x hx
    · rw [if_neg h]
      obtain ⟨h1, h2⟩ := dedV_keep r (acc ++ [y])
      refine ⟨fun x hx => h1 x (by simp [hx]), fun x hx => ?_⟩
      rcases List.mem_cons.1 hx with rfl | hx
      · exact h1 _ (by simp)
      · exact h2 x hx
/-- What stands against a term has its key among the path's keys. -/
theorem stand_key (t : Trm) (p : Prt) (hp : t.path = p.path) (doc x : Val) (hx : x ∈ standP t doc) : keyI x p.desc ∈ keysP p doc := by
  unfold keysP
  refine List.mem_map.2 ⟨x, ?_, rfl⟩
  unfold standP at hx
  unfold valsP dedN
  rw [hp] at hx
  by_cases h0 : (getP (cutP 46 p.path) doc).length = 0
  · rw [if_pos h0]
    by_cases h9 : t.op ≠ 9
    · rw [if_pos ⟨h0, h9⟩] at hx
      simpa [nullV] using hx
    · rw [if_neg (fun h => h9 h.2)] at hx
      rw [List.eq_nil_of_length_eq_zero h0] at hx
      simp at hx
  · rw [if_neg h0]
    rw [if_neg (fun h => h0 h.1)] at hx
    exact (dedV_keep _ []).2 x hx
theorem keysP_some (p : Prt) (doc : Val) : ∃ k, k ∈ keysP p doc := by
  unfold keysP valsP dedN
  by_cases h0 : (getP (cutP 46 p.path) doc).length = 0
  · rw [if_pos h0]; simp
  · rw [if_neg h0]
    cases h : getP (cutP 46 p.path) doc with
    | nil => rw [h] at h0; simp at h0
    | cons x r => exact ⟨_, List.mem_map.2 ⟨x, (dedV_keep _ []).2 x (by simp), rfl⟩⟩
theorem stand_okP (t : Trm) (doc : Val) (h : okP 5 doc = true) : ∀ y ∈ standP t doc, okP 5 y = true := by
  intro y hy
  unfold standP at hy
  split at hy
  · simp at hy; subst hy; simp [okP]
  · exact getP_ok _ 5 doc (by omega) h y hy
theorem clause_bound (p : Prt) (c : List Trm) (doc : Val) (hc : termsOK c) (hd : okP 5 doc = true) (h : matchC c doc = true) : ∃ k ∈ keysP p doc, hasI (clauseI p c) k = true := by
  unfold clauseI
  cases hf : c.find? (hitB p) with
  | none =>
    obtain ⟨k, hk⟩ := keysP_some p doc
    exact ⟨k, hk, opn_has k⟩
  | some t =>
    have ht := List.mem_of_find?_eq_some hf
    have hit := List.find?_some hf
    obtain ⟨t1, t2, _⟩ := hc t ht
    simp only [hitB, Bool.and_eq_true, beq_iff_eq, Bool.not_eq_true'] at hit
    obtain ⟨hp, hs⟩ := hit
    have hm : matchT t doc = true := List.all_eq_true.1 h t ht
    have hs' := hs
    simp only [saysB, Bool.or_eq_false_iff, decide_eq_false_iff_not] at hs'
    have hr := opOK_range t2
    unfold matchT at hm
    rw [if_neg (by omega)] at hm
    have h2 : decide (t.op = 2) = false := by simp; omega
    rw [h2] at hm
    simp only [bne_iff_ne, ne_eq, Bool.not_eq_false] at hm
    obtain ⟨x, hx, ho⟩ := List.any_eq_true.1 hm
    exact ⟨keyI x p.desc, stand_key t p hp doc x hx, term_in t x p.desc (stand_okP t doc hd x hx) t1 hr.1 hr.2 (fun _ => ho)⟩
theorem filter_bound (p : Prt) (f : List (List Trm)) (doc : Val) (hf : clausesOK f) (hd : okP 5 doc = true) (h : matchF f doc = true) : ∃ k ∈ keysP p doc, hasI (filterI p f) k = true := by
  unfold matchF at h
  obtain ⟨c, hc, hm⟩ := List.any_eq_true.1 h
  obtain ⟨k, hk, hi⟩ := clause_bound p c doc (hf c hc).2 hd hm
  exact ⟨k, hk, filter_has p f c hc k hi⟩
end Go.Yd
/- The law FnExactCollOK, run over plain data: it answers true. -/
set_option linter.unusedSimpArgs false
set_option linter.unusedVariables false
namespace Go.Yd
open Go.Ev Go.Proofs Go.Pu
set_option maxRecDepth 100000
set_option maxHeartbeats 16000000
def Dfn.Wd (d : Dfn) : Prop := W d.name.length ∧ prtsWd d.parts
def Ver.Wd (x : Ver) : Prop := W x.v.t.length
def Chn.Wd (c : Chn) : Prop := W c.vs.length ∧ ∀ x ∈ c.vs, x.Wd
structure Col.Wd (c : Col) : Prop where
  name : W c.name.length
  chains : W c.chains.length ∧ ∀ x ∈ c.chains, x.Wd
  defs : W c.defs.length ∧ ∀ x ∈ c.defs, x.Wd
def szDfn (d : Dfn) : Int → Int := thenSz (szB d.name.length) (thenSz (lstSz szPrt d.parts) (fun k => k))
def szVer (x : Ver) : Int → Int := thenSz (szVal x.v) (fun k => k)
def szChn (c : Chn) : Int → Int := thenSz (lstSz szVer c.vs) (fun k => k)
def szCol (c : Col) : Int → Int := thenSz (szB c.name.length) (thenSz (lstSz szChn c.chains) (thenSz (lstSz szDfn c.defs) (fun k => k)))
theorem szDfn_le (d : Dfn) (k : Int) (h : 0 ≤ k) : szDfn d k ≤ k := thenSz_le h (fun k hk => szB_le hk) (fun k hk => thenSz_le hk (fun k hk => lstPrt_le _ k hk) (fun k _ => Int.le_refl k))
theorem szVer_le (d : Ver) (k : Int) (h : 0 ≤ k) : szVer d k ≤ k := thenSz_le h (fun k hk => szVal_le _ k hk) (fun k _ => Int.le_refl k)
theorem szChn_le (d : Chn) (k : Int) (h : 0 ≤ k) : szChn d k ≤ k := thenSz_le h (fun k hk => lstSz_le hk (fun x _ k hk => szVer_le x k hk)) (fun k _ => Int.le_refl k)
theorem lstChn_le (l : List Chn) (k : Int) (h : 0 ≤ k) : lstSz szChn l k ≤ k := lstSz_le h (fun x _ k hk => szChn_le x k hk)
theorem lstDfn_le (l : List Dfn) (k : Int) (h : 0 ≤ k) : lstSz szDfn l k ≤ k := lstSz_le h (fun x _ k hk => szDfn_le x k hk)
theorem szDef (d : Dfn) (h : d.Wd) (l : Int) (h0 : 0 ≤ l) (hm : l ≤ 1048576) : run E (.call 107 [.t (dfnT d), xI l]) = some (.res [xI (szDfn d l)] []) := by
  rw [run_call E 107 _ rfl Tryz.func107 rfl rfl rfl (by simp)]
  have hw := wrap_sz h.1 h0 hm
  unfold szDfn thenSz
  by_cases hb : l - (d.name.length : Int) < 0
  · have e : szB d.name.length l = -1 := by simp [szB, hb]
    simp [hw, hb, e]
  · have e : szB d.name.length l = l - d.name.length := by simp [szB, hb]
    have hs := szPartS d.parts h.2 (l - d.name.length) (by omega) (by omega)
    by_cases hn : lstSz szPrt d.parts (l - d.name.length) < 0 <;> simp [hw, hb, e, hs, hn]
theorem szVersion (x : Ver) (h : x.Wd) (l : Int) (h0 : 0 ≤ l) (hm : l ≤ 1048576) : run E (.call 400 [.t (verT x), xI l]) = some (.res [xI (szVer x l)] []) := by
  rw [run_call E 400 _ rfl Tryz.func400 rfl rfl rfl (by simp)]
  have hs := szValue x.v h l h0 hm
  unfold szVer thenSz
  by_cases hn : szVal x.v l < 0 <;> simp [hs, hn]
theorem szChain (c : Chn) (h : c.Wd) (l : Int) (h0 : 0 ≤ l) (hm : l ≤ 1048576) : run E (.call 364 [.t (chnT c), xI l]) = some (.res [xI (szChn c l)] []) := by
  rw [run_call E 364 _ rfl Tryz.func364 rfl rfl rfl (by simp)]
  have hs := sz_208 c.vs szVer (by have := h.1; unfold W at this; omega) (fun x hx l h0 hm => szVersion x (h.2 x hx) l h0 hm) (fun x _ k hk => szVer_le x k hk) l h0 hm
  unfold szChn thenSz
  by_cases hn : lstSz szVer c.vs l < 0 <;> simp [hs, hn]
theorem szColl (c : Col) (h : c.Wd) (l : Int) (h0 : 0 ≤ l) (hm : l ≤ 1048576) : run E (.call 227 [.t (colT c), xI l]) = some (.res [xI (szCol c l)] []) := by
  rw [run_call E 227 _ rfl Tryz.func227 rfl rfl rfl (by simp)]
  have hw := wrap_sz h.name h0 hm
  unfold szCol thenSz
  by_cases hb : l - (c.name.length : Int) < 0
  · have e : szB c.name.length l = -1 := by simp [szB, hb]
    simp [hw, hb, e]
  · have e : szB c.name.length l = l - c.name.length := by simp [szB, hb]
    have hs := sz_87 c.chains szChn (by have := h.chains.1; unfold W at this; omega) (fun x hx l h0 hm => szChain x (h.chains.2 x hx) l h0 hm) (fun x _ k hk => szChn_le x k hk) (l - c.name.length) (by omega) (by omega)
    have l1 := lstChn_le c.chains (l - c.name.length) (by omega)
    by_cases hn : lstSz szChn c.chains (l - c.name.length) < 0
    · simp [hw, hb, e, hs, hn]
    · have ht := sz_88 c.defs szDfn (by have := h.defs.1; unfold W at this; omega) (fun x hx l h0 hm => szDef x (h.defs.2 x hx) l h0 hm) (fun x _ k hk => szDfn_le x k hk) (lstSz szChn c.chains (l - c.name.length)) (by omega) (by omega)
      by_cases hn2 : lstSz szDfn c.defs (lstSz szChn c.chains (l - c.name.length)) < 0 <;> simp [hw, hb, e, hs, hn, ht, hn2]
theorem szDfn_sm {d : Dfn} {k : Int} (h0 : 0 ≤ k) (hm : k ≤ 1048576) (h : ¬ szDfn d k < 0) : d.Sm := by
  obtain ⟨h1, h2⟩ := thenSz_neg h
  obtain ⟨h3, _⟩ := thenSz_neg h2
  have b1 := szB_bound h1
  have := szB_le (n := d.name.length) h0
  exact ⟨by omega, lstPrt_sm (by omega) (by omega) h3⟩
theorem szVer_sm {d : Ver} {k : Int} (h0 : 0 ≤ k) (hm : k ≤ 1048576) (h : ¬ szVer d k < 0) : d.Sm := by
  obtain ⟨h1, _⟩ := thenSz_neg h
  have b1 := szB_bound h1
  unfold Ver.Sm
  omega
theorem szChn_sm {c : Chn} {k : Int} (h0 : 0 ≤ k) (hm : k ≤ 1048576) (h : ¬ szChn c k < 0) : c.Sm := by
  obtain ⟨h1, h2⟩ := thenSz_neg h
  obtain ⟨b1, b2⟩ := lstSz_all (P := Ver.Sm) (m := 1048576) h0 hm (fun x _ k hk => szVer_le x k hk) (fun x _ k hk hm h => szVer_sm hk hm h) h1
  exact ⟨by omega, b2⟩
theorem szCol_sm {c : Col} {k : Int} (h0 : 0 ≤ k) (hm : k ≤ 1048576) (h : ¬ szCol c k < 0) : c.Sm := by
  obtain ⟨h1, h2⟩ := thenSz_neg h
  obtain ⟨h3, h4⟩ := thenSz_neg h2
  obtain ⟨h5, _⟩ := thenSz_neg h4
  have b1 := szB_bound h1
  have l1 := szB_le (n := c.name.length) h0
  have l2 := lstChn_le c.chains (szB c.name.length k) (by omega)
  obtain ⟨c1, c2⟩ := lstSz_all (P := Chn.Sm) (m := 1048576) (by omega) (by omega) (fun x _ k hk => szChn_le x k hk) (fun x _ k hk hm h => szChn_sm hk hm h) h3
  obtain ⟨e1, e2⟩ := lstSz_all (P := Dfn.Sm) (m := 1048576) (by omega) (by omega) (fun x _ k hk => szDfn_le x k hk) (fun x _ k hk hm h => szDfn_sm hk hm h) h5
  exact ⟨by omega, ⟨by omega, c2⟩, ⟨by omega, e2⟩⟩
/-! Copies. -/
theorem toVersion (x : Ver) : run E (.call 401 [.t (verT x)]) = some (.res [verX x] []) := by
  rw [run_call E 401 _ rfl Tryz.func401 rfl rfl rfl (by simp)]
  simp [toValue x.v]
theorem toDef (d : Dfn) (h : d.Sm) : run E (.call 114 [.t (dfnT d)]) = some (.res [.agg [.t (.str d.name), .row 133 (d.parts.map prtT)]] []) := by
  rw [run_call E 114 _ rfl Tryz.func114 rfl rfl rfl (by simp)]
  simp [toPartS d.parts h.2.1]
theorem toChain (c : Chn) (h : c.Sm) : run E (.call 365 [.t (chnT c)]) = some (.res [.agg [.t (.int .i64 c.id), .row 200 (c.vs.map verT)]] []) := by
  rw [run_call E 365 _ rfl Tryz.func365 rfl rfl rfl (by simp)]
  simp [to_210 c.vs h.1 (fun x _ => toVersion x)]
theorem toColl (c : Col) (h : c.Sm) : run E (.call 229 [.t (colT c)]) = some (.res [.agg [.t (.str c.name), .row 198 (c.chains.map chnT), .row 79 (c.defs.map dfnT)]] []) := by
  rw [run_call E 229 _ rfl Tryz.func229 rfl rfl rfl (by simp)]
  have h1 := to_91 c.chains h.chains.1 (fun x hx => toChain x (h.chains.2 x hx))
  have h2 := to_92 c.defs h.defs.1 (fun x hx => toDef x (h.defs.2 x hx))
  simp [h1, h2]
/-! Equality. -/
theorem eqVersion (x : Ver) : run E (.call 402 [.t (verT x), .t (verT x)]) = some (.res [xB true] []) := by
  rw [run_call E 402 _ rfl Tryz.func402 rfl rfl rfl (by simp)]
  simp [eqValue x.v]
theorem eqDef (d : Dfn) (h : d.Sm) : run E (.call 122 [.t (dfnT d), .t (dfnT d)]) = some (.res [xB true] []) := by
  rw [run_call E 122 _ rfl Tryz.func122 rfl rfl rfl (by simp)]
  simp [eqPartS d.parts h.2.1]
theorem eqChain (c : Chn) (h : c.Sm) : run E (.call 368 [.t (chnT c), .t (chnT c)]) = some (.res [xB true] []) := by
  rw [run_call E 368 _ rfl Tryz.func368 rfl rfl rfl (by simp)]
  have h1 := eq_212 c.vs (by have := h.1; omega) (fun x _ => eqVersion x)
  simp [h1]
theorem eqColl (c : Col) (h : c.Sm) : run E (.call 235 [.t (colT c), .t (colT c)]) = some (.res [xB true] []) := by
  rw [run_call E 235 _ rfl Tryz.func235 rfl rfl rfl (by simp)]
  have h1 := eq_96 c.chains (by have := h.chains.1; omega) (fun x hx => eqChain x (h.chains.2 x hx))
  have h2 := eq_97 c.defs (by have := h.defs.1; omega) (fun x hx => eqDef x (h.defs.2 x hx))
  simp [h1, h2]
end Go.Yd
/- DocKeys of spec and of impl. -/
set_option linter.unusedSimpArgs false
set_option linter.unusedVariables false
namespace Go.Yd
open Go.Ev Go.Proofs Go.Pu
set_option maxRecDepth 100000
set_option maxHeartbeats 4000000
theorem keys_ready {d : Dfn} {v : Val} (h : (defOK d && isDocP v) = true) : ∃ p ps, d.parts = p :: ps ∧ ps.length ≤ 1 ∧ okP 5 v = true ∧ ∀ q ∈ p :: ps, q.path.length ≤ 50 := by
  simp only [defOK, isDocP, Bool.and_eq_true, List.all_eq_true] at h
  obtain ⟨⟨⟨⟨_, h1⟩, h2⟩, _⟩, h3, _⟩ := h
  have h4 : ∀ q ∈ d.parts, q.path.length ≤ 50 := by
    intro q hq
    have := h2 q hq
    unfold pathOK at this
    simp only [Bool.and_eq_true, decide_eq_true_eq] at this
    exact this.1.1
  have h5 : okP 5 v = true := h3
  rcases in12_cases h1 with ⟨p, hp⟩ | ⟨p, q, hp⟩
  · exact ⟨p, [], hp, by simp, h5, by rw [← hp]; exact h4⟩
  · exact ⟨p, [q], hp, by simp, h5, by rw [← hp]; exact h4⟩
theorem implKeys (d : Dfn) (v : Val) (h : d.Sm) (hv : v.t.length < 4294967296) : run E (.call 69 [.t (dfnT d), xV v]) = some (.res [if (defOK d && isDocP v) = true then .row 9 ((docKeysP d.parts v).map strT) else .nil, xI (if (defOK d && isDocP v) = true then 0 else 1)] []) := by
  rw [run_call E 69 _ rfl Tryz.func69 rfl rfl rfl (by simp)]
  have h1 := implDefOK d h
  have h2 := isDoc v hv
  by_cases hb : (defOK d && isDocP v) = true
  · obtain ⟨p, ps, hp, hl, hok, hpl⟩ := keys_ready hb
    have h3 := implDocKeys d.name p ps hl v 5 (by omega) hok (by have := hpl p (by simp); omega) (fun q hq => by have := hpl q (List.mem_cons_of_mem _ hq); omega)
    have hD : defOK d = true := by simp at hb; exact hb.1
    have hI : isDocP v = true := by simp at hb; exact hb.2
    rw [hD] at h1
    rw [hI] at h2
    rw [← hp] at h3
    simp [h1, h2, h3, hD, hI]
  · rw [if_neg hb, if_neg hb]
    cases hD : defOK d with
    | false => rw [hD] at h1; simp [h1]
    | true =>
      have hI : isDocP v = false := by simpa [hD] using hb
      rw [hD] at h1; rw [hI] at h2
      simp [h1, h2]
theorem cross_len (ks qs : List Bytes) : (cross ks qs).length = ks.length * qs.length := by
  unfold cross
  induction ks with
  | nil => simp
  | cons k r ih => simp [ih, Nat.add_mul]; omega
theorem docKeys_len {d : Dfn} {v : Val} (h : (defOK d && isDocP v) = true) : (docKeysP d.parts v).length ≤ 90601 := by
  obtain ⟨p, ps, hp, hl, hok, hpl⟩ := keys_ready h
  have hv := okP_size hok
  rw [hp]
  unfold docKeysP
  have h1 := keysP_len p v hv
  match ps, hl with
  | [], _ => simp; omega
  | [q], _ =>
    have h2 := keysP_len q v hv
    simp only [List.foldl_cons, List.foldl_nil, cross_len]
    have : (keysP p v).length * (keysP q v).length ≤ 301 * 301 := Nat.mul_le_mul h1 h2
    omega
end Go.Yd
/- What is drawn: indexes; intervals that have a key. -/
set_option linter.unusedSimpArgs false
set_option linter.unusedVariables false
namespace Go.Yd
open Go.Ev Go.Proofs Go.Pu
set_option maxRecDepth 100000
set_option maxHeartbeats 8000000
theorem srcChanceN (s : Src) (m : Nat) (hm : m < 1000000000) (h : s.Ok m) (n : Nat) (h1 : 1 ≤ n) (h2 : n ≤ 256) : ∃ (b : Bool) (s' : Src), run E (.call 246 [srcX s, xI n]) = some (.res [xB b] [some (srcX s')]) ∧ s'.Ok (m + 1) := by
  obtain ⟨r, s', hr, h3, ok⟩ := srcNext s m hm h n h1 h2
  have hw := wrap_of (n := (n : Int) - 1) (by omega) (by omega)
  refine ⟨((r : Int) == (n : Int) - 1), s', ?_, ok⟩
  rw [run_call E 246 _ rfl Tryz.func246 rfl rfl rfl (by simp)]
  simp [hr, hw]
def twoNames : List Bytes := [[111, 110, 101], [116, 119, 111]]
def fourPaths : List Bytes := [[97], [98], [116, 97, 103, 115], [97, 46, 98]]
def twoPaths : List Bytes := [[99], [105, 100]]
theorem twoNames_ok : ∀ x ∈ twoNames, nameP x = true := by decide
theorem fourPaths_ok : ∀ x ∈ fourPaths, pathOK x = true := by decide
theorem twoPaths_ok : ∀ x ∈ twoPaths, pathOK x = true := by decide
theorem drawDef (s : Src) (m : Nat) (hm : m + 1000 < 1000000000) (h : s.Ok m) : ∃ (nm : Bytes) (p : Prt) (ps : List Prt) (s' : Src), run E (.call 167 [srcX s]) = some (.res [.agg [.t (.str nm), .row 133 ((p :: ps).map prtT)]] [some (srcX s')]) ∧ pathOK p.path = true := by
  obtain ⟨nm, s1, a1, b1, c1⟩ := srcPick s m (by omega) h twoNames (by decide) (by decide)
  obtain ⟨pa, s2, a2, b2, c2⟩ := srcPick s1 (m + 1) (by omega) c1 fourPaths (by decide) (by decide)
  obtain ⟨d, s3, a3, c3⟩ := srcChanceN s2 (m + 1 + 1) (by omega) c2 3 (by omega) (by omega)
  obtain ⟨g, s4, a4, c4⟩ := srcChanceN s3 (m + 1 + 1 + 1) (by omega) c3 3 (by omega) (by omega)
  obtain ⟨pb, s5, a5, b5, c5⟩ := srcPick s4 (m + 1 + 1 + 1 + 1) (by omega) c4 twoPaths (by decide) (by decide)
  obtain ⟨d2, s6, a6, c6⟩ := srcChanceN s5 (m + 1 + 1 + 1 + 1 + 1) (by omega) c5 3 (by omega) (by omega)
  simp [twoNames] at a1
  simp [fourPaths] at a2
  simp at a3 a4 a6
  simp [twoPaths] at a5
  have n3 := n167_3
  have t3 := s167_3
  simp [regionOf, findR, pick, Tryz.f167] at n3 t3
  have dd := fun st => run_region_drawS E st 3 _ n3 t3
  clear n3 t3
  obtain ⟨Y, hY⟩ : ∃ Y, run E (.call 167 [srcX s]) = Y := ⟨_, rfl⟩
  rw [hY]
  rw [run_call E 167 _ rfl Tryz.func167 rfl rfl rfl (by simp)] at hY
  have hr2 : ([0, 1] : List Nat) = List.range 2 := rfl
  have hr4 : ([0, 1, 2, 3] : List Nat) = List.range 4 := rfl
  cases g with
  | false =>
    simp [a1, a2, a3, a4, hr2, hr4] at hY
    subst hY
    exact ⟨nm, ⟨pa, d⟩, [], _, rfl, fourPaths_ok pa b2⟩
  | true =>
    simp [a1, a2, a3, a4, a5, a6, dd, hr2, hr4] at hY
    subst hY
    exact ⟨nm, ⟨pa, d⟩, [⟨pb, d2⟩], _, rfl, fourPaths_ok pa b2⟩
theorem l00Source' (bs : Bytes) (h : bs.length ≤ 1048577) : ∃ s, run E (.call 145 [.t (.list (bs.map byteT))]) = some (.res [srcX s] []) ∧ s.Ok 0 := by
  have hr : (bs.length : Int).tmod 1000 = (bs.length : Int) % 1000 := Int.tmod_eq_emod_of_nonneg (by omega)
  have hw : IntKind.i64.wrap ((bs.length : Int) % 1000) = (bs.length : Int) % 1000 := wrap_of (by omega) (by omega)
  refine ⟨⟨bs, 0, (bs.length : Int) % 1000⟩, ?_, ⟨by simp only; omega, by simp, by simp only; omega, by simp only; omega⟩⟩
  rw [run_call E 145 _ rfl Tryz.func145 rfl rfl rfl (by simp)]
  simp [hr, hw]
theorem docOfCode' (bs : Bytes) (h : bs.length ≤ 1048577) : ∃ v, run E (.call 68 [.t (.list (bs.map byteT))]) = some (.res [valX v] []) ∧ okP 5 v = true ∧ v.k = 5 := by
  obtain ⟨s, h1, h2⟩ := l00Source' bs h
  obtain ⟨v, s', h3, h4, h5, _⟩ := docs2 s 0 (by omega) h2
  refine ⟨v, ?_, h4, h5⟩
  rw [run_call E 68 _ rfl Tryz.func68 rfl rfl rfl (by simp)]
  simp at h3
  simp [h1, h3]
theorem defOf (bs : Bytes) (h : bs.length ≤ 1048577) : ∃ (nm : Bytes) (p : Prt) (ps : List Prt), run E (.call 65 [.t (.list (bs.map byteT))]) = some (.res [.agg [.t (.str nm), .row 133 ((p :: ps).map prtT)]] []) ∧ pathOK p.path = true := by
  obtain ⟨s, h1, h2⟩ := l00Source' bs h
  obtain ⟨nm, p, ps, s', h3, h4⟩ := drawDef s 0 (by omega) h2
  refine ⟨nm, p, ps, ?_, h4⟩
  rw [run_call E 65 _ rfl Tryz.func65 rfl rfl rfl (by simp)]
  simp [h1, h3]
/-- Does an interval have a key? -/
theorem implHasKey (i : Ivl) (k : Bytes) (hk : k.length ≤ 65536) : run E (.call 57 [.t (ivlT i), xS k]) = some (.res [xB (hasI i k)] []) := by
  rw [run_call E 57 _ rfl Tryz.func57 rfl rfl rfl (by simp)]
  have h1 : run E (.call 153 [.t (.list [.str k])]) = some (.res [xB false] []) := by
    rw [run_call E 153 _ rfl Tryz.func153 rfl rfl rfl (by simp)]
    have hc := containsFunc_138_0 [k] 259 (fun x => decide (65536 < x.length)) (by simp) rfl (by simp) (fun x hx => by
      rw [run_call E 259 _ rfl Tryz.func259 rfl rfl rfl (by simp)]
      have e : ((65536 : Int) < (x.length : Int)) = (65536 < x.length) := by simp; omega
      simp [e])
    have e2 : ¬ 65536 < k.length := by omega
    simp [e2] at hc
    simp [hc]
  have h2 : run E (.call 154 [.t (ivlT i), xS k]) = some (.res [xB (hasI i k)] []) := by
    rw [run_call E 154 _ rfl Tryz.func154 rfl rfl rfl (by simp)]
    unfold hasI
    cases h1 : Op.bytesLess k i.low <;> cases h2 : i.opn <;> cases h3 : Op.bytesLess k i.high <;> simp [h1, h2, h3]
  obtain ⟨a, b, c⟩ := i
  simp [h1, h2]
end Go.Yd
/- The law FnBounds over plain data. -/
set_option linter.unusedSimpArgs false
set_option linter.unusedVariables false
namespace Go.Yd
open Go.Ev Go.Proofs Go.Pu
set_option maxRecDepth 100000
set_option maxHeartbeats 16000000
theorem fil_sm {f : List (List Trm)} (h : filterOK f = true) : filterSm f := by
  unfold filterOK at h
  simp only [Bool.and_eq_true, decide_eq_true_eq] at h
  refine ⟨by omega, fun c hc => ?_⟩
  have hck := List.all_eq_true.1 h.2 c hc
  unfold clauseOK at hck
  simp only [Bool.and_eq_true, decide_eq_true_eq] at hck
  refine ⟨by omega, fun t ht => ?_⟩
  have hto := List.all_eq_true.1 hck.2 t ht
  unfold termOK at hto
  simp only [Bool.and_eq_true] at hto
  have h1 := pathOK_len hto.1.1
  have h2 := okP_size (d := 5) (v := t.v) hto.1.2
  exact ⟨by omega, by omega⟩
theorem drawFilter2 (n0 : Nat) (hn0 : n0 ≤ 2) (src : Src) (m : Nat) (hm : m + 5000 < 1000000000) (hs : src.Ok m) : ∀ s o q, (s 0 = .ptr 0 0 ∧ s 2 = .ptr 1 0 ∧ s 3 = .ptr 3 0 ∧ s 4 = .t (.int .i64 n0) ∧ o 0 = srcB src ∧ o 1 = filB0 ∧ o 3 = .box 33 [.row 2] ∧ o 2 = .row 236 [] true ∧ 3 < q) →
    ∃ e s' o' q', run E (.code (.loop (loopAt Tryz.f166 0)) ⟨s, o, q, 39⟩) = some (.st e ⟨s', o', q', 39⟩) ∧ ∃ a : Nat × List (List Trm) × Src, ((∀ x ∈ a.2.1, clauseOK x = true) ∧ a.2.1.length ≤ 2 ∧ (n0 = 0 ∨ a.2.1 ≠ []) ∧ a.2.2.Ok (m + 402)) ∧ (e = .exit 0 ∧ s' 0 = .ptr 0 0 ∧ s' 2 = .ptr 1 0 ∧ s' 3 = .ptr 3 0 ∧ o' 0 = srcB a.2.2 ∧ o' 1 = filB0 ∧ o' 3 = .box 33 [.row a.1] ∧ o' a.1 = .row 236 (a.2.1.map clsT) true ∧ 1 < a.1 ∧ a.1 ≠ 3 ∧ a.1 < q' ∧ 0 ≠ q' ∧ 1 ≠ q' ∧ 3 ≠ q' ∧ q' ≠ 0 ∧ q' ≠ 1 ∧ q' ≠ 3 ∧ a.1 ≠ 1 ∧ a.1 ≠ 0 ∧ 1 ≠ a.1 ∧ 0 ≠ a.1 ∧ 3 ≠ a.1 ∧ a.1 ≠ q' ∧ q' ≠ a.1) := by
  intro s o q hI
  obtain ⟨e, s', o', q', hr, a, hg, f1, f2, f3, f4, f5, f6, f7, f8, g1, g2, g3, r1, r2, r3, r4, r5, r6⟩ := drawFilter_loop n0 hn0 src m hm hs s o q hI
  exact ⟨e, s', o', q', hr, a, hg, f1, f2, f3, f4, f5, f6, f7, f8, g1, g2, g3, r1, r2, r3, r4, r5, by (repeat' apply And.intro) <;> omega⟩
theorem drawFilter (s : Src) (m : Nat) (hm : m + 10000 < 1000000000) (h : s.Ok m) : ∃ f s', run E (.call 166 [srcX s]) = some (.res [.agg [.row 236 (f.map clsT)]] [some (srcX s')]) ∧ filterOK f = true := by
  obtain ⟨r, s0, a0, b0, c0⟩ := srcNext s m (by omega) h 4 (by omega) (by omega)
  simp at a0
  obtain ⟨n0, hn0, hn1, hn2⟩ : ∃ n0 : Nat, IntKind.i64.wrap (1 + IntKind.i64.wrap ((r : Int) / 3)) = (n0 : Int) ∧ 1 ≤ n0 ∧ n0 ≤ 2 := by
    rcases (by omega : r = 0 ∨ r = 1 ∨ r = 2 ∨ r = 3) with rfl | rfl | rfl | rfl
    · exact ⟨1, by decide, by omega, by omega⟩
    · exact ⟨1, by decide, by omega, by omega⟩
    · exact ⟨1, by decide, by omega, by omega⟩
    · exact ⟨2, by decide, by omega, by omega⟩
  obtain ⟨X, A, B, C, M, hg, hx⟩ := skG (fun a : Nat × List (List Trm) × Src => (∀ x ∈ a.2.1, clauseOK x = true) ∧ a.2.1.length ≤ 2 ∧ (n0 = 0 ∨ a.2.1 ≠ []) ∧ a.2.2.Ok (m + 1 + 402)) ((0, [[]], s0) : Nat × List (List Trm) × Src) ⟨fun x hx => by simp at hx; subst hx; decide, by simp, .inr (by simp), c0.up (by omega)⟩ (drawFilter2 n0 hn2 s0 (m + 1) (by omega) c0)
  simp only [loopAt, loopsOf, Tryz.f166] at hx
  simp at hx
  obtain ⟨Y, hY⟩ : ∃ Y, run E (.call 166 [srcX s]) = Y := ⟨_, rfl⟩
  rw [hY]
  rw [run_call E 166 _ rfl Tryz.func166 rfl rfl rfl (by simp)] at hY
  simp [a0, hn0, hx] at hY
  subst hY
  refine ⟨_, _, rfl, ?_⟩
  obtain ⟨g1, g2, g3, _⟩ := hg _ _ _
  unfold filterOK
  simp only [Bool.and_eq_true, decide_eq_true_eq]
  refine ⟨⟨?_, by omega⟩, List.all_eq_true.2 g1⟩
  rcases g3 with g3 | g3
  · omega
  · exact List.length_pos_iff.2 g3
theorem filterOf (bs : Bytes) (h : bs.length ≤ 1048576) : ∃ f, run E (.call 64 [.t (.list (bs.map byteT))]) = some (.res [.agg [.row 236 (f.map clsT)]] []) ∧ filterOK f = true := by
  obtain ⟨s, h1, h2⟩ := l00Source bs h
  obtain ⟨f, s', h3, h4⟩ := drawFilter s 0 (by omega) h2
  refine ⟨f, ?_, h4⟩
  rw [run_call E 64 _ rfl Tryz.func64 rfl rfl rfl (by simp)]
  simp [h1, h3]
abbrev L1 (c : Bytes) : SV := .t (.list (c.map byteT))
abbrev prtB0 (p : Prt) : Ob := .box 133 [.t (.str p.path), .t (.bool p.desc)]
abbrev ivlB (i : Ivl) : Ob := .box 112 [.t (.str i.low), .t (.str i.high), .t (.bool i.opn)]
theorem bounds_keys (c1 : Bytes) (f : List (List Trm)) (p : Prt) (iv : Ivl) (ks : List Bytes) (hks : ∀ k ∈ ks, k.length ≤ 65536) (hkl : ks.length ≤ 100000) (n : Int) (r5 b5 b6 b7 rk : Nat) : ∀ s o q, (s 1 = L1 c1 ∧ s 5 = .ptr b5 0 ∧ s 6 = .ptr b6 0 ∧ s 7 = .ptr b7 0 ∧ s 11 = .t (.int .i64 n) ∧ s 15 = .row rk ∧ s 17 = .t (.bool false) ∧ s 18 = .t (.int .i64 0) ∧ o b5 = .box 33 [.row r5] ∧ o r5 = .row 236 (f.map clsT) true ∧ o b6 = prtB0 p ∧ o b7 = ivlB iv ∧ o rk = .row 9 (ks.map strT) true ∧ b5 < q ∧ r5 < q ∧ b6 < q ∧ b7 < q ∧ rk < q) →
    ∃ e s' o' q', run E (.code (.loop (loopAt Tryz.f11 1)) ⟨s, o, q, 104⟩) = some (.st e ⟨s', o', q', 104⟩) ∧ (e = .exit 2 ∧ s' 1 = L1 c1 ∧ s' 5 = .ptr b5 0 ∧ s' 6 = .ptr b6 0 ∧ s' 7 = .ptr b7 0 ∧ s' 11 = .t (.int .i64 n) ∧ s' 17 = .t (.bool (ks.any (hasI iv))) ∧ o' b5 = .box 33 [.row r5] ∧ o' r5 = .row 236 (f.map clsT) true ∧ o' b6 = prtB0 p ∧ o' b7 = ivlB iv ∧ b5 < q' ∧ r5 < q' ∧ b6 < q' ∧ b7 < q') := by
  intro s o q hI
  have d22 := d11_22
  simp [regionOf, findR, pick, Tryz.f11] at d22
  have dd := fun st => run_region_draw E st 22 _ d22
  clear d22
  obtain ⟨F, hF⟩ : ∃ F : Nat → Bool, F = fun j => (ks.take j).any (hasI iv) := ⟨_, rfl⟩
  have F0 : F 0 = false := by simp [hF]
  have FS : ∀ j (hj : j < ks.length), F (j + 1) = (F j || hasI iv ks[j]) := by
    intro j hj
    simp only [hF]
    rw [List.take_add_one, List.getElem?_eq_getElem hj, List.any_append]
    simp only [Option.toList, List.any_cons, List.any_nil, Bool.or_false]
  have FE : F ks.length = ks.any (hasI iv) := by simp [hF]
  clear hF
  refine loop_for (c := loopAt Tryz.f11 1) (N := 104)
    (fun j s o q => s 1 = L1 c1 ∧ s 5 = .ptr b5 0 ∧ s 6 = .ptr b6 0 ∧ s 7 = .ptr b7 0 ∧ s 11 = .t (.int .i64 n) ∧ s 15 = .row rk ∧ s 17 = .t (.bool (F j)) ∧ s 18 = .t (.int .i64 j) ∧ o b5 = .box 33 [.row r5] ∧ o r5 = .row 236 (f.map clsT) true ∧ o b6 = prtB0 p ∧ o b7 = ivlB iv ∧ o rk = .row 9 (ks.map strT) true ∧ b5 < q ∧ r5 < q ∧ b6 < q ∧ b7 < q ∧ rk < q)
    (fun e s' o' q' => e = .exit 2 ∧ s' 1 = L1 c1 ∧ s' 5 = .ptr b5 0 ∧ s' 6 = .ptr b6 0 ∧ s' 7 = .ptr b7 0 ∧ s' 11 = .t (.int .i64 n) ∧ s' 17 = .t (.bool (ks.any (hasI iv))) ∧ o' b5 = .box 33 [.row r5] ∧ o' r5 = .row 236 (f.map clsT) true ∧ o' b6 = prtB0 p ∧ o' b7 = ivlB iv ∧ b5 < q' ∧ r5 < q' ∧ b6 < q' ∧ b7 < q') ks.length ?_ ?_
    ks.length 0 s o q (by omega) (by
      obtain ⟨h1, h5, h6, h7, h11, h15, h17, h18, o5, or5, o6, o7, ork, q5, qr, q6, q7, qk⟩ := hI
      exact ⟨h1, h5, h6, h7, h11, h15, by rw [F0]; exact h17, h18, o5, or5, o6, o7, ork, q5, qr, q6, q7, qk⟩)
  · rintro j s o q hj ⟨h1, h5, h6, h7, h11, h15, h17, h18, o5, or5, o6, o7, ork, q5, qr, q6, q7, qk⟩
    have hj' : (j : Int) < (ks.length : Int) := by omega
    have hwj := wrap_succ (n := j) (by omega)
    have hxj : ks[j]? = some ks[j] := List.getElem?_eq_getElem hj
    have hh := implHasKey iv ks[j] (hks _ (List.getElem_mem hj))
    have hs := FS j hj
    cases hFj : F j <;> simp [hFj] at h17 hs <;>
      simp [loopAt, loopsOf, Tryz.f11, dd, h1, h5, h6, h7, h11, h15, h17, h18, o5, or5, o6, o7, ork, hj, hj', hwj, hxj, hh, hs, q5, qr, q6, q7, qk]
  · rintro s o q ⟨h1, h5, h6, h7, h11, h15, h17, h18, o5, or5, o6, o7, ork, q5, qr, q6, q7, qk⟩
    rw [FE] at h17
    simp [loopAt, loopsOf, Tryz.f11, h1, h5, h6, h7, h11, h15, h17, h18, o5, or5, o6, o7, ork, q5, qr, q6, q7, -List.any_eq_true, -List.any_eq_false]
theorem flats_strs : ∀ xs : List Bytes, T.flats (xs.map strT) = true
  | [] => rfl
  | x :: r => by simp [T.flats, T.flat, flats_strs r]
theorem bounds_docs (c1 : Bytes) (hc1 : c1.length ≤ 1048576) (f : List (List Trm)) (p : Prt) (hf : filterOK f = true) (hp : pathOK p.path = true) (r5 b5 b6 b7 : Nat) : ∀ s o q, (s 1 = L1 c1 ∧ s 5 = .ptr b5 0 ∧ s 6 = .ptr b6 0 ∧ s 7 = .ptr b7 0 ∧ s 11 = .t (.int .i64 0) ∧ o b5 = .box 33 [.row r5] ∧ o r5 = .row 236 (f.map clsT) true ∧ o b6 = prtB0 p ∧ o b7 = ivlB (filterI p f) ∧ b5 < q ∧ r5 < q ∧ b6 < q ∧ b7 < q) →
    ∃ e s' o' q', run E (.code (.loop (loopAt Tryz.f11 0)) ⟨s, o, q, 104⟩) = some (.st e ⟨s', o', q', 104⟩) ∧ e = .exit 0 := by
  intro s o q hI
  have hfs := fil_sm hf
  have hpl := pathOK_len hp
  refine loop_for (c := loopAt Tryz.f11 0) (N := 104)
    (fun i s o q => s 1 = L1 c1 ∧ s 5 = .ptr b5 0 ∧ s 6 = .ptr b6 0 ∧ s 7 = .ptr b7 0 ∧ s 11 = .t (.int .i64 i) ∧ o b5 = .box 33 [.row r5] ∧ o r5 = .row 236 (f.map clsT) true ∧ o b6 = prtB0 p ∧ o b7 = ivlB (filterI p f) ∧ b5 < q ∧ r5 < q ∧ b6 < q ∧ b7 < q)
    (fun e s' o' q' => e = .exit 0) 4 ?_ ?_
    4 0 s o q (by omega) hI
  · rintro i s o q hi ⟨h1, h5, h6, h7, h11, o5, or5, o6, o7, q5, qr, q6, q7⟩
    have hi' : (i : Int) < 4 := by omega
    have hwi := wrap_succ (n := i) (by omega)
    have hcv : IntKind.u8.wrap (i : Int) = i := by
      rcases (by omega : i = 0 ∨ i = 1 ∨ i = 2 ∨ i = 3) with rfl | rfl | rfl | rfl <;> decide
    obtain ⟨v, h68, hv, hk⟩ := docOfCode' (UInt8.ofNat i :: c1) (by simp; omega)
    have eb : byteT (UInt8.ofNat i) = T.int .u8 (i : Int) := by
      rcases (by omega : i = 0 ∨ i = 1 ∨ i = 2 ∨ i = 3) with rfl | rfl | rfl | rfl <;> rfl
    rw [List.map_cons, eb] at h68
    have hvl := okP_size hv
    have hdoc : isDocP v = true := by simp [isDocP, valueOK, hv, hk]
    have hm := specMatches f v hfs (by omega)
    have hmo : matchesOut f v = (matchF f v, 0) := by simp [matchesOut, hf, hdoc]
    rw [hmo] at hm
    have hdk : defOK ⟨[111, 110, 101], [p]⟩ = true := by
      have hn : nameP [111, 110, 101] = true := by decide
      simp [defOK, hn, in12, hp, twoOK]
    have hks : run E (.call 69 [.t (.agg [.str [111, 110, 101], .list [prtT p]]), xV v]) = some (.res [.row 9 ((keysP p v).map strT), xI 0] []) := by
      have h := implKeys ⟨[111, 110, 101], [p]⟩ v ⟨by simp, by simp, by simp; omega⟩ (by omega)
      rw [hdk, hdoc] at h
      exact h
    have n0 : b5 ≠ q := by omega
    have n1 : b5 ≠ q + 1 := by omega
    have n2 : b5 ≠ q + 2 := by omega
    have n3 : b5 ≠ q + 3 := by omega
    have n4 : b5 ≠ q + 4 := by omega
    have n5 : r5 ≠ q := by omega
    have n6 : r5 ≠ q + 1 := by omega
    have n7 : r5 ≠ q + 2 := by omega
    have n8 : r5 ≠ q + 3 := by omega
    have n9 : r5 ≠ q + 4 := by omega
    have m0 : b6 ≠ q := by omega
    have m1 : b6 ≠ q + 1 := by omega
    have m2 : b6 ≠ q + 2 := by omega
    have m3 : b6 ≠ q + 3 := by omega
    have m4 : b6 ≠ q + 4 := by omega
    have m5 : b7 ≠ q := by omega
    have m6 : b7 ≠ q + 1 := by omega
    have m7 : b7 ≠ q + 2 := by omega
    have m8 : b7 ≠ q + 3 := by omega
    have m9 : b7 ≠ q + 4 := by omega
    have u0 : b5 < q + 4 := by omega
    have u1 : r5 < q + 4 := by omega
    have u2 : b6 < q + 4 := by omega
    have u3 : b7 < q + 4 := by omega
    have u4 : b5 < q + 5 := by omega
    have u5 : r5 < q + 5 := by omega
    have u6 : b6 < q + 5 := by omega
    have u7 : b7 < q + 5 := by omega
    have u8 : b5 < q + 3 := by omega
    have u9 : r5 < q + 3 := by omega
    have v0 : b6 < q + 3 := by omega
    have v1 : b7 < q + 3 := by omega
    have l0 : c1.length + 1 ≤ 140737488355328 := by omega
    have l1 : 1 + c1.length ≤ 140737488355328 := by omega
    cases hmf : matchF f v with
    | false =>
      rw [hmf] at hm
      simp at hm
      simp [loopAt, loopsOf, Tryz.f11, h1, h5, h6, h7, h11, o5, or5, o6, o7, hi', hwi, hcv, h68, hm, q5, qr, q6, q7, n0, n1, n2, n3, n4, n5, n6, n7, n8, n9, m0, m1, m2, m3, m4, m5, m6, m7, m8, m9, u0, u1, u2, u3, u4, u5, u6, u7, u8, u9, v0, v1, l0, l1]
    | true =>
      rw [hmf] at hm
      simp at hm
      obtain ⟨k, hk1, hk2⟩ := filter_bound p f v (terms_ok hf hfs) hv hmf
      have hany : (keysP p v).any (hasI (filterI p f)) = true := List.any_eq_true.2 ⟨k, hk1, hk2⟩
      have hkl : ∀ x ∈ keysP p v, x.length ≤ 65536 := by
        intro x hx
        unfold keysP at hx
        obtain ⟨y, hy, rfl⟩ := List.mem_map.1 hx
        have := keyF_len p.desc y (valsP_ok p.path v 5 (by omega) hv y hy)
        omega
      have hkn := keysP_len p v hvl
      obtain ⟨X, A, B, C, hx⟩ := sk (bounds_keys c1 f p (filterI p f) (keysP p v) hkl (by omega) i r5 b5 b6 b7 (q + 4))
      have hfl := flats_strs (keysP p v)
      simp only [loopAt, loopsOf, Tryz.f11, hany] at hx
      simp at hx
      simp (maxDischargeDepth := 6) [loopAt, loopsOf, Tryz.f11, h1, h5, h6, h7, h11, o5, or5, o6, o7, hi', hwi, hcv, h68, hm, hks, hx, hfl, q5, qr, q6, q7, n0, n1, n2, n3, n4, n5, n6, n7, n8, n9, m0, m1, m2, m3, m4, m5, m6, m7, m8, m9, u0, u1, u2, u3, u4, u5, u6, u7, u8, u9, v0, v1, l0, l1]
  · rintro s o q ⟨h1, h5, h6, h7, h11, o5, or5, o6, o7, q5, qr, q6, q7⟩
    simp at h11
    simp [loopAt, loopsOf, Tryz.f11, h11]
end Go.Yd
/- The law FnBounds over plain data: joined. -/
set_option linter.unusedSimpArgs false
set_option linter.unusedVariables false
namespace Go.Yd
open Go.Ev Go.Proofs Go.Pu
set_option maxRecDepth 100000
set_option maxHeartbeats 16000000
theorem E_eq112 : E.eqT 112 = [.str, .str, .bool] := by kernel_rfl
theorem lawBounds (c0 c1 : Bytes) : run E (.call 11 [.t (.list (c0.map byteT)), .t (.list (c1.map byteT))]) = some (.res [xB true] []) := by
  rw [run_call E 11 _ rfl Tryz.func11 rfl rfl rfl (by simp)]
  by_cases n0 : (1048576 : Int) < (c0.length : Int)
  · simp [n0]
  · by_cases n1 : (1048576 : Int) < (c1.length : Int)
    · simp [n0, n1]
    · obtain ⟨f, hF, hf⟩ := filterOf c0 (by omega)
      obtain ⟨nm, p, ps, hD, hp⟩ := defOf ((3 : UInt8) :: c0) (by simp; omega)
      have eb : byteT (3 : UInt8) = T.int .u8 3 := rfl
      rw [List.map_cons, eb] at hD
      have hpl := pathOK_len hp
      have i1 := implFilterInterval f p (fil_sm hf) (by omega)
      have i2 := specFilterInterval f p (fil_sm hf) (by omega)
      have e1 : fivOut f p = (filterI p f, 0) := by simp [fivOut, hf, hp]
      rw [e1] at i1 i2
      obtain ⟨X, A, B, C, hx⟩ := sk (bounds_docs c1 (by omega) f p hf hp 0 1 5 6)
      simp only [loopAt, loopsOf, Tryz.f11] at hx
      simp at hx hD
      have l0 : c0.length + 1 ≤ 140737488355328 := by omega
      have l1 : 1 + c0.length ≤ 140737488355328 := by omega
      simp (maxDischargeDepth := 6) [n0, n1, hF, hD, i1, i2, hx, l0, l1, E_eq112]
end Go.Yd
