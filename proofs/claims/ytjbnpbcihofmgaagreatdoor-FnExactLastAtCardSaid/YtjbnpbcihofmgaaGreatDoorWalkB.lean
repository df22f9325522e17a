/- Paths: strings.Split at one byte, spec's l00Cut; PathOK of both. -/
import Derived.Test.YtjbnpbcihofmgaaGreatDoorWalkA
set_option linter.unusedSimpArgs false
set_option linter.unusedVariables false
namespace Go.Zd
open Go.Ev Go.Proofs Go.Pu
set_option maxRecDepth 100000
set_option maxHeartbeats 4000000
theorem cutP_ne (c : UInt8) : ∀ (l : Bytes), cutP c l ≠ []
  | [] => by simp [cutP]
  | b :: r => by
    unfold cutP
    split
    · simp
    · split <;> simp
theorem cutP_none (c : UInt8) : ∀ (l : Bytes), l.count c = 0 → cutP c l = [l]
  | [], _ => rfl
  | b :: r, h => by
    rw [List.count_cons] at h
    have hb : ¬ b = c := by intro e; simp [e] at h
    have hr : r.count c = 0 := by omega
    simp [cutP, hb, cutP_none c r hr]
theorem cutP_index (c : UInt8) : ∀ (l : Bytes), 0 < l.count c → ∃ k : Nat, Lib.indexByte l c = k ∧ k < l.length ∧ cutP c l = l.take k :: cutP c (l.drop (k + 1)) ∧ l.count c = (l.drop (k + 1)).count c + 1
  | [], h => by simp at h
  | b :: r, h => by
    by_cases hb : b = c
    · subst hb
      exact ⟨0, by simp [Lib.indexByte], by simp, by simp [cutP], by simp⟩
    · have hr : 0 < r.count c := by simpa [List.count_cons, hb] using h
      obtain ⟨k, h1, h2, h3, h4⟩ := cutP_index c r hr
      have hk : ¬ (k : Int) = -1 := by omega
      refine ⟨k + 1, by simp [Lib.indexByte, hb, h1, hk], by simp; omega, ?_, ?_⟩
      · simp [cutP, hb, h3]
      · simp [List.count_cons, hb, h4]
theorem cutP_length (c : UInt8) : ∀ (l : Bytes), (cutP c l).length = l.count c + 1
  | [] => by simp [cutP]
  | b :: r => by
    have ih := cutP_length c r
    by_cases hb : b = c
    · simp [cutP, hb, ih, List.count_cons]
    · have := cutP_ne c r
      cases hq : cutP c r with
      | nil => exact absurd hq this
      | cons w ws =>
        rw [hq] at ih
        simp [cutP, hb, hq, List.count_cons] at ih ⊢
        exact ih
theorem byte_toNat (c : UInt8) : ((c.toNat : Int).toNat).toUInt8 = c := by simp
theorem ext271 (s : Bytes) (c : UInt8) : run E (.call 271 [xS s, xU c]) = some (.res [xI (s.count c : Nat)] []) := by
  rw [run_ext E 271 _ (g := _) rfl]
  simp [Lib.countByte]
theorem ext294 (s : Bytes) (c : UInt8) : run E (.call 294 [xS s, xU c]) = some (.res [xI (Lib.indexByte s c)] []) := by
  rw [run_ext E 294 _ (g := _) rfl]
  simp
theorem indexOne (s : Bytes) (c : UInt8) : run E (.call 244 [xS s, xS [c]]) = some (.res [xI (Lib.indexByte s c)] []) := by
  have h284 : run E (.call 284 [xS s, xU c]) = some (.res [xI (Lib.indexByte s c)] []) := by
    rw [run_call E 284 _ rfl Tryz.func284 rfl rfl rfl (by simp)]
    simp [ext294]
  have h272 : run E (.call 272 [xS s, xS [c]]) = some (.res [xI (Lib.indexByte s c)] []) := by
    rw [run_call E 272 _ rfl Tryz.func272 rfl rfl rfl (by simp)]
    simp [h284]
    intro h; subst h; simp [Lib.indexByte]
  rw [run_call E 244 _ rfl Tryz.func244 rfl rfl rfl (by simp)]
  simp [h272]
theorem countOne (s : Bytes) (c : UInt8) : run E (.call 243 [xS s, xS [c]]) = some (.res [xI (s.count c : Nat)] []) := by
  rw [run_call E 243 _ rfl Tryz.func243 rfl rfl rfl (by simp)]
  simp [ext271]
theorem set_mid {α : Type} (ps : List α) (x z : α) (n : Nat) : (ps ++ List.replicate (n + 1) z).set ps.length x = (ps ++ [x]) ++ List.replicate n z := by
  rw [List.set_append_right _ _ (Nat.le_refl _)]
  simp [List.replicate_succ]
theorem genSplit (s0 : Bytes) (c : UInt8) (hs : s0.length < 4294967296) : run E (.call 186 [xS s0, xS [c], xI 0, xI (-1)]) = some (.res [.row 9 ((cutP c s0).map strT)] []) := by
  rw [run_call E 186 _ rfl Tryz.func186 rfl rfl rfl (by simp)]
  have hcl := cutP_length c s0
  have hcle : s0.count c ≤ s0.length := List.count_le_length
  have hw1 := wrap_succ (n := s0.count c) (by omega)
  have hw2 := wrap_succ (n := s0.length) (by omega)
  have hmin : ¬ ((s0.length : Int) + 1 < (s0.count c : Int) + 1) := by omega
  have lp := sk (fun s o q hI => loop_for (c := loopAt Tryz.f186 0) (N := 66)
    (fun i s o q => ∃ r ps, s 0 = .t (.str r) ∧ s 1 = .t (.str [c]) ∧ s 2 = .t (.int .i64 0) ∧ s 3 = .t (.int .i64 (s0.count c : Nat)) ∧ s 9 = .row 0 ∧ s 10 = .t (.int .i64 i) ∧ ps.length = i ∧ cutP c s0 = ps ++ cutP c r ∧ r.count c + i = s0.count c ∧ r.length ≤ s0.length ∧ o 0 = .row 9 (ps.map strT ++ List.replicate (s0.count c + 1 - i) (.str [])) true)
    (fun e s' o' q' => e = .exit 0 ∧ s' 0 = .t (.str ((cutP c s0).getLast (cutP_ne c s0))) ∧ s' 9 = .row 0 ∧ s' 10 = .t (.int .i64 (s0.count c : Nat)) ∧ o' 0 = .row 9 ((cutP c s0).dropLast.map strT ++ [.str []]) true) (s0.count c)
    (by
      rintro i s o q hi ⟨r, ps, h0, h1, h2, h3, h9, h10, hp, hc, hr, hl, ho⟩
      obtain ⟨k, hk1, hk2, hk3, hk4⟩ := cutP_index c r (by omega)
      have hi' : (i : Int) < (s0.count c : Int) := by omega
      have hk0 : ¬ (k : Int) < 0 := by omega
      have hw := wrap_succ (n := i) (by omega)
      have hwk := wrap_nat (n := k) (by omega)
      have hwk1 := wrap_succ (n := k) (by omega)
      have hk' : (k : Int) ≤ (r.length : Int) := by omega
      have hk2' : k ≤ r.length := by omega
      have hk3' : k + 1 ≤ r.length := by omega
      have hlen : i < ps.length + (s0.count c + 1 - i) := by omega
      have hq : (0 : Int) ≤ (k : Int) + 1 := by omega
      have hq2 : ((k : Int) + 1).toNat = k + 1 := by omega
      have hget : (List.map strT ps ++ List.replicate (s0.count c + 1 - i) (T.str []))[i]? = some (.str []) := by
        have hpos : 0 < s0.count c + 1 - i := by omega
        rw [List.getElem?_append_right (by simp [hp])]
        simp only [List.length_map, hp, Nat.sub_self, List.getElem?_replicate, hpos, if_true]
      have hset : (List.map strT ps ++ List.replicate (s0.count c + 1 - i) (T.str [])).set i (.str (r.take k)) = (ps ++ [r.take k]).map strT ++ List.replicate (s0.count c + 1 - (i + 1)) (T.str []) := by
        have e : s0.count c + 1 - i = (s0.count c - i) + 1 := by omega
        have e2 : s0.count c + 1 - (i + 1) = s0.count c - i := by omega
        rw [e, e2]
        have := set_mid (List.map strT ps) (.str (r.take k)) (.str []) (s0.count c - i)
        rw [List.length_map, hp] at this
        rw [this]
        simp
      simp [loopAt, loopsOf, Tryz.f186, h0, h1, h2, h3, h9, h10, hi', indexOne, hk1, hk0, hwk, hwk1, hw, hk2', hk3', ho, hget, hset, hq, hq2]
      refine ⟨ps ++ [r.take k], by simp [hp], ?_, by omega, by omega, by simp⟩
      rw [hc, hk3]
      simp)
    (by
      rintro s o q ⟨r, ps, h0, h1, h2, h3, h9, h10, hp, hc, hr, hl, ho⟩
      have h00 : r.count c = 0 := by omega
      rw [cutP_none c r h00] at hc
      have e : s0.count c + 1 - s0.count c = 1 := by omega
      rw [e] at ho
      simp [loopAt, loopsOf, Tryz.f186, h0, h1, h2, h3, h9, h10, hc, ho])
    (s0.count c) 0 s o q (by omega) hI)
  simp only [loopAt, loopsOf, Tryz.f186] at lp
  obtain ⟨X, A, B, C, hx⟩ := lp
  have hx' := fun s o q a0 a1 a2 a3 a9 a10 a11 => hx s o q ⟨s0, [], a0, a1, a2, a3, a9, a10, rfl, rfl, rfl, Nat.le_refl _, a11⟩
  clear hx
  simp at hx'
  have hn1 : ((s0.count c : Int) + 1).toNat = s0.count c + 1 := by omega
  have hn2 : (0 : Int) ≤ (s0.count c : Int) + 1 := by omega
  have hn3 : s0.count c + 1 ≤ 140737488355328 := by omega
  have hn4 : (s0.count c + 1) * 16 ≤ 140737488355328 := by omega
  have hw3 : IntKind.i64.wrap ((s0.count c : Int) + 1 - 1) = (s0.count c : Int) := by rw [wrap_of (by omega) (by omega)]; omega
  have hl : (cutP c s0).dropLast.length = s0.count c := by rw [List.length_dropLast, hcl]; omega
  have hset : ((cutP c s0).dropLast.map strT ++ [T.str []]).set (s0.count c) (.str ((cutP c s0).getLast (cutP_ne c s0))) = (cutP c s0).map strT := by
    have h1 : ((cutP c s0).dropLast.map strT).length = s0.count c := by rw [List.length_map, hl]
    rw [List.set_append_right _ _ (by rw [h1]; exact Nat.le_refl _), h1, Nat.sub_self, List.set_cons_zero]
    conv => rhs; rw [← List.dropLast_concat_getLast (cutP_ne c s0)]
    simp
  have hget : ((cutP c s0).dropLast.map strT ++ [T.str []])[s0.count c]? = some (.str []) := by
    have h1 : ((cutP c s0).dropLast.map strT).length = s0.count c := by rw [List.length_map, hl]
    rw [List.getElem?_append_right (by rw [h1]; exact Nat.le_refl _), h1, Nat.sub_self]
    rfl
  have hw4 := wrap_nat (n := s0.count c) (by omega)
  simp only [List.map_dropLast] at hget hset
  have htake : List.take (s0.count c + 1) ((cutP c s0).map strT) = (cutP c s0).map strT := List.take_of_length_le (by rw [List.length_map, hcl]; exact Nat.le_refl _)
  simp [countOne, hw1, hw2, hw4, hmin, hn1, hn2, hn3, hn4, hw3, hx', hget, hset, hcl, htake]
theorem split (s : Bytes) (c : UInt8) (hs : s.length < 4294967296) : run E (.call 122 [xS s, xS [c]]) = some (.res [.row 9 ((cutP c s).map strT)] []) := by
  rw [run_call E 122 _ rfl Tryz.func122 rfl rfl rfl (by simp)]
  simp [genSplit s c hs]
theorem pathClosure (t : Bytes) (ht : t.length < 9223372036854775807) : run E (.call 169 [xS t]) = some (.res [xB (!nameP t)] []) := by
  rw [run_call E 169 _ rfl Tryz.func169 rfl rfl rfl (by simp)]
  simp [isShort t ht]
theorem cutP_mem (c : UInt8) : ∀ (l : Bytes), ∀ w ∈ cutP c l, w.length ≤ l.length
  | [], w, hw => by simp [cutP] at hw; simp [hw]
  | b :: r, w, hw => by
    have ih := cutP_mem c r
    unfold cutP at hw
    split at hw
    · rcases List.mem_cons.1 hw with rfl | hw
      · simp
      · have := ih w hw; simp; omega
    · split at hw
      · simp at hw; simp [hw]
      · rename_i a l hq
        rw [hq] at ih
        rcases List.mem_cons.1 hw with rfl | hw
        · have := ih a (by simp); simp; omega
        · have := ih w (by simp [hw]); simp; omega
theorem implPathOK (t : Bytes) (ht : t.length < 4294967296) : run E (.call 109 [xS t]) = some (.res [xB (pathOK t)] []) := by
  rw [run_call E 109 _ rfl Tryz.func109 rfl rfl rfl (by simp)]
  have hc := containsFunc_138_0 (cutP 46 t) 169 (fun w => !nameP w) (by have := cutP_length 46 t; have : t.count 46 ≤ t.length := List.count_le_length; omega) rfl rfl
    (fun x hx => pathClosure x (by have := cutP_mem 46 t x hx; omega))
  have hn : (!(cutP 46 t).any (fun w => !nameP w)) = (cutP 46 t).all nameP := by simp [List.any_eq_not_all_not]
  have h1 : ((t.length : Int) ≤ 50) = (t.length ≤ 50) := by simp; omega
  have h2 : (((cutP 46 t).length : Int) ≤ 4) = ((cutP 46 t).length ≤ 4) := by simp; omega
  by_cases h : t.length ≤ 50
  · by_cases h' : (cutP 46 t).length ≤ 4
    · simp [split t 46 ht, h1, h2, h, h', hc, pathOK, hn]
    · simp [split t 46 ht, h1, h2, h, h', pathOK]
  · simp [split t 46 ht, h1, h2, h, pathOK]
end Go.Zd
/- spec's l00Cut and PathOK. -/
set_option linter.unusedSimpArgs false
set_option linter.unusedVariables false
namespace Go.Zd
open Go.Ev Go.Proofs Go.Pu
set_option maxRecDepth 100000
set_option maxHeartbeats 4000000
theorem cutP_step (c : UInt8) : ∀ (l : Bytes) (k : Nat) (hk : k < l.length), (l.take k).count c = 0 → l[k] = c → cutP c l = l.take k :: cutP c (l.drop (k + 1))
  | [], k, hk, _, _ => by simp at hk
  | b :: r, 0, hk, _, h => by
    simp at h
    simp [cutP, h]
  | b :: r, k + 1, hk, h0, h => by
    simp only [List.take_succ_cons, List.count_cons] at h0
    have hb : ¬ b = c := by intro e; simp [e] at h0
    have := cutP_step c r k (by simpa using hk) (by omega) (by simpa using h)
    simp [cutP, hb, this]
theorem cutP_suffix (c : UInt8) : ∀ (n : Nat) (l : Bytes), l.length ≤ n → ∃ p, l = p ++ (cutP c l).getLast (cutP_ne c l) := by
  intro n
  induction n with
  | zero =>
    intro l hl
    have : l = [] := List.eq_nil_of_length_eq_zero (by omega)
    subst this
    exact ⟨[], by simp [cutP]⟩
  | succ n ih =>
    intro l hl
    by_cases h0 : l.count c = 0
    · exact ⟨[], by simp [cutP_none c l h0]⟩
    · obtain ⟨k, h1, h2, h3, h4⟩ := cutP_index c l (by omega)
      obtain ⟨p, hp⟩ := ih (l.drop (k + 1)) (by simp; omega)
      refine ⟨l.take (k + 1) ++ p, ?_⟩
      have e : (cutP c l).getLast (cutP_ne c l) = (cutP c (l.drop (k + 1))).getLast (cutP_ne c _) := by
        simp only [h3]
        rw [List.getLast_cons (cutP_ne c _)]
      rw [e, List.append_assoc, ← hp, List.take_append_drop]
theorem l00Cut (t : Bytes) (c : UInt8) (ht : t.length < 9223372036854775807) (hb : t.length < 4294967296) : run E (.call 131 [xS t, xU c]) = some (.res [.row 9 ((cutP c t).map strT)] []) := by
  rw [run_call E 131 _ rfl Tryz.func131 rfl rfl rfl (by simp)]
  have lp := sk1 (fun s o q hI => loop_for (c := loopAt Tryz.f131 0) (N := 35)
    (fun i s o q => ∃ r ps f, s 0 = .t (.str t) ∧ s 1 = .t (.int .u8 c.toNat) ∧ s 5 = .row r ∧ s 6 = .t (.int .i64 (f : Nat)) ∧ s 7 = .t (.int .i64 i) ∧ o r = .row 9 (ps.map strT) true ∧ r < q ∧ f ≤ i ∧ ps.length ≤ i ∧ cutP c t = ps ++ cutP c (t.drop f) ∧ ((t.drop f).take (i - f)).count c = 0)
    (fun e s' o' q' => ∃ r, e = .exit 0 ∧ s' 0 = .t (.str t) ∧ s' 5 = .row r ∧ s' 6 = .t (.int .i64 ((t.length - ((cutP c t).getLast (cutP_ne c t)).length : Nat) : Int)) ∧ o' r = .row 9 ((cutP c t).dropLast.map strT) true ∧ ¬ r = q' ∧ ¬ r = q' + 1) t.length
    (by
      rintro i s o q hi ⟨r, ps, f, h0, h1, h5, h6, h7, ho, hrq, hf, hps, hc, hz⟩
      have hi' : (i : Int) < (t.length : Int) := by omega
      have hw := wrap_succ (n := i) (by omega)
      have hrn : r ≠ q := by omega
      have hrn2 : r ≠ q + 1 := by omega
      have hqn : q ≠ r := by omega
      have hfi : f ≤ t.length := by omega
      have hil : i ≤ t.length := by omega
      have hidx : (t.drop f)[i - f]'(by simp; omega) = t[i] := by simp [List.getElem_drop]; congr 1; omega
      have hpl : ps.length + 1 ≤ 140737488355328 := by omega
      have hpl2 : (ps.length + 1) * 16 ≤ 140737488355328 := by omega
      by_cases hb : t[i] = c
      · have hbn : (t[i].toNat : Int) = (c.toNat : Int) := by rw [hb]
        have hst := cutP_step c (t.drop f) (i - f) (by simp; omega) hz (by rw [hidx]; exact hb)
        simp [loopAt, loopsOf, Tryz.f131, h0, h1, h5, h6, h7, hi, hi', hb, hw, ho, hrn, hrn2, hqn, hf, hil, hpl, hpl2]
        refine ⟨ps ++ [(t.drop f).take (i - f)], i + 1, rfl, ?_, Nat.le_refl _, by simp; omega, ?_, by simp⟩
        · simp [List.drop_take]
        · rw [hc, hst]
          simp [List.drop_drop]
          congr 2; omega
      · have hbn : ¬ (t[i].toNat : Int) = (c.toNat : Int) := by
          intro h
          exact hb (UInt8.toNat_inj.1 (by omega))
        simp [loopAt, loopsOf, Tryz.f131, h0, h1, h5, h6, h7, hi, hi', hbn, hw, ho]
        refine ⟨ps, f, rfl, rfl, hrq, by omega, by omega, hc, ?_⟩
        have e : i + 1 - f = (i - f) + 1 := by omega
        rw [e, List.take_add_one, List.count_append, hz]
        rw [List.getElem?_eq_getElem (by simp; omega), hidx]
        simp [hb])
    (by
      rintro s o q ⟨r, ps, f, h0, h1, h5, h6, h7, ho, hrq, hf, hps, hc, hz⟩
      have hcut : cutP c (t.drop f) = [t.drop f] := cutP_none c _ (by
        have : (t.drop f).take (t.length - f) = t.drop f := List.take_of_length_le (by simp)
        rwa [this] at hz)
      rw [hcut] at hc
      simp [loopAt, loopsOf, Tryz.f131, h0, h1, h5, h6, h7, hc, ho, hrq]
      omega)
    t.length 0 s o q (by omega) hI)
  simp only [loopAt, loopsOf, Tryz.f131] at lp
  obtain ⟨X, A, B, C, M, hx⟩ := lp
  have hx' := fun s o q r a0 a1 a5 a6 a7 a8 a9 => hx s o q ⟨r, [], 0, a0, a1, a5, a6, a7, a8, a9, Nat.le_refl _, Nat.le_refl _, rfl, by simp⟩
  clear hx
  simp at hx'
  have hl : (cutP c t).length ≤ t.length + 1 := by rw [cutP_length]; have : t.count c ≤ t.length := List.count_le_length; omega
  have hlast := cutP_mem c t _ (List.getLast_mem (cutP_ne c t))
  obtain ⟨p, hp⟩ := cutP_suffix c t.length t (Nat.le_refl _)
  have hdrop : t.drop (t.length - ((cutP c t).getLast (cutP_ne c t)).length) = (cutP c t).getLast (cutP_ne c t) := by
    have : ∀ L : Bytes, t = p ++ L → t.drop (t.length - L.length) = L := by intro L h; rw [h]; simp
    exact this _ hp
  have hd2 : (cutP c t).dropLast.length + 1 = (cutP c t).length := by rw [List.length_dropLast, cutP_length]; omega
  have hpl : (cutP c t).length - 1 + 1 ≤ 140737488355328 := by omega
  have hpl2 : ((cutP c t).length - 1 + 1) * 16 ≤ 140737488355328 := by omega
  have hfin : (cutP c t).dropLast.map strT ++ [.str ((cutP c t).getLast (cutP_ne c t))] = (cutP c t).map strT := by
    conv => rhs; rw [← List.dropLast_concat_getLast (cutP_ne c t)]
    simp
  simp only [List.map_dropLast] at hfin hx'
  have hx1 := fun s o q r a0 a1 a5 a6 a7 a8 a9 => (hx' s o q r a0 a1 a5 a6 a7 a8 a9).1
  simp [hx', hdrop, hpl, hpl2, hfin]
theorem specPathOK (t : Bytes) (ht : t.length < 4294967296) : run E (.call 73 [xS t]) = some (.res [xB (pathOK t)] []) := by
  rw [run_call E 73 _ rfl Tryz.func73 rfl rfl rfl (by simp)]
  have hcl := cutP_length 46 t
  have hct : t.count 46 ≤ t.length := List.count_le_length
  have h1 : ((65536 : Int) < (t.length : Int)) = (65536 < t.length) := by simp; omega
  have h2 : ((50 : Int) < (t.length : Int)) = (50 < t.length) := by simp; omega
  have h3 : ((4 : Int) < ((cutP 46 t).length : Int)) = (4 < (cutP 46 t).length) := by simp; omega
  have hcut := l00Cut t 46 (by omega) ht
  have e46 : ((46 : UInt8).toNat : Int) = 46 := rfl
  rw [xU, e46] at hcut
  by_cases hL : 65536 < t.length
  · have : ¬ t.length ≤ 50 := by omega
    simp [h1, hL, pathOK, this]
  · by_cases h4 : 4 < (cutP 46 t).length
    · have h4' : ¬ (cutP 46 t).length ≤ 4 := by omega
      simp [h1, hL, hcut, h3, h4, pathOK, h4']
    · by_cases h5 : 50 < t.length
      · have h5' : ¬ t.length ≤ 50 := by omega
        simp [h1, hL, hcut, h3, h4, h2, h5, pathOK, h5']
      · have h4' : (cutP 46 t).length ≤ 4 := by omega
        have h5' : t.length ≤ 50 := by omega
        have lp := fun b (hb : b = (cutP 46 t).all nameP) => sk (fun s o q hI => loop_for (c := loopAt Tryz.f73 0) (N := 30)
          (fun i s o q => s 3 = .row 0 ∧ s 4 = .t (.int .i64 i) ∧ o 0 = .row 9 ((cutP 46 t).map strT) true ∧ b = ((cutP 46 t).drop i).all nameP)
          (fun e s' o' q' => e = (if b then .exit 0 else .ret) ∧ (b = false → s' 2 = .t (.bool false))) (cutP 46 t).length
          (by
            rintro i s o q hi ⟨h3, h4, ho, hp⟩
            have hd : (cutP 46 t).drop i = (cutP 46 t)[i] :: (cutP 46 t).drop (i + 1) := by rw [List.drop_eq_getElem_cons hi]
            have hi' : (i : Int) < ((cutP 46 t).length : Int) := by omega
            have hw := wrap_succ (n := i) (by omega)
            have hn := l01Name (cutP 46 t)[i] (by have := cutP_mem 46 t _ (List.getElem_mem hi); omega)
            rw [hd, List.all_cons] at hp
            cases hv : nameP (cutP 46 t)[i] <;> simp [hv] at hp hn <;> simp [loopAt, loopsOf, Tryz.f73, h3, h4, ho, hi, hi', hn, hw, hp])
          (by
            rintro s o q ⟨h3, h4, ho, hp⟩
            simp at hp
            simp [loopAt, loopsOf, Tryz.f73, h3, h4, ho, hp])
          (cutP 46 t).length 0 s o q (by omega) hI)
        simp only [loopAt, loopsOf, Tryz.f73] at lp
        cases hb : (cutP 46 t).all nameP with
        | true =>
          obtain ⟨X, A, B, C, hx⟩ := lp true hb.symm
          simp [hb, -List.all_eq_true] at hx
          simp [h1, hL, hcut, h3, h4, h2, h5, pathOK, h4', h5', hb, hx, -List.all_eq_true]
        | false =>
          obtain ⟨X, A, B, C, hx⟩ := lp false hb.symm
          simp [hb, -List.all_eq_true, -List.all_eq_false] at hx
          simp [h1, hL, hcut, h3, h4, h2, h5, pathOK, h4', h5', hb, hx, -List.all_eq_true, -List.all_eq_false]
end Go.Zd
/- spec's values: l01Of, l01Next. -/
set_option linter.unusedSimpArgs false
set_option linter.unusedVariables false
namespace Go.Zd
open Go.Ev Go.Proofs Go.Pu
set_option maxRecDepth 100000
set_option maxHeartbeats 8000000
theorem l01Of_loop (t : List UInt8) (ht : t.length < 9223372036854775807) (o : Nat → Ob) (q : Nat) : ∀ (k i : Nat) (n : Int) (s : Nat → SV), i + k = t.length → s 0 = .t (.str t) → s 4 = .t (.int .i64 i) → s 3 = .t (.int .i64 n) →
    ∃ s', run E (.code (.loop (loopAt Tryz.f256 0)) ⟨s, o, q, 19⟩) = some (.st (.exit 0) ⟨s', o, q, 19⟩) ∧ s' 3 = .t (.int .i64 (ofBytes n (t.drop i)))
  | 0, i, n, s, hk, h0, h4, h3 => by
    have hi : ¬ ((i : Int) < (t.length : Int)) := by omega
    rw [run_loop]
    have hd : t.drop i = [] := by simp; omega
    simp [loopAt, loopsOf, Tryz.f256, h0, h4, h3, hi, hd, ofBytes]
  | k + 1, i, n, s, hk, h0, h4, h3 => by
    have hi : ((i : Int) < (t.length : Int)) := by omega
    have hil : i < t.length := by omega
    have hd : t.drop i = t[i] :: t.drop (i + 1) := by rw [List.drop_eq_getElem_cons hil]
    have hb := t[i].toNat_lt
    have hw : IntKind.i64.wrap (t[i].toNat : Int) = t[i].toNat := wrap_of (by omega) (by omega)
    have hw2 : IntKind.i64.wrap ((i : Int) + 1) = ((i + 1 : Nat) : Int) := by rw [wrap_of (by omega) (by omega)]; rfl
    have ih := l01Of_loop t ht o q k (i + 1) (IntKind.i64.wrap (IntKind.i64.wrap (n * 256) + t[i].toNat))
    rw [run_loop]
    simp [loopAt, loopsOf, Tryz.f256] at ih
    simp [loopAt, loopsOf, Tryz.f256, h0, h4, h3, hi, hil, hw, hw2]
    rw [hd, ofBytes]
    refine ih _ (by omega) ?_ ?_ ?_ <;> simp [h0]
theorem l01Of (t : List UInt8) (ht : t.length < 9223372036854775807) : run E (.call 256 [.t (.str t)]) = some (.res [.t (.int .i64 (ofBytes 0 t))] []) := by
  rw [run_call E 256 _ rfl Tryz.func256 rfl rfl rfl (by simp)]
  have hl := l01Of_loop t ht (fun _ => .dead) 0 t.length 0 0
  simp [loopAt, loopsOf, Tryz.f256] at hl
  simp
  obtain ⟨s', h1, h2⟩ := hl (upd (upd (upd (fun i => [SV.t (T.str t)][i]?.getD SV.undef) 2 (SV.t (T.int IntKind.i64 0))) 3 (SV.t (T.int IntKind.i64 0))) 4 (SV.t (T.int IntKind.i64 0))) (by simp) (by simp) (by simp)
  simp [h1, h2]
theorem l01Next_null (b : UInt8) (r : List UInt8) (hb : b.toNat = 0) : run E (.call 220 [.t (.str (b :: r))]) = some (.res [valX ⟨0, 0, []⟩, .t (.str r), .t (.bool true)] []) := by
  rw [run_call E 220 _ rfl Tryz.func220 rfl rfl rfl (by simp)]
  have d := d220_8
  simp [regionOf, findR, pick, Tryz.f220] at d
  have dd := fun st => run_region_draw E st 8 _ d
  clear d
  simp [dd, wrap_of, succ_ne, hb]
theorem l01Next_other (b : UInt8) (r : List UInt8) (h0 : ¬ b.toNat = 0) (h1 : ¬ b.toNat = 1) (h2 : ¬ b.toNat = 2) (h3 : ¬ b.toNat = 3) (h4 : ¬ b.toNat = 4) (h5 : ¬ b.toNat = 5) : run E (.call 220 [.t (.str (b :: r))]) = some (.res [valX ⟨0, 0, []⟩, .t (.str []), .t (.bool false)] []) := by
  rw [run_call E 220 _ rfl Tryz.func220 rfl rfl rfl (by simp)]
  have hw : IntKind.i64.wrap (b.toNat : Int) = b.toNat := wrap_of (by omega) (by have := b.toNat_lt; omega)
  have e0 : ¬ ((b.toNat : Int) = 0) := by omega
  have e1 : ¬ ((b.toNat : Int) = 1) := by omega
  have e2 : ¬ ((b.toNat : Int) = 2) := by omega
  have e3 : ¬ ((b.toNat : Int) = 3) := by omega
  have e4 : ¬ ((b.toNat : Int) = 4) := by omega
  have e5 : ¬ ((b.toNat : Int) = 5) := by omega
  simp [succ_ne, hw, e0, e1, e2, e3, e4, e5, h0, h1, h2, h3, h4, h5]
theorem l01Next_bool (b x : UInt8) (r : List UInt8) (h1 : b.toNat = 1) : run E (.call 220 [.t (.str (b :: x :: r))]) = some (.res [valX ⟨1, x.toNat, []⟩, .t (.str r), .t (.bool true)] []) := by
  rw [run_call E 220 _ rfl Tryz.func220 rfl rfl rfl (by simp)]
  have d := d220_30
  simp [regionOf, findR, pick, Tryz.f220] at d
  have dd := fun st => run_region_draw E st 30 _ d
  clear d
  have hx : IntKind.i64.wrap (x.toNat : Int) = x.toNat := wrap_of (by omega) (by have := x.toNat_lt; omega)
  have hl : ¬ ((r.length : Int) + 1 + 1 < 2) := by omega
  have hs : ∀ n : Nat, ((n : Int) + 1 + 1 = 0) = False := fun n => by simp; omega
  simp [dd, wrap_of, succ_ne, h1, hx, hl, hs]
theorem l01Next_bool_short (b : UInt8) (h1 : b.toNat = 1) : run E (.call 220 [.t (.str [b])]) = some (.res [valX ⟨0, 0, []⟩, .t (.str []), .t (.bool false)] []) := by
  rw [run_call E 220 _ rfl Tryz.func220 rfl rfl rfl (by simp)]
  simp [wrap_of, succ_ne, h1]
theorem l01Of_two (x y : UInt8) : run E (.call 256 [.t (.str [x, y])]) = some (.res [.t (.int .i64 (two x y : Nat))] []) := by
  rw [l01Of [x, y] (by simp), ofBytes_two]
theorem l01Next_text (b x y : UInt8) (r : List UInt8) (hb : b.toNat = 3 ∨ b.toNat = 4 ∨ b.toNat = 5) (hr : two x y ≤ r.length) : run E (.call 220 [.t (.str (b :: x :: y :: r))]) = some (.res [valX ⟨b.toNat, 0, r.take (two x y)⟩, .t (.str (r.drop (two x y))), .t (.bool true)] []) := by
  rw [run_call E 220 _ rfl Tryz.func220 rfl rfl rfl (by simp)]
  have d := d220_22
  simp [regionOf, findR, pick, Tryz.f220] at d
  have dd := fun st => run_region_draw E st 22 _ d
  clear d
  have hk := two_lt x y
  have hw : IntKind.i64.wrap (3 + (two x y : Int)) = 3 + (two x y : Int) := wrap_of (by omega) (by omega)
  have hl : ¬ ((r.length : Int) + 1 + 1 + 1 < 3) := by omega
  have hl2 : ¬ ((r.length : Int) + 1 + 1 + 1 < 3 + (two x y : Int)) := by omega
  have hs : ∀ n : Nat, ((n : Int) + 1 + 1 + 1 = 0) = False := fun n => by simp; omega
  have hn : (0 : Int) ≤ 3 + (two x y : Int) := by omega
  have ht : (3 + (two x y : Int)).toNat = 3 + two x y := by omega
  have hc : 3 + two x y ≤ r.length + 1 + 1 + 1 := by omega
  have e : 3 + two x y = two x y + 1 + 1 + 1 := by omega
  rcases hb with hb | hb | hb <;> simp [dd, wrap_of, succ_ne, hb, hl, hl2, hs, hw, l01Of_two, hn, ht, hc] <;> simp [e]
theorem l01Next_long (b x y : UInt8) (r : List UInt8) (hb : b.toNat = 3 ∨ b.toNat = 4 ∨ b.toNat = 5) (hr : r.length < two x y) : run E (.call 220 [.t (.str (b :: x :: y :: r))]) = some (.res [valX ⟨0, 0, []⟩, .t (.str []), .t (.bool false)] []) := by
  rw [run_call E 220 _ rfl Tryz.func220 rfl rfl rfl (by simp)]
  have hk := two_lt x y
  have hw : IntKind.i64.wrap (3 + (two x y : Int)) = 3 + (two x y : Int) := wrap_of (by omega) (by omega)
  have hl : ¬ ((r.length : Int) + 1 + 1 + 1 < 3) := by omega
  have hl2 : ((r.length : Int) + 1 + 1 + 1 < 3 + (two x y : Int)) := by omega
  have hs : ∀ n : Nat, ((n : Int) + 1 + 1 + 1 = 0) = False := fun n => by simp; omega
  rcases hb with hb | hb | hb <;> simp [wrap_of, succ_ne, hb, hl, hl2, hs, hw, l01Of_two]
theorem l01Next_short (b : UInt8) (r : List UInt8) (hb : b.toNat = 3 ∨ b.toNat = 4 ∨ b.toNat = 5) (hr : r.length < 2) : run E (.call 220 [.t (.str (b :: r))]) = some (.res [valX ⟨0, 0, []⟩, .t (.str []), .t (.bool false)] []) := by
  rw [run_call E 220 _ rfl Tryz.func220 rfl rfl rfl (by simp)]
  have hl : ((r.length : Int) + 1 < 3) := by omega
  rcases hb with hb | hb | hb <;> simp [wrap_of, succ_ne, hb, hl]
theorem l01Next_int_short (b : UInt8) (r : List UInt8) (hb : b.toNat = 2) (hr : r.length < 8) : run E (.call 220 [.t (.str (b :: r))]) = some (.res [valX ⟨0, 0, []⟩, .t (.str []), .t (.bool false)] []) := by
  rw [run_call E 220 _ rfl Tryz.func220 rfl rfl rfl (by simp)]
  have hl : ((r.length : Int) + 1 < 9) := by omega
  simp [wrap_of, succ_ne, hb, hl]
theorem l01Next_int_big (b x : UInt8) (r : List UInt8) (hb : b.toNat = 2) (hr : 7 ≤ r.length) (hx : 127 < x.toNat) : run E (.call 220 [.t (.str (b :: x :: r))]) = some (.res [valX ⟨0, 0, []⟩, .t (.str []), .t (.bool false)] []) := by
  rw [run_call E 220 _ rfl Tryz.func220 rfl rfl rfl (by simp)]
  have hl : ¬ ((r.length : Int) + 1 + 1 < 9) := by omega
  have hs : ∀ n : Nat, ((n : Int) + 1 + 1 = 0) = False := fun n => by simp; omega
  have hx' : (127 : Int) < (x.toNat : Int) := by omega
  simp [wrap_of, succ_ne, hb, hl, hs, hx']
theorem l01Next_int (b x : UInt8) (r : List UInt8) (hb : b.toNat = 2) (hr : 7 ≤ r.length) (hx : ¬ 127 < x.toNat) : run E (.call 220 [.t (.str (b :: x :: r))]) = some (.res [valX ⟨2, (IntKind.i64.wrap (ofBytes 0 (x :: r.take 7) - 4611686018427387904)), []⟩, .t (.str (r.drop 7)), .t (.bool true)] []) := by
  rw [run_call E 220 _ rfl Tryz.func220 rfl rfl rfl (by simp)]
  have d := d220_30
  simp [regionOf, findR, pick, Tryz.f220] at d
  have dd := fun st => run_region_draw E st 30 _ d
  clear d
  have hl : ¬ ((r.length : Int) + 1 + 1 < 9) := by omega
  have hs : ∀ n : Nat, ((n : Int) + 1 + 1 = 0) = False := fun n => by simp; omega
  have hx' : ¬ (127 : Int) < (x.toNat : Int) := by omega
  have hc : 9 ≤ r.length + 1 + 1 := by omega
  have ho := l01Of (x :: r.take 7) (by simp; omega)
  simp [dd, wrap_of, succ_ne, hb, hl, hs, hx', hc, ho]
/-- As l01Next answers. -/
def nextX : Option (Val × Bytes) → List X
  | some (v, r) => [valX v, xS r, xB true]
  | none => [valX ⟨0, 0, []⟩, xS [], xB false]
theorem l01Next (t : Bytes) (ht : t.length < 9223372036854775807) : run E (.call 220 [xS t]) = some (.res (nextX (nextP t)) []) := by
  cases t with
  | nil =>
    rw [run_call E 220 _ rfl Tryz.func220 rfl rfl rfl (by simp)]
    simp [nextP, nextX]
  | cons b r =>
    unfold nextP
    by_cases h0 : b.toNat = 0
    · simp only [h0, if_true, nextX]
      exact l01Next_null b r h0
    · by_cases h1 : b.toNat = 1
      · simp only [h1, Nat.one_ne_zero, if_false, if_true]
        cases r with
        | nil => exact l01Next_bool_short b h1
        | cons x r => exact l01Next_bool b x r h1
      · by_cases h2 : b.toNat = 2
        · simp only [h0, h1, h2, if_false, if_true]
          by_cases hl : r.length < 8
          · simp only [hl, if_true, nextX]
            exact l01Next_int_short b r h2 hl
          · cases r with
            | nil => simp at hl
            | cons x r =>
              simp only [List.length_cons] at hl
              by_cases hx : 127 < x.toNat
              · have h8 : ¬ (x :: r).length < 8 := by simp; omega
                simp only [h8, List.headD_cons, hx, if_true, if_false, nextX]
                exact l01Next_int_big b x r h2 (by omega) hx
              · have h8 : ¬ (x :: r).length < 8 := by simp; omega
                simp only [h8, List.headD_cons, hx, if_true, if_false, nextX, List.take_succ_cons, List.drop_succ_cons]
                exact l01Next_int b x r h2 (by omega) hx
        · by_cases h3 : b.toNat = 3 ∨ b.toNat = 4 ∨ b.toNat = 5
          · simp only [h0, h1, h2, h3, if_false, if_true]
            match r with
            | [] => exact l01Next_short b [] h3 (by simp)
            | [x] => exact l01Next_short b [x] h3 (by simp)
            | x :: y :: r' =>
              simp only
              by_cases hl : r'.length < two x y
              · simp only [hl, if_true, nextX]
                exact l01Next_long b x y r' h3 hl
              · simp only [hl, if_false, nextX]
                exact l01Next_text b x y r' h3 (by omega)
          · simp only [h0, h1, h2, h3, if_false, nextX]
            exact l01Next_other b r h0 h1 h2 (by omega) (by omega) (by omega)
end Go.Zd
/- spec's l01Items, l01Fields. -/
set_option linter.unusedSimpArgs false
set_option linter.unusedVariables false
namespace Go.Zd
open Go.Ev Go.Proofs Go.Pu
set_option maxRecDepth 100000
set_option maxHeartbeats 8000000
def itemsX : Option (List Val) → List X
  | some xs => [.row 25 (xs.map valT), xB true]
  | none => [.row 25 [], xB false]
theorem l01Items (t : Bytes) (ht : t.length < 4294967296) : run E (.call 164 [xS t]) = some (.res (itemsX (itemsP t)) []) := by
  rw [run_call E 164 _ rfl Tryz.func164 rfl rfl rfl (by simp)]
  have lp := fun (res : Option (List Val)) (hres : itemsP t = res) => sk1 (fun s o q hI => loop_wf (c := loopAt Tryz.f164 0) (N := 27)
    (fun k s o q => ∃ r body xs, s 0 = .t (.str body) ∧ s 4 = .row r ∧ o r = .row 25 (xs.map valT) true ∧ r < q ∧ body.length = k ∧ itemsP t = (itemsP body).map (xs ++ ·) ∧ xs.length + body.length ≤ t.length)
    (fun e s' o' q' => ∃ r, match (generalizing := false) res with
      | some L => e = .exit 0 ∧ s' 4 = .row r ∧ o' r = .row 25 (L.map valT) true
      | none => e = .ret ∧ s' 2 = .row r ∧ s' 3 = .t (.bool false) ∧ o' r = .row 25 [] true)
    (by
      rintro k s o q ⟨r, body, xs, h0, h4, ho, hrq, hk, hit, hl⟩
      cases body with
      | nil =>
        rw [hres] at hit
        simp [itemsP_nil] at hit
        subst hit
        simp [loopAt, loopsOf, Tryz.f164, h0, h4, ho]
      | cons b u =>
        have hn := l01Next (b :: u) (by simp at hl ⊢; omega)
        have hpos : (0 : Int) < (u.length : Int) + 1 := by omega
        have hrn : r ≠ q := by omega
        have hrn1 : r ≠ q + 1 := by omega
        have hqn : q ≠ r := by omega
        cases hnx : nextP (b :: u) with
        | none =>
          rw [itemsP_none hnx, Option.map_none] at hit
          rw [hres] at hit
          subst hit
          simp [hnx, nextX] at hn
          simp [loopAt, loopsOf, Tryz.f164, h0, h4, ho, hn, hpos]
        | some p =>
          obtain ⟨v, rest⟩ := p
          have hlen := (nextP_len hnx).1
          rw [itemsP_some hnx] at hit
          simp [hnx, nextX] at hn
          have hx1 : xs.length + 1 ≤ 140737488355328 := by simp at hl; omega
          have hx2 : (xs.length + 1) * 32 ≤ 140737488355328 := by simp at hl; omega
          simp [loopAt, loopsOf, Tryz.f164, h0, h4, ho, hn, hpos, hrn, hrn1, hqn, hx1, hx2]
          refine ⟨rest.length, by simp at hk hlen; omega, xs ++ [v], by simp, rfl, ?_, by simp at hl hlen ⊢; omega⟩
          rw [hit, Option.map_map]
          congr 1
          funext l
          simp)
    t.length s o q hI)
  simp only [loopAt, loopsOf, Tryz.f164] at lp
  cases hres : itemsP t with
  | some L =>
    obtain ⟨X, A, B, C, M, hx⟩ := lp _ hres
    have hx' := fun s o q r a0 a4 a5 a6 => hx s o q ⟨r, t, [], a0, a4, a5, a6, rfl, by simp, by simp⟩
    clear hx
    simp at hx'
    simp [hx', itemsX]
  | none =>
    obtain ⟨X, A, B, C, M, hx⟩ := lp _ hres
    have hx' := fun s o q r a0 a4 a5 a6 => hx s o q ⟨r, t, [], a0, a4, a5, a6, rfl, by simp [hres], by simp⟩
    clear hx
    simp at hx'
    simp [hx', itemsX]
def fieldsX : Option (List Fld) → List X
  | some xs => [.row 198 (xs.map fldT), xB true]
  | none => [.row 198 [], xB false]
theorem l01Fields (t : Bytes) (ht : t.length < 4294967296) : run E (.call 165 [xS t]) = some (.res (fieldsX (fieldsP t)) []) := by
  rw [run_call E 165 _ rfl Tryz.func165 rfl rfl rfl (by simp)]
  have lp := fun (res : Option (List Fld)) (hres : fieldsP t = res) => sk1 (fun s o q hI => loop_wf (c := loopAt Tryz.f165 0) (N := 47)
    (fun k s o q => ∃ r body xs, s 0 = .t (.str body) ∧ s 4 = .row r ∧ o r = .row 198 (xs.map fldT) true ∧ r < q ∧ body.length = k ∧ fieldsP t = (fieldsP body).map (xs ++ ·) ∧ xs.length + body.length ≤ t.length)
    (fun e s' o' q' => ∃ r, match (generalizing := false) res with
      | some L => e = .exit 0 ∧ s' 4 = .row r ∧ o' r = .row 198 (L.map fldT) true
      | none => e = .ret ∧ s' 2 = .row r ∧ s' 3 = .t (.bool false) ∧ o' r = .row 198 [] true)
    (by
      rintro k s o q ⟨r, body, xs, h0, h4, ho, hrq, hk, hit, hl⟩
      cases body with
      | nil =>
        rw [hres] at hit
        simp [fieldsP_nil] at hit
        subst hit
        simp [loopAt, loopsOf, Tryz.f165, h0, h4, ho]
      | cons b u =>
        have hb := b.toNat_lt
        have hpos : (0 : Int) < (u.length : Int) + 1 := by omega
        have hrn : r ≠ q := by omega
        have hrn1 : r ≠ q + 1 := by omega
        have hqn : q ≠ r := by omega
        have hwb := wrap_byte b
        have hw1 : IntKind.i64.wrap (1 + (b.toNat : Int)) = 1 + (b.toNat : Int) := wrap_of (by omega) (by omega)
        by_cases hs : u.length < b.toNat
        · have hs' : (u.length : Int) + 1 < 1 + (b.toNat : Int) := by omega
          rw [fieldsP_short hs, Option.map_none] at hit
          rw [hres] at hit
          subst hit
          simp [loopAt, loopsOf, Tryz.f165, h0, h4, ho, hpos, succ_ne, hwb, hw1, hs']
        · have hs' : ¬ (u.length : Int) + 1 < 1 + (b.toNat : Int) := by omega
          have hn := l01Next (u.drop b.toNat) (by simp at hl ⊢; omega)
          have hn0 : (0 : Int) ≤ 1 + (b.toNat : Int) := by omega
          have hn1 : (1 + (b.toNat : Int)).toNat = b.toNat + 1 := by omega
          have hn2 : b.toNat ≤ u.length := by omega
          cases hnx : nextP (u.drop b.toNat) with
          | none =>
            rw [fieldsP_none hs hnx, Option.map_none] at hit
            rw [hres] at hit
            subst hit
            simp [hnx, nextX] at hn
            simp [loopAt, loopsOf, Tryz.f165, h0, h4, ho, hn, hpos, succ_ne, hwb, hw1, hs', hn0, hn1, hn2]
          | some p =>
            obtain ⟨v, rest⟩ := p
            have hlen := (nextP_len hnx).1
            rw [fieldsP_some hs hnx] at hit
            simp [hnx, nextX] at hn
            have hx1 : xs.length + 1 ≤ 140737488355328 := by simp at hl; omega
            have hx2 : (xs.length + 1) * 48 ≤ 140737488355328 := by simp at hl; omega
            simp [loopAt, loopsOf, Tryz.f165, h0, h4, ho, hn, hpos, hrn, hrn1, hqn, hx1, hx2, succ_ne, hwb, hw1, hs', hn0, hn1, hn2]
            refine ⟨rest.length, by simp at hk hlen; omega, xs ++ [⟨u.take b.toNat, v⟩], by simp, rfl, ?_, by simp at hl hlen ⊢; omega⟩
            rw [hit, Option.map_map]
            congr 1
            funext l
            simp)
    t.length s o q hI)
  simp only [loopAt, loopsOf, Tryz.f165] at lp
  cases hres : fieldsP t with
  | some L =>
    obtain ⟨X, A, B, C, M, hx⟩ := lp _ hres
    have hx' := fun s o q r a0 a4 a5 a6 => hx s o q ⟨r, t, [], a0, a4, a5, a6, rfl, by simp, by simp⟩
    clear hx
    simp at hx'
    simp [hx', fieldsX]
  | none =>
    obtain ⟨X, A, B, C, M, hx⟩ := lp _ hres
    have hx' := fun s o q r a0 a4 a5 a6 => hx s o q ⟨r, t, [], a0, a4, a5, a6, rfl, by simp [hres], by simp⟩
    clear hx
    simp at hx'
    simp [hx', fieldsX]
end Go.Zd
