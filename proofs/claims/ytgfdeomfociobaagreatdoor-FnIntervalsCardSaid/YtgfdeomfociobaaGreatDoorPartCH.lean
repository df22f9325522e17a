/- One value against a term: spec's l03One whole, impl's holds. -/
import Derived.Test.YtgfdeomfociobaaGreatDoorPartCG
import Derived.Test.YtgfdeomfociobaaGreatDoorPartCF
set_option linter.unusedSimpArgs false
set_option linter.unusedVariables false
namespace Go.Yd
open Go.Ev Go.Proofs Go.Pu
set_option maxRecDepth 100000
set_option maxHeartbeats 16000000
theorem implOne_small (t : Trm) (x : Val) (h1 : 1 ≤ t.op) (h2 : t.op ≤ 6) (hv : okP 5 t.v = true) (hx : okP 5 x = true) (hvl : t.v.t.length < 1048576) (hxl : x.t.length < 1048576) : run E (.call 268 [.t (trmT t), xV x]) = some (.res [xB (oneT t.op t.v x)] []) := by
  rw [run_call E 268 _ rfl Tryz.func268 rfl rfl rfl (by simp)]
  have ho := implOrder 5 x t.v hx hv (by omega) (by omega)
  have hop : t.op = 1 ∨ t.op = 2 ∨ t.op = 3 ∨ t.op = 4 ∨ t.op = 5 ∨ t.op = 6 := by omega
  have hs : sameV x t.v = decide (ordD 5 x t.v = 0) := by
    rw [Bool.eq_iff_iff]
    simp only [sameV, Bool.and_eq_true, beq_iff_eq, decide_eq_true_eq]
    constructor
    · rintro ⟨a, b, c⟩
      rw [val_eq a b c]
      exact ordD_refl 5 _ hv
    · intro h0
      rw [ordD_zero 5 x t.v hx hv h0]
      exact ⟨rfl, rfl, rfl⟩
  unfold oneT
  rw [hs]
  generalize ordD 5 x t.v = c at *
  clear hs
  cases hk : (x.k == t.v.k) <;> rcases hop with h | h | h | h | h | h <;> simp [h, ho, hk, beqd]
end Go.Yd
/- One value against a term: impl's holds, whole. -/
set_option linter.unusedSimpArgs false
set_option linter.unusedVariables false
namespace Go.Yd
open Go.Ev Go.Proofs Go.Pu
set_option maxRecDepth 100000
set_option maxHeartbeats 16000000
theorem indexVal (ys : List Val) (x : Val) (hl : ys.length < 4294967296) : run E (.call 375 [.t (.list (ys.map valT)), xV x]) = some (.res [xI (idxP (fun y => sameV x y) ys)] []) := by
  rw [run_call E 375 _ rfl Tryz.func375 rfl rfl rfl (by simp)]
  have d4 := d375_4
  simp [regionOf, findR, pick, Tryz.f375] at d4
  have dd := fun st => run_region_draw E st 4 _ d4
  clear d4
  have lp := fun (r : Int) (hr : r = idxP (fun y => sameV x y) ys) => sk (fun s o q hI => loop_for (c := loopAt Tryz.f375 0) (N := 19)
    (fun i s o q => s 0 = .t (.list (ys.map valT)) ∧ s 3 = .ptr 0 0 ∧ s 7 = .t (.int .i64 ys.length) ∧ s 8 = .t (.int .i64 i) ∧ o 0 = valBox x ∧ r = if idxP (fun y => sameV x y) (ys.drop i) < 0 then -1 else idxP (fun y => sameV x y) (ys.drop i) + i)
    (fun e s' o' q' => e = (if r < 0 then .exit 0 else .ret) ∧ (0 ≤ r → s' 4 = .t (.int .i64 r))) ys.length
    (by
      rintro i s o q hi ⟨h0, h3, h7, h8, ho, hr⟩
      have hd : ys.drop i = ys[i] :: ys.drop (i + 1) := by rw [List.drop_eq_getElem_cons hi]
      have hi' : (i : Int) < (ys.length : Int) := by omega
      have hw := wrap_succ (n := i) (by omega)
      have hyi : ys[i]? = some ys[i] := List.getElem?_eq_getElem hi
      rw [hd, idxP] at hr
      cases hpx : sameV x ys[i] with
      | true =>
        have hs := hpx
        unfold sameV at hs
        simp at hs
        simp [hpx] at hr
        have hr' : ¬ r < 0 := by omega
        simp [loopAt, loopsOf, Tryz.f375, dd, h0, h3, h7, h8, ho, hi, hi', hyi, hw, hs, hr', hr]
      | false =>
        have hs := hpx
        unfold sameV at hs
        simp [hpx] at hr
        have hr2 : r = if idxP (fun y => sameV x y) (ys.drop (i + 1)) < 0 then -1 else idxP (fun y => sameV x y) (ys.drop (i + 1)) + ((i : Int) + 1) := by
          rw [hr]
          by_cases hq : idxP (fun y => sameV x y) (ys.drop (i + 1)) < 0
          · simp [hq]
          · have : ¬ idxP (fun y => sameV x y) (ys.drop (i + 1)) + 1 < 0 := by omega
            simp [hq, this]; omega
        clear hr
        simp [loopAt, loopsOf, Tryz.f375, dd, h0, h3, h7, h8, ho, hi, hi', hyi, hw, hs]
        exact hr2)
    (by
      rintro s o q ⟨h0, h3, h7, h8, ho, hr⟩
      simp [idxP] at hr
      simp [loopAt, loopsOf, Tryz.f375, h0, h3, h7, h8, hr])
    ys.length 0 s o q (by omega) hI)
  simp only [loopAt, loopsOf, Tryz.f375] at lp
  obtain ⟨X, A, B, C, hx⟩ := lp _ rfl
  generalize (fun y => sameV x y) = p at *
  have hz : idxP p ys = if idxP p ys < 0 then -1 else idxP p ys := by
    cases ys with
    | nil => simp [idxP]
    | cons y r =>
      unfold idxP
      split
      · simp
      · split
        · simp
        · have : ¬ idxP p r + 1 < 0 := by omega
          simp [this]
  simp [← hz] at hx
  by_cases h : idxP p ys < 0
  · have h1 : idxP p ys = -1 := by rw [hz]; simp [h]
    simp [h] at hx
    simp [hx, h1]
  · have h2 : 0 ≤ idxP p ys := by omega
    simp [h, h2] at hx
    simp [hx]
theorem containsVal (ys : List Val) (x : Val) (hl : ys.length < 4294967296) : run E (.call 342 [.t (.list (ys.map valT)), xV x]) = some (.res [xB (ys.any (fun y => sameV x y))] []) := by
  rw [run_call E 342 _ rfl Tryz.func342 rfl rfl rfl (by simp)]
  have h := indexVal ys x hl
  have hn := idxP_neg (fun y => sameV x y) ys
  generalize (fun y => sameV x y) = p at *
  cases hb : ys.any p with
  | true =>
    have h0 : 0 ≤ idxP p ys := by
      have : ¬ idxP p ys < 0 := by rw [hn]; simp [hb, -List.any_eq_true]
      omega
    simp [h, h0]
  | false =>
    have h0 : ¬ 0 ≤ idxP p ys := by
      have : idxP p ys < 0 := by rw [hn]; simp [hb, -List.any_eq_false]
      omega
    simp [h, h0]
end Go.Yd
/- One value against a term: impl's holds, whole; a term against a document: spec. -/
set_option linter.unusedSimpArgs false
set_option linter.unusedVariables false
namespace Go.Yd
open Go.Ev Go.Proofs Go.Pu
set_option maxRecDepth 100000
set_option maxHeartbeats 16000000
theorem sameV_comm (a b : Val) : sameV a b = sameV b a := by
  rw [Bool.eq_iff_iff]
  simp only [sameV, Bool.and_eq_true, beq_iff_eq]
  constructor <;> rintro ⟨h1, h2, h3⟩ <;> exact ⟨h1.symm, h2.symm, h3.symm⟩
theorem implOne (t : Trm) (x : Val) (hop : (1 ≤ t.op ∧ t.op ≤ 7) ∨ t.op = 9 ∨ t.op = 10) (h74 : t.op = 7 → t.v.k = 4) (hv : okP 5 t.v = true) (hx : okP 5 x = true) (hvl : t.v.t.length < 1048576) (hxl : x.t.length < 1048576) : run E (.call 268 [.t (trmT t), xV x]) = some (.res [xB (oneT t.op t.v x)] []) := by
  by_cases h6 : 1 ≤ t.op ∧ t.op ≤ 6
  · exact implOne_small t x h6.1 h6.2 hv hx hvl hxl
  rw [run_call E 268 _ rfl Tryz.func268 rfl rfl rfl (by simp)]
  have ho := implOrder 5 x t.v hx hv (by omega) (by omega)
  have h9 : t.op = 7 ∨ t.op = 9 ∨ t.op = 10 := by omega
  clear h6
  rcases h9 with h | h | h
  · obtain ⟨e, ys, _, _, hit, _⟩ := okP_list hv (h74 h)
    have hi := implItems t.v (by omega)
    rw [itemsI_some hit] at hi
    simp at hi
    have hc := containsVal ys x (by have := (items_small hit).1; omega)
    have e1 : oneT t.op t.v x = ys.any (fun y => sameV x y) := by
      simp only [oneT, h]
      simp [itemsL, hit]
      congr 1
      funext y
      exact sameV_comm y x
    rw [e1]
    generalize (ys.any fun y => sameV x y) = b at *
    simp [h, ho, hi, hc]
  · simp [oneT, h, ho]
  · by_cases hk : x.k = 4
    · obtain ⟨e, ys, _, _, hit, _⟩ := okP_list hx hk
      have hi := implItems x (by omega)
      rw [itemsI_some hit] at hi
      simp at hi
      have eL : itemsL x.t = ys := by simp [itemsL, hit]
      have ek : (x.k = 4) = True := eq_true hk
      have en : ((ys.length : Int) = t.v.n) = True ∨ ((ys.length : Int) = t.v.n) = False := by by_cases h : (ys.length : Int) = t.v.n <;> simp [h]
      have e1 : oneT t.op t.v x = decide ((ys.length : Int) = t.v.n) := by
        simp only [oneT, h]
        simp [beqd, ek, eL]
      rw [e1]
      clear hk
      rcases en with en | en <;> simp [h, ho, hi, ek, en, beqd]
    · have hi := implItems x (by omega)
      have ek : (x.k = 4) = False := eq_false hk
      have e1 : oneT t.op t.v x = false := by
        simp only [oneT, h]
        simp [beqd, ek]
      rw [e1]
      clear hk
      simp [h, ho, hi, ek, beqd]
end Go.Yd
/- A term against a document: spec's l03Term, TermMatches. -/
set_option linter.unusedSimpArgs false
set_option linter.unusedVariables false
namespace Go.Yd
open Go.Ev Go.Proofs Go.Pu
set_option maxRecDepth 100000
set_option maxHeartbeats 16000000
theorem okP_up : ∀ (d e : Nat) (v : Val), d ≤ e → okP d v = true → okP e v = true
  | 0, e, v, _, h => by
    unfold okP at h ⊢
    split at h
    · rename_i hk; simp only [hk, if_true]; exact h
    · rename_i h0
      split at h
      · rename_i h1; simp only [h1]; simpa using h
      · rename_i h1
        split at h
        · rename_i h2; simp only [h2]; simpa using h
        · rename_i h2
          split at h
          · rename_i h3; simp only [h3]; simpa using h
          · cases h
  | d + 1, 0, v, hle, _ => by omega
  | d + 1, e + 1, v, hle, h => by
    by_cases h4 : v.k = 4
    · obtain ⟨d', xs, hd, hn, hi, hx⟩ := okP_list h h4
      obtain rfl : d = d' := by omega
      have hl : v.t.length ≤ 300 := by unfold okP at h; simp [h4] at h; exact h.1.2
      unfold okP
      simp [h4, hn, hi, hl]
      exact fun x hm => okP_up d e x (by omega) (hx x hm)
    · by_cases h5 : v.k = 5
      · obtain ⟨d', fs, hd, hn, hi, hr, hx⟩ := okP_doc h h5
        obtain rfl : d = d' := by omega
        have hl : v.t.length ≤ 300 := by unfold okP at h; simp [h5] at h; exact h.1.2
        unfold okP
        simp [h5, hn, hi, hr, hl]
        exact fun f hm => ⟨(hx f hm).1, okP_up d e f.v (by omega) (hx f hm).2⟩
      · unfold okP at h ⊢
        simp only [h4, h5, if_false] at h ⊢
        exact h
theorem okP_size {d : Nat} {v : Val} (h : okP d v = true) : v.t.length ≤ 300 := by
  by_cases h3 : v.k = 3
  · unfold okP at h; simp [h3] at h; exact h.2
  by_cases h4 : v.k = 4
  · obtain ⟨e, _, rfl, _⟩ := okP_list h h4
    unfold okP at h; simp [h4] at h; exact h.1.2
  by_cases h5 : v.k = 5
  · obtain ⟨e, _, rfl, _⟩ := okP_doc h h5
    unfold okP at h; simp [h5] at h; exact h.1.2
  rw [okP_small h h3 h4 h5]; simp
end Go.Yd
/- A term against a document: spec's l03Term. -/
set_option linter.unusedSimpArgs false
set_option linter.unusedVariables false
namespace Go.Yd
open Go.Ev Go.Proofs Go.Pu
set_option maxRecDepth 100000
set_option maxHeartbeats 16000000
theorem getP_ok : ∀ (ws : List Bytes) (d : Nat) (v : Val), d ≤ 5 → okP d v = true → ∀ y ∈ getP ws v, okP 5 y = true
  | [], d, v, hd, h, y, hy => by
    unfold getP at hy
    rcases List.mem_cons.1 hy with rfl | hy
    · exact okP_up d 5 _ hd h
    · by_cases h4 : v.k = 4
      · obtain ⟨e, xs, he, _, hi, hx⟩ := okP_list h h4
        rw [if_pos h4] at hy
        simp [itemsL, hi] at hy
        exact okP_up e 5 y (by omega) (hx y hy)
      · rw [if_neg h4] at hy; simp at hy
  | w :: ws, d, v, hd, h, y, hy => by
    have one : ∀ (e : Nat) (x : Val), e ≤ 5 → okP e x = true → x.k = 5 → y ∈ oneP w ws x → okP 5 y = true := by
      intro e x he hx hk hy
      unfold oneP at hy
      cases hf : fieldP x w with
      | none => rw [hf] at hy; simp at hy
      | some z =>
        rw [hf] at hy
        simp only at hy
        obtain ⟨e', fs, he', _, hi, _, hall⟩ := okP_doc hx hk
        unfold fieldP fieldsL at hf
        rw [hi] at hf
        simp only [Option.getD_some, Option.map_eq_some_iff] at hf
        obtain ⟨f, h1, rfl⟩ := hf
        exact getP_ok ws e' f.v (by omega) (hall f (List.mem_of_find?_eq_some h1)).2 y hy
    rw [getP_cons] at hy
    by_cases h5 : v.k = 5
    · rw [if_pos h5] at hy
      exact one d v hd h h5 hy
    · rw [if_neg h5] at hy
      by_cases h4 : v.k = 4
      · obtain ⟨e, xs, he, _, hi, hx⟩ := okP_list h h4
        rw [if_pos h4] at hy
        have e : itemsL v.t = xs := by simp [itemsL, hi]
        rw [e, List.mem_flatMap] at hy
        obtain ⟨x, hm, hy⟩ := hy
        by_cases hk : x.k = 5
        · rw [if_pos hk] at hy
          exact one _ x (by omega) (hx x hm) hk hy
        · rw [if_neg hk] at hy; simp at hy
      · rw [if_neg h4] at hy; simp at hy
abbrev nulV : Val := ⟨0, 0, []⟩
/-- What stands against a term. -/
def standP (t : Trm) (doc : Val) : List Val := if (getP (cutP 46 t.path) doc).length = 0 ∧ t.op ≠ 9 then [nulV] else getP (cutP 46 t.path) doc
def matchT (t : Trm) (doc : Val) : Bool :=
  if t.op = 8 then (decide (0 < (getP (cutP 46 t.path) doc).length) == decide (t.v.n = 1))
  else (((standP t doc).any (oneT t.op t.v)) != decide (t.op = 2))
end Go.Yd
/- A term against a document: spec's l03Term, whole. -/
set_option linter.unusedSimpArgs false
set_option linter.unusedVariables false
namespace Go.Yd
open Go.Ev Go.Proofs Go.Pu
set_option maxRecDepth 100000
set_option maxHeartbeats 16000000
end Go.Yd
/- spec's TermMatches. -/
set_option linter.unusedSimpArgs false
set_option linter.unusedVariables false
namespace Go.Yd
open Go.Ev Go.Proofs Go.Pu
set_option maxRecDepth 100000
set_option maxHeartbeats 16000000
theorem opOK_range {op : Int} {v : Val} (h : opOK op v = true) : 1 ≤ op ∧ op ≤ 10 := by
  unfold opOK at h
  split at h
  · omega
  · split at h
    · omega
    · split at h
      · omega
      · split at h
        · omega
        · simp at h; omega
end Go.Yd
/- slices.IndexFunc, slices.ContainsFunc over values, with a method value. -/
set_option linter.unusedSimpArgs false
set_option linter.unusedVariables false
namespace Go.Yd
open Go.Ev Go.Proofs Go.Pu
set_option maxRecDepth 100000
set_option maxHeartbeats 4000000
theorem peekL_t (st : St) : ∀ (c : List T), (∀ y ∈ c, y.one = true) → st.peekL (c.map SV.t) = some c
  | [], _ => rfl
  | y :: r, h => by
    have h1 := h y (by simp)
    simp only [List.map_cons, St.peekL, St.peek1, h1, if_true, peekL_t st r (fun z hz => h z (by simp [hz]))]
theorem indexFunc_206_m (xs : List Val) (g : Nat) (c : List T) (hc : ∀ y ∈ c, y.one = true) (p : Val → Bool) (hl : xs.length < 9223372036854775807) (hm : E.md g = []) (hf : E.flat g = true) (hp : ∀ x ∈ xs, run E (.call g [.t (.agg c), .t (valT x)]) = some (.res [xB (p x)] [])) :
    run E (.call 340 [.t (.list (xs.map valT)), .meth g [.agg c]]) = some (.res [xI (idxP p xs)] []) := by
  rw [run_call E 340 _ rfl Tryz.func340 rfl rfl rfl (by simp)]
  rw [E_md] at hm
  have hpk := fun st => peekL_t st c hc
  have lp := fun (r : Int) (hr : r = idxP p xs) => sk (fun s o q hI => loop_for (c := loopAt Tryz.f340 0) (N := 19)
    (fun i s o q => s 0 = .t (.list (xs.map valT)) ∧ s 1 = .meth g [.agg c] ∧ s 7 = .t (.int .i64 xs.length) ∧ s 8 = .t (.int .i64 i) ∧ r = if idxP p (xs.drop i) < 0 then -1 else idxP p (xs.drop i) + i)
    (fun e s' o' q' => e = (if r < 0 then .exit 0 else .ret) ∧ (0 ≤ r → s' 4 = .t (.int .i64 r))) xs.length
    (by
      rintro i s o q hi ⟨h0, h1, h7, h8, hr⟩
      have hd : xs.drop i = xs[i] :: xs.drop (i + 1) := by rw [List.drop_eq_getElem_cons hi]
      have hi' : (i : Int) < (xs.length : Int) := by omega
      have hw := wrap_succ (n := i) (by omega)
      have hx := hp xs[i] (List.getElem_mem hi)
      rw [hd, idxP] at hr
      cases hpx : p xs[i] with
      | true =>
        simp [hpx] at hr hx
        have hr' : ¬ r < 0 := by omega
        simp [-mdOf, loopAt, loopsOf, Tryz.f340, h0, h1, h7, h8, hi, hi', hx, hw, hm, hf, hpk, hr', hr]
      | false =>
        simp [hpx] at hr hx
        have hr2 : r = if idxP p (xs.drop (i + 1)) < 0 then -1 else idxP p (xs.drop (i + 1)) + ((i : Int) + 1) := by
          rw [hr]
          by_cases hq : idxP p (xs.drop (i + 1)) < 0
          · simp [hq]
          · have : ¬ idxP p (xs.drop (i + 1)) + 1 < 0 := by omega
            simp [hq, this]; omega
        clear hr
        simp [-mdOf, loopAt, loopsOf, Tryz.f340, h0, h1, h7, h8, hi, hi', hx, hw, hm, hf, hpk]
        exact hr2)
    (by
      rintro s o q ⟨h0, h1, h7, h8, hr⟩
      simp [idxP] at hr
      simp [loopAt, loopsOf, Tryz.f340, h0, h1, h7, h8, hr])
    xs.length 0 s o q (by omega) hI)
  simp only [loopAt, loopsOf, Tryz.f340] at lp
  obtain ⟨X, A, B, C, hx⟩ := lp _ rfl
  have hz : idxP p xs = if idxP p xs < 0 then -1 else idxP p xs := by
    cases xs with
    | nil => simp [idxP]
    | cons x r =>
      unfold idxP
      split
      · simp
      · split
        · simp
        · have : ¬ idxP p r + 1 < 0 := by omega
          simp [this]
  simp [← hz] at hx
  by_cases h : idxP p xs < 0
  · have h1 : idxP p xs = -1 := by rw [hz]; simp [h]
    simp [h] at hx
    simp [hx, h1]
  · have h2 : 0 ≤ idxP p xs := by omega
    simp [h, h2] at hx
    simp [hx]
theorem containsFunc_143_m (xs : List Val) (g : Nat) (c : List T) (hc : ∀ y ∈ c, y.one = true) (p : Val → Bool) (hl : xs.length < 9223372036854775807) (hm : E.md g = []) (hf : E.flat g = true) (hp : ∀ x ∈ xs, run E (.call g [.t (.agg c), .t (valT x)]) = some (.res [xB (p x)] [])) :
    run E (.call 267 [.t (.list (xs.map valT)), .meth g [.agg c]]) = some (.res [xB (xs.any p)] []) := by
  rw [run_call E 267 _ rfl Tryz.func267 rfl rfl rfl (by simp)]
  have h := indexFunc_206_m xs g c hc p hl hm hf hp
  simp [h, idxP_ge]
end Go.Yd
/- A term against a document: impl's matches; TermMatches of both; the law. -/
set_option linter.unusedSimpArgs false
set_option linter.unusedVariables false
namespace Go.Yd
open Go.Ev Go.Proofs Go.Pu
set_option maxRecDepth 100000
set_option maxHeartbeats 16000000
theorem implTerm (t : Trm) (doc : Val) (d : Nat) (hd : d ≤ 5) (hop : 1 ≤ t.op ∧ t.op ≤ 10) (h74 : t.op = 7 → t.v.k = 4) (hp : t.path.length < 4294967295) (hv : okP 5 t.v = true) (hdoc : okP d doc = true) : run E (.call 162 [.t (trmT t), xV doc]) = some (.res [xB (matchT t doc)] []) := by
  rw [run_call E 162 _ rfl Tryz.func162 rfl rfl rfl (by simp)]
  have hds := okP_size hdoc
  have h1 := getPath d doc t.path hdoc (by omega) hp
  have hgl := getP_len (cutP 46 t.path) doc
  have hgo := getP_ok (cutP 46 t.path) d doc hd hdoc
  have d6 := d162_6
  simp [regionOf, findR, pick, Tryz.f162] at d6
  have dd := fun st => run_region_draw E st 6 _ d6
  clear d6
  have hvs := okP_size hv
  unfold matchT standP
  generalize getP (cutP 46 t.path) doc = vs at *
  by_cases h8 : t.op = 8
  · rw [if_pos h8]
    have e8 : (t.op = 8) = True := eq_true h8
    clear h8
    have en : (t.v.n = 1) = True ∨ (t.v.n = 1) = False := by by_cases h : t.v.n = 1 <;> simp [h]
    have hc : ((0 : Int) < (vs.length : Int)) = (0 < vs.length) := by simp
    have el : (0 < vs.length) = True ∨ (0 < vs.length) = False := by by_cases h : 0 < vs.length <;> simp [h]
    rcases en with en | en <;> rcases el with el | el <;> simp [e8, h1, en, el, hc, beqd]
  · rw [if_neg h8]
    have e8 : (t.op = 8) = False := eq_false h8
    have hopp : (1 ≤ t.op ∧ t.op ≤ 7) ∨ t.op = 9 ∨ t.op = 10 := by omega
    clear h8
    have e2 : (t.op = 2) = True ∨ (t.op = 2) = False := by by_cases h : t.op = 2 <;> simp [h]
    by_cases hz : vs.length = 0 ∧ t.op ≠ 9
    · rw [if_pos hz]
      have hcf := containsFunc_143_m [nulV] 268 [.int .i64 t.op, .str t.path, .int .i64 t.v.k, .int .i64 t.v.n, .str t.v.t] (by simp) (oneT t.op t.v) (by simp) rfl (by simp) (by intro y hy; simp at hy; subst hy; exact implOne t nulV hopp h74 hv (by simp [okP]) (by omega) (by simp))
      have hv0 : vs = [] := by cases vs with | nil => rfl | cons => simp at hz
      subst hv0
      have e9 : (t.op = 9) = False := eq_false hz.2
      clear hz
      generalize [nulV].any (oneT t.op t.v) = b at *
      simp at h1 hcf
      cases b <;> rcases e2 with e2 | e2 <;> simp [e8, e9, e2, h1, hcf, dd]
    · rw [if_neg hz]
      have hcf := containsFunc_143_m vs 268 [.int .i64 t.op, .str t.path, .int .i64 t.v.k, .int .i64 t.v.n, .str t.v.t] (by simp) (oneT t.op t.v) (by omega) rfl (by simp) (by intro y hy; exact implOne t y hopp h74 hv (hgo y hy) (by omega) (by have := okP_size (hgo y hy); omega))
      have e9 : (vs.length = 0) = False ∨ (t.op = 9) = True := by
        by_cases h : vs.length = 0
        · have : t.op = 9 := by
            by_cases h9 : t.op = 9
            · exact h9
            · exact absurd ⟨h, h9⟩ hz
          exact .inr (eq_true this)
        · exact .inl (eq_false h)
      clear hz
      generalize vs.any (oneT t.op t.v) = b at *
      try simp at hcf
      rcases e9 with e9 | e9
      · have e9n : ((vs.length : Int) = 0) = False := by simpa using e9
        have e9b : ((vs.length : Int) == 0) = false := by simpa using e9
        cases b <;> rcases e2 with e2 | e2 <;> simp [e8, e9b, e9n, e2, h1, hcf, dd]
      · have e0b : ((vs.length : Int) == 0) = true ∨ ((vs.length : Int) == 0) = false := by cases ((vs.length : Int) == 0) <;> simp
        rcases e0b with e0b | e0b <;> cases b <;> rcases e2 with e2 | e2 <;> simp only [e8, e9, e2, e0b] <;> simp [e8, e9, e2, e0b, h1, hcf, dd]
theorem implTermMatches (t : Trm) (doc : Val) (h : t.sm) (hd : doc.t.length < 4294967296) : run E (.call 61 [.t (trmT t), xV doc]) = some (.res [xB (termOK t && isDocP doc && matchT t doc), xI (if termOK t && isDocP doc then 0 else 1)] []) := by
  rw [run_call E 61 _ rfl Tryz.func61 rfl rfl rfl (by simp)]
  have h1 := implTermOK t h
  have h2 := isDoc doc hd
  cases ht : termOK t with
  | false => rw [ht] at h1; simp [h1]
  | true =>
    rw [ht] at h1
    cases hi : isDocP doc with
    | false => rw [hi] at h2; simp [h1, h2]
    | true =>
      rw [hi] at h2
      have hv : valueOK doc = true := by unfold isDocP at hi; simp at hi; exact hi.1
      have ht' := ht
      unfold termOK at ht'
      simp only [Bool.and_eq_true] at ht'
      have hop := opOK_range ht'.2
      have h74 : t.op = 7 → t.v.k = 4 := by
        intro h7
        have h3 := ht'.2
        rw [h7] at h3
        simpa [opOK] using h3
      have h3 := implTerm t doc 5 (by omega) hop h74 (by have := h.1; have hp := ht'.1.1; unfold pathOK at hp; simp at hp; omega) ht'.1.2 hv
      simp [h1, h2, h3]
end Go.Yd
/- Keys of values: spec's l04Raw and l04Key. -/
set_option linter.unusedSimpArgs false
set_option linter.unusedVariables false
namespace Go.Yd
open Go.Ev Go.Proofs Go.Pu
set_option maxRecDepth 100000
set_option maxHeartbeats 16000000
theorem flat_drop {α : Type} (f : α → Bytes) (l : List α) (i : Nat) (hi : i < l.length) : (l.drop i).flatMap f = f l[i] ++ (l.drop (i + 1)).flatMap f := by
  rw [List.drop_eq_getElem_cons hi, List.flatMap_cons]
theorem l04Raw_small (d : Nat) (v : Val) (h : okP d v = true) (hv : v.t.length < 1048576) (hk : v.k = 0 ∨ v.k = 1 ∨ v.k = 2 ∨ v.k = 3) : run E (.call 257 [xV v]) = some (.res [xS (keyD d v)] []) := by
  rw [run_call E 257 _ rfl Tryz.func257 rfl rfl rfl (by simp)]
  unfold keyD headK
  have hw : IntKind.i64.wrap (v.k + 1) = v.k + 1 := wrap_of (by omega) (by omega)
  have hn := l01Number (v.k + 1) 1 (by omega)
  have hm := l01Number v.n 1 (by omega)
  simp at hn hm
  have hl1 := numP_len (v.k + 1) 1
  have hl2 := numP_len v.n 1
  rcases hk with hk | hk | hk | hk
  · have e0 : (v.k = 0) = True := by rw [hk]; simp
    have e1 : (v.k = 1) = False := by rw [hk]; simp
    have e2 : (v.k = 2) = False := by rw [hk]; simp
    have e3 : (v.k = 3) = False := by rw [hk]; simp
    have e4 : (v.k = 4) = False := by rw [hk]; simp
    have e5 : (v.k = 5) = False := by rw [hk]; simp
    clear hk
    simp [e0, e1, e2, e3, e4, e5, hw, hn]
  · have e0 : (v.k = 0) = False := by rw [hk]; simp
    have e1 : (v.k = 1) = True := by rw [hk]; simp
    have e2 : (v.k = 2) = False := by rw [hk]; simp
    have e3 : (v.k = 3) = False := by rw [hk]; simp
    have e4 : (v.k = 4) = False := by rw [hk]; simp
    have e5 : (v.k = 5) = False := by rw [hk]; simp
    clear hk
    simp [e0, e1, e2, e3, e4, e5, hw, hn, hm, hl1, hl2]
  · have hb : -1000000000000 ≤ v.n ∧ v.n ≤ 1000000000000 := by unfold okP at h; simp [hk] at h; exact h.1
    have hw2 : IntKind.i64.wrap (v.n + 4611686018427387904) = v.n + 4611686018427387904 := wrap_of (by omega) (by omega)
    have hm8 := l01Number (v.n + 4611686018427387904) 8 (by omega)
    have hl8 := numP_len (v.n + 4611686018427387904) 8
    simp at hm8
    have e0 : (v.k = 0) = False := by rw [hk]; simp
    have e1 : (v.k = 1) = False := by rw [hk]; simp
    have e2 : (v.k = 2) = True := by rw [hk]; simp
    have e3 : (v.k = 3) = False := by rw [hk]; simp
    have e4 : (v.k = 4) = False := by rw [hk]; simp
    have e5 : (v.k = 5) = False := by rw [hk]; simp
    clear hk
    simp [e0, e1, e2, e3, e4, e5, hw, hw2, hn, hm8, hl1, hl8]
  · have he := l04Escape v.t (by omega)
    have hel := escP_len v.t
    have hle : 1 + (escP v.t).length ≤ 140737488355328 := by omega
    have e0 : (v.k = 0) = False := by rw [hk]; simp
    have e1 : (v.k = 1) = False := by rw [hk]; simp
    have e2 : (v.k = 2) = False := by rw [hk]; simp
    have e3 : (v.k = 3) = True := by rw [hk]; simp
    have e4 : (v.k = 4) = False := by rw [hk]; simp
    have e5 : (v.k = 5) = False := by rw [hk]; simp
    clear hk
    simp [e0, e1, e2, e3, e4, e5, hw, hn, he, hl1, hle]
theorem l04Raw : ∀ (d : Nat) (v : Val), okP d v = true → v.t.length < 1048576 → run E (.call 257 [xV v]) = some (.res [xS (keyD d v)] []) := by
  intro d
  induction d with
  | zero =>
    intro v h hv
    refine l04Raw_small 0 v h hv ?_
    unfold okP at h
    by_cases h0 : v.k = 0; · omega
    by_cases h1 : v.k = 1; · omega
    by_cases h2 : v.k = 2; · omega
    by_cases h3 : v.k = 3; · omega
    simp [h0, h1, h2, h3] at h
  | succ d ih =>
    intro v h hv
    by_cases hs : v.k = 0 ∨ v.k = 1 ∨ v.k = 2 ∨ v.k = 3
    · exact l04Raw_small (d + 1) v h hv hs
    have e0 : (v.k = 0) = False := by simp; omega
    have e1 : (v.k = 1) = False := by simp; omega
    have e2 : (v.k = 2) = False := by simp; omega
    have e3 : (v.k = 3) = False := by simp; omega
    have hlen := keyD_len (d + 1) v h
    have hn := l01Number (v.k + 1) 1 (by omega)
    simp at hn
    have hl1 := numP_len (v.k + 1) 1
    rw [run_call E 257 _ rfl Tryz.func257 rfl rfl rfl (by simp)]
    by_cases hk : v.k = 4
    · obtain ⟨e, xs, hd, _, hit, hx⟩ := okP_list h hk
      obtain rfl : d = e := by omega
      have hw : IntKind.i64.wrap (v.k + 1) = v.k + 1 := wrap_of (by omega) (by omega)
      have hi := l01Items v.t (by omega)
      rw [hit] at hi
      simp only [itemsX] at hi
      obtain ⟨hs1, hs2⟩ := items_small hit
      have e4 : (v.k = 4) = True := eq_true hk
      have eL : itemsL v.t = xs := by simp [itemsL, hit]
      clear hk
      have ekey : keyD (d + 1) v = headK v ++ xs.flatMap (keyD d) ++ [0] := by simp [keyD, e0, e1, e2, e3, e4, eL]
      rw [ekey] at hlen ⊢
      have hhead : headK v = numP (v.k + 1) 1 := rfl
      generalize hW : headK v = W at *
      have lp := fun (R : Bytes) (hR : R = W ++ xs.flatMap (keyD d)) => sk (fun s o q hI => loop_for (c := loopAt Tryz.f257 0) (N := 94)
        (fun i s o q => ∃ acc, s 3 = .t (.str acc) ∧ s 4 = .row 1 ∧ s 6 = .t (.int .i64 i) ∧ o 1 = .row 35 (xs.map valT) true ∧ R = acc ++ (xs.drop i).flatMap (keyD d))
        (fun e s' o' q' => e = .exit 1 ∧ s' 3 = .t (.str R)) xs.length
        (by
          rintro i s o q hi ⟨acc, h3, h4, h6, ho, hp⟩
          have hi' : (i : Int) < (xs.length : Int) := by omega
          have hwi := wrap_succ (n := i) (by omega)
          have hxi : xs[i]? = some xs[i] := List.getElem?_eq_getElem hi
          have hr := ih xs[i] (hx _ (List.getElem_mem hi)) (by have := hs2 _ (List.getElem_mem hi); omega)
          rw [flat_drop _ _ _ hi, ← List.append_assoc] at hp
          have hcat : acc.length + (keyD d xs[i]).length ≤ 140737488355328 := by
            have h1 := congrArg List.length hp
            have h2 := congrArg List.length hR
            simp at h1 h2 hlen
            omega
          simp [loopAt, loopsOf, Tryz.f257, h3, h4, h6, ho, hi, hi', hwi, hr, hcat, hxi]
          rw [hp, List.append_assoc])
        (by
          rintro s o q ⟨acc, h3, h4, h6, ho, hp⟩
          simp at hp
          simp [loopAt, loopsOf, Tryz.f257, h3, h4, h6, ho, hp])
        xs.length 0 s o q (by omega) hI)
      simp only [loopAt, loopsOf, Tryz.f257] at lp
      obtain ⟨X, A, B, C, hl⟩ := lp _ rfl
      have hl' := fun s o q a3 a4 a6 a0 => hl s o q ⟨W, a3, a4, a6, a0, by simp⟩
      clear hl lp
      simp at hl' hlen
      have hcat : W.length + ((xs.flatMap (keyD d)).length + 1) ≤ 140737488355328 := by simp; omega
      simp [e0, e1, e2, e3, e4, hw, hn, ← hhead, hi, hl', hcat]
      try (intro hcon; exfalso; omega)
    · have h5 : v.k = 5 := by
        unfold okP at h
        simp [e0, e1, e2, e3, hk] at h
        exact h.1
      obtain ⟨e, xs, hd, _, hit, _, hx⟩ := okP_doc h h5
      obtain rfl : d = e := by omega
      have hw : IntKind.i64.wrap (v.k + 1) = v.k + 1 := wrap_of (by omega) (by omega)
      have hi := l01Fields v.t (by omega)
      rw [hit] at hi
      simp only [fieldsX] at hi
      obtain ⟨hs1, hs2⟩ := fields_small hit
      have e4 : (v.k = 4) = False := eq_false hk
      have eL : fieldsL v.t = xs := by simp [fieldsL, hit]
      clear hk h5
      have ekey : keyD (d + 1) v = headK v ++ xs.flatMap (fun f => [1] ++ escP f.name ++ keyD d f.v) ++ [0] := by simp [keyD, e0, e1, e2, e3, e4, eL]
      rw [ekey] at hlen ⊢
      have hhead : headK v = numP (v.k + 1) 1 := rfl
      generalize hW : headK v = W at *
      have d22 := d257_22
      simp [regionOf, findR, pick, Tryz.f257] at d22
      have dd := fun st => run_region_draw E st 22 _ d22
      clear d22
      obtain ⟨F, hF⟩ : ∃ F : Fld → Bytes, F = (fun f => [1] ++ escP f.name ++ keyD d f.v) := ⟨_, rfl⟩
      have hFx : ∀ f, [1] ++ (escP f.name ++ keyD d f.v) = F f := by intro f; rw [hF]; simp
      have hFl : ∀ f, (F f).length = 1 + (escP f.name).length + (keyD d f.v).length := by intro f; rw [hF]; simp; omega
      rw [← hF] at hlen ⊢
      clear hF
      have lp := fun (R : Bytes) (hR : R = W ++ xs.flatMap F) => sk (fun s o q hI => loop_for (c := loopAt Tryz.f257 1) (N := 94)
        (fun i s o q => ∃ acc, s 3 = .t (.str acc) ∧ s 7 = .row 1 ∧ s 9 = .t (.int .i64 i) ∧ o 1 = .row 125 (xs.map fldT) true ∧ R = acc ++ (xs.drop i).flatMap F)
        (fun e s' o' q' => e = .exit 3 ∧ s' 3 = .t (.str R)) xs.length
        (by
          rintro i s o q hi ⟨acc, h3, h7, h9, ho, hp⟩
          have hi' : (i : Int) < (xs.length : Int) := by omega
          have hwi := wrap_succ (n := i) (by omega)
          have hxi : xs[i]? = some xs[i] := List.getElem?_eq_getElem hi
          have hsm := hs2 _ (List.getElem_mem hi)
          have hr := ih xs[i].v (hx _ (List.getElem_mem hi)).2 (by omega)
          have hen := l04Escape xs[i].name (by omega)
          rw [flat_drop _ _ _ hi, ← List.append_assoc] at hp
          have hcat : acc.length + (1 + (escP xs[i].name).length + (keyD d xs[i].v).length) ≤ 140737488355328 := by
            have h1 := congrArg List.length hp
            have h2 := congrArg List.length hR
            simp [hFl] at h1 h2 hlen
            omega
          have hcat1 : 1 + (escP xs[i].name).length ≤ 140737488355328 := by omega
          have hcat2 : 1 + (escP xs[i].name).length + (keyD d xs[i].v).length ≤ 140737488355328 := by omega
          have hF1 := hFx xs[i]
          simp at hF1
          simp [loopAt, loopsOf, Tryz.f257, dd, h3, h7, h9, ho, hi, hi', hwi, hr, hen, hcat, hcat1, hcat2, hxi]
          rw [if_pos (by omega), if_pos (by omega), hp, ← hF1]
          simp)
        (by
          rintro s o q ⟨acc, h3, h7, h9, ho, hp⟩
          simp at hp
          simp [loopAt, loopsOf, Tryz.f257, h3, h7, h9, ho, hp])
        xs.length 0 s o q (by omega) hI)
      simp only [loopAt, loopsOf, Tryz.f257] at lp
      obtain ⟨X, A, B, C, hl⟩ := lp _ rfl
      have hl' := fun s o q a3 a4 a6 a0 => hl s o q ⟨W, a3, a4, a6, a0, by simp⟩
      clear hl lp
      simp at hl' hlen
      have hcat : W.length + ((xs.flatMap F).length + 1) ≤ 140737488355328 := by simp; omega
      simp [e0, e1, e2, e3, e4, hw, hn, ← hhead, hi, hl', hcat]
      try (intro hcon; exfalso; omega)
theorem l04Key (d : Nat) (v : Val) (f : Bool) (h : okP d v = true) (hv : v.t.length < 1048576) : run E (.call 152 [xV v, xB f]) = some (.res [xS (if f then turnP (keyD d v) else keyD d v)] []) := by
  rw [run_call E 152 _ rfl Tryz.func152 rfl rfl rfl (by simp)]
  have h1 := l04Raw d v h hv
  have hl := keyD_len d v h
  have h2 := l04Turn (keyD d v) (by omega)
  cases f <;> simp [h1, h2]
end Go.Yd
/- Keys: impl's putText, eight, fallen. -/
set_option linter.unusedSimpArgs false
set_option linter.unusedVariables false
namespace Go.Yd
open Go.Ev Go.Proofs Go.Pu
set_option maxRecDepth 100000
set_option maxHeartbeats 16000000
theorem escGo_snoc (a : Bytes) (b : UInt8) : escGo (a ++ [b]) = escGo a ++ (if b = 0 then [b, 255] else [b]) := by
  induction a with
  | nil => simp [escGo]
  | cons c a ih => simp [escGo, ih]
theorem putText (acc t : Bytes) (ht : t.length < 4294967296) (ha : acc.length ≤ 70368744177664) : run E (.call 330 [.row 5 (acc.map byteT), xS t]) = some (.res [.row 5 ((acc ++ escP t).map byteT)] [none]) := by
  rw [run_call E 330 _ rfl Tryz.func330 rfl rfl rfl (by simp)]
  have lp := sk1 (fun s o q hI => loop_for (c := loopAt Tryz.f330 0) (N := 28)
    (fun i s o q => ∃ r, s 0 = .row r ∧ s 1 = .t (.str t) ∧ s 7 = .t (.int .i64 t.length) ∧ s 8 = .t (.int .i64 i) ∧ o r = .row 5 ((acc ++ escGo (t.take i)).map byteT) true ∧ r < q ∧ (r = 0 ∨ o 0 = .dead))
    (fun e s' o' q' => ∃ r, e = .exit 0 ∧ s' 0 = .row r ∧ o' r = .row 5 ((acc ++ escGo t).map byteT) true ∧ ¬ r = q' ∧ ¬ r = q' + 1 ∧ ¬ q' = r ∧ ¬ q' = 0 ∧ ¬ 0 = q' ∧ (if 0 = r then Ob.dead else o' 0) = .dead) t.length
    (by
      rintro i s o q hi ⟨r, h0, h1, h7, h8, ho, hrq, hdd⟩
      have hq0 : ¬ q = 0 := by omega
      have hq1 : ¬ 0 = q := by omega
      have hi' : (i : Int) < (t.length : Int) := by omega
      have hw := wrap_succ (n := i) (by omega)
      have hrn : r ≠ q := by omega
      have hrn2 : r ≠ q + 1 := by omega
      have hqn : q ≠ r := by omega
      have hl : (escGo (t.take i)).length ≤ 2 * i := by have := escGo_len (t.take i); simp at this; omega
      have htk : escGo (t.take (i + 1)) = escGo (t.take i) ++ (if t[i] = 0 then [t[i], 255] else [t[i]]) := by
        have e : t.take (i + 1) = t.take i ++ [t[i]] := by rw [List.take_add_one, List.getElem?_eq_getElem hi]; rfl
        rw [e]; exact escGo_snoc _ _
      have hlen : (acc ++ escGo (t.take i)).length + 2 ≤ 140737488355328 := by simp; omega
      rw [htk, ← List.append_assoc]
      generalize acc ++ escGo (t.take i) = l at *
      have hpl : l.length + 1 ≤ 140737488355328 := by omega
      have hpl2 : l.length + 1 + 1 ≤ 140737488355328 := by omega
      by_cases hz : t[i] = 0
      · simp [hz]
        rcases hdd with rfl | hdd
        · simp [loopAt, loopsOf, Tryz.f330, h0, h1, h7, h8, hi, hi', hw, ho, hrn, hrn2, hqn, hz, hpl, hpl2, hq0, hq1]
          try omega
        · by_cases hr0 : r = 0
          · subst hr0; rw [hdd] at ho; cases ho
          · have hr1 : ¬ 0 = r := fun h => hr0 h.symm
            simp [loopAt, loopsOf, Tryz.f330, h0, h1, h7, h8, hi, hi', hw, ho, hrn, hrn2, hqn, hz, hpl, hpl2, hq0, hq1, hdd, hr0, hr1]
            try omega
      · have hzn : ¬ ((t[i].toNat : Int) = 0) := by
          intro h; exact hz (UInt8.toNat_inj.1 (by simp; omega))
        simp [hz]
        rcases hdd with rfl | hdd
        · simp [loopAt, loopsOf, Tryz.f330, h0, h1, h7, h8, hi, hi', hw, ho, hrn, hrn2, hqn, hz, hzn, hpl, hpl2, hq0, hq1]
          try omega
        · by_cases hr0 : r = 0
          · subst hr0; rw [hdd] at ho; cases ho
          · have hr1 : ¬ 0 = r := fun h => hr0 h.symm
            simp [loopAt, loopsOf, Tryz.f330, h0, h1, h7, h8, hi, hi', hw, ho, hrn, hrn2, hqn, hz, hzn, hpl, hpl2, hq0, hq1, hdd, hr0, hr1]
            try omega)
    (by
      rintro s o q ⟨r, h0, h1, h7, h8, ho, hrq, hdd⟩
      have hq0 : ¬ q = 0 := by omega
      have hq1 : ¬ 0 = q := by omega
      simp only [List.take_length] at ho
      have hrn : r ≠ q := by omega
      have hrn2 : r ≠ q + 1 := by omega
      have hqn : q ≠ r := by omega
      generalize acc ++ escGo t = l at *
      simp [loopAt, loopsOf, Tryz.f330, h0, h1, h7, h8, ho, hrn, hrn2, hqn, hq0, hq1]
      rcases hdd with rfl | hdd
      · simp
      · simp [hdd])
    t.length 0 s o q (by omega) hI)
  simp only [loopAt, loopsOf, Tryz.f330] at lp
  obtain ⟨X, A, B, C, M, hx⟩ := lp
  have hx' := fun s o q r a0 a1 a7 a8 a9 a6 a5 => hx s o q ⟨r, a0, a1, a7, a8, by simpa [escGo] using a9, a6, a5⟩
  clear hx
  have hlen : (acc ++ escGo t).length + 2 ≤ 140737488355328 := by have := escGo_len t; simp; omega
  have hfin : (acc ++ escP t).map byteT = (acc ++ escGo t).map byteT ++ [.int .u8 0, .int .u8 0] := by simp [escP]
  rw [hfin]
  generalize acc ++ escGo t = l at *
  have hr2 : List.range 2 = [0, 1] := rfl
  simp [-ite_eq_left_iff] at hx'
  simp [hx', hlen, hr2]
end Go.Yd
/- Keys: impl's eight, fallen. -/
set_option linter.unusedSimpArgs false
set_option linter.unusedVariables false
namespace Go.Yd
open Go.Ev Go.Proofs Go.Pu
set_option maxRecDepth 100000
set_option maxHeartbeats 16000000
theorem numP_get (n : Int) : ∀ (k i : Nat), i < k → (numP n k)[i]? = some (byteAt n (k - 1 - i))
  | 0, i, h => by omega
  | k + 1, 0, h => by simp [numP]
  | k + 1, i + 1, h => by
    have := numP_get n k i (by omega)
    simp [numP, this]
    congr 1; omega
theorem eight (n : Int) : run E (.call 329 [xI n]) = some (.res [.row 5 ((numP n 8).map byteT)] []) := by
  rw [run_call E 329 _ rfl Tryz.func329 rfl rfl rfl (by simp)]
  obtain ⟨L, hL⟩ : ∃ L, L = (numP n 8).map byteT := ⟨_, rfl⟩
  have hLl : L.length = 8 := by rw [hL]; simp [numP_len]
  have lp := sk (fun s o q hI => loop_for (c := loopAt Tryz.f329 0) (N := 20)
    (fun i s o q => s 0 = .t (.int .i64 n) ∧ s 3 = .row 0 ∧ s 6 = .t (.int .i64 i) ∧ o 0 = .row 5 (L.take i ++ List.replicate (8 - i) (.int .u8 0)) true)
    (fun e s' o' q' => e = .exit 0 ∧ s' 3 = .row 0 ∧ o' 0 = .row 5 L true) 8
    (by
      rintro i s o q hi ⟨h0, h3, h6, ho⟩
      have hi' : (i : Int) < 8 := by omega
      have hw := wrap_succ (n := i) (by omega)
      obtain ⟨j, hj⟩ : ∃ j : Nat, j = 7 - i := ⟨_, rfl⟩
      have hw8 : IntKind.i64.wrap (8 * (i : Int)) = 8 * (i : Int) := wrap_of (by omega) (by omega)
      have hw56 : IntKind.i64.wrap (56 - 8 * (i : Int)) = 8 * (j : Int) := by rw [wrap_of (by omega) (by omega)]; omega
      have hneg : ¬ (8 * (j : Int) < 0) := by omega
      have hnat : (8 * (j : Int)).toNat = 8 * j := by omega
      have hmin : min (8 * j) IntKind.i64.bits = 8 * j := by simp [IntKind.bits]; omega
      have hb := byteAt_wrap n j
      have hx : L[i]? = some (byteT (byteAt n j)) := by
        rw [hL, List.getElem?_map, numP_get n 8 i hi, hj]; rfl
      have hget := mid_get L (T.int .u8 0) i 8 hi (by omega)
      have hset := mid_set L (T.int .u8 0) (byteT (byteAt n j)) i 8 hi hx
      have hge : (0 : Int) ≤ (i : Int) := by omega
      simp [loopAt, loopsOf, Tryz.f329, h0, h3, h6, hi', hw, ho, hw8, hw56, hneg, hnat, hmin, hb, hget, hset])
    (by
      rintro s o q ⟨h0, h3, h6, ho⟩
      have hfull : L.take 8 = L := List.take_of_length_le (by omega)
      simp [hfull] at ho
      simp [loopAt, loopsOf, Tryz.f329, h0, h3, h6, ho])
    8 0 s o q (by omega) hI)
  simp only [loopAt, loopsOf, Tryz.f329] at lp
  obtain ⟨X, A, B, C, hx⟩ := lp
  simp at hx
  rw [← hL]
  simp [hx]
theorem flats_bytes : ∀ (l : Bytes), T.flats (l.map byteT) = true
  | [] => rfl
  | b :: r => by simp [T.flats, T.flat, flats_bytes r]
theorem fallen (l : Bytes) (f : Bool) (hl : l.length < 4294967296) : run E (.call 253 [.row 5 (l.map byteT), xB f]) = some (.res [xS (if f then turnP l else l)] [some (.row 5 ((if f then turnP l else l).map byteT))]) := by
  rw [run_call E 253 _ rfl Tryz.func253 rfl rfl rfl (by simp)]
  cases f with
  | false =>
    have hb := toBytes_map l
    simp [hb, flats_bytes]
  | true =>
    have lp := sk (fun s o q hI => loop_for (c := loopAt Tryz.f253 0) (N := 23)
      (fun i s o q => s 0 = .row 0 ∧ s 8 = .row 0 ∧ s 9 = .t (.int .i64 l.length) ∧ s 10 = .t (.int .i64 i) ∧ o 0 = .row 5 ((turnP (l.take i) ++ l.drop i).map byteT) true)
      (fun e s' o' q' => e = .exit 0 ∧ s' 0 = .row 0 ∧ o' 0 = .row 5 ((turnP l).map byteT) true) l.length
      (by
        rintro i s o q hi ⟨h0, h8, h9, h10, ho⟩
        have hi' : (i : Int) < (l.length : Int) := by omega
        have hw := wrap_succ (n := i) (by omega)
        have htw := turn_wrap l[i]
        have e : l.take (i + 1) = l.take i ++ [l[i]] := by rw [List.take_add_one, List.getElem?_eq_getElem hi]; rfl
        have hli : (turnP (l.take i)).length = i := by simp [turnP]; omega
        have hget : ((turnP (l.take i) ++ l.drop i).map byteT)[i]? = some (byteT l[i]) := by
          rw [List.getElem?_map, List.getElem?_append_right (by omega), hli]
          simp [List.getElem?_eq_getElem hi]
        have hset : ((turnP (l.take i) ++ l.drop i).map byteT).set i (byteT (turnB l[i])) = (turnP (l.take (i + 1)) ++ l.drop (i + 1)).map byteT := by
          have et : turnP (l.take (i + 1)) = turnP (l.take i) ++ [turnB l[i]] := by rw [e]; simp only [turnP, List.map_append, List.map_cons, List.map_nil]
          rw [et, List.drop_eq_getElem_cons hi, List.map_append, List.set_append_right _ _ (by simp; omega)]
          have hd : (l[i] :: l.drop (i + 1)).map byteT = byteT l[i] :: (l.drop (i + 1)).map byteT := rfl
          have hz : i - ((turnP (l.take i)).map byteT).length = 0 := by simp; omega
          rw [hd, hz, List.set_cons_zero, List.map_append, List.map_append, List.map_cons, List.map_nil, List.append_assoc]
          rfl
        generalize (turnP (l.take i) ++ l.drop i).map byteT = m at *
        generalize (turnP (l.take (i + 1)) ++ l.drop (i + 1)).map byteT = m' at *
        simp [loopAt, loopsOf, Tryz.f253, h0, h8, h9, h10, hi', hw, ho, htw, hget, hset])
      (by
        rintro s o q ⟨h0, h8, h9, h10, ho⟩
        simp only [List.take_length, List.drop_length, List.append_nil] at ho
        simp [loopAt, loopsOf, Tryz.f253, h0, h8, h9, h10, ho])
      l.length 0 s o q (by omega) hI)
    simp only [loopAt, loopsOf, Tryz.f253] at lp
    obtain ⟨X, A, B, C, hx⟩ := lp
    have hb := toBytes_map (turnP l)
    have hf := flats_bytes (turnP l)
    simp only [turnP] at hf
    simp [turnP] at hx hb hf
    simp [hx, hb, turnP, hf]
end Go.Yd
/- Keys of values: impl's putKey and keyOf. -/
set_option linter.unusedSimpArgs false
set_option linter.unusedVariables false
namespace Go.Yd
open Go.Ev Go.Proofs Go.Pu
set_option maxRecDepth 100000
set_option maxHeartbeats 16000000
theorem u8_wrap (n : Int) : IntKind.u8.wrap n = ((byteAt n 0).toNat : Int) := by
  have := byteAt_wrap n 0
  simpa using this
theorem numP_1 (n : Int) : numP n 1 = [byteAt n 0] := rfl
theorem putKey_small_row (d : Nat) (v : Val) (acc : Bytes) (h : okP d v = true) (ha : acc.length + 4096 ≤ 70368744177664) (hv : v.t.length < 1048576) (hk : v.k = 0 ∨ v.k = 1 ∨ v.k = 2 ∨ v.k = 3) : run E (.call 254 [.row 5 (acc.map byteT), xV v]) = some (.res [.row 5 ((acc ++ keyD d v).map byteT)] [none]) := by
  rw [run_call E 254 _ rfl Tryz.func254 rfl rfl rfl (by simp)]
  have hsz := okP_range h
  unfold keyD headK
  have hw : IntKind.i64.wrap (v.k + 1) = v.k + 1 := wrap_of (by omega) (by omega)
  have hu := u8_wrap (v.k + 1)
  have hu2 := u8_wrap v.n
  have hr1 : List.range 1 = [0] := rfl
  have hl1 : acc.length + 1 ≤ 140737488355328 := by omega
  have hl2 : acc.length + 1 + 1 ≤ 140737488355328 := by omega
  have hl8 : acc.length + 1 + 8 ≤ 140737488355328 := by omega
  rcases hk with hk | hk | hk | hk
  · have e0 : (v.k = 0) = True := by rw [hk]; simp
    have e1 : (v.k = 1) = False := by rw [hk]; simp
    have e2 : (v.k = 2) = False := by rw [hk]; simp
    have e3 : (v.k = 3) = False := by rw [hk]; simp
    have e4 : (v.k = 4) = False := by rw [hk]; simp
    have e5 : (v.k = 5) = False := by rw [hk]; simp
    clear hk
    simp [e0, e1, e2, e3, e4, e5, hw, hu, hr1, hl1, numP_1]
  · have e0 : (v.k = 0) = False := by rw [hk]; simp
    have e1 : (v.k = 1) = True := by rw [hk]; simp
    have e2 : (v.k = 2) = False := by rw [hk]; simp
    have e3 : (v.k = 3) = False := by rw [hk]; simp
    have e4 : (v.k = 4) = False := by rw [hk]; simp
    have e5 : (v.k = 5) = False := by rw [hk]; simp
    clear hk
    simp [e0, e1, e2, e3, e4, e5, hw, hu, hu2, hr1, hl1, hl2, numP_1]
  · have hw2 : IntKind.i64.wrap (v.n + 4611686018427387904) = v.n + 4611686018427387904 := wrap_of (by omega) (by omega)
    have he := eight (v.n + 4611686018427387904)
    have hlen := numP_len (v.n + 4611686018427387904) 8
    have e0 : (v.k = 0) = False := by rw [hk]; simp
    have e1 : (v.k = 1) = False := by rw [hk]; simp
    have e2 : (v.k = 2) = True := by rw [hk]; simp
    have e3 : (v.k = 3) = False := by rw [hk]; simp
    have e4 : (v.k = 4) = False := by rw [hk]; simp
    have e5 : (v.k = 5) = False := by rw [hk]; simp
    clear hk
    generalize numP (v.n + 4611686018427387904) 8 = w at *
    simp [e0, e1, e2, e3, e4, e5, hw, hw2, hu, he, hlen, hr1, hl1, hl8, numP_1]
  · have he := putText (acc ++ [byteAt (v.k + 1) 0]) v.t (by omega) (by simp <;> omega)
    simp at he
    have e0 : (v.k = 0) = False := by rw [hk]; simp
    have e1 : (v.k = 1) = False := by rw [hk]; simp
    have e2 : (v.k = 2) = False := by rw [hk]; simp
    have e3 : (v.k = 3) = True := by rw [hk]; simp
    have e4 : (v.k = 4) = False := by rw [hk]; simp
    have e5 : (v.k = 5) = False := by rw [hk]; simp
    clear hk
    simp [e0, e1, e2, e3, e4, e5, hw, hu, he, hr1, hl1, numP_1]
theorem putKey_small_nil (d : Nat) (v : Val)  (h : okP d v = true) (ha : ([] : Bytes).length + 4096 ≤ 70368744177664) (hv : v.t.length < 1048576) (hk : v.k = 0 ∨ v.k = 1 ∨ v.k = 2 ∨ v.k = 3) : run E (.call 254 [.nil, xV v]) = some (.res [.row 5 ((([] : Bytes) ++ keyD d v).map byteT)] [some .nil]) := by
  rw [run_call E 254 _ rfl Tryz.func254 rfl rfl rfl (by simp)]
  have hsz := okP_range h
  unfold keyD headK
  have hw : IntKind.i64.wrap (v.k + 1) = v.k + 1 := wrap_of (by omega) (by omega)
  have hu := u8_wrap (v.k + 1)
  have hu2 := u8_wrap v.n
  have hr1 : List.range 1 = [0] := rfl
  have hl1 : ([] : Bytes).length + 1 ≤ 140737488355328 := by omega
  have hl2 : ([] : Bytes).length + 1 + 1 ≤ 140737488355328 := by omega
  have hl8 : ([] : Bytes).length + 1 + 8 ≤ 140737488355328 := by omega
  rcases hk with hk | hk | hk | hk
  · have e0 : (v.k = 0) = True := by rw [hk]; simp
    have e1 : (v.k = 1) = False := by rw [hk]; simp
    have e2 : (v.k = 2) = False := by rw [hk]; simp
    have e3 : (v.k = 3) = False := by rw [hk]; simp
    have e4 : (v.k = 4) = False := by rw [hk]; simp
    have e5 : (v.k = 5) = False := by rw [hk]; simp
    clear hk
    simp [e0, e1, e2, e3, e4, e5, hw, hu, hr1, hl1, numP_1]
  · have e0 : (v.k = 0) = False := by rw [hk]; simp
    have e1 : (v.k = 1) = True := by rw [hk]; simp
    have e2 : (v.k = 2) = False := by rw [hk]; simp
    have e3 : (v.k = 3) = False := by rw [hk]; simp
    have e4 : (v.k = 4) = False := by rw [hk]; simp
    have e5 : (v.k = 5) = False := by rw [hk]; simp
    clear hk
    simp [e0, e1, e2, e3, e4, e5, hw, hu, hu2, hr1, hl1, hl2, numP_1]
  · have hw2 : IntKind.i64.wrap (v.n + 4611686018427387904) = v.n + 4611686018427387904 := wrap_of (by omega) (by omega)
    have he := eight (v.n + 4611686018427387904)
    have hlen := numP_len (v.n + 4611686018427387904) 8
    have e0 : (v.k = 0) = False := by rw [hk]; simp
    have e1 : (v.k = 1) = False := by rw [hk]; simp
    have e2 : (v.k = 2) = True := by rw [hk]; simp
    have e3 : (v.k = 3) = False := by rw [hk]; simp
    have e4 : (v.k = 4) = False := by rw [hk]; simp
    have e5 : (v.k = 5) = False := by rw [hk]; simp
    clear hk
    generalize numP (v.n + 4611686018427387904) 8 = w at *
    simp [e0, e1, e2, e3, e4, e5, hw, hw2, hu, he, hlen, hr1, hl1, hl8, numP_1]
  · have he := putText (([] : Bytes) ++ [byteAt (v.k + 1) 0]) v.t (by omega) (by simp <;> omega)
    simp at he
    have e0 : (v.k = 0) = False := by rw [hk]; simp
    have e1 : (v.k = 1) = False := by rw [hk]; simp
    have e2 : (v.k = 2) = False := by rw [hk]; simp
    have e3 : (v.k = 3) = True := by rw [hk]; simp
    have e4 : (v.k = 4) = False := by rw [hk]; simp
    have e5 : (v.k = 5) = False := by rw [hk]; simp
    clear hk
    simp [e0, e1, e2, e3, e4, e5, hw, hu, he, hr1, hl1, numP_1]
end Go.Yd
/- Keys of values: impl's putKey and keyOf. -/
set_option linter.unusedSimpArgs false
set_option linter.unusedVariables false
namespace Go.Yd
open Go.Ev Go.Proofs Go.Pu
set_option maxRecDepth 100000
set_option maxHeartbeats 16000000
theorem putKey_items_row (d : Nat) (ih : ∀ (v : Val) (acc : Bytes), okP d v = true → acc.length + (keyD d v).length + 4096 ≤ 70368744177664 → v.t.length < 1048576 → run E (.call 254 [.row 5 (acc.map byteT), xV v]) = some (.res [.row 5 ((acc ++ keyD d v).map byteT)] [none]))
    (v : Val) (acc : Bytes) (h : okP (d + 1) v = true) (ha : acc.length + (keyD (d + 1) v).length + 4096 ≤ 70368744177664) (hv : v.t.length < 1048576) (hk : v.k = 4) : run E (.call 254 [.row 5 (acc.map byteT), xV v]) = some (.res [.row 5 ((acc ++ keyD (d + 1) v).map byteT)] [none]) := by
  rw [run_call E 254 _ rfl Tryz.func254 rfl rfl rfl (by simp)]
  obtain ⟨e, xs, hd, _, hit, hx⟩ := okP_list h hk
  obtain rfl : d = e := by omega
  have hi := implItems v (by omega)
  rw [itemsI_some hit] at hi
  simp at hi
  obtain ⟨hs1, hs2⟩ := items_small hit
  have hw : IntKind.i64.wrap (v.k + 1) = v.k + 1 := wrap_of (by omega) (by omega)
  have hu := u8_wrap (v.k + 1)
  have hr1 : List.range 1 = [0] := rfl
  have e0 : (v.k = 0) = False := by rw [hk]; simp
  have e1 : (v.k = 1) = False := by rw [hk]; simp
  have e2 : (v.k = 2) = False := by rw [hk]; simp
  have e3 : (v.k = 3) = False := by rw [hk]; simp
  have e4 : (v.k = 4) = True := by rw [hk]; simp
  have eL : itemsL v.t = xs := by simp [itemsL, hit]
  have ekey : keyD (d + 1) v = byteAt (v.k + 1) 0 :: (xs.flatMap (keyD d) ++ [0]) := by simp [keyD, e0, e1, e2, e3, e4, eL, headK, numP_1]
  rw [ekey] at ha ⊢
  clear hk
  have lp := fun (ri : Nat) (hri0 : 0 < ri) (R : Bytes) (hR : R = acc ++ [byteAt (v.k + 1) 0] ++ xs.flatMap (keyD d)) => sk1 (fun s o q hI => loop_for (c := loopAt Tryz.f254 0) (N := 91)
    (fun i s o q => ∃ r acc', s 0 = .row r ∧ o r = .row 5 (acc'.map byteT) true ∧ r < q ∧ s 51 = .row ri ∧ o ri = .row 35 (xs.map valT) true ∧ ri < q ∧ ri ≠ r ∧ 0 < r ∧ s 52 = .t (.int .i64 xs.length) ∧ s 53 = .t (.int .i64 i) ∧ o 0 = .dead ∧ R = acc' ++ (xs.drop i).flatMap (keyD d))
    (fun e s' o' q' => ∃ r, e = .exit 1 ∧ s' 0 = .row r ∧ o' r = .row 5 (R.map byteT) true ∧ ¬ r = q' ∧ ¬ q' = r ∧ ¬ r = q' + 1 ∧ ¬ q' = 0 ∧ ¬ 0 = q' ∧ ¬ r = 0 ∧ ¬ 0 = r ∧ o' 0 = .dead) xs.length
    (by
      rintro i s o q hi ⟨r, acc', h0, hor, hrq, h51, hori, hriq, hne, hr0, h52, h53, hdd, hp⟩
      have hi' : (i : Int) < (xs.length : Int) := by omega
      have hwi := wrap_succ (n := i) (by omega)
      have hxi : xs[i]? = some xs[i] := List.getElem?_eq_getElem hi
      rw [flat_drop _ _ _ hi, ← List.append_assoc] at hp
      have hlen : acc'.length + (keyD d xs[i]).length + 4096 ≤ 70368744177664 := by
        have h1 := congrArg List.length hp
        have h2 := congrArg List.length hR
        simp at h1 h2 ha
        omega
      have hr := ih xs[i] acc' (hx _ (List.getElem_mem hi)) hlen (by have := hs2 _ (List.getElem_mem hi); omega)
      have g1 : ¬ r = q := by omega
      have g2 : ¬ q = r := by omega
      have g3 : ¬ ri = q := by omega
      have g4 : ¬ q = ri := by omega
      have g5 : ¬ r = q + 1 := by omega
      have g6 : ¬ ri = q + 1 := by omega
      have g7 : ¬ q = 0 := by omega
      have g8 : ¬ 0 = q := by omega
      have g9 : ¬ r = ri := fun h => hne h.symm
      have g10 : ¬ 0 = r := by omega
      have g11 : ¬ r = 0 := by omega
      have g12 : ¬ ri = 0 := by omega
      have g13 : ¬ q + 1 = ri := by omega
      simp [loopAt, loopsOf, Tryz.f254, h0, hor, h51, hori, h52, h53, hi, hi', hwi, hxi, hr, g1, g2, g3, g4, g5, g6, g7, g8, g9, g10, g11, g12, g13, hne, hdd]
      exact ⟨acc' ++ keyD d xs[i], by simp, by omega, hp⟩)
    (by
      rintro s o q ⟨r, acc', h0, hor, hrq, h51, hori, hriq, hne, hr0, h52, h53, hdd, hp⟩
      simp at hp
      subst hp
      have g1 : ¬ r = q := by omega
      have g2 : ¬ q = r := by omega
      have g5 : ¬ r = q + 1 := by omega
      have g7 : ¬ q = 0 := by omega
      have g8 : ¬ 0 = q := by omega
      have g10 : ¬ 0 = r := by omega
      have g11 : ¬ r = 0 := by omega
      simp [loopAt, loopsOf, Tryz.f254, h0, hor, h51, hori, h52, h53, g1, g2, g5, g7, g8, g10, g11, hdd])
    xs.length 0 s o q (by omega) hI)
  simp only [loopAt, loopsOf, Tryz.f254] at lp
  obtain ⟨R, hR⟩ : ∃ R, R = acc ++ [byteAt (v.k + 1) 0] ++ xs.flatMap (keyD d) := ⟨_, rfl⟩
  obtain ⟨X, A, B, C, M, hl⟩ := lp 4 (by omega) R hR
  have hl' := fun s o q r a0 a1 a2 a3 a4 a5 a6 a7 a8 a9 a10 => hl s o q ⟨r, acc ++ [byteAt (v.k + 1) 0], a0, a1, a2, a3, a4, a5, a6, a7, a8, a9, a10, by simpa using hR⟩
  clear hl lp
  have hlR : R.length + 1 ≤ 140737488355328 := by
    have h2 := congrArg List.length hR
    simp at h2 ha
    omega
  have hl1 : acc.length + 1 ≤ 140737488355328 := by simp at ha ⊢ <;> omega
  have hfin : acc ++ byteAt (v.k + 1) 0 :: (xs.flatMap (keyD d) ++ [0]) = R ++ [0] := by rw [hR]; simp
  rw [hfin]
  clear hfin hR ekey
  simp at hl'
  simp [e0, e1, e2, e3, e4, hw, hu, hi, hl', hlR, hr1, hl1]
theorem putKey_items_nil (d : Nat) (ih : ∀ (v : Val) (acc : Bytes), okP d v = true → acc.length + (keyD d v).length + 4096 ≤ 70368744177664 → v.t.length < 1048576 → run E (.call 254 [.row 5 (acc.map byteT), xV v]) = some (.res [.row 5 ((acc ++ keyD d v).map byteT)] [none]))
    (v : Val)  (h : okP (d + 1) v = true) (ha : ([] : Bytes).length + (keyD (d + 1) v).length + 4096 ≤ 70368744177664) (hv : v.t.length < 1048576) (hk : v.k = 4) : run E (.call 254 [.nil, xV v]) = some (.res [.row 5 ((([] : Bytes) ++ keyD (d + 1) v).map byteT)] [some .nil]) := by
  rw [run_call E 254 _ rfl Tryz.func254 rfl rfl rfl (by simp)]
  obtain ⟨e, xs, hd, _, hit, hx⟩ := okP_list h hk
  obtain rfl : d = e := by omega
  have hi := implItems v (by omega)
  rw [itemsI_some hit] at hi
  simp at hi
  obtain ⟨hs1, hs2⟩ := items_small hit
  have hw : IntKind.i64.wrap (v.k + 1) = v.k + 1 := wrap_of (by omega) (by omega)
  have hu := u8_wrap (v.k + 1)
  have hr1 : List.range 1 = [0] := rfl
  have e0 : (v.k = 0) = False := by rw [hk]; simp
  have e1 : (v.k = 1) = False := by rw [hk]; simp
  have e2 : (v.k = 2) = False := by rw [hk]; simp
  have e3 : (v.k = 3) = False := by rw [hk]; simp
  have e4 : (v.k = 4) = True := by rw [hk]; simp
  have eL : itemsL v.t = xs := by simp [itemsL, hit]
  have ekey : keyD (d + 1) v = byteAt (v.k + 1) 0 :: (xs.flatMap (keyD d) ++ [0]) := by simp [keyD, e0, e1, e2, e3, e4, eL, headK, numP_1]
  rw [ekey] at ha ⊢
  clear hk
  have lp := fun (ri : Nat) (hri0 : 0 < ri) (R : Bytes) (hR : R = ([] : Bytes) ++ [byteAt (v.k + 1) 0] ++ xs.flatMap (keyD d)) => sk1 (fun s o q hI => loop_for (c := loopAt Tryz.f254 0) (N := 91)
    (fun i s o q => ∃ r acc', s 0 = .row r ∧ o r = .row 5 (acc'.map byteT) true ∧ r < q ∧ s 51 = .row ri ∧ o ri = .row 35 (xs.map valT) true ∧ ri < q ∧ ri ≠ r ∧ 0 < r ∧ s 52 = .t (.int .i64 xs.length) ∧ s 53 = .t (.int .i64 i) ∧ True ∧ R = acc' ++ (xs.drop i).flatMap (keyD d))
    (fun e s' o' q' => ∃ r, e = .exit 1 ∧ s' 0 = .row r ∧ o' r = .row 5 (R.map byteT) true ∧ ¬ r = q' ∧ ¬ q' = r ∧ ¬ r = q' + 1 ∧ ¬ q' = 0 ∧ ¬ 0 = q' ∧ ¬ r = 0 ∧ ¬ 0 = r ∧ True) xs.length
    (by
      rintro i s o q hi ⟨r, acc', h0, hor, hrq, h51, hori, hriq, hne, hr0, h52, h53, hdd, hp⟩
      have hi' : (i : Int) < (xs.length : Int) := by omega
      have hwi := wrap_succ (n := i) (by omega)
      have hxi : xs[i]? = some xs[i] := List.getElem?_eq_getElem hi
      rw [flat_drop _ _ _ hi, ← List.append_assoc] at hp
      have hlen : acc'.length + (keyD d xs[i]).length + 4096 ≤ 70368744177664 := by
        have h1 := congrArg List.length hp
        have h2 := congrArg List.length hR
        simp at h1 h2 ha
        omega
      have hr := ih xs[i] acc' (hx _ (List.getElem_mem hi)) hlen (by have := hs2 _ (List.getElem_mem hi); omega)
      have g1 : ¬ r = q := by omega
      have g2 : ¬ q = r := by omega
      have g3 : ¬ ri = q := by omega
      have g4 : ¬ q = ri := by omega
      have g5 : ¬ r = q + 1 := by omega
      have g6 : ¬ ri = q + 1 := by omega
      have g7 : ¬ q = 0 := by omega
      have g8 : ¬ 0 = q := by omega
      have g9 : ¬ r = ri := fun h => hne h.symm
      have g10 : ¬ 0 = r := by omega
      have g11 : ¬ r = 0 := by omega
      have g12 : ¬ ri = 0 := by omega
      have g13 : ¬ q + 1 = ri := by omega
      simp [loopAt, loopsOf, Tryz.f254, h0, hor, h51, hori, h52, h53, hi, hi', hwi, hxi, hr, g1, g2, g3, g4, g5, g6, g7, g8, g9, g10, g11, g12, g13, hne, hdd]
      exact ⟨acc' ++ keyD d xs[i], by simp, by omega, hp⟩)
    (by
      rintro s o q ⟨r, acc', h0, hor, hrq, h51, hori, hriq, hne, hr0, h52, h53, hdd, hp⟩
      simp at hp
      subst hp
      have g1 : ¬ r = q := by omega
      have g2 : ¬ q = r := by omega
      have g5 : ¬ r = q + 1 := by omega
      have g7 : ¬ q = 0 := by omega
      have g8 : ¬ 0 = q := by omega
      have g10 : ¬ 0 = r := by omega
      have g11 : ¬ r = 0 := by omega
      simp [loopAt, loopsOf, Tryz.f254, h0, hor, h51, hori, h52, h53, g1, g2, g5, g7, g8, g10, g11, hdd])
    xs.length 0 s o q (by omega) hI)
  simp only [loopAt, loopsOf, Tryz.f254] at lp
  obtain ⟨R, hR⟩ : ∃ R, R = ([] : Bytes) ++ [byteAt (v.k + 1) 0] ++ xs.flatMap (keyD d) := ⟨_, rfl⟩
  obtain ⟨X, A, B, C, M, hl⟩ := lp 3 (by omega) R hR
  have hl' := fun s o q r a0 a1 a2 a3 a4 a5 a6 a7 a8 a9 a10 => hl s o q ⟨r, ([] : Bytes) ++ [byteAt (v.k + 1) 0], a0, a1, a2, a3, a4, a5, a6, a7, a8, a9, a10, by simpa using hR⟩
  clear hl lp
  have hlR : R.length + 1 ≤ 140737488355328 := by
    have h2 := congrArg List.length hR
    simp at h2 ha
    omega
  have hl1 : ([] : Bytes).length + 1 ≤ 140737488355328 := by simp at ha ⊢ <;> omega
  have hfin : ([] : Bytes) ++ byteAt (v.k + 1) 0 :: (xs.flatMap (keyD d) ++ [0]) = R ++ [0] := by rw [hR]; simp
  rw [hfin]
  clear hfin hR ekey
  simp at hl'
  simp [e0, e1, e2, e3, e4, hw, hu, hi, hl', hlR, hr1, hl1]
end Go.Yd
/- Keys of values: impl's putKey and keyOf. -/
set_option linter.unusedSimpArgs false
set_option linter.unusedVariables false
namespace Go.Yd
open Go.Ev Go.Proofs Go.Pu
set_option maxRecDepth 100000
set_option maxHeartbeats 16000000
theorem putKey_fields_row (d : Nat) (ih : ∀ (v : Val) (acc : Bytes), okP d v = true → acc.length + (keyD d v).length + 4096 ≤ 70368744177664 → v.t.length < 1048576 → run E (.call 254 [.row 5 (acc.map byteT), xV v]) = some (.res [.row 5 ((acc ++ keyD d v).map byteT)] [none]))
    (v : Val) (acc : Bytes) (h : okP (d + 1) v = true) (ha : acc.length + (keyD (d + 1) v).length + 4096 ≤ 70368744177664) (hv : v.t.length < 1048576) (hk : v.k = 5) : run E (.call 254 [.row 5 (acc.map byteT), xV v]) = some (.res [.row 5 ((acc ++ keyD (d + 1) v).map byteT)] [none]) := by
  rw [run_call E 254 _ rfl Tryz.func254 rfl rfl rfl (by simp)]
  obtain ⟨e, xs, hd, _, hit, _, hx⟩ := okP_doc h hk
  obtain rfl : d = e := by omega
  have hi := implFields v (by omega)
  rw [fieldsI_some hit] at hi
  simp at hi
  obtain ⟨hs1, hs2⟩ := fields_small hit
  have hw : IntKind.i64.wrap (v.k + 1) = v.k + 1 := wrap_of (by omega) (by omega)
  have hu := u8_wrap (v.k + 1)
  have hr1 : List.range 1 = [0] := rfl
  have e0 : (v.k = 0) = False := by rw [hk]; simp
  have e1 : (v.k = 1) = False := by rw [hk]; simp
  have e2 : (v.k = 2) = False := by rw [hk]; simp
  have e3 : (v.k = 3) = False := by rw [hk]; simp
  have e4 : (v.k = 4) = False := by rw [hk]; simp
  have e5 : (v.k = 5) = True := by rw [hk]; simp
  have eL : fieldsL v.t = xs := by simp [fieldsL, hit]
  obtain ⟨F, hF⟩ : ∃ F : Fld → Bytes, F = (fun f => [1] ++ escP f.name ++ keyD d f.v) := ⟨_, rfl⟩
  have hFx : ∀ f, F f = 1 :: (escP f.name ++ keyD d f.v) := by intro f; rw [hF]; simp
  have hFl : ∀ f, (F f).length = 1 + (escP f.name).length + (keyD d f.v).length := by intro f; rw [hF]; simp; omega
  have ekey : keyD (d + 1) v = byteAt (v.k + 1) 0 :: (xs.flatMap F ++ [0]) := by rw [hF]; simp [keyD, e0, e1, e2, e3, e4, eL, headK, numP_1]
  clear hF
  have n22 := n254_22
  have s22 := s254_22
  simp [regionOf, findR, pick, Tryz.f254] at n22 s22
  have dd := fun st => run_region_drawS E st 22 _ n22 s22
  clear n22 s22
  rw [ekey] at ha ⊢
  clear hk
  have lp := fun (ri : Nat) (hri0 : 0 < ri) (R : Bytes) (hR : R = acc ++ [byteAt (v.k + 1) 0] ++ xs.flatMap F) => sk1 (fun s o q hI => loop_for (c := loopAt Tryz.f254 1) (N := 91)
    (fun i s o q => ∃ r acc', s 0 = .row r ∧ o r = .row 5 (acc'.map byteT) true ∧ r < q ∧ s 71 = .row ri ∧ o ri = .row 125 (xs.map fldT) true ∧ ri < q ∧ ri ≠ r ∧ 0 < r ∧ s 72 = .t (.int .i64 xs.length) ∧ s 73 = .t (.int .i64 i) ∧ o 0 = .dead ∧ R = acc' ++ (xs.drop i).flatMap F)
    (fun e s' o' q' => ∃ r, e = .exit 3 ∧ s' 0 = .row r ∧ o' r = .row 5 (R.map byteT) true ∧ ¬ r = q' ∧ ¬ q' = r ∧ ¬ r = q' + 1 ∧ ¬ q' = 0 ∧ ¬ 0 = q' ∧ ¬ r = 0 ∧ ¬ 0 = r ∧ o' 0 = .dead) xs.length
    (by
      rintro i s o q hi ⟨r, acc', h0, hor, hrq, h51, hori, hriq, hne, hr0, h52, h53, hdd, hp⟩
      have hi' : (i : Int) < (xs.length : Int) := by omega
      have hwi := wrap_succ (n := i) (by omega)
      have hxi : xs[i]? = some xs[i] := List.getElem?_eq_getElem hi
      rw [flat_drop _ _ _ hi, ← List.append_assoc] at hp
      have hlen : acc'.length + (F xs[i]).length + 4096 ≤ 70368744177664 := by
        have h1 := congrArg List.length hp
        have h2 := congrArg List.length hR
        simp at h1 h2 ha
        omega
      have hsm := hs2 _ (List.getElem_mem hi)
      have hFi := hFx xs[i]
      have hFk := hFl xs[i]
      have hpt := putText (acc' ++ [1]) xs[i].name (by omega) (by simp; omega)
      have hr := ih xs[i].v (acc' ++ [1] ++ escP xs[i].name) (hx _ (List.getElem_mem hi)).2 (by simp; omega) (by omega)
      have hb1 : acc'.length + 1 ≤ 140737488355328 := by omega
      have hb1' : byteT 1 = T.int IntKind.u8 1 := rfl
      simp [hb1'] at hpt hr
      rw [hFi] at hp
      have g1 : ¬ r = q := by omega
      have g2 : ¬ q = r := by omega
      have g3 : ¬ ri = q := by omega
      have g4 : ¬ q = ri := by omega
      have g5 : ¬ r = q + 1 := by omega
      have g6 : ¬ ri = q + 1 := by omega
      have g7 : ¬ q = 0 := by omega
      have g8 : ¬ 0 = q := by omega
      have g9 : ¬ r = ri := fun h => hne h.symm
      have g10 : ¬ 0 = r := by omega
      have g11 : ¬ r = 0 := by omega
      have g12 : ¬ ri = 0 := by omega
      have g13 : ¬ q + 1 = ri := by omega
      have g14 : ¬ q + 1 + 1 = ri := by omega
      have g15 : ¬ q + 1 + 1 + 1 = ri := by omega
      have g16 : ¬ ri = q + 1 + 1 := by omega
      have g17 : ¬ ri = q + 1 + 1 + 1 := by omega
      have g18 : ¬ q = q + 1 + 1 := by omega
      simp [loopAt, loopsOf, Tryz.f254, h0, hor, h51, hori, h52, h53, hi, hi', hwi, hxi, hr, hpt, hb1, hr1, dd, g1, g2, g3, g4, g5, g6, g7, g8, g9, g10, g11, g12, g13, g14, g15, g16, g17, g18, hne, hdd]
      exact ⟨acc' ++ 1 :: (escP xs[i].name ++ keyD d xs[i].v), by simp [hb1'], by omega, hp⟩)
    (by
      rintro s o q ⟨r, acc', h0, hor, hrq, h51, hori, hriq, hne, hr0, h52, h53, hdd, hp⟩
      simp at hp
      subst hp
      have g1 : ¬ r = q := by omega
      have g2 : ¬ q = r := by omega
      have g5 : ¬ r = q + 1 := by omega
      have g7 : ¬ q = 0 := by omega
      have g8 : ¬ 0 = q := by omega
      have g10 : ¬ 0 = r := by omega
      have g11 : ¬ r = 0 := by omega
      simp [loopAt, loopsOf, Tryz.f254, h0, hor, h51, hori, h52, h53, g1, g2, g5, g7, g8, g10, g11, hdd])
    xs.length 0 s o q (by omega) hI)
  simp only [loopAt, loopsOf, Tryz.f254] at lp
  obtain ⟨R, hR⟩ : ∃ R, R = acc ++ [byteAt (v.k + 1) 0] ++ xs.flatMap F := ⟨_, rfl⟩
  obtain ⟨X, A, B, C, M, hl⟩ := lp 4 (by omega) R hR
  have hl' := fun s o q r a0 a1 a2 a3 a4 a5 a6 a7 a8 a9 a10 => hl s o q ⟨r, acc ++ [byteAt (v.k + 1) 0], a0, a1, a2, a3, a4, a5, a6, a7, a8, a9, a10, by simpa using hR⟩
  clear hl lp
  have hlR : R.length + 1 ≤ 140737488355328 := by
    have h2 := congrArg List.length hR
    simp at h2 ha
    omega
  have hl1 : acc.length + 1 ≤ 140737488355328 := by simp at ha ⊢ <;> omega
  have hfin : acc ++ byteAt (v.k + 1) 0 :: (xs.flatMap F ++ [0]) = R ++ [0] := by rw [hR]; simp
  rw [hfin]
  clear hfin hR ekey
  simp at hl'
  simp [e0, e1, e2, e3, e4, e5, hw, hu, hi, hl', hlR, hr1, hl1]
theorem putKey_fields_nil (d : Nat) (ih : ∀ (v : Val) (acc : Bytes), okP d v = true → acc.length + (keyD d v).length + 4096 ≤ 70368744177664 → v.t.length < 1048576 → run E (.call 254 [.row 5 (acc.map byteT), xV v]) = some (.res [.row 5 ((acc ++ keyD d v).map byteT)] [none]))
    (v : Val)  (h : okP (d + 1) v = true) (ha : ([] : Bytes).length + (keyD (d + 1) v).length + 4096 ≤ 70368744177664) (hv : v.t.length < 1048576) (hk : v.k = 5) : run E (.call 254 [.nil, xV v]) = some (.res [.row 5 ((([] : Bytes) ++ keyD (d + 1) v).map byteT)] [some .nil]) := by
  rw [run_call E 254 _ rfl Tryz.func254 rfl rfl rfl (by simp)]
  obtain ⟨e, xs, hd, _, hit, _, hx⟩ := okP_doc h hk
  obtain rfl : d = e := by omega
  have hi := implFields v (by omega)
  rw [fieldsI_some hit] at hi
  simp at hi
  obtain ⟨hs1, hs2⟩ := fields_small hit
  have hw : IntKind.i64.wrap (v.k + 1) = v.k + 1 := wrap_of (by omega) (by omega)
  have hu := u8_wrap (v.k + 1)
  have hr1 : List.range 1 = [0] := rfl
  have e0 : (v.k = 0) = False := by rw [hk]; simp
  have e1 : (v.k = 1) = False := by rw [hk]; simp
  have e2 : (v.k = 2) = False := by rw [hk]; simp
  have e3 : (v.k = 3) = False := by rw [hk]; simp
  have e4 : (v.k = 4) = False := by rw [hk]; simp
  have e5 : (v.k = 5) = True := by rw [hk]; simp
  have eL : fieldsL v.t = xs := by simp [fieldsL, hit]
  obtain ⟨F, hF⟩ : ∃ F : Fld → Bytes, F = (fun f => [1] ++ escP f.name ++ keyD d f.v) := ⟨_, rfl⟩
  have hFx : ∀ f, F f = 1 :: (escP f.name ++ keyD d f.v) := by intro f; rw [hF]; simp
  have hFl : ∀ f, (F f).length = 1 + (escP f.name).length + (keyD d f.v).length := by intro f; rw [hF]; simp; omega
  have ekey : keyD (d + 1) v = byteAt (v.k + 1) 0 :: (xs.flatMap F ++ [0]) := by rw [hF]; simp [keyD, e0, e1, e2, e3, e4, eL, headK, numP_1]
  clear hF
  have n22 := n254_22
  have s22 := s254_22
  simp [regionOf, findR, pick, Tryz.f254] at n22 s22
  have dd := fun st => run_region_drawS E st 22 _ n22 s22
  clear n22 s22
  rw [ekey] at ha ⊢
  clear hk
  have lp := fun (ri : Nat) (hri0 : 0 < ri) (R : Bytes) (hR : R = ([] : Bytes) ++ [byteAt (v.k + 1) 0] ++ xs.flatMap F) => sk1 (fun s o q hI => loop_for (c := loopAt Tryz.f254 1) (N := 91)
    (fun i s o q => ∃ r acc', s 0 = .row r ∧ o r = .row 5 (acc'.map byteT) true ∧ r < q ∧ s 71 = .row ri ∧ o ri = .row 125 (xs.map fldT) true ∧ ri < q ∧ ri ≠ r ∧ 0 < r ∧ s 72 = .t (.int .i64 xs.length) ∧ s 73 = .t (.int .i64 i) ∧ True ∧ R = acc' ++ (xs.drop i).flatMap F)
    (fun e s' o' q' => ∃ r, e = .exit 3 ∧ s' 0 = .row r ∧ o' r = .row 5 (R.map byteT) true ∧ ¬ r = q' ∧ ¬ q' = r ∧ ¬ r = q' + 1 ∧ ¬ q' = 0 ∧ ¬ 0 = q' ∧ ¬ r = 0 ∧ ¬ 0 = r ∧ True) xs.length
    (by
      rintro i s o q hi ⟨r, acc', h0, hor, hrq, h51, hori, hriq, hne, hr0, h52, h53, hdd, hp⟩
      have hi' : (i : Int) < (xs.length : Int) := by omega
      have hwi := wrap_succ (n := i) (by omega)
      have hxi : xs[i]? = some xs[i] := List.getElem?_eq_getElem hi
      rw [flat_drop _ _ _ hi, ← List.append_assoc] at hp
      have hlen : acc'.length + (F xs[i]).length + 4096 ≤ 70368744177664 := by
        have h1 := congrArg List.length hp
        have h2 := congrArg List.length hR
        simp at h1 h2 ha
        omega
      have hsm := hs2 _ (List.getElem_mem hi)
      have hFi := hFx xs[i]
      have hFk := hFl xs[i]
      have hpt := putText (acc' ++ [1]) xs[i].name (by omega) (by simp; omega)
      have hr := ih xs[i].v (acc' ++ [1] ++ escP xs[i].name) (hx _ (List.getElem_mem hi)).2 (by simp; omega) (by omega)
      have hb1 : acc'.length + 1 ≤ 140737488355328 := by omega
      have hb1' : byteT 1 = T.int IntKind.u8 1 := rfl
      simp [hb1'] at hpt hr
      rw [hFi] at hp
      have g1 : ¬ r = q := by omega
      have g2 : ¬ q = r := by omega
      have g3 : ¬ ri = q := by omega
      have g4 : ¬ q = ri := by omega
      have g5 : ¬ r = q + 1 := by omega
      have g6 : ¬ ri = q + 1 := by omega
      have g7 : ¬ q = 0 := by omega
      have g8 : ¬ 0 = q := by omega
      have g9 : ¬ r = ri := fun h => hne h.symm
      have g10 : ¬ 0 = r := by omega
      have g11 : ¬ r = 0 := by omega
      have g12 : ¬ ri = 0 := by omega
      have g13 : ¬ q + 1 = ri := by omega
      have g14 : ¬ q + 1 + 1 = ri := by omega
      have g15 : ¬ q + 1 + 1 + 1 = ri := by omega
      have g16 : ¬ ri = q + 1 + 1 := by omega
      have g17 : ¬ ri = q + 1 + 1 + 1 := by omega
      have g18 : ¬ q = q + 1 + 1 := by omega
      simp [loopAt, loopsOf, Tryz.f254, h0, hor, h51, hori, h52, h53, hi, hi', hwi, hxi, hr, hpt, hb1, hr1, dd, g1, g2, g3, g4, g5, g6, g7, g8, g9, g10, g11, g12, g13, g14, g15, g16, g17, g18, hne, hdd]
      exact ⟨acc' ++ 1 :: (escP xs[i].name ++ keyD d xs[i].v), by simp [hb1'], by omega, hp⟩)
    (by
      rintro s o q ⟨r, acc', h0, hor, hrq, h51, hori, hriq, hne, hr0, h52, h53, hdd, hp⟩
      simp at hp
      subst hp
      have g1 : ¬ r = q := by omega
      have g2 : ¬ q = r := by omega
      have g5 : ¬ r = q + 1 := by omega
      have g7 : ¬ q = 0 := by omega
      have g8 : ¬ 0 = q := by omega
      have g10 : ¬ 0 = r := by omega
      have g11 : ¬ r = 0 := by omega
      simp [loopAt, loopsOf, Tryz.f254, h0, hor, h51, hori, h52, h53, g1, g2, g5, g7, g8, g10, g11, hdd])
    xs.length 0 s o q (by omega) hI)
  simp only [loopAt, loopsOf, Tryz.f254] at lp
  obtain ⟨R, hR⟩ : ∃ R, R = ([] : Bytes) ++ [byteAt (v.k + 1) 0] ++ xs.flatMap F := ⟨_, rfl⟩
  obtain ⟨X, A, B, C, M, hl⟩ := lp 3 (by omega) R hR
  have hl' := fun s o q r a0 a1 a2 a3 a4 a5 a6 a7 a8 a9 a10 => hl s o q ⟨r, ([] : Bytes) ++ [byteAt (v.k + 1) 0], a0, a1, a2, a3, a4, a5, a6, a7, a8, a9, a10, by simpa using hR⟩
  clear hl lp
  have hlR : R.length + 1 ≤ 140737488355328 := by
    have h2 := congrArg List.length hR
    simp at h2 ha
    omega
  have hl1 : ([] : Bytes).length + 1 ≤ 140737488355328 := by simp at ha ⊢ <;> omega
  have hfin : ([] : Bytes) ++ byteAt (v.k + 1) 0 :: (xs.flatMap F ++ [0]) = R ++ [0] := by rw [hR]; simp
  rw [hfin]
  clear hfin hR ekey
  simp at hl'
  simp [e0, e1, e2, e3, e4, e5, hw, hu, hi, hl', hlR, hr1, hl1]
end Go.Yd
/- Keys of values: impl's putKey and keyOf. -/
set_option linter.unusedSimpArgs false
set_option linter.unusedVariables false
namespace Go.Yd
open Go.Ev Go.Proofs Go.Pu
set_option maxRecDepth 100000
set_option maxHeartbeats 16000000
theorem putKey : ∀ (d : Nat) (v : Val) (acc : Bytes), okP d v = true → acc.length + (keyD d v).length + 4096 ≤ 70368744177664 → v.t.length < 1048576 → run E (.call 254 [.row 5 (acc.map byteT), xV v]) = some (.res [.row 5 ((acc ++ keyD d v).map byteT)] [none]) := by
  intro d
  induction d with
  | zero =>
    intro v acc h ha hv
    refine putKey_small_row 0 v acc h (by omega) hv ?_
    unfold okP at h
    by_cases h0 : v.k = 0; · omega
    by_cases h1 : v.k = 1; · omega
    by_cases h2 : v.k = 2; · omega
    by_cases h3 : v.k = 3; · omega
    simp [h0, h1, h2, h3] at h
  | succ d ih =>
    intro v acc h ha hv
    have hr := okP_range h
    by_cases h4 : v.k = 4
    · exact putKey_items_row d (fun v acc h1 h2 h3 => ih v acc h1 h2 h3) v acc h ha hv h4
    · by_cases h5 : v.k = 5
      · exact putKey_fields_row d (fun v acc h1 h2 h3 => ih v acc h1 h2 h3) v acc h ha hv h5
      · exact putKey_small_row (d + 1) v acc h (by omega) hv (by omega)
theorem putKeyNil (d : Nat) (v : Val) (h : okP d v = true) (hv : v.t.length < 1048576) : run E (.call 254 [.nil, xV v]) = some (.res [.row 5 ((keyD d v).map byteT)] [some .nil]) := by
  have hr := okP_range h
  have hl := keyD_len d v h
  cases d with
  | zero =>
    refine putKey_small_nil 0 v h (by simp) hv ?_
    unfold okP at h
    by_cases h0 : v.k = 0; · omega
    by_cases h1 : v.k = 1; · omega
    by_cases h2 : v.k = 2; · omega
    by_cases h3 : v.k = 3; · omega
    simp [h0, h1, h2, h3] at h
  | succ d =>
    by_cases h4 : v.k = 4
    · exact putKey_items_nil d (fun v acc h1 h2 h3 => putKey d v acc h1 h2 h3) v h (by simp; omega) hv h4
    · by_cases h5 : v.k = 5
      · exact putKey_fields_nil d (fun v acc h1 h2 h3 => putKey d v acc h1 h2 h3) v h (by simp; omega) hv h5
      · exact putKey_small_nil (d + 1) v h (by simp) hv (by omega)
theorem keyOf (d : Nat) (v : Val) (f : Bool) (h : okP d v = true) (hv : v.t.length < 1048576) : run E (.call 150 [xV v, xB f]) = some (.res [xS (if f then turnP (keyD d v) else keyD d v)] []) := by
  rw [run_call E 150 _ rfl Tryz.func150 rfl rfl rfl (by simp)]
  have h1 := putKeyNil d v h hv
  have hl := keyD_len d v h
  have h2 := fallen (keyD d v) f (by omega)
  cases f <;> simp at h2 <;> simp [h1, h2]
end Go.Yd
/- Keys of values: no two values have one key; what a key begins with. -/
set_option linter.unusedSimpArgs false
set_option linter.unusedVariables false
namespace Go.Yd
open Go.Ev Go.Proofs Go.Pu
set_option maxRecDepth 100000
set_option maxHeartbeats 4000000
theorem byteAt_nat (n : Int) (j : Nat) (h0 : 0 ≤ n) : ((byteAt n j).toNat : Int) = n / 2 ^ (8 * j) % 256 := by
  rw [← byteAt_wrap]
  rw [Int.fdiv_eq_ediv_of_nonneg _ (Int.pow_nonneg (by omega))]
  simp [IntKind.wrap, IntKind.bits, IntKind.signed]
theorem key_cons {d : Nat} {v : Val} (h : okP d v = true) : ∃ r, keyD d v = byteAt (v.k + 1) 0 :: r := by
  have hr := okP_range h
  unfold keyD headK
  rw [numP_1]
  split
  · exact ⟨_, rfl⟩
  · split
    · exact ⟨_, rfl⟩
    · split
      · exact ⟨_, rfl⟩
      · split
        · exact ⟨_, rfl⟩
        · cases d with
          | zero =>
            exfalso
            unfold okP at h
            simp_all
          | succ d =>
            simp only
            split
            · exact ⟨_, by simp only [List.cons_append]; rfl⟩
            · exact ⟨_, by simp only [List.cons_append]; rfl⟩
theorem head_byte {d : Nat} {v : Val} (h : okP d v = true) : (byteAt (v.k + 1) 0).toNat = (v.k + 1).toNat := by
  have hr := okP_range h
  have := byteAt_nat (v.k + 1) 0 (by omega)
  simp at this
  omega
end Go.Yd
/- Intervals: what is behind all that begins with a text; the interval of what begins with it; what two have in common. -/
set_option linter.unusedSimpArgs false
set_option linter.unusedVariables false
namespace Go.Yd
open Go.Ev Go.Proofs Go.Pu
set_option maxRecDepth 100000
set_option maxHeartbeats 16000000
structure Ivl where
  low : Bytes
  high : Bytes
  opn : Bool
  deriving DecidableEq, Inhabited
abbrev ivlT (i : Ivl) : T := .agg [.str i.low, .str i.high, .bool i.opn]
abbrev ivlX (i : Ivl) : X := .agg [.t (.str i.low), .t (.str i.high), .t (.bool i.opn)]
/-- The least text behind all that begin with t, seen from its first n bytes. -/
def behindN (t : Bytes) : Nat → Option Bytes
  | 0 => none
  | n + 1 => match t[n]? with
    | some b => if b < 255 then some (t.take n ++ [b + 1]) else behindN t n
    | none => none
def behindP (t : Bytes) : Option Bytes := behindN t t.length
def beginP (t : Bytes) : Ivl := match behindP t with
  | some h => ⟨t, h, false⟩
  | none => ⟨t, [], true⟩
def minS (x y : Bytes) : Bytes := if (Op.bytesLess x y || x == y) = true then x else y
def maxS (x y : Bytes) : Bytes := if (!Op.bytesLess x y) = true then x else y
def meetP (a b : Ivl) : Ivl :=
  ⟨maxS a.low b.low, if a.opn && b.opn then [] else if a.opn then b.high else if b.opn then a.high else minS a.high b.high, a.opn && b.opn⟩
theorem lt255 (b : UInt8) : ((b.toNat : Int) < 255) = (b < 255) := by
  have : (255 : UInt8).toNat = 255 := rfl
  simp only [UInt8.lt_iff_toNat_lt, this, eq_iff_iff]
  omega
theorem add1 (b : UInt8) : UInt8.ofNat (IntKind.u8.wrap ((b.toNat : Int) + 1)).toNat = b + 1 := by
  have hw : IntKind.u8.wrap ((b.toNat : Int) + 1) = ((b.toNat : Int) + 1) % 256 := by simp [IntKind.wrap, IntKind.bits, IntKind.signed]
  rw [hw]
  apply UInt8.toNat_inj.1
  rw [UInt8.toNat_add, UInt8.toNat_ofNat']
  have : (1 : UInt8).toNat = 1 := rfl
  rw [this]
  omega
theorem l04Behind (t : Bytes) (ht : t.length < 4294967296) : run E (.call 343 [xS t]) = some (.res [xS ((behindP t).getD []), xB (behindP t).isSome] []) := by
  rw [run_call E 343 _ rfl Tryz.func343 rfl rfl rfl (by simp)]
  have d5 := d343_5
  simp [regionOf, findR, pick, Tryz.f343] at d5
  have dd := fun st => run_region_draw E st 5 _ d5
  clear d5
  have lp := fun (R : Option Bytes) (hR : R = behindP t) => sk (fun s o q hI => loop_for (c := loopAt Tryz.f343 0) (N := 28)
    (fun i s o q => i ≤ t.length ∧ s 0 = .t (.str t) ∧ s 4 = .t (.int .i64 ((t.length : Int) - i)) ∧ R = behindN t (t.length - i))
    (fun e s' o' q' => e = (if R.isSome then .ret else .exit 0) ∧ (R.isSome = true → s' 2 = .t (.str (R.getD [])) ∧ s' 3 = .t (.bool true))) t.length
    (by
      rintro i s o q hi ⟨hle, h0, h4, hp⟩
      obtain ⟨j, hj⟩ : ∃ j, t.length - i = j + 1 := ⟨t.length - i - 1, by omega⟩
      have hjl : j < t.length := by omega
      have e1 : (t.length : Int) - i = (j : Int) + 1 := by omega
      have e2 : t.length - (i + 1) = j := by omega
      have e3 : (t.length : Int) - ((i + 1 : Nat) : Int) = (j : Int) := by omega
      have hw := wrap_nat (n := j) (by omega)
      have hpos : (0 : Int) < (j : Int) + 1 := by omega
      have hjx : t[j]? = some t[j] := List.getElem?_eq_getElem hjl
      have hjle : j ≤ t.length := by omega
      rw [hj] at hp
      rw [e1] at h4
      rw [e2]
      simp only [e3]
      unfold behindN at hp
      simp only [hjx] at hp
      have h255 := lt255 t[j]
      by_cases hb : t[j] < 255
      · rw [if_pos hb] at hp
        have hadd := add1 t[j]
        rw [hp]
        simp [loopAt, loopsOf, Tryz.f343, h0, h4, hw, hpos, hjx, h255, hb, dd, hjle]
        rw [if_pos (by omega)]
        exact hadd
      · rw [if_neg hb] at hp
        simp [loopAt, loopsOf, Tryz.f343, h0, h4, hw, hpos, hjx, h255, hb, hjle]
        exact ⟨by omega, hp⟩)
    (by
      rintro s o q ⟨hle, h0, h4, hp⟩
      simp [behindN] at hp
      simp [loopAt, loopsOf, Tryz.f343, h0, h4, hp])
    t.length 0 s o q (by omega) hI)
  simp only [loopAt, loopsOf, Tryz.f343] at lp
  cases hb : behindP t with
  | none =>
    obtain ⟨X, A, B, C, hx⟩ := lp none hb.symm
    have hx' := fun s o q a0 a4 => hx s o q ⟨Nat.zero_le _, a0, a4, by simpa [behindP] using hb.symm⟩
    simp at hx'
    simp [hx']
  | some h =>
    obtain ⟨X, A, B, C, hx⟩ := lp (some h) hb.symm
    have hx' := fun s o q a0 a4 => hx s o q ⟨Nat.zero_le _, a0, a4, by simpa [behindP] using hb.symm⟩
    simp at hx'
    simp [hx']
theorem l04Begin (t : Bytes) (ht : t.length < 4294967296) : run E (.call 270 [xS t]) = some (.res [ivlX (beginP t)] []) := by
  rw [run_call E 270 _ rfl Tryz.func270 rfl rfl rfl (by simp)]
  have h := l04Behind t ht
  unfold beginP
  cases hb : behindP t with
  | none => rw [hb] at h; simp at h; simp [h]
  | some x => rw [hb] at h; simp at h; simp [h]
end Go.Yd
/- Intervals: impl's begins; spec's meeting; turned texts. -/
set_option linter.unusedSimpArgs false
set_option linter.unusedVariables false
namespace Go.Yd
open Go.Ev Go.Proofs Go.Pu
set_option maxRecDepth 100000
set_option maxHeartbeats 16000000
theorem implBegins (t : Bytes) (ht : t.length < 4294967296) : run E (.call 269 [xS t]) = some (.res [ivlX (beginP t)] []) := by
  rw [run_call E 269 _ rfl Tryz.func269 rfl rfl rfl (by simp)]
  have d5 := d269_5
  simp [regionOf, findR, pick, Tryz.f269] at d5
  have dd := fun st => run_region_draw E st 5 _ d5
  clear d5
  have lp := fun (R : Option Bytes) (hR : R = behindP t) => sk (fun s o q hI => loop_for (c := loopAt Tryz.f269 0) (N := 29)
    (fun i s o q => i ≤ t.length ∧ s 0 = .t (.str t) ∧ s 2 = .ptr 0 0 ∧ o 0 = .box 112 [.t (.str []), .t (.str []), .t (.bool false)] ∧ 0 < q ∧ s 3 = .t (.int .i64 ((t.length : Int) - 1 - i)) ∧ R = behindN t (t.length - i))
    (fun e s' o' q' => e = (if R.isSome then .ret else .exit 0) ∧ s' 0 = .t (.str t) ∧ s' 2 = .ptr 0 0 ∧ o' 0 = .box 112 (if R.isSome then [.t (.str t), .t (.str (R.getD [])), .t (.bool false)] else [.t (.str []), .t (.str []), .t (.bool false)])) t.length
    (by
      rintro i s o q hi ⟨hle, h0, h2, ho, hq, h3, hp⟩
      obtain ⟨j, hj⟩ : ∃ j, t.length - i = j + 1 := ⟨t.length - i - 1, by omega⟩
      have hjl : j < t.length := by omega
      have e1 : (t.length : Int) - 1 - i = (j : Int) := by omega
      have e2 : t.length - (i + 1) = j := by omega
      have e3 : (t.length : Int) - 1 - ((i + 1 : Nat) : Int) = (j : Int) - 1 := by omega
      have hw : IntKind.i64.wrap ((j : Int) - 1) = (j : Int) - 1 := by rw [wrap_of (by omega) (by omega)]
      have hjx : t[j]? = some t[j] := List.getElem?_eq_getElem hjl
      have hjle : j ≤ t.length := by omega
      have hq0 : ¬ q = 0 := by omega
      have hq1 : ¬ 0 = q := by omega
      rw [hj] at hp
      rw [e1] at h3
      rw [e2]
      simp only [e3]
      unfold behindN at hp
      simp only [hjx] at hp
      have h255 := lt255 t[j]
      by_cases hb : t[j] < 255
      · rw [if_pos hb] at hp
        have hadd := add1 t[j]
        have hr1 : List.range 1 = [0] := rfl
        rw [hp]
        simp [loopAt, loopsOf, Tryz.f269, h0, h2, h3, ho, hw, hjx, h255, hb, dd, hjle, hr1, hq0, hq1]
        rw [if_pos (by omega)]
        exact hadd
      · rw [if_neg hb] at hp
        simp [loopAt, loopsOf, Tryz.f269, h0, h2, h3, ho, hw, hjx, h255, hb, hjle, hq, hq0, hq1]
        exact ⟨by omega, hp⟩)
    (by
      rintro s o q ⟨hle, h0, h2, ho, hq, h3, hp⟩
      simp [behindN] at hp
      have h3' : s 3 = .t (.int .i64 (-1)) := by rw [h3]; congr 2; omega
      simp [loopAt, loopsOf, Tryz.f269, h0, h2, h3', ho, hp])
    t.length 0 s o q (by omega) hI)
  simp only [loopAt, loopsOf, Tryz.f269] at lp
  unfold beginP
  have hw0 : IntKind.i64.wrap ((t.length : Int) - 1) = (t.length : Int) - 1 := wrap_of (by omega) (by omega)
  cases hb : behindP t with
  | none =>
    obtain ⟨X, A, B, C, hx⟩ := lp none hb.symm
    have hx' := fun s o q a0 a2 b1 hq (a3 : s 3 = .t (.int .i64 ((t.length : Int) - 1))) => hx s o q ⟨Nat.zero_le _, a0, a2, b1, hq, by rw [a3]; congr 2; omega, by simpa [behindP] using hb.symm⟩
    simp at hx'
    simp [hx', hw0]
  | some h =>
    obtain ⟨X, A, B, C, hx⟩ := lp (some h) hb.symm
    have hx' := fun s o q a0 a2 b1 hq (a3 : s 3 = .t (.int .i64 ((t.length : Int) - 1))) => hx s o q ⟨Nat.zero_le _, a0, a2, b1, hq, by rw [a3]; congr 2; omega, by simpa [behindP] using hb.symm⟩
    simp at hx'
    simp [hx', hw0]
theorem l04Turned (t : Bytes) (f : Bool) (ht : t.length < 4294967296) : run E (.call 271 [xS t, xB f]) = some (.res [xS (if f then turnP t else t)] []) := by
  rw [run_call E 271 _ rfl Tryz.func271 rfl rfl rfl (by simp)]
  have h := l04Turn t ht
  cases f <;> simp [h]
theorem l04Meet (a b : Ivl) : run E (.call 147 [.t (ivlT a), .t (ivlT b)]) = some (.res [ivlX (meetP a b)] []) := by
  rw [run_call E 147 _ rfl Tryz.func147 rfl rfl rfl (by simp)]
  obtain ⟨l, h, p⟩ := a
  obtain ⟨l', h', p'⟩ := b
  unfold meetP
  generalize hm : maxS l l' = m
  generalize hn : minS h h' = n
  simp [maxS] at hm
  simp [minS] at hn
  cases p <;> cases p' <;> simp [hm, hn]
end Go.Yd
/- The interval of a term: spec's l04Term, impl's interval. -/
set_option linter.unusedSimpArgs false
set_option linter.unusedVariables false
namespace Go.Yd
open Go.Ev Go.Proofs Go.Pu
set_option maxRecDepth 100000
set_option maxHeartbeats 16000000
def keyI (v : Val) (f : Bool) : Bytes := if f then turnP (keyD 5 v) else keyD 5 v
def kindB (n : Int) (f : Bool) : Bytes := if f then turnP [byteAt n 0] else [byteAt n 0]
abbrev opnI : Ivl := ⟨[], [], true⟩
def flipO (op : Int) (f : Bool) : Int := if f then (if op = 3 then 5 else if op = 4 then 6 else if op = 5 then 3 else if op = 6 then 4 else op) else op
def implIv (t : Trm) (f : Bool) : Ivl :=
  if flipO t.op f = 1 then beginP (keyI t.v f)
  else if flipO t.op f = 9 then beginP (kindB (t.v.n + 1) f)
  else if flipO t.op f = 5 then { beginP ((keyI t.v f).take 1) with low := (beginP (keyI t.v f)).high }
  else if flipO t.op f = 6 then { beginP ((keyI t.v f).take 1) with low := keyI t.v f }
  else if flipO t.op f = 3 then { beginP ((keyI t.v f).take 1) with high := keyI t.v f }
  else if flipO t.op f = 4 then { beginP ((keyI t.v f).take 1) with high := (beginP (keyI t.v f)).high }
  else opnI
def specIv (t : Trm) (f : Bool) : Ivl :=
  if t.op = 1 then beginP (keyI t.v f)
  else if t.op = 3 ∨ t.op = 5 ∨ t.op = 4 ∨ t.op = 6 then
    if ((decide (t.op = 5) || decide (t.op = 6)) != f) = true then
      if t.op = 4 ∨ t.op = 6 then { beginP (kindB (t.v.k + 1) f) with low := (beginP (keyI t.v f)).low }
      else if (beginP (keyI t.v f)).opn then ⟨[], [], false⟩ else { beginP (kindB (t.v.k + 1) f) with low := (beginP (keyI t.v f)).high }
    else if t.op = 4 ∨ t.op = 6 then meetP (beginP (kindB (t.v.k + 1) f)) ⟨[], (beginP (keyI t.v f)).high, (beginP (keyI t.v f)).opn⟩
    else meetP (beginP (kindB (t.v.k + 1) f)) ⟨[], (beginP (keyI t.v f)).low, false⟩
  else if t.op = 9 then beginP (kindB (t.v.n + 1) f)
  else opnI
theorem keyI_len (v : Val) (f : Bool) (h : okP 5 v = true) : (keyI v f).length ≤ 3311 := by
  have h1 := keyD_len 5 v h
  have h2 := okP_size h
  unfold keyI
  cases f <;> simp [turnP] <;> omega
theorem specTermIv (t : Trm) (f : Bool) (hv : okP 5 t.v = true) (hn : -1000000000000 ≤ t.v.n ∧ t.v.n ≤ 1000000000000) : run E (.call 165 [.t (trmT t), xB f]) = some (.res [ivlX (specIv t f)] []) := by
  rw [run_call E 165 _ rfl Tryz.func165 rfl rfl rfl (by simp)]
  have hr := okP_range hv
  have hs := okP_size hv
  have hw : IntKind.i64.wrap (t.v.k + 1) = t.v.k + 1 := wrap_of (by omega) (by omega)
  have hw2 : IntKind.i64.wrap (t.v.n + 1) = t.v.n + 1 := wrap_of (by omega) (by omega)
  have h1 := l01Number (t.v.k + 1) 1 (by omega)
  have h2 := l01Number (t.v.n + 1) 1 (by omega)
  rw [numP_1] at h1 h2
  have hc1 : ((1 : Nat) : Int) = 1 := rfl
  rw [hc1] at h1 h2
  have h3 := l04Turned [byteAt (t.v.k + 1) 0] f (by simp)
  have h4 := l04Turned [byteAt (t.v.n + 1) 0] f (by simp)
  have h5 := l04Key 5 t.v f hv (by omega)
  have e3 : (if f then turnP [byteAt (t.v.k + 1) 0] else [byteAt (t.v.k + 1) 0]) = kindB (t.v.k + 1) f := rfl
  have e4 : (if f then turnP [byteAt (t.v.n + 1) 0] else [byteAt (t.v.n + 1) 0]) = kindB (t.v.n + 1) f := rfl
  have e5 : (if f then turnP (keyD 5 t.v) else keyD 5 t.v) = keyI t.v f := rfl
  rw [e3] at h3
  rw [e4] at h4
  rw [e5] at h5
  clear e3 e4 e5
  have hkl := keyI_len t.v f hv
  have hb1 : (kindB (t.v.k + 1) f).length = 1 := by unfold kindB; cases f <;> simp [turnP]
  have hb2 : (kindB (t.v.n + 1) f).length = 1 := by unfold kindB; cases f <;> simp [turnP]
  have h6 := l04Begin (kindB (t.v.k + 1) f) (by omega)
  have h7 := l04Begin (kindB (t.v.n + 1) f) (by omega)
  have h8 := l04Begin (keyI t.v f) (by omega)
  have m1 := l04Meet (beginP (kindB (t.v.k + 1) f)) ⟨[], (beginP (keyI t.v f)).high, (beginP (keyI t.v f)).opn⟩
  have m2 := l04Meet (beginP (kindB (t.v.k + 1) f)) ⟨[], (beginP (keyI t.v f)).low, false⟩
  unfold specIv
  generalize beginP (kindB (t.v.k + 1) f) = kd at *
  generalize beginP (kindB (t.v.n + 1) f) = kn at *
  generalize beginP (keyI t.v f) = on at *
  generalize meetP kd ⟨[], on.high, on.opn⟩ = mm1 at *
  generalize meetP kd ⟨[], on.low, false⟩ = mm2 at *
  obtain ⟨kl, kh, ko⟩ := kd
  obtain ⟨ol, oh, oo⟩ := on
  simp at m1 m2
  by_cases o1 : t.op = 1
  · have o3 : ¬ t.op = 3 := by omega
    simp [o1, hw, h1, h3, h5, h6, h8]
  · by_cases o3 : t.op = 3
    · cases f <;> simp [o3, hw, h1, h3, h5, h6, h8, m2] <;> try (cases oo <;> simp)
    · by_cases o5 : t.op = 5
      · cases f <;> simp [o5, hw, h1, h3, h5, h6, h8, m2] <;> try (cases oo <;> simp)
      · by_cases o4 : t.op = 4
        · cases f <;> simp [o4, hw, h1, h3, h5, h6, h8, m1]
        · by_cases o6 : t.op = 6
          · cases f <;> simp [o6, hw, h1, h3, h5, h6, h8, m1]
          · by_cases o9 : t.op = 9
            · simp [o9, hw, hw2, h1, h2, h3, h4, h5, h6, h7, h8]
            · have q1 : (t.op = 1) = False := eq_false o1
              have q3 : (t.op = 3) = False := eq_false o3
              have q4 : (t.op = 4) = False := eq_false o4
              have q5 : (t.op = 5) = False := eq_false o5
              have q6 : (t.op = 6) = False := eq_false o6
              have q9 : (t.op = 9) = False := eq_false o9
              simp [q1, q3, q4, q5, q6, q9, hw, h1, h3, h5, h6, h8]
end Go.Yd
/- The interval of a term: impl's; both are alike. -/
set_option linter.unusedSimpArgs false
set_option linter.unusedVariables false
namespace Go.Yd
open Go.Ev Go.Proofs Go.Pu
set_option maxRecDepth 100000
set_option maxHeartbeats 16000000
theorem keyI_cons (v : Val) (f : Bool) (h : okP 5 v = true) : ∃ r, keyI v f = kindB (v.k + 1) f ++ r := by
  obtain ⟨r, hr⟩ := key_cons h
  unfold keyI kindB
  rw [hr]
  cases f
  · exact ⟨r, by simp⟩
  · exact ⟨turnP r, by simp [turnP]⟩
theorem kindB_len (n : Int) (f : Bool) : (kindB n f).length = 1 := by unfold kindB; cases f <;> simp [turnP]
theorem keyI_take (v : Val) (f : Bool) (h : okP 5 v = true) : (keyI v f).take 1 = kindB (v.k + 1) f := by
  obtain ⟨r, hr⟩ := keyI_cons v f h
  rw [hr, List.take_append_of_le_length (by rw [kindB_len]; omega), List.take_of_length_le (by rw [kindB_len]; omega)]
theorem implTermIv (t : Trm) (f : Bool) (hv : okP 5 t.v = true) (hn : -1000000000000 ≤ t.v.n ∧ t.v.n ≤ 1000000000000) : run E (.call 163 [.t (trmT t), xB f]) = some (.res [ivlX (implIv t f)] []) := by
  rw [run_call E 163 _ rfl Tryz.func163 rfl rfl rfl (by simp)]
  have hs := okP_size hv
  have hw2 : IntKind.i64.wrap (t.v.n + 1) = t.v.n + 1 := wrap_of (by omega) (by omega)
  have hu := u8_wrap (t.v.n + 1)
  have h1 := keyOf 5 t.v f hv (by omega)
  have e5 : (if f then turnP (keyD 5 t.v) else keyD 5 t.v) = keyI t.v f := rfl
  rw [e5] at h1
  clear e5
  have hkl := keyI_len t.v f hv
  have ht1 := keyI_take t.v f hv
  have hb1 := kindB_len (t.v.k + 1) f
  have hb2 := kindB_len (t.v.n + 1) f
  have hge : 1 ≤ (keyI t.v f).length := by
    have := congrArg List.length ht1
    simp at this
    omega
  have h2 := implBegins ((keyI t.v f).take 1) (by rw [ht1]; omega)
  have h3 := implBegins (keyI t.v f) (by omega)
  have h4 := fallen [byteAt (t.v.n + 1) 0] f (by simp)
  have e4 : (if f then turnP [byteAt (t.v.n + 1) 0] else [byteAt (t.v.n + 1) 0]) = kindB (t.v.n + 1) f := rfl
  rw [e4] at h4
  clear e4
  have h5 := implBegins (kindB (t.v.n + 1) f) (by omega)
  have hr1 : List.range 1 = [0] := rfl
  have n2 := n163_2
  have s2 := s163_2
  simp [regionOf, findR, pick, Tryz.f163] at n2 s2
  have dd := fun st => run_region_drawS E st 2 _ n2 s2
  clear n2 s2
  unfold implIv
  clear ht1
  generalize beginP ((keyI t.v f).take 1) = kd at *
  generalize beginP (kindB (t.v.n + 1) f) = kn at *
  generalize beginP (keyI t.v f) = on at *
  obtain ⟨kl, kh, ko⟩ := kd
  obtain ⟨ol, oh, oo⟩ := on
  simp at h4
  by_cases o1 : t.op = 1
  · cases f <;> simp [flipO, o1, h1, h2, h3, dd, hge]
  · by_cases o3 : t.op = 3
    · cases f <;> simp [flipO, o3, h1, h2, h3, dd, hge]
    · by_cases o5 : t.op = 5
      · cases f <;> simp [flipO, o5, h1, h2, h3, dd, hge]
      · by_cases o4 : t.op = 4
        · cases f <;> simp [flipO, o4, h1, h2, h3, dd, hge]
        · by_cases o6 : t.op = 6
          · cases f <;> simp [flipO, o6, h1, h2, h3, dd, hge]
          · by_cases o9 : t.op = 9
            · cases f <;> simp [flipO, o9, h1, h2, h3, h4, h5, dd, hge, hw2, hu, hr1]
            · have q1 : (t.op = 1) = False := eq_false o1
              have q3 : (t.op = 3) = False := eq_false o3
              have q4 : (t.op = 4) = False := eq_false o4
              have q5 : (t.op = 5) = False := eq_false o5
              have q6 : (t.op = 6) = False := eq_false o6
              have q9 : (t.op = 9) = False := eq_false o9
              cases f <;> simp [flipO, q1, q3, q4, q5, q6, q9, h1, h2, h3, dd, hge]
end Go.Yd
/- The interval of a term: spec's is impl's. -/
set_option linter.unusedSimpArgs false
set_option linter.unusedVariables false
namespace Go.Yd
open Go.Ev Go.Proofs Go.Pu
set_option maxRecDepth 100000
set_option maxHeartbeats 4000000
theorem behind_cons (h : UInt8) (r : Bytes) (hh : h < 255) : ∀ n, n ≤ r.length → ∃ x, behindN (h :: r) (n + 1) = some x ∧ (x = [h + 1] ∨ ∃ y, x = h :: y)
  | 0, _ => ⟨[h + 1], by simp [behindN, hh], .inl rfl⟩
  | n + 1, hn => by
    obtain ⟨x, h1, h2⟩ := behind_cons h r hh n (by omega)
    have hg : (h :: r)[n + 1]? = some r[n] := by simp [List.getElem?_eq_getElem (show n < r.length by omega)]
    by_cases hb : r[n] < 255
    · refine ⟨(h :: r).take (n + 1) ++ [r[n] + 1], ?_, .inr ⟨r.take n ++ [r[n] + 1], by simp⟩⟩
      rw [behindN]
      simp only [hg, if_pos hb]
    · refine ⟨x, ?_, h2⟩
      rw [behindN]
      simp only [hg, if_neg hb]
      exact h1
theorem begin_cons (h : UInt8) (r : Bytes) (hh : h < 255) : ∃ x, beginP (h :: r) = ⟨h :: r, x, false⟩ ∧ (x = [h + 1] ∨ ∃ y, x = h :: y) := by
  obtain ⟨x, h1, h2⟩ := behind_cons h r hh r.length (Nat.le_refl _)
  refine ⟨x, ?_, h2⟩
  have : behindP (h :: r) = some x := h1
  unfold beginP
  rw [this]
theorem begin_one (h : UInt8) (hh : h < 255) : beginP [h] = ⟨[h], [h + 1], false⟩ := by
  have : behindP [h] = some [h + 1] := by simp [behindP, behindN, hh]
  unfold beginP
  rw [this]
theorem less_cons (h : UInt8) (y : Bytes) (hh : h < 255) : Op.bytesLess [h + 1] (h :: y) = false := by
  cases hb : Op.bytesLess [h + 1] (h :: y) with
  | false => rfl
  | true =>
    exfalso
    have h1 := (bytesLess_iff _ _).1 hb
    have h3 : h.toNat < 255 := by simpa [UInt8.lt_iff_toNat_lt] using hh
    have h2 : h < h + 1 := by
      rw [UInt8.lt_iff_toNat_lt, UInt8.toNat_add]
      have : (1 : UInt8).toNat = 1 := rfl
      omega
    rcases List.cons_lt_cons_iff.1 h1 with h4 | ⟨h4, _⟩
    · rw [UInt8.lt_iff_toNat_lt] at h4 h2
      omega
    · have e := congrArg UInt8.toNat h4
      rw [UInt8.lt_iff_toNat_lt] at h2
      omega
theorem min_cons (h : UInt8) (x : Bytes) (hh : h < 255) (hx : x = [h + 1] ∨ ∃ y, x = h :: y) : minS [h + 1] x = x := by
  unfold minS
  rcases hx with rfl | ⟨y, rfl⟩
  · simp
  · have h3 : h.toNat < 255 := by simpa [UInt8.lt_iff_toNat_lt] using hh
    have hne : ([h + 1] == h :: y) = false := by
      rw [beq_eq_false_iff_ne]
      intro e
      injection e with e _
      have := congrArg UInt8.toNat e
      rw [UInt8.toNat_add] at this
      have h1 : (1 : UInt8).toNat = 1 := rfl
      omega
    rw [less_cons h y hh, hne]
    simp
theorem max_one (h : UInt8) : maxS [h] [] = [h] := by
  unfold maxS
  have : Op.bytesLess [h] [] = false := rfl
  rw [this]; rfl
theorem specIv_eq (t : Trm) (f : Bool) (hv : okP 5 t.v = true) : specIv t f = implIv t f := by
  have hr := okP_range hv
  obtain ⟨r, hk⟩ := keyI_cons t.v f hv
  obtain ⟨h, hh, hb⟩ : ∃ h : UInt8, h < 255 ∧ kindB (t.v.k + 1) f = [h] := by
    have hn := head_byte hv
    cases f with
    | false =>
      refine ⟨_, ?_, rfl⟩
      rw [UInt8.lt_iff_toNat_lt, hn]
      have : (255 : UInt8).toNat = 255 := rfl
      omega
    | true =>
      refine ⟨turnB (byteAt (t.v.k + 1) 0), ?_, rfl⟩
      rw [UInt8.lt_iff_toNat_lt]
      have h1 : (255 : UInt8).toNat = 255 := rfl
      have h2 : (turnB (byteAt (t.v.k + 1) 0)).toNat = 255 - (byteAt (t.v.k + 1) 0).toNat := by
        unfold turnB
        rw [UInt8.toNat_sub]
        have := (byteAt (t.v.k + 1) 0).toNat_lt
        omega
      omega
  have ht := keyI_take t.v f hv
  rw [hb] at hk ht
  have hk' : keyI t.v f = h :: r := by simpa using hk
  obtain ⟨x, hx, hx2⟩ := begin_cons h r hh
  have b1 := begin_one h hh
  have m1 := min_cons h x hh hx2
  have m2 := min_cons h (h :: r) hh (.inr ⟨r, rfl⟩)
  have m3 := max_one h
  unfold specIv implIv
  rw [ht, hb, hk', hx, b1]
  by_cases o1 : t.op = 1
  · cases f <;> simp [flipO, o1]
  · by_cases o3 : t.op = 3
    · cases f <;> simp [flipO, o3, meetP, m1, m2, m3]
    · by_cases o5 : t.op = 5
      · cases f <;> simp [flipO, o5, meetP, m1, m2, m3]
      · by_cases o4 : t.op = 4
        · cases f <;> simp [flipO, o4, meetP, m1, m2, m3]
        · by_cases o6 : t.op = 6
          · cases f <;> simp [flipO, o6, meetP, m1, m2, m3]
          · by_cases o9 : t.op = 9
            · cases f <;> simp [flipO, o9]
            · cases f <;> simp [flipO, o1, o3, o4, o5, o6, o9]
end Go.Yd
/- The interval of a clause and of a filter: spec's and impl's. -/
set_option linter.unusedSimpArgs false
set_option linter.unusedVariables false
namespace Go.Yd
open Go.Ev Go.Proofs Go.Pu
set_option maxRecDepth 100000
set_option maxHeartbeats 16000000
def saysB (t : Trm) : Bool := decide (t.op = 2) || decide (t.op = 7) || decide (t.op = 8) || decide (t.op = 10)
def hitB (p : Prt) (t : Trm) : Bool := t.path == p.path && !saysB t
def clauseI (p : Prt) (c : List Trm) : Ivl := match c.find? (hitB p) with
  | some t => implIv t p.desc
  | none => opnI
def clStep (p : Prt) (out : Ivl) (t : Trm) : Ivl := if ((t.path == p.path) && out.opn && (out.low == [])) = true then specIv t p.desc else out
theorem specIv_says (t : Trm) (f : Bool) (h : saysB t = true) : specIv t f = opnI := by
  unfold saysB at h
  simp at h
  unfold specIv
  have h1 : ¬ t.op = 1 := by omega
  have h2 : ¬ (t.op = 3 ∨ t.op = 5 ∨ t.op = 4 ∨ t.op = 6) := by omega
  have h3 : ¬ t.op = 9 := by omega
  rw [if_neg h1, if_neg h2, if_neg h3]
end Go.Yd
/- The interval of a clause: spec's l07Clause and impl's, run. -/
set_option linter.unusedSimpArgs false
set_option linter.unusedVariables false
namespace Go.Yd
open Go.Ev Go.Proofs Go.Pu
set_option maxRecDepth 100000
set_option maxHeartbeats 16000000
abbrev ivlS (i : Ivl) : List SV := [.t (.str i.low), .t (.str i.high), .t (.bool i.opn)]
def trmS (t : Trm) : List SV := [.t (.int .i64 t.op), .t (.str t.path), .t (.int .i64 t.v.k), .t (.int .i64 t.v.n), .t (.str t.v.t)]
def termsOK (c : List Trm) : Prop := ∀ t ∈ c, okP 5 t.v = true ∧ opOK t.op t.v = true ∧ t.path.length < 4294967296
end Go.Yd
/- The interval of a filter: spec's l07Filter and impl's; FilterInterval of both. -/
set_option linter.unusedSimpArgs false
set_option linter.unusedVariables false
namespace Go.Yd
open Go.Ev Go.Proofs Go.Pu
set_option maxRecDepth 100000
set_option maxHeartbeats 16000000
def flStep (p : Prt) (out : Ivl) (c : List Trm) : Ivl := ⟨minS out.low (clauseI p c).low, maxS out.high (clauseI p c).high, out.opn || (clauseI p c).opn⟩
def closeI (i : Ivl) : Ivl := if i.opn then ⟨i.low, [], true⟩ else i
def filterI (p : Prt) : List (List Trm) → Ivl
  | [] => opnI
  | c :: r => closeI (r.foldl (flStep p) (clauseI p c))
def clausesOK (f : List (List Trm)) : Prop := ∀ c ∈ f, c.length < 4294967296 ∧ termsOK c
end Go.Yd
/- The interval of a filter: impl's; FilterInterval of both. -/
set_option linter.unusedSimpArgs false
set_option linter.unusedVariables false
namespace Go.Yd
open Go.Ev Go.Proofs Go.Pu
set_option maxRecDepth 100000
set_option maxHeartbeats 16000000
/-- What FilterInterval answers. -/
def fivOut (f : List (List Trm)) (p : Prt) : Ivl × Int := if filterOK f && pathOK p.path then (filterI p f, 0) else (⟨[], [], false⟩, 1)
end Go.Yd
