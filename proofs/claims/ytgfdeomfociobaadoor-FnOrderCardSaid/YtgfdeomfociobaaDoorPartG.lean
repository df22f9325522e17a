/- Orders of lists: slices.CompareFunc, cmp.Or. -/
import Derived.Test.YtgfdeomfociobaaDoorPartF
set_option linter.unusedSimpArgs false
set_option linter.unusedVariables false
namespace Go.Vd
open Go.Ev Go.Proofs Go.Pu
set_option maxRecDepth 100000
set_option maxHeartbeats 16000000
/-- Lists in order, item by item. -/
def ordL {α : Type} (f : α → α → Int) : List α → List α → Int
  | [], [] => 0
  | [], _ :: _ => -1
  | _ :: _, [] => 1
  | x :: xs, y :: ys => if f x y = 0 then ordL f xs ys else f x y
/-- The first list is gone through with nothing told apart. -/
def thru {α : Type} (f : α → α → Int) : List α → List α → Bool
  | [], _ => true
  | _ :: _, [] => false
  | x :: xs, y :: ys => decide (f x y = 0) && thru f xs ys
theorem thru_ord {α : Type} {f : α → α → Int} : ∀ {xs ys : List α}, thru f xs ys = true → ordL f xs ys = if xs.length < ys.length then -1 else 0
  | [], [], _ => by simp [ordL]
  | [], _ :: _, _ => by simp [ordL]
  | _ :: _, [], h => by simp [thru] at h
  | x :: xs, y :: ys, h => by
    simp [thru] at h
    have := thru_ord h.2
    simp [ordL, h.1, this]
def orI (a b : Int) : Int := if a = 0 then b else a
theorem cmpOr (a b : Int) : run E (.call 35 [.t (.list [.int .i64 a, .int .i64 b])]) = some (.res [xI (orI a b)] []) := by
  rw [run_call E 35 _ rfl Tryd.func35 rfl rfl rfl (by simp)]
  have lp := sk (fun s o q hI => loop_for (c := loopAt Tryd.f35 0) (N := 18)
    (fun i s o q => s 3 = .t (.int .i64 0) ∧ s 6 = .t (.list [.int .i64 a, .int .i64 b]) ∧ s 7 = .t (.int .i64 2) ∧ s 8 = .t (.int .i64 i) ∧ (i = 1 → a = 0) ∧ (i = 2 → a = 0 ∧ b = 0))
    (fun e s' o' q' => e = (if orI a b = 0 then .exit 0 else .ret) ∧ s' 3 = .t (.int .i64 0) ∧ (¬ orI a b = 0 → s' 2 = .t (.int .i64 (orI a b)))) 2
    (by
      rintro i s o q hi ⟨h3, h6, h7, h8, hp, hp2⟩
      have hw := wrap_succ (n := i) (by omega)
      match i, hi with
      | 0, _ =>
        by_cases ha : a = 0
        · subst ha
          simp [loopAt, loopsOf, Tryd.f35, h3, h6, h7, h8]
        · have hb : orI a b = a := by simp [orI, ha]
          simp [loopAt, loopsOf, Tryd.f35, h3, h6, h7, h8, ha, hb]
      | 1, _ =>
        have ha := hp rfl
        subst ha
        have hb : orI 0 b = b := by simp [orI]
        simp at hw
        by_cases h : b = 0
        · subst h
          simp [loopAt, loopsOf, Tryd.f35, h3, h6, h7, h8, hw]
        · simp [loopAt, loopsOf, Tryd.f35, h3, h6, h7, h8, hb, h, hw])
    (by
      rintro s o q ⟨h3, h6, h7, h8, hp, hp2⟩
      obtain ⟨ha, hb⟩ := hp2 rfl
      subst ha hb
      simp [loopAt, loopsOf, Tryd.f35, h3, h6, h7, h8, orI])
    2 0 s o q (by omega) hI)
  simp only [loopAt, loopsOf, Tryd.f35] at lp
  obtain ⟨X, A, B, C, hx⟩ := lp
  generalize orI a b = r at *
  by_cases h : r = 0
  · subst h
    simp at hx
    simp [hx]
  · simp [h] at hx
    simp [hx]
theorem compareFunc_195 (xs ys : List Val) (g : Nat) (f : Val → Val → Int) (hl : xs.length < 4294967296) (hl2 : ys.length < 4294967296) (hm : E.md g = []) (hf : E.flat g = true) (hp : ∀ x ∈ xs, ∀ y ∈ ys, run E (.call g [.t (valT x), .t (valT y)]) = some (.res [xI (f x y)] [])) :
    run E (.call 38 [.t (.list (xs.map valT)), .t (.list (ys.map valT)), .fn g []]) = some (.res [xI (ordL f xs ys)] []) := by
  rw [run_call E 38 _ rfl Tryd.func38 rfl rfl rfl (by simp)]
  rw [E_md] at hm
  have lp := fun (r : Int) (w : Bool) (hr : r = ordL f xs ys) (hw : w = thru f xs ys) => sk (fun s o q hI => loop_for (c := loopAt Tryd.f38 0) (N := 39)
    (fun i s o q => s 0 = .t (.list (xs.map valT)) ∧ s 1 = .t (.list (ys.map valT)) ∧ s 2 = .fn g [] ∧ s 11 = .t (.list (xs.map valT)) ∧ s 12 = .t (.int .i64 xs.length) ∧ s 13 = .t (.int .i64 i) ∧ i ≤ ys.length ∧ r = ordL f (xs.drop i) (ys.drop i) ∧ w = thru f (xs.drop i) (ys.drop i))
    (fun e s' o' q' => e = (if w then .exit 0 else .ret) ∧ s' 0 = .t (.list (xs.map valT)) ∧ s' 1 = .t (.list (ys.map valT)) ∧ (w = false → s' 6 = .t (.int .i64 r))) xs.length
    (by
      rintro i s o q hi ⟨h0, h1, h2, h11, h12, h13, hiy, hr, hwr⟩
      have hi' : (i : Int) < (xs.length : Int) := by omega
      have hw := wrap_succ (n := i) (by omega)
      have hxi : xs[i]? = some xs[i] := List.getElem?_eq_getElem hi
      have hqq : q ≠ q + 1 := by omega
      have hqq2 : q + 1 ≠ q := by omega
      rw [List.drop_eq_getElem_cons hi] at hr hwr
      by_cases hy : i < ys.length
      · have hy' : ¬ (ys.length : Int) ≤ (i : Int) := by omega
        have hyi : ys[i]? = some ys[i] := List.getElem?_eq_getElem hy
        have hx := hp xs[i] (List.getElem_mem hi) ys[i] (List.getElem_mem hy)
        rw [List.drop_eq_getElem_cons hy] at hr hwr
        rw [ordL] at hr
        rw [thru] at hwr
        by_cases hz : f xs[i] ys[i] = 0
        · rw [hz] at hx
          simp [hz] at hr hwr
          simp [-mdOf, loopAt, loopsOf, Tryd.f38, h0, h1, h2, h11, h12, h13, hi', hxi, hyi, hx, hw, hm, hf, hy, hy', hqq, hqq2]
          exact ⟨by omega, hr, hwr⟩
        · simp [hz] at hr hwr
          simp [-mdOf, loopAt, loopsOf, Tryd.f38, h0, h1, h2, h11, h12, h13, hi', hxi, hyi, hx, hw, hm, hf, hy, hy', hqq, hqq2, hz, hr, hwr]
      · have hy' : (ys.length : Int) ≤ (i : Int) := by omega
        have he : ys.drop i = [] := List.drop_eq_nil_of_le (by omega)
        rw [he] at hr hwr
        rw [ordL] at hr
        rw [thru] at hwr
        simp [-mdOf, loopAt, loopsOf, Tryd.f38, h0, h1, h2, h11, h12, h13, hi', hxi, hw, hm, hf, hy, hy', hqq, hqq2, hr, hwr])
    (by
      rintro s o q ⟨h0, h1, h2, h11, h12, h13, hiy, hr, hwr⟩
      rw [List.drop_length, thru] at hwr
      simp [loopAt, loopsOf, Tryd.f38, h0, h1, h2, h11, h12, h13, hwr])
    xs.length 0 s o q (by omega) hI)
  simp only [loopAt, loopsOf, Tryd.f38] at lp
  obtain ⟨w, hw⟩ : ∃ w, w = thru f xs ys := ⟨_, rfl⟩
  obtain ⟨r, hr⟩ : ∃ r, r = ordL f xs ys := ⟨_, rfl⟩
  obtain ⟨X, A, B, C, hx⟩ := lp r w hr hw
  have hx' := fun s o q a0 a1 a2 a11 a12 a13 => hx s o q ⟨a0, a1, a2, a11, a12, a13, Nat.zero_le _, by simpa using hr, by simpa using hw⟩
  clear hx lp
  rw [← hr]
  cases w with
  | true =>
    have ho := thru_ord hw.symm
    rw [← hr] at ho
    have hlt : ((xs.length : Int) < (ys.length : Int)) = (xs.length < ys.length) := by simp
    by_cases h : xs.length < ys.length
    · simp [h] at ho
      simp at hx'
      simp [hx', h, ho]
    · simp [h] at ho
      simp at hx'
      simp [hx', h, ho]
  | false =>
    simp at hx'
    simp [hx']
theorem compareFunc_196 (xs ys : List Fld) (g : Nat) (f : Fld → Fld → Int) (hl : xs.length < 4294967296) (hl2 : ys.length < 4294967296) (hm : E.md g = []) (hf : E.flat g = true) (hp : ∀ x ∈ xs, ∀ y ∈ ys, run E (.call g [.t (fldT x), .t (fldT y)]) = some (.res [xI (f x y)] [])) :
    run E (.call 40 [.t (.list (xs.map fldT)), .t (.list (ys.map fldT)), .fn g []]) = some (.res [xI (ordL f xs ys)] []) := by
  rw [run_call E 40 _ rfl Tryd.func40 rfl rfl rfl (by simp)]
  rw [E_md] at hm
  have lp := fun (r : Int) (w : Bool) (hr : r = ordL f xs ys) (hw : w = thru f xs ys) => sk (fun s o q hI => loop_for (c := loopAt Tryd.f40 0) (N := 39)
    (fun i s o q => s 0 = .t (.list (xs.map fldT)) ∧ s 1 = .t (.list (ys.map fldT)) ∧ s 2 = .fn g [] ∧ s 11 = .t (.list (xs.map fldT)) ∧ s 12 = .t (.int .i64 xs.length) ∧ s 13 = .t (.int .i64 i) ∧ i ≤ ys.length ∧ r = ordL f (xs.drop i) (ys.drop i) ∧ w = thru f (xs.drop i) (ys.drop i))
    (fun e s' o' q' => e = (if w then .exit 0 else .ret) ∧ s' 0 = .t (.list (xs.map fldT)) ∧ s' 1 = .t (.list (ys.map fldT)) ∧ (w = false → s' 6 = .t (.int .i64 r))) xs.length
    (by
      rintro i s o q hi ⟨h0, h1, h2, h11, h12, h13, hiy, hr, hwr⟩
      have hi' : (i : Int) < (xs.length : Int) := by omega
      have hw := wrap_succ (n := i) (by omega)
      have hxi : xs[i]? = some xs[i] := List.getElem?_eq_getElem hi
      have hqq : q ≠ q + 1 := by omega
      have hqq2 : q + 1 ≠ q := by omega
      rw [List.drop_eq_getElem_cons hi] at hr hwr
      by_cases hy : i < ys.length
      · have hy' : ¬ (ys.length : Int) ≤ (i : Int) := by omega
        have hyi : ys[i]? = some ys[i] := List.getElem?_eq_getElem hy
        have hx := hp xs[i] (List.getElem_mem hi) ys[i] (List.getElem_mem hy)
        rw [List.drop_eq_getElem_cons hy] at hr hwr
        rw [ordL] at hr
        rw [thru] at hwr
        by_cases hz : f xs[i] ys[i] = 0
        · rw [hz] at hx
          simp [hz] at hr hwr
          simp [-mdOf, loopAt, loopsOf, Tryd.f40, h0, h1, h2, h11, h12, h13, hi', hxi, hyi, hx, hw, hm, hf, hy, hy', hqq, hqq2]
          exact ⟨by omega, hr, hwr⟩
        · simp [hz] at hr hwr
          simp [-mdOf, loopAt, loopsOf, Tryd.f40, h0, h1, h2, h11, h12, h13, hi', hxi, hyi, hx, hw, hm, hf, hy, hy', hqq, hqq2, hz, hr, hwr]
      · have hy' : (ys.length : Int) ≤ (i : Int) := by omega
        have he : ys.drop i = [] := List.drop_eq_nil_of_le (by omega)
        rw [he] at hr hwr
        rw [ordL] at hr
        rw [thru] at hwr
        simp [-mdOf, loopAt, loopsOf, Tryd.f40, h0, h1, h2, h11, h12, h13, hi', hxi, hw, hm, hf, hy, hy', hqq, hqq2, hr, hwr])
    (by
      rintro s o q ⟨h0, h1, h2, h11, h12, h13, hiy, hr, hwr⟩
      rw [List.drop_length, thru] at hwr
      simp [loopAt, loopsOf, Tryd.f40, h0, h1, h2, h11, h12, h13, hwr])
    xs.length 0 s o q (by omega) hI)
  simp only [loopAt, loopsOf, Tryd.f40] at lp
  obtain ⟨w, hw⟩ : ∃ w, w = thru f xs ys := ⟨_, rfl⟩
  obtain ⟨r, hr⟩ : ∃ r, r = ordL f xs ys := ⟨_, rfl⟩
  obtain ⟨X, A, B, C, hx⟩ := lp r w hr hw
  have hx' := fun s o q a0 a1 a2 a11 a12 a13 => hx s o q ⟨a0, a1, a2, a11, a12, a13, Nat.zero_le _, by simpa using hr, by simpa using hw⟩
  clear hx lp
  rw [← hr]
  cases w with
  | true =>
    have ho := thru_ord hw.symm
    rw [← hr] at ho
    have hlt : ((xs.length : Int) < (ys.length : Int)) = (xs.length < ys.length) := by simp
    by_cases h : xs.length < ys.length
    · simp [h] at ho
      simp at hx'
      simp [hx', h, ho]
    · simp [h] at ho
      simp at hx'
      simp [hx', h, ho]
  | false =>
    simp at hx'
    simp [hx']
end Go.Vd
/- impl's order of values. -/
set_option linter.unusedSimpArgs false
set_option linter.unusedVariables false
namespace Go.Vd
open Go.Ev Go.Proofs Go.Pu
set_option maxRecDepth 100000
set_option maxHeartbeats 16000000
/-- Values in order. -/
def ordD : Nat → Val → Val → Int
  | d, a, b =>
    if orI (cmpI a.k b.k) (cmpI a.n b.n) = 0 then
      (if a.k = 4 then (match d with
        | 0 => 0
        | d + 1 => ordL (ordD d) (itemsL a.t) (itemsL b.t))
      else if a.k = 5 then (match d with
        | 0 => 0
        | d + 1 => ordL (fun f g => orI (Lib.compareBytes f.name g.name) (ordD d f.v g.v)) (fieldsL a.t) (fieldsL b.t))
      else Lib.compareBytes a.t b.t)
    else orI (cmpI a.k b.k) (cmpI a.n b.n)
theorem orI_zero {a b : Int} (h : orI a b = 0) : a = 0 ∧ b = 0 := by
  unfold orI at h
  split at h
  · exact ⟨by assumption, h⟩
  · contradiction
theorem orderFields (f g : Fld) (n : Int) (h : run E (.call 17 [xV f.v, xV g.v]) = some (.res [xI n] [])) : run E (.call 41 [.t (fldT f), .t (fldT g)]) = some (.res [xI (orI (Lib.compareBytes f.name g.name) n)] []) := by
  rw [run_call E 41 _ rfl Tryd.func41 rfl rfl rfl (by simp)]
  have d1 := d41_1
  simp [regionOf, findR, pick, Tryd.f41] at d1
  have dd := fun st => run_region_draw E st 1 _ d1
  clear d1
  have hr2 : List.range 2 = [0, 1] := rfl
  simp [dd, compare f.name g.name, h, cmpOr, hr2]
theorem implOrder : ∀ (d : Nat) (a b : Val), okP d a = true → okP d b = true → a.t.length < 4294967296 → b.t.length < 4294967296 → run E (.call 17 [xV a, xV b]) = some (.res [xI (ordD d a b)] []) := by
  intro d
  induction d with
  | zero =>
    intro a b ha hb hal hbl
    rw [run_call E 17 _ rfl Tryd.func17 rfl rfl rfl (by simp)]
    have d1 := d17_1
    simp [regionOf, findR, pick, Tryd.f17] at d1
    have dd := fun st => run_region_draw E st 1 _ d1
    clear d1
    have hr2 : List.range 2 = [0, 1] := rfl
    have e4 : (a.k = 4) = False := by
      simp; intro h; obtain ⟨e, _, hd, _⟩ := okP_list ha h; omega
    have e5 : (a.k = 5) = False := by
      simp; intro h; obtain ⟨e, _, hd, _⟩ := okP_doc ha h; omega
    have c1 := compareInt a.k b.k
    have c2 := compareInt a.n b.n
    have c3 := cmpOr (cmpI a.k b.k) (cmpI a.n b.n)
    have c4 := compare a.t b.t
    unfold ordD
    generalize orI (cmpI a.k b.k) (cmpI a.n b.n) = z at *
    by_cases hz : z = 0
    · subst hz
      simp [dd, hr2, c1, c2, c3, c4, e4, e5]
    · simp [dd, hr2, c1, c2, c3, c4, e4, e5, hz]
  | succ d ih =>
    intro a b ha hb hal hbl
    rw [run_call E 17 _ rfl Tryd.func17 rfl rfl rfl (by simp)]
    have d1 := d17_1
    simp [regionOf, findR, pick, Tryd.f17] at d1
    have dd := fun st => run_region_draw E st 1 _ d1
    clear d1
    have hr2 : List.range 2 = [0, 1] := rfl
    have c1 := compareInt a.k b.k
    have c2 := compareInt a.n b.n
    have c3 := cmpOr (cmpI a.k b.k) (cmpI a.n b.n)
    have c4 := compare a.t b.t
    have hkk : orI (cmpI a.k b.k) (cmpI a.n b.n) = 0 → b.k = a.k := by
      intro h
      have := (orI_zero h).1
      rw [cmpI_eq] at this
      exact this.symm
    unfold ordD
    generalize orI (cmpI a.k b.k) (cmpI a.n b.n) = z at *
    by_cases hz : z = 0
    · subst hz
      have hk := hkk rfl
      clear hkk
      by_cases h4 : a.k = 4
      · obtain ⟨e, xs, hd, _, hi, hx⟩ := okP_list ha h4
        obtain ⟨e', ys, hd', _, hi', hy⟩ := okP_list hb (by omega)
        obtain rfl : d = e := by omega
        obtain rfl : d = e' := by omega
        obtain ⟨s1, s2⟩ := items_small hi
        obtain ⟨t1, t2⟩ := items_small hi'
        have i1 := implItems a hal
        have i2 := implItems b hbl
        rw [itemsI_some hi] at i1
        rw [itemsI_some hi'] at i2
        have hc := compareFunc_195 xs ys 17 (ordD d) (by omega) (by omega) (by simp) (by simp) (fun x hx' y hy' => ih x y (hx x hx') (hy y hy') (by have := s2 x hx'; omega) (by have := t2 y hy'; omega))
        have e4 : (a.k = 4) = True := eq_true h4
        have eL : itemsL a.t = xs := by simp [itemsL, hi]
        have eL' : itemsL b.t = ys := by simp [itemsL, hi']
        clear h4
        simp at i1 i2
        simp [dd, hr2, c1, c2, c3, c4, e4, i1, i2, hc, eL, eL']
      · have e4 : (a.k = 4) = False := eq_false h4
        by_cases h5 : a.k = 5
        · obtain ⟨e, xs, hd, _, hi, _, hx⟩ := okP_doc ha h5
          obtain ⟨e', ys, hd', _, hi', _, hy⟩ := okP_doc hb (by omega)
          obtain rfl : d = e := by omega
          obtain rfl : d = e' := by omega
          obtain ⟨s1, s2⟩ := fields_small hi
          obtain ⟨t1, t2⟩ := fields_small hi'
          have i1 := implFields a hal
          have i2 := implFields b hbl
          rw [fieldsI_some hi] at i1
          rw [fieldsI_some hi'] at i2
          have hc := compareFunc_196 xs ys 41 (fun f g => orI (Lib.compareBytes f.name g.name) (ordD d f.v g.v)) (by omega) (by omega) (by simp) (by simp) (fun x hx' y hy' => orderFields x y _ (ih x.v y.v (hx x hx').2 (hy y hy').2 (by have := s2 x hx'; omega) (by have := t2 y hy'; omega)))
          have e5 : (a.k = 5) = True := eq_true h5
          have eL : fieldsL a.t = xs := by simp [fieldsL, hi]
          have eL' : fieldsL b.t = ys := by simp [fieldsL, hi']
          clear h5
          simp at i1 i2
          simp [dd, hr2, c1, c2, c3, c4, e4, e5, i1, i2, hc, eL, eL']
        · have e5 : (a.k = 5) = False := eq_false h5
          simp [dd, hr2, c1, c2, c3, c4, e4, e5]
    · simp [dd, hr2, c1, c2, c3, c4, hz]
end Go.Vd
/- spec's order of values. -/
set_option linter.unusedSimpArgs false
set_option linter.unusedVariables false
namespace Go.Vd
open Go.Ev Go.Proofs Go.Pu
set_option maxRecDepth 100000
set_option maxHeartbeats 16000000
theorem ordL_zero {α : Type} {f : α → α → Int} : ∀ {xs ys : List α}, (∀ x ∈ xs, ∀ y ∈ ys, f x y = 0 → x = y) → ordL f xs ys = 0 → xs = ys
  | [], [], _, _ => rfl
  | [], _ :: _, _, h => by simp [ordL] at h
  | _ :: _, [], _, h => by simp [ordL] at h
  | x :: xs, y :: ys, hf, h => by
    unfold ordL at h
    split at h
    · rename_i hz
      rw [hf x (by simp) y (by simp) hz, ordL_zero (fun a ha b hb => hf a (by simp [ha]) b (by simp [hb])) h]
    · contradiction
theorem ordL_refl {α : Type} {f : α → α → Int} : ∀ {xs : List α}, (∀ x ∈ xs, f x x = 0) → ordL f xs xs = 0
  | [], _ => rfl
  | x :: xs, h => by
    unfold ordL
    rw [if_pos (h x (by simp))]
    exact ordL_refl (fun y hy => h y (by simp [hy]))
theorem val_eq {a b : Val} (h1 : a.k = b.k) (h2 : a.n = b.n) (h3 : a.t = b.t) : a = b := by
  cases a; cases b; simp_all
theorem fld_eq {a b : Fld} (h1 : a.name = b.name) (h2 : a.v = b.v) : a = b := by
  cases a; cases b; simp_all
theorem ordD_zero : ∀ (d : Nat) (a b : Val), okP d a = true → okP d b = true → ordD d a b = 0 → a = b := by
  intro d
  induction d with
  | zero =>
    intro a b ha hb h
    unfold ordD at h
    split at h
    · rename_i hz
      obtain ⟨h1, h2⟩ := orI_zero hz
      rw [cmpI_eq] at h1 h2
      refine val_eq h1 h2 ?_
      split at h
      · rename_i h4; obtain ⟨e, _, hd, _⟩ := okP_list ha h4; omega
      · split at h
        · rename_i h5; obtain ⟨e, _, hd, _⟩ := okP_doc ha h5; omega
        · rwa [compareBytes_eq] at h
    · contradiction
  | succ d ih =>
    intro a b ha hb h
    unfold ordD at h
    split at h
    · rename_i hz
      obtain ⟨h1, h2⟩ := orI_zero hz
      rw [cmpI_eq] at h1 h2
      refine val_eq h1 h2 ?_
      split at h
      · rename_i h4
        obtain ⟨e, xs, hd, _, hi, hx⟩ := okP_list ha h4
        obtain ⟨e', ys, hd', _, hi', hy⟩ := okP_list hb (by omega)
        obtain rfl : d = e := by omega
        obtain rfl : d = e' := by omega
        simp [itemsL, hi, hi'] at h
        have := ordL_zero (fun x hx' y hy' hz => ih x y (hx x hx') (hy y hy') hz) h
        subst this
        exact items_inj hi hi'
      · split at h
        · rename_i h5
          obtain ⟨e, xs, hd, _, hi, _, hx⟩ := okP_doc ha h5
          obtain ⟨e', ys, hd', _, hi', _, hy⟩ := okP_doc hb (by omega)
          obtain rfl : d = e := by omega
          obtain rfl : d = e' := by omega
          simp [fieldsL, hi, hi'] at h
          have := ordL_zero (fun x hx' y hy' hz => by
            obtain ⟨z1, z2⟩ := orI_zero hz
            rw [compareBytes_eq] at z1
            exact fld_eq z1 (ih x.v y.v (hx x hx').2 (hy y hy').2 z2)) h
          subst this
          exact fields_inj hi hi'
        · rwa [compareBytes_eq] at h
    · contradiction
theorem cmpI_refl (a : Int) : cmpI a a = 0 := by simp [cmpI]
theorem cmpB_refl (a : Bytes) : Lib.compareBytes a a = 0 := by rw [compareBytes_eq]
theorem ordD_refl : ∀ (d : Nat) (a : Val), okP d a = true → ordD d a a = 0 := by
  intro d
  induction d with
  | zero =>
    intro a ha
    unfold ordD
    simp [cmpI_refl, orI, cmpB_refl]
  | succ d ih =>
    intro a ha
    unfold ordD
    simp only [cmpI_refl, orI, if_true]
    by_cases h4 : a.k = 4
    · obtain ⟨e, xs, hd, _, hi, hx⟩ := okP_list ha h4
      obtain rfl : d = e := by omega
      simp [h4, itemsL, hi]
      exact ordL_refl (fun x hx' => ih x (hx x hx'))
    · by_cases h5 : a.k = 5
      · obtain ⟨e, xs, hd, _, hi, _, hx⟩ := okP_doc ha h5
        obtain rfl : d = e := by omega
        simp [h5, fieldsL, hi]
        exact ordL_refl (fun x hx' => by simp [cmpB_refl, ih x.v (hx x hx').2])
      · simp [h4, h5, cmpB_refl]
end Go.Vd
/- spec's order of values is impl's. -/
set_option linter.unusedSimpArgs false
set_option linter.unusedVariables false
namespace Go.Vd
open Go.Ev Go.Proofs Go.Pu
set_option maxRecDepth 100000
set_option maxHeartbeats 16000000
theorem cmpB_sign : ∀ (a b : Bytes), a ≠ b → Lib.compareBytes a b = if Op.bytesLess a b = true then -1 else 1
  | [], [], h => absurd rfl h
  | [], _ :: _, _ => by simp [Lib.compareBytes, Op.bytesLess]
  | _ :: _, [], _ => by simp [Lib.compareBytes, Op.bytesLess]
  | x :: a, y :: b, h => by
    unfold Lib.compareBytes Op.bytesLess
    by_cases h1 : x < y
    · simp [h1]
    · by_cases h2 : y < x
      · have : ¬ x = y := fun e => by subst e; exact absurd h2 (UInt8.lt_irrefl x)
        simp [h1, h2, this]
      · have e : x = y := UInt8.le_antisymm (UInt8.not_lt.1 h2) (UInt8.not_lt.1 h1)
        subst e
        have hab : a ≠ b := fun e => h (by rw [e])
        simp [h1, cmpB_sign a b hab]
/-- One of the two is gone through with nothing told apart. -/
def cutB {α : Type} (f : α → α → Int) : List α → List α → Bool
  | [], _ => true
  | _ :: _, [] => true
  | x :: xs, y :: ys => decide (f x y = 0) && cutB f xs ys
theorem cutB_ord {α : Type} {f : α → α → Int} : ∀ {xs ys : List α}, cutB f xs ys = true → ordL f xs ys = if xs.length < ys.length then -1 else if ys.length < xs.length then 1 else 0
  | [], [], _ => by simp [ordL]
  | [], _ :: _, _ => by simp [ordL]
  | _ :: _, [], h => by simp [ordL]
  | x :: xs, y :: ys, h => by
    simp [cutB] at h
    have := cutB_ord h.2
    simp [ordL, h.1, this]
theorem specItems_loop (d : Nat) (xs ys : List Val) (hl : xs.length < 4294967296) (hl2 : ys.length < 4294967296) (hp : ∀ x ∈ xs, ∀ y ∈ ys, run E (.call 19 [xV x, xV y]) = some (.res [xI (ordD d x y)] []))
    (r : Int) (w : Bool) (hr : r = ordL (ordD d) xs ys) (hw : w = cutB (ordD d) xs ys) : ∀ s o q, (s 5 = .row 2 ∧ s 7 = .row 3 ∧ s 9 = .t (.int .i64 0) ∧ o 2 = .row 26 (xs.map valT) true ∧ o 3 = .row 26 (ys.map valT) true) →
    ∃ e s' o' q', run E (.code (.loop (loopAt Tryd.f19 0)) ⟨s, o, q, 182⟩) = some (.st e ⟨s', o', q', 182⟩) ∧ e = (if w then .exit 1 else .ret) ∧ s' 5 = .row 2 ∧ s' 7 = .row 3 ∧ o' 2 = .row 26 (xs.map valT) true ∧ o' 3 = .row 26 (ys.map valT) true ∧ (w = false → s' 4 = .t (.int .i64 r)) := by
  intro s o q hI
  have d15 := d19_15
  simp [regionOf, findR, pick, Tryd.f19] at d15
  have dd := fun st => run_region_draw E st 15 _ d15
  clear d15
  refine loop_wf (c := loopAt Tryd.f19 0) (N := 182)
    (fun k s o q => ∃ i : Nat, k = xs.length - i ∧ s 5 = .row 2 ∧ s 7 = .row 3 ∧ s 9 = .t (.int .i64 i) ∧ o 2 = .row 26 (xs.map valT) true ∧ o 3 = .row 26 (ys.map valT) true ∧ i ≤ xs.length ∧ i ≤ ys.length ∧ r = ordL (ordD d) (xs.drop i) (ys.drop i) ∧ w = cutB (ordD d) (xs.drop i) (ys.drop i))
    (fun e s' o' q' => e = (if w then .exit 1 else .ret) ∧ s' 5 = .row 2 ∧ s' 7 = .row 3 ∧ o' 2 = .row 26 (xs.map valT) true ∧ o' 3 = .row 26 (ys.map valT) true ∧ (w = false → s' 4 = .t (.int .i64 r)))
    ?_ xs.length s o q ⟨0, by omega, hI.1, hI.2.1, hI.2.2.1, hI.2.2.2.1, hI.2.2.2.2, Nat.zero_le _, Nat.zero_le _, by simpa using hr, by simpa using hw⟩
  rintro k s o q ⟨i, hk, h5, h7, h9, ho, ho2, hix, hiy, hr, hwr⟩
  have hwi := wrap_succ (n := i) (by omega)
  by_cases hx : i < xs.length
  · have hx' : (i : Int) < (xs.length : Int) := by omega
    have hxi : xs[i]? = some xs[i] := List.getElem?_eq_getElem hx
    rw [List.drop_eq_getElem_cons hx] at hr hwr
    by_cases hy : i < ys.length
    · have hy' : (i : Int) < (ys.length : Int) := by omega
      have hyi : ys[i]? = some ys[i] := List.getElem?_eq_getElem hy
      have hc := hp xs[i] (List.getElem_mem hx) ys[i] (List.getElem_mem hy)
      rw [List.drop_eq_getElem_cons hy] at hr hwr
      rw [ordL] at hr
      rw [cutB] at hwr
      by_cases hz : ordD d xs[i] ys[i] = 0
      · rw [hz] at hc
        simp [hz] at hr hwr
        simp [loopAt, loopsOf, Tryd.f19, dd, h5, h7, h9, ho, ho2, hx, hy, hx', hy', hxi, hyi, hc, hwi]
        exact ⟨xs.length - (i + 1), by omega, i + 1, rfl, by simp, by omega, by omega, hr, hwr⟩
      · simp [hz] at hr hwr
        simp [loopAt, loopsOf, Tryd.f19, dd, h5, h7, h9, ho, ho2, hx, hy, hx', hy', hxi, hyi, hc, hwi, hz, hr, hwr]
    · have hy' : ¬ (i : Int) < (ys.length : Int) := by omega
      have he : ys.drop i = [] := List.drop_eq_nil_of_le (by omega)
      rw [he, cutB] at hwr
      simp [loopAt, loopsOf, Tryd.f19, dd, h5, h7, h9, ho, ho2, hx, hy, hx', hy', hxi, hwi, hwr]
  · have hx' : ¬ (i : Int) < (xs.length : Int) := by omega
    have he : xs.drop i = [] := List.drop_eq_nil_of_le (by omega)
    rw [he, cutB] at hwr
    simp [loopAt, loopsOf, Tryd.f19, dd, h5, h7, h9, ho, ho2, hx, hx', hwi, hwr]
end Go.Vd
/- spec's order of values: documents, and the whole. -/
set_option linter.unusedSimpArgs false
set_option linter.unusedVariables false
namespace Go.Vd
open Go.Ev Go.Proofs Go.Pu
set_option maxRecDepth 100000
set_option maxHeartbeats 16000000
def fldO (d : Nat) (f g : Fld) : Int := orI (Lib.compareBytes f.name g.name) (ordD d f.v g.v)
theorem specFields_loop (d : Nat) (xs ys : List Fld) (hl : xs.length < 4294967296) (hl2 : ys.length < 4294967296) (hp : ∀ x ∈ xs, ∀ y ∈ ys, run E (.call 19 [xV x.v, xV y.v]) = some (.res [xI (ordD d x.v y.v)] []))
    (r : Int) (w : Bool) (hr : r = ordL (fldO d) xs ys) (hw : w = cutB (fldO d) xs ys) : ∀ s o q, (s 11 = .row 2 ∧ s 13 = .row 3 ∧ s 15 = .t (.int .i64 0) ∧ o 2 = .row 71 (xs.map fldT) true ∧ o 3 = .row 71 (ys.map fldT) true) →
    ∃ e s' o' q', run E (.code (.loop (loopAt Tryd.f19 1)) ⟨s, o, q, 182⟩) = some (.st e ⟨s', o', q', 182⟩) ∧ e = (if w then .exit 3 else .ret) ∧ s' 11 = .row 2 ∧ s' 13 = .row 3 ∧ o' 2 = .row 71 (xs.map fldT) true ∧ o' 3 = .row 71 (ys.map fldT) true ∧ (w = false → s' 4 = .t (.int .i64 r)) := by
  intro s o q hI
  have d24 := d19_24
  simp [regionOf, findR, pick, Tryd.f19] at d24
  have dd := fun st => run_region_draw E st 24 _ d24
  clear d24
  have d25 := d19_25
  simp [regionOf, findR, pick, Tryd.f19] at d25
  have de := fun st => run_region_draw E st 25 _ d25
  clear d25
  have d26 := d19_26
  simp [regionOf, findR, pick, Tryd.f19] at d26
  have df := fun st => run_region_draw E st 26 _ d26
  clear d26
  have b1 := l01Bit true
  have b0 := l01Bit false
  simp at b1 b0
  have w2 : IntKind.i64.wrap 2 = 2 := rfl
  have wm : IntKind.i64.wrap (-1) = -1 := rfl
  refine loop_wf (c := loopAt Tryd.f19 1) (N := 182)
    (fun k s o q => ∃ i : Nat, k = xs.length - i ∧ s 11 = .row 2 ∧ s 13 = .row 3 ∧ s 15 = .t (.int .i64 i) ∧ o 2 = .row 71 (xs.map fldT) true ∧ o 3 = .row 71 (ys.map fldT) true ∧ i ≤ xs.length ∧ i ≤ ys.length ∧ r = ordL (fldO d) (xs.drop i) (ys.drop i) ∧ w = cutB (fldO d) (xs.drop i) (ys.drop i))
    (fun e s' o' q' => e = (if w then .exit 3 else .ret) ∧ s' 11 = .row 2 ∧ s' 13 = .row 3 ∧ o' 2 = .row 71 (xs.map fldT) true ∧ o' 3 = .row 71 (ys.map fldT) true ∧ (w = false → s' 4 = .t (.int .i64 r)))
    ?_ xs.length s o q ⟨0, by omega, hI.1, hI.2.1, hI.2.2.1, hI.2.2.2.1, hI.2.2.2.2, Nat.zero_le _, Nat.zero_le _, by simpa using hr, by simpa using hw⟩
  rintro k s o q ⟨i, hk, h5, h7, h9, ho, ho2, hix, hiy, hr, hwr⟩
  have hwi := wrap_succ (n := i) (by omega)
  by_cases hx : i < xs.length
  · have hx' : (i : Int) < (xs.length : Int) := by omega
    have hxi : xs[i]? = some xs[i] := List.getElem?_eq_getElem hx
    rw [List.drop_eq_getElem_cons hx] at hr hwr
    by_cases hy : i < ys.length
    · have hy' : (i : Int) < (ys.length : Int) := by omega
      have hyi : ys[i]? = some ys[i] := List.getElem?_eq_getElem hy
      have hc := hp xs[i] (List.getElem_mem hx) ys[i] (List.getElem_mem hy)
      rw [List.drop_eq_getElem_cons hy] at hr hwr
      rw [ordL] at hr
      rw [cutB] at hwr
      by_cases hn : xs[i].name = ys[i].name
      · have hn' : (xs[i].name = ys[i].name) = True := eq_true hn
        have hf : fldO d xs[i] ys[i] = ordD d xs[i].v ys[i].v := by simp [fldO, hn, cmpB_refl, orI]
        rw [hf] at hr hwr
        clear hn
        by_cases hz : ordD d xs[i].v ys[i].v = 0
        · rw [hz] at hc
          simp [hz] at hr hwr
          simp [loopAt, loopsOf, Tryd.f19, dd, de, df, h5, h7, h9, ho, ho2, hx, hy, hx', hy', hxi, hyi, hc, hwi, hn']
          exact ⟨xs.length - (i + 1), by omega, i + 1, rfl, by simp, by omega, by omega, hr, hwr⟩
        · simp [hz] at hr hwr
          simp [loopAt, loopsOf, Tryd.f19, dd, de, df, h5, h7, h9, ho, ho2, hx, hy, hx', hy', hxi, hyi, hc, hwi, hz, hr, hwr, hn']
      · have hs := cmpB_sign _ _ hn
        have hn' : (xs[i].name = ys[i].name) = False := eq_false hn
        have hne : (xs[i].name == ys[i].name) = false := by simpa using hn
        cases hb : Op.bytesLess xs[i].name ys[i].name with
        | false =>
          have hf : fldO d xs[i] ys[i] = 1 := by simp [fldO, hs, hb, orI]
          simp [hf] at hr hwr
          simp [loopAt, loopsOf, Tryd.f19, dd, de, df, h5, h7, h9, ho, ho2, hx, hy, hx', hy', hxi, hyi, hc, hwi, hn', hne, hb, b1, b0, w2, wm, hr, hwr]
        | true =>
          have hf : fldO d xs[i] ys[i] = -1 := by simp [fldO, hs, hb, orI]
          simp [hf] at hr hwr
          simp [loopAt, loopsOf, Tryd.f19, dd, de, df, h5, h7, h9, ho, ho2, hx, hy, hx', hy', hxi, hyi, hc, hwi, hn', hne, hb, b1, b0, w2, wm, hr, hwr]
    · have hy' : ¬ (i : Int) < (ys.length : Int) := by omega
      have he : ys.drop i = [] := List.drop_eq_nil_of_le (by omega)
      rw [he, cutB] at hwr
      simp [loopAt, loopsOf, Tryd.f19, dd, h5, h7, h9, ho, ho2, hx, hy, hx', hy', hxi, hwi, hwr]
  · have hx' : ¬ (i : Int) < (xs.length : Int) := by omega
    have he : xs.drop i = [] := List.drop_eq_nil_of_le (by omega)
    rw [he, cutB] at hwr
    simp [loopAt, loopsOf, Tryd.f19, dd, h5, h7, h9, ho, ho2, hx, hx', hwi, hwr]
end Go.Vd
/- spec's order of values is impl's: the whole. -/
set_option linter.unusedSimpArgs false
set_option linter.unusedVariables false
namespace Go.Vd
open Go.Ev Go.Proofs Go.Pu
set_option maxRecDepth 100000
set_option maxHeartbeats 16000000
theorem cmpI_ne {a b : Int} (h : a ≠ b) : cmpI a b = if b < a then 1 else -1 := by
  unfold cmpI
  by_cases h1 : a < b
  · have : ¬ b < a := by omega
    simp [h1, this]
  · have : b < a := by omega
    simp [h1, this]
/-- Ahead of the bodies: kinds, numbers, one and the same text. -/
theorem specOrder_head (d : Nat) (a b : Val) (ha : okP d a = true) (hb : okP d b = true) (hal : a.t.length < 4294967296) (hbl : b.t.length < 4294967296) (h : ¬ (a.k = b.k ∧ a.n = b.n ∧ a.t ≠ b.t ∧ (a.k = 4 ∨ a.k = 5))) : run E (.call 19 [xV a, xV b]) = some (.res [xI (ordD d a b)] []) := by
  rw [run_call E 19 _ rfl Tryd.func19 rfl rfl rfl (by simp)]
  have b1 := l01Bit true
  have b0 := l01Bit false
  simp at b1 b0
  have w2 : IntKind.i64.wrap 2 = 2 := rfl
  have wm : IntKind.i64.wrap (-1) = -1 := rfl
  by_cases hk : a.k = b.k
  · by_cases hn : a.n = b.n
    · by_cases ht : a.t = b.t
      · have e : a = b := val_eq hk hn ht
        subst e
        rw [ordD_refl d a ha]
        simp
      · have hk4 : ¬ a.k = 4 := fun h4 => h ⟨hk, hn, ht, .inl h4⟩
        have hk5 : ¬ a.k = 5 := fun h5 => h ⟨hk, hn, ht, .inr h5⟩
        have h3 : a.k = 3 := by
          by_cases h3 : a.k = 3
          · exact h3
          · exact absurd ((okP_small ha h3 hk4 hk5).trans (okP_small hb (by omega) (by omega) (by omega)).symm) ht
        have ho : ordD d a b = Lib.compareBytes a.t b.t := by
          unfold ordD
          simp [hk, hn, cmpI_refl, orI]
          have e4 : ¬ b.k = 4 := by omega
          have e5 : ¬ b.k = 5 := by omega
          simp [e4, e5]
        rw [ho, cmpB_sign _ _ ht]
        have e3 : (a.k = 3) = True := eq_true h3
        have ek : (a.k = b.k) = True := eq_true hk
        have en : (a.n = b.n) = True := eq_true hn
        have et : (a.t = b.t) = False := eq_false ht
        have hne : (a.t == b.t) = false := by simpa using ht
        clear h3 hk hn ho
        cases hbl : Op.bytesLess a.t b.t <;> simp [e3, ek, en, et, hne, hbl, b1, b0, w2, wm]
    · have ho : ordD d a b = cmpI a.n b.n := by
        have : ¬ cmpI a.n b.n = 0 := by rw [cmpI_eq]; exact hn
        unfold ordD
        simp [hk, cmpI_refl, orI, this]
      rw [ho, cmpI_ne hn]
      have ek : (a.k = b.k) = True := eq_true hk
      have en : (a.n = b.n) = False := eq_false hn
      clear hk ho h
      by_cases hlt : b.n < a.n <;> simp [ek, en, hlt, b1, b0, w2, wm]
  · have ho : ordD d a b = cmpI a.k b.k := by
      have : ¬ cmpI a.k b.k = 0 := by rw [cmpI_eq]; exact hk
      unfold ordD
      simp [orI, this]
    rw [ho, cmpI_ne hk]
    have ek : (a.k = b.k) = False := eq_false hk
    clear ho h
    by_cases hlt : b.k < a.k <;> simp [ek, hlt, b1, b0, w2, wm]
theorem specOrder : ∀ (d : Nat) (a b : Val), okP d a = true → okP d b = true → a.t.length < 4294967296 → b.t.length < 4294967296 → run E (.call 19 [xV a, xV b]) = some (.res [xI (ordD d a b)] []) := by
  intro d
  induction d with
  | zero =>
    intro a b ha hb hal hbl
    refine specOrder_head 0 a b ha hb hal hbl ?_
    rintro ⟨_, _, _, h4 | h5⟩
    · obtain ⟨e, _, hd, _⟩ := okP_list ha h4; omega
    · obtain ⟨e, _, hd, _⟩ := okP_doc ha h5; omega
  | succ d ih =>
    intro a b ha hb hal hbl
    by_cases hh : a.k = b.k ∧ a.n = b.n ∧ a.t ≠ b.t ∧ (a.k = 4 ∨ a.k = 5)
    · obtain ⟨hk, hn, ht, h45⟩ := hh
      have b1 := l01Bit true
      have b0 := l01Bit false
      simp at b1 b0
      have w2 : IntKind.i64.wrap 2 = 2 := rfl
      have wm : IntKind.i64.wrap (-1) = -1 := rfl
      have ek : (a.k = b.k) = True := eq_true hk
      have en : (a.n = b.n) = True := eq_true hn
      have et : (a.t = b.t) = False := eq_false ht
      have hne : (a.t == b.t) = false := by simpa using ht
      have hnz : ¬ ordD (d + 1) a b = 0 := fun h0 => ht (by rw [ordD_zero (d + 1) a b ha hb h0])
      rw [run_call E 19 _ rfl Tryd.func19 rfl rfl rfl (by simp)]
      by_cases h4 : a.k = 4
      · obtain ⟨e, xs, hd, _, hi, hx⟩ := okP_list ha h4
        obtain ⟨e', ys, hd', _, hi', hy⟩ := okP_list hb (by omega)
        obtain rfl : d = e := by omega
        obtain rfl : d = e' := by omega
        obtain ⟨s1, s2⟩ := items_small hi
        obtain ⟨t1, t2⟩ := items_small hi'
        have i1 := l01Items a.t hal
        have i2 := l01Items b.t hbl
        rw [hi] at i1
        rw [hi'] at i2
        simp only [itemsX] at i1 i2
        have ho : ordD (d + 1) a b = ordL (ordD d) xs ys := by
          unfold ordD
          have e4 : b.k = 4 := by omega
          simp [hk, hn, cmpI_refl, orI, e4, itemsL, hi, hi']
        rw [ho] at hnz ⊢
        have e3 : (a.k = 3) = False := by simp; omega
        have e4 : (a.k = 4) = True := eq_true h4
        clear h4 h45 hk hn ho
        obtain ⟨w, hw⟩ : ∃ w, w = cutB (ordD d) xs ys := ⟨_, rfl⟩
        obtain ⟨X, A, B, C, hl⟩ := sk (specItems_loop d xs ys (by omega) (by omega) (fun x hx' y hy' => ih x y (hx x hx') (hy y hy') (by have := s2 x hx'; omega) (by have := t2 y hy'; omega)) _ w rfl hw)
        simp only [loopAt, loopsOf, Tryd.f19] at hl
        cases w with
        | true =>
          have hr := cutB_ord hw.symm
          have hlt1 : ((ys.length : Int) < (xs.length : Int)) = (ys.length < xs.length) := by simp
          simp at hl
          by_cases h1 : ys.length < xs.length
          · have h2 : ¬ xs.length < ys.length := by omega
            rw [hr, if_neg h2, if_pos h1]
            simp [ek, en, et, hne, e3, e4, i1, i2, hl, h1, hlt1, b1, b0, w2, wm]
          · have h2 : xs.length < ys.length := by
              by_cases h2 : xs.length < ys.length
              · exact h2
              · rw [hr, if_neg h2, if_neg h1] at hnz; exact absurd rfl hnz
            rw [hr, if_pos h2]
            simp [ek, en, et, hne, e3, e4, i1, i2, hl, h1, hlt1, b1, b0, w2, wm]
        | false =>
          simp at hl
          simp [ek, en, et, hne, e3, e4, i1, i2, hl, b1, b0, w2, wm]
      · have h5 : a.k = 5 := by omega
        obtain ⟨e, xs, hd, _, hi, _, hx⟩ := okP_doc ha h5
        obtain ⟨e', ys, hd', _, hi', _, hy⟩ := okP_doc hb (by omega)
        obtain rfl : d = e := by omega
        obtain rfl : d = e' := by omega
        obtain ⟨s1, s2⟩ := fields_small hi
        obtain ⟨t1, t2⟩ := fields_small hi'
        have i1 := l01Fields a.t hal
        have i2 := l01Fields b.t hbl
        rw [hi] at i1
        rw [hi'] at i2
        simp only [fieldsX] at i1 i2
        have ho : ordD (d + 1) a b = ordL (fldO d) xs ys := by
          unfold ordD
          have e4 : ¬ b.k = 4 := by omega
          have e5 : b.k = 5 := by omega
          simp [hk, hn, cmpI_refl, orI, e4, e5, fieldsL, hi, hi']
          rfl
        rw [ho] at hnz ⊢
        have e3 : (a.k = 3) = False := by simp; omega
        have e4 : (a.k = 4) = False := eq_false h4
        clear h4 h5 h45 hk hn ho
        obtain ⟨w, hw⟩ : ∃ w, w = cutB (fldO d) xs ys := ⟨_, rfl⟩
        obtain ⟨X, A, B, C, hl⟩ := sk (specFields_loop d xs ys (by omega) (by omega) (fun x hx' y hy' => ih x.v y.v (hx x hx').2 (hy y hy').2 (by have := s2 x hx'; omega) (by have := t2 y hy'; omega)) _ w rfl hw)
        simp only [loopAt, loopsOf, Tryd.f19] at hl
        cases w with
        | true =>
          have hr := cutB_ord hw.symm
          have hlt1 : ((ys.length : Int) < (xs.length : Int)) = (ys.length < xs.length) := by simp
          simp at hl
          by_cases h1 : ys.length < xs.length
          · have h2 : ¬ xs.length < ys.length := by omega
            rw [hr, if_neg h2, if_pos h1]
            simp [ek, en, et, hne, e3, e4, i1, i2, hl, h1, hlt1, b1, b0, w2, wm]
          · have h2 : xs.length < ys.length := by
              by_cases h2 : xs.length < ys.length
              · exact h2
              · rw [hr, if_neg h2, if_neg h1] at hnz; exact absurd rfl hnz
            rw [hr, if_pos h2]
            simp [ek, en, et, hne, e3, e4, i1, i2, hl, h1, hlt1, b1, b0, w2, wm]
        | false =>
          simp at hl
          simp [ek, en, et, hne, e3, e4, i1, i2, hl, b1, b0, w2, wm]
    · exact specOrder_head (d + 1) a b ha hb hal hbl hh
end Go.Vd
/- What a path comes to: spec's l02Get. -/
set_option linter.unusedSimpArgs false
set_option linter.unusedVariables false
namespace Go.Vd
open Go.Ev Go.Proofs Go.Pu
set_option maxRecDepth 100000
set_option maxHeartbeats 16000000
theorem flat_le {α β : Type} {f : α → List β} {g : α → Nat} : ∀ {l : List α}, (∀ x ∈ l, (f x).length ≤ g x) → (l.flatMap f).length ≤ sumL g l
  | [], _ => by simp
  | x :: r, h => by
    have h1 := h x (by simp)
    have h2 := flat_le (f := f) (g := g) (l := r) (fun y hy => h y (by simp [hy]))
    simp [sumL]; simp at h2; omega
theorem itemsL_sum (t : Bytes) : sumL (fun x => x.t.length + 1) (itemsL t) ≤ t.length := by
  unfold itemsL
  cases h : itemsP t with
  | none => simp [sumL]
  | some xs => exact items_sum h
theorem itemsL_len (t : Bytes) : (itemsL t).length ≤ t.length ∧ ∀ x ∈ itemsL t, x.t.length < t.length := by
  unfold itemsL
  cases h : itemsP t with
  | none => simp
  | some xs => exact items_small h
theorem fieldP_len {v x : Val} {w : Bytes} (h : fieldP v w = some x) : x.t.length < v.t.length := by
  unfold fieldP fieldsL at h
  cases hf : fieldsP v.t with
  | none => simp [hf] at h
  | some fs =>
    rw [hf] at h
    simp only [Option.getD_some, Option.map_eq_some_iff] at h
    obtain ⟨f, h1, rfl⟩ := h
    exact ((fields_small hf).2 f (List.mem_of_find?_eq_some h1)).1
/-- A name, then the rest of a path. -/
def oneP (w : Bytes) (ws : List Bytes) (x : Val) : List Val := match fieldP x w with
  | none => []
  | some y => getP ws y
theorem getP_cons (w : Bytes) (ws : List Bytes) (v : Val) : getP (w :: ws) v = if v.k = 5 then oneP w ws v else if v.k = 4 then (itemsL v.t).flatMap (fun x => if x.k = 5 then oneP w ws x else []) else [] := rfl
theorem getP_len : ∀ (ws : List Bytes) (v : Val), (getP ws v).length ≤ v.t.length + 1
  | [], v => by
    unfold getP
    have := (itemsL_len v.t).1
    split <;> simp <;> omega
  | w :: ws, v => by
    have one : ∀ x : Val, (oneP w ws x).length ≤ x.t.length + 1 := by
      intro x
      unfold oneP
      cases h : fieldP x w with
      | none => simp
      | some y =>
        have := fieldP_len h
        have := getP_len ws y
        simp only; omega
    rw [getP_cons]
    split
    · exact one v
    · split
      · have := flat_le (f := fun x : Val => if x.k = 5 then oneP w ws x else []) (g := fun x => x.t.length + 1) (l := itemsL v.t) (fun x _ => by
          by_cases h : x.k = 5
          · rw [if_pos h]; exact one x
          · rw [if_neg h]; simp)
        have := itemsL_sum v.t
        omega
      · simp
theorem itemsX_L (t : Bytes) : ∃ b, itemsX (itemsP t) = [.row 26 ((itemsL t).map valT), xB b] := by
  unfold itemsL
  cases itemsP t with
  | none => exact ⟨false, rfl⟩
  | some xs => exact ⟨true, rfl⟩
end Go.Vd
/- What a path comes to: spec's l02Get, l02Values. -/
set_option linter.unusedSimpArgs false
set_option linter.unusedVariables false
namespace Go.Vd
open Go.Ev Go.Proofs Go.Pu
set_option maxRecDepth 100000
set_option maxHeartbeats 16000000
end Go.Vd
/- What a path comes to: impl's comesTo. -/
set_option linter.unusedSimpArgs false
set_option linter.unusedVariables false
namespace Go.Vd
open Go.Ev Go.Proofs Go.Pu
set_option maxRecDepth 100000
set_option maxHeartbeats 16000000
theorem fieldI_ok {d : Nat} {v : Val} (h : okP d v = true) (hk : v.k = 5) (w : Bytes) : fieldI v w = fieldP v w := by
  obtain ⟨e, fs, _, _, hf, hr, _⟩ := okP_doc h hk
  exact fieldI_eq w hf hr
theorem fieldP_ok {d : Nat} {v y : Val} {w : Bytes} (h : okP d v = true) (hk : v.k = 5) (hx : fieldP v w = some y) : ∃ e, okP e y = true := by
  obtain ⟨e, fs, _, _, hf, hr, hall⟩ := okP_doc h hk
  unfold fieldP fieldsL at hx
  rw [hf] at hx
  simp only [Option.getD_some, Option.map_eq_some_iff] at hx
  obtain ⟨f, h1, rfl⟩ := hx
  exact ⟨e, (hall f (List.mem_of_find?_eq_some h1)).2⟩
end Go.Vd
/- One value against a term: spec's l03One. -/
set_option linter.unusedSimpArgs false
set_option linter.unusedVariables false
namespace Go.Vd
open Go.Ev Go.Proofs Go.Pu
set_option maxRecDepth 100000
set_option maxHeartbeats 16000000
def sameV (a b : Val) : Bool := (a.k == b.k) && ((a.n == b.n) && (a.t == b.t))
/-- One value against a term whose value is v. -/
def oneT (op : Int) (v x : Val) : Bool :=
  if op = 1 then sameV x v
  else if op = 2 then sameV x v
  else if op = 3 then (x.k == v.k) && decide (ordD 5 x v < 0)
  else if op = 4 then (x.k == v.k) && decide (ordD 5 x v ≤ 0)
  else if op = 5 then (x.k == v.k) && decide (0 < ordD 5 x v)
  else if op = 6 then (x.k == v.k) && decide (0 ≤ ordD 5 x v)
  else if op = 7 then (itemsL v.t).any (fun y => sameV y x)
  else if op = 9 then x.k == v.n
  else (x.k == 4) && (((itemsL x.t).length : Int) == v.n)
abbrev valBox (x : Val) : Ob := .box 26 [.t (.int .i64 x.k), .t (.int .i64 x.n), .t (.str x.t)]
end Go.Vd
/- One value against a term: spec's l03One whole, impl's holds. -/
set_option linter.unusedSimpArgs false
set_option linter.unusedVariables false
namespace Go.Vd
open Go.Ev Go.Proofs Go.Pu
set_option maxRecDepth 100000
set_option maxHeartbeats 16000000
end Go.Vd
/- One value against a term: impl's holds, whole. -/
set_option linter.unusedSimpArgs false
set_option linter.unusedVariables false
namespace Go.Vd
open Go.Ev Go.Proofs Go.Pu
set_option maxRecDepth 100000
set_option maxHeartbeats 16000000
end Go.Vd
/- One value against a term: impl's holds, whole; a term against a document: spec. -/
set_option linter.unusedSimpArgs false
set_option linter.unusedVariables false
namespace Go.Vd
open Go.Ev Go.Proofs Go.Pu
set_option maxRecDepth 100000
set_option maxHeartbeats 16000000
theorem sameV_comm (a b : Val) : sameV a b = sameV b a := by
  rw [Bool.eq_iff_iff]
  simp only [sameV, Bool.and_eq_true, beq_iff_eq]
  constructor <;> rintro ⟨h1, h2, h3⟩ <;> exact ⟨h1.symm, h2.symm, h3.symm⟩
theorem itemsI_ok {d : Nat} {v : Val} (h : okP d v = true) : v.k = 4 ∨ v.t = [] ∨ v.k ≠ 4 := by
  by_cases hk : v.k = 4
  · exact .inl hk
  · exact .inr (.inr hk)
end Go.Vd
/- A term against a document: spec's l03Term, TermMatches. -/
set_option linter.unusedSimpArgs false
set_option linter.unusedVariables false
namespace Go.Vd
open Go.Ev Go.Proofs Go.Pu
set_option maxRecDepth 100000
set_option maxHeartbeats 16000000
theorem okP_up : ∀ (d e : Nat) (v : Val), d ≤ e → okP d v = true → okP e v = true
  | 0, e, v, _, h => by
    unfold okP at h ⊢
    split at h
    · rename_i hk; simp only [hk, if_true]; exact h
    · rename_i h0
      split at h
      · rename_i h1; simp only [h1]; simpa using h
      · rename_i h1
        split at h
        · rename_i h2; simp only [h2]; simpa using h
        · rename_i h2
          split at h
          · rename_i h3; simp only [h3]; simpa using h
          · cases h
  | d + 1, 0, v, hle, _ => by omega
  | d + 1, e + 1, v, hle, h => by
    by_cases h4 : v.k = 4
    · obtain ⟨d', xs, hd, hn, hi, hx⟩ := okP_list h h4
      obtain rfl : d = d' := by omega
      have hl : v.t.length ≤ 300 := by unfold okP at h; simp [h4] at h; exact h.1.2
      unfold okP
      simp [h4, hn, hi, hl]
      exact fun x hm => okP_up d e x (by omega) (hx x hm)
    · by_cases h5 : v.k = 5
      · obtain ⟨d', fs, hd, hn, hi, hr, hx⟩ := okP_doc h h5
        obtain rfl : d = d' := by omega
        have hl : v.t.length ≤ 300 := by unfold okP at h; simp [h5] at h; exact h.1.2
        unfold okP
        simp [h5, hn, hi, hr, hl]
        exact fun f hm => ⟨(hx f hm).1, okP_up d e f.v (by omega) (hx f hm).2⟩
      · unfold okP at h ⊢
        simp only [h4, h5, if_false] at h ⊢
        exact h
theorem okP_size {d : Nat} {v : Val} (h : okP d v = true) : v.t.length ≤ 300 := by
  by_cases h3 : v.k = 3
  · unfold okP at h; simp [h3] at h; exact h.2
  by_cases h4 : v.k = 4
  · obtain ⟨e, _, rfl, _⟩ := okP_list h h4
    unfold okP at h; simp [h4] at h; exact h.1.2
  by_cases h5 : v.k = 5
  · obtain ⟨e, _, rfl, _⟩ := okP_doc h h5
    unfold okP at h; simp [h5] at h; exact h.1.2
  rw [okP_small h h3 h4 h5]; simp
end Go.Vd
/- The interval of a term: spec's l04Term, impl's interval. -/
set_option linter.unusedSimpArgs false
set_option linter.unusedVariables false
namespace Go.Vd
open Go.Ev Go.Proofs Go.Pu
set_option maxRecDepth 100000
set_option maxHeartbeats 16000000
def keyI (v : Val) (f : Bool) : Bytes := if f then turnP (keyD 5 v) else keyD 5 v
def kindB (n : Int) (f : Bool) : Bytes := if f then turnP [byteAt n 0] else [byteAt n 0]
abbrev opnI : Ivl := ⟨[], [], true⟩
def flipO (op : Int) (f : Bool) : Int := if f then (if op = 3 then 5 else if op = 4 then 6 else if op = 5 then 3 else if op = 6 then 4 else op) else op
def implIv (t : Trm) (f : Bool) : Ivl :=
  if flipO t.op f = 1 then beginP (keyI t.v f)
  else if flipO t.op f = 9 then beginP (kindB (t.v.n + 1) f)
  else if flipO t.op f = 5 then { beginP ((keyI t.v f).take 1) with low := (beginP (keyI t.v f)).high }
  else if flipO t.op f = 6 then { beginP ((keyI t.v f).take 1) with low := keyI t.v f }
  else if flipO t.op f = 3 then { beginP ((keyI t.v f).take 1) with high := keyI t.v f }
  else if flipO t.op f = 4 then { beginP ((keyI t.v f).take 1) with high := (beginP (keyI t.v f)).high }
  else opnI
def specIv (t : Trm) (f : Bool) : Ivl :=
  if t.op = 1 then beginP (keyI t.v f)
  else if t.op = 3 ∨ t.op = 5 ∨ t.op = 4 ∨ t.op = 6 then
    if ((decide (t.op = 5) || decide (t.op = 6)) != f) = true then
      if t.op = 4 ∨ t.op = 6 then { beginP (kindB (t.v.k + 1) f) with low := (beginP (keyI t.v f)).low }
      else if (beginP (keyI t.v f)).opn then ⟨[], [], false⟩ else { beginP (kindB (t.v.k + 1) f) with low := (beginP (keyI t.v f)).high }
    else if t.op = 4 ∨ t.op = 6 then meetP (beginP (kindB (t.v.k + 1) f)) ⟨[], (beginP (keyI t.v f)).high, (beginP (keyI t.v f)).opn⟩
    else meetP (beginP (kindB (t.v.k + 1) f)) ⟨[], (beginP (keyI t.v f)).low, false⟩
  else if t.op = 9 then beginP (kindB (t.v.n + 1) f)
  else opnI
theorem keyI_len (v : Val) (f : Bool) (h : okP 5 v = true) : (keyI v f).length ≤ 3311 := by
  have h1 := keyD_len 5 v h
  have h2 := okP_size h
  unfold keyI
  cases f <;> simp [turnP] <;> omega
end Go.Vd
/- The interval of a term: impl's; both are alike. -/
set_option linter.unusedSimpArgs false
set_option linter.unusedVariables false
namespace Go.Vd
open Go.Ev Go.Proofs Go.Pu
set_option maxRecDepth 100000
set_option maxHeartbeats 16000000
theorem keyI_cons (v : Val) (f : Bool) (h : okP 5 v = true) : ∃ r, keyI v f = kindB (v.k + 1) f ++ r := by
  obtain ⟨r, hr⟩ := key_cons h
  unfold keyI kindB
  rw [hr]
  cases f
  · exact ⟨r, by simp⟩
  · exact ⟨turnP r, by simp [turnP]⟩
theorem kindB_len (n : Int) (f : Bool) : (kindB n f).length = 1 := by unfold kindB; cases f <;> simp [turnP]
theorem keyI_take (v : Val) (f : Bool) (h : okP 5 v = true) : (keyI v f).take 1 = kindB (v.k + 1) f := by
  obtain ⟨r, hr⟩ := keyI_cons v f h
  rw [hr, List.take_append_of_le_length (by rw [kindB_len]; omega), List.take_of_length_le (by rw [kindB_len]; omega)]
end Go.Vd
/- The interval of a term: spec's is impl's. -/
set_option linter.unusedSimpArgs false
set_option linter.unusedVariables false
namespace Go.Vd
open Go.Ev Go.Proofs Go.Pu
set_option maxRecDepth 100000
set_option maxHeartbeats 4000000
theorem behind_cons (h : UInt8) (r : Bytes) (hh : h < 255) : ∀ n, n ≤ r.length → ∃ x, behindN (h :: r) (n + 1) = some x ∧ (x = [h + 1] ∨ ∃ y, x = h :: y)
  | 0, _ => ⟨[h + 1], by simp [behindN, hh], .inl rfl⟩
  | n + 1, hn => by
    obtain ⟨x, h1, h2⟩ := behind_cons h r hh n (by omega)
    have hg : (h :: r)[n + 1]? = some r[n] := by simp [List.getElem?_eq_getElem (show n < r.length by omega)]
    by_cases hb : r[n] < 255
    · refine ⟨(h :: r).take (n + 1) ++ [r[n] + 1], ?_, .inr ⟨r.take n ++ [r[n] + 1], by simp⟩⟩
      rw [behindN]
      simp only [hg, if_pos hb]
    · refine ⟨x, ?_, h2⟩
      rw [behindN]
      simp only [hg, if_neg hb]
      exact h1
theorem begin_cons (h : UInt8) (r : Bytes) (hh : h < 255) : ∃ x, beginP (h :: r) = ⟨h :: r, x, false⟩ ∧ (x = [h + 1] ∨ ∃ y, x = h :: y) := by
  obtain ⟨x, h1, h2⟩ := behind_cons h r hh r.length (Nat.le_refl _)
  refine ⟨x, ?_, h2⟩
  have : behindP (h :: r) = some x := h1
  unfold beginP
  rw [this]
theorem begin_one (h : UInt8) (hh : h < 255) : beginP [h] = ⟨[h], [h + 1], false⟩ := by
  have : behindP [h] = some [h + 1] := by simp [behindP, behindN, hh]
  unfold beginP
  rw [this]
theorem less_cons (h : UInt8) (y : Bytes) (hh : h < 255) : Op.bytesLess [h + 1] (h :: y) = false := by
  cases hb : Op.bytesLess [h + 1] (h :: y) with
  | false => rfl
  | true =>
    exfalso
    have h1 := (bytesLess_iff _ _).1 hb
    have h3 : h.toNat < 255 := by simpa [UInt8.lt_iff_toNat_lt] using hh
    have h2 : h < h + 1 := by
      rw [UInt8.lt_iff_toNat_lt, UInt8.toNat_add]
      have : (1 : UInt8).toNat = 1 := rfl
      omega
    rcases List.cons_lt_cons_iff.1 h1 with h4 | ⟨h4, _⟩
    · rw [UInt8.lt_iff_toNat_lt] at h4 h2
      omega
    · have e := congrArg UInt8.toNat h4
      rw [UInt8.lt_iff_toNat_lt] at h2
      omega
theorem min_cons (h : UInt8) (x : Bytes) (hh : h < 255) (hx : x = [h + 1] ∨ ∃ y, x = h :: y) : minS [h + 1] x = x := by
  unfold minS
  rcases hx with rfl | ⟨y, rfl⟩
  · simp
  · have h3 : h.toNat < 255 := by simpa [UInt8.lt_iff_toNat_lt] using hh
    have hne : ([h + 1] == h :: y) = false := by
      rw [beq_eq_false_iff_ne]
      intro e
      injection e with e _
      have := congrArg UInt8.toNat e
      rw [UInt8.toNat_add] at this
      have h1 : (1 : UInt8).toNat = 1 := rfl
      omega
    rw [less_cons h y hh, hne]
    simp
theorem max_one (h : UInt8) : maxS [h] [] = [h] := by
  unfold maxS
  have : Op.bytesLess [h] [] = false := rfl
  rw [this]; rfl
theorem specIv_eq (t : Trm) (f : Bool) (hv : okP 5 t.v = true) : specIv t f = implIv t f := by
  have hr := okP_range hv
  obtain ⟨r, hk⟩ := keyI_cons t.v f hv
  obtain ⟨h, hh, hb⟩ : ∃ h : UInt8, h < 255 ∧ kindB (t.v.k + 1) f = [h] := by
    have hn := head_byte hv
    cases f with
    | false =>
      refine ⟨_, ?_, rfl⟩
      rw [UInt8.lt_iff_toNat_lt, hn]
      have : (255 : UInt8).toNat = 255 := rfl
      omega
    | true =>
      refine ⟨turnB (byteAt (t.v.k + 1) 0), ?_, rfl⟩
      rw [UInt8.lt_iff_toNat_lt]
      have h1 : (255 : UInt8).toNat = 255 := rfl
      have h2 : (turnB (byteAt (t.v.k + 1) 0)).toNat = 255 - (byteAt (t.v.k + 1) 0).toNat := by
        unfold turnB
        rw [UInt8.toNat_sub]
        have := (byteAt (t.v.k + 1) 0).toNat_lt
        omega
      omega
  have ht := keyI_take t.v f hv
  rw [hb] at hk ht
  have hk' : keyI t.v f = h :: r := by simpa using hk
  obtain ⟨x, hx, hx2⟩ := begin_cons h r hh
  have b1 := begin_one h hh
  have m1 := min_cons h x hh hx2
  have m2 := min_cons h (h :: r) hh (.inr ⟨r, rfl⟩)
  have m3 := max_one h
  unfold specIv implIv
  rw [ht, hb, hk', hx, b1]
  by_cases o1 : t.op = 1
  · cases f <;> simp [flipO, o1]
  · by_cases o3 : t.op = 3
    · cases f <;> simp [flipO, o3, meetP, m1, m2, m3]
    · by_cases o5 : t.op = 5
      · cases f <;> simp [flipO, o5, meetP, m1, m2, m3]
      · by_cases o4 : t.op = 4
        · cases f <;> simp [flipO, o4, meetP, m1, m2, m3]
        · by_cases o6 : t.op = 6
          · cases f <;> simp [flipO, o6, meetP, m1, m2, m3]
          · by_cases o9 : t.op = 9
            · cases f <;> simp [flipO, o9]
            · cases f <;> simp [flipO, o1, o3, o4, o5, o6, o9]
end Go.Vd
/- The interval of a clause and of a filter: spec's and impl's. -/
set_option linter.unusedSimpArgs false
set_option linter.unusedVariables false
namespace Go.Vd
open Go.Ev Go.Proofs Go.Pu
set_option maxRecDepth 100000
set_option maxHeartbeats 16000000
def saysB (t : Trm) : Bool := decide (t.op = 2) || decide (t.op = 7) || decide (t.op = 8) || decide (t.op = 10)
def hitB (p : Prt) (t : Trm) : Bool := t.path == p.path && !saysB t
def clauseI (p : Prt) (c : List Trm) : Ivl := match c.find? (hitB p) with
  | some t => implIv t p.desc
  | none => opnI
def clStep (p : Prt) (out : Ivl) (t : Trm) : Ivl := if ((t.path == p.path) && out.opn && (out.low == [])) = true then specIv t p.desc else out
theorem implIv_closed (t : Trm) (f : Bool) (hv : okP 5 t.v = true) (ho : opOK t.op t.v = true) (hs : saysB t = false) : (implIv t f).opn = false := by
  obtain ⟨r, hk⟩ := keyI_cons t.v f hv
  have ht := keyI_take t.v f hv
  have hr := okP_range hv
  have hb : ∀ n : Int, 1 ≤ n → n ≤ 6 → ∃ h : UInt8, h < 255 ∧ kindB n f = [h] := by
    intro n h1 h6
    have hn : (byteAt n 0).toNat = n.toNat := by
      have := byteAt_nat n 0 (by omega)
      simp at this
      omega
    cases f with
    | false =>
      refine ⟨_, ?_, rfl⟩
      rw [UInt8.lt_iff_toNat_lt, hn]
      have : (255 : UInt8).toNat = 255 := rfl
      omega
    | true =>
      refine ⟨turnB (byteAt n 0), ?_, rfl⟩
      rw [UInt8.lt_iff_toNat_lt]
      have h1 : (255 : UInt8).toNat = 255 := rfl
      have h2 : (turnB (byteAt n 0)).toNat = 255 - (byteAt n 0).toNat := by
        unfold turnB
        rw [UInt8.toNat_sub]
        have := (byteAt n 0).toNat_lt
        omega
      omega
  obtain ⟨h, hh, hkb⟩ := hb (t.v.k + 1) (by omega) (by omega)
  rw [hkb] at hk ht
  have hk' : keyI t.v f = h :: r := by simpa using hk
  obtain ⟨x, hx, _⟩ := begin_cons h r hh
  have b1 := begin_one h hh
  have hop : 1 ≤ t.op ∧ t.op ≤ 10 := by
    unfold opOK at ho
    split at ho
    · omega
    · split at ho
      · omega
      · split at ho
        · omega
        · split at ho
          · omega
          · simp at ho; omega
  unfold saysB at hs
  simp at hs
  obtain ⟨⟨⟨s2, s7⟩, s8⟩, s10⟩ := hs
  unfold implIv
  rw [ht, hk', hx, b1]
  by_cases o9 : t.op = 9
  · have hn9 : 0 ≤ t.v.n ∧ t.v.n ≤ 5 := by
      rw [o9] at ho
      simp [opOK] at ho
      exact ho.2
    obtain ⟨h2, hh2, hkb2⟩ := hb (t.v.n + 1) (by omega) (by omega)
    have b2 := begin_one h2 hh2
    have e : flipO t.op f = 9 := by cases f <;> simp [flipO, o9]
    simp [e, hkb2, b2]
  · have h6 : t.op = 1 ∨ t.op = 3 ∨ t.op = 4 ∨ t.op = 5 ∨ t.op = 6 := by omega
    rcases h6 with o | o | o | o | o <;> cases f <;> simp [flipO, o]
theorem fold_closed (p : Prt) : ∀ (c : List Trm) (out : Ivl), out.opn = false → c.foldl (clStep p) out = out
  | [], out, h => rfl
  | t :: r, out, h => by
    have : clStep p out t = out := by unfold clStep; simp [h]
    rw [List.foldl_cons, this]
    exact fold_closed p r out h
theorem specIv_says (t : Trm) (f : Bool) (h : saysB t = true) : specIv t f = opnI := by
  unfold saysB at h
  simp at h
  unfold specIv
  have h1 : ¬ t.op = 1 := by omega
  have h2 : ¬ (t.op = 3 ∨ t.op = 5 ∨ t.op = 4 ∨ t.op = 6) := by omega
  have h3 : ¬ t.op = 9 := by omega
  rw [if_neg h1, if_neg h2, if_neg h3]
theorem clause_eq (p : Prt) : ∀ (c : List Trm), (∀ t ∈ c, okP 5 t.v = true ∧ opOK t.op t.v = true) → c.foldl (clStep p) opnI = clauseI p c
  | [], _ => rfl
  | t :: r, h => by
    have ih := clause_eq p r (fun x hx => h x (by simp [hx]))
    obtain ⟨hv, ho⟩ := h t (by simp)
    rw [List.foldl_cons]
    unfold clauseI
    rw [List.find?_cons]
    cases hp : (t.path == p.path) with
    | false =>
      have e1 : clStep p opnI t = opnI := by unfold clStep; simp [hp]
      have e2 : hitB p t = false := by unfold hitB; simp [hp]
      rw [e1, e2]
      exact ih
    | true =>
      have e1 : clStep p opnI t = specIv t p.desc := by unfold clStep; simp [hp]
      rw [e1]
      cases hs : saysB t with
      | true =>
        have e2 : hitB p t = false := by unfold hitB; simp [hs]
        rw [e2, specIv_says t _ hs]
        exact ih
      | false =>
        have e2 : hitB p t = true := by unfold hitB; simp [hp, hs]
        rw [e2, specIv_eq t _ hv]
        simp only
        exact fold_closed p r _ (implIv_closed t _ hv ho hs)
end Go.Vd
/- The interval of a clause: spec's l07Clause and impl's, run. -/
set_option linter.unusedSimpArgs false
set_option linter.unusedVariables false
namespace Go.Vd
open Go.Ev Go.Proofs Go.Pu
set_option maxRecDepth 100000
set_option maxHeartbeats 16000000
abbrev ivlS (i : Ivl) : List SV := [.t (.str i.low), .t (.str i.high), .t (.bool i.opn)]
def trmS (t : Trm) : List SV := [.t (.int .i64 t.op), .t (.str t.path), .t (.int .i64 t.v.k), .t (.int .i64 t.v.n), .t (.str t.v.t)]
def termsOK (c : List Trm) : Prop := ∀ t ∈ c, okP 5 t.v = true ∧ opOK t.op t.v = true ∧ t.path.length < 4294967296
end Go.Vd
/- The interval of a filter: spec's l07Filter and impl's; FilterInterval of both. -/
set_option linter.unusedSimpArgs false
set_option linter.unusedVariables false
namespace Go.Vd
open Go.Ev Go.Proofs Go.Pu
set_option maxRecDepth 100000
set_option maxHeartbeats 16000000
def flStep (p : Prt) (out : Ivl) (c : List Trm) : Ivl := ⟨minS out.low (clauseI p c).low, maxS out.high (clauseI p c).high, out.opn || (clauseI p c).opn⟩
def closeI (i : Ivl) : Ivl := if i.opn then ⟨i.low, [], true⟩ else i
def filterI (p : Prt) : List (List Trm) → Ivl
  | [] => opnI
  | c :: r => closeI (r.foldl (flStep p) (clauseI p c))
def clausesOK (f : List (List Trm)) : Prop := ∀ c ∈ f, c.length < 4294967296 ∧ termsOK c
theorem minS_nf (x y : Bytes) : minS x y = if Op.bytesLess x y = true ∨ x = y then x else y := by unfold minS; simp
theorem maxS_nf (x y : Bytes) : maxS x y = if Op.bytesLess x y = false then x else y := by unfold maxS; simp
end Go.Vd
/- The interval of a filter: impl's; FilterInterval of both. -/
set_option linter.unusedSimpArgs false
set_option linter.unusedVariables false
namespace Go.Vd
open Go.Ev Go.Proofs Go.Pu
set_option maxRecDepth 100000
set_option maxHeartbeats 16000000
theorem terms_ok {f : List (List Trm)} (h : filterOK f = true) (hs : filterSm f) : clausesOK f := by
  intro c hc
  have hcs := hs.2 c hc
  unfold filterOK at h
  simp only [Bool.and_eq_true] at h
  have hco := List.all_eq_true.1 h.2 c hc
  unfold clauseOK at hco
  simp only [Bool.and_eq_true] at hco
  refine ⟨hcs.1, fun t ht => ?_⟩
  have hto := List.all_eq_true.1 hco.2 t ht
  unfold termOK at hto
  simp only [Bool.and_eq_true] at hto
  exact ⟨hto.1.2, hto.2, (hcs.2 t ht).1⟩
/-- What FilterInterval answers. -/
def fivOut (f : List (List Trm)) (p : Prt) : Ivl × Int := if filterOK f && pathOK p.path then (filterI p f, 0) else (⟨[], [], false⟩, 1)
end Go.Vd
/- The law FnExactFilterInterval over plain data. -/
set_option linter.unusedSimpArgs false
set_option linter.unusedVariables false
namespace Go.Vd
open Go.Ev Go.Proofs Go.Pu
set_option maxRecDepth 100000
set_option maxHeartbeats 16000000
end Go.Vd
/- A term against a document: spec's l03Term. -/
set_option linter.unusedSimpArgs false
set_option linter.unusedVariables false
namespace Go.Vd
open Go.Ev Go.Proofs Go.Pu
set_option maxRecDepth 100000
set_option maxHeartbeats 16000000
theorem getP_ok : ∀ (ws : List Bytes) (d : Nat) (v : Val), d ≤ 5 → okP d v = true → ∀ y ∈ getP ws v, okP 5 y = true
  | [], d, v, hd, h, y, hy => by
    unfold getP at hy
    rcases List.mem_cons.1 hy with rfl | hy
    · exact okP_up d 5 _ hd h
    · by_cases h4 : v.k = 4
      · obtain ⟨e, xs, he, _, hi, hx⟩ := okP_list h h4
        rw [if_pos h4] at hy
        simp [itemsL, hi] at hy
        exact okP_up e 5 y (by omega) (hx y hy)
      · rw [if_neg h4] at hy; simp at hy
  | w :: ws, d, v, hd, h, y, hy => by
    have one : ∀ (e : Nat) (x : Val), e ≤ 5 → okP e x = true → x.k = 5 → y ∈ oneP w ws x → okP 5 y = true := by
      intro e x he hx hk hy
      unfold oneP at hy
      cases hf : fieldP x w with
      | none => rw [hf] at hy; simp at hy
      | some z =>
        rw [hf] at hy
        simp only at hy
        obtain ⟨e', fs, he', _, hi, _, hall⟩ := okP_doc hx hk
        unfold fieldP fieldsL at hf
        rw [hi] at hf
        simp only [Option.getD_some, Option.map_eq_some_iff] at hf
        obtain ⟨f, h1, rfl⟩ := hf
        exact getP_ok ws e' f.v (by omega) (hall f (List.mem_of_find?_eq_some h1)).2 y hy
    rw [getP_cons] at hy
    by_cases h5 : v.k = 5
    · rw [if_pos h5] at hy
      exact one d v hd h h5 hy
    · rw [if_neg h5] at hy
      by_cases h4 : v.k = 4
      · obtain ⟨e, xs, he, _, hi, hx⟩ := okP_list h h4
        rw [if_pos h4] at hy
        have e : itemsL v.t = xs := by simp [itemsL, hi]
        rw [e, List.mem_flatMap] at hy
        obtain ⟨x, hm, hy⟩ := hy
        by_cases hk : x.k = 5
        · rw [if_pos hk] at hy
          exact one _ x (by omega) (hx x hm) hk hy
        · rw [if_neg hk] at hy; simp at hy
      · rw [if_neg h4] at hy; simp at hy
abbrev nulV : Val := ⟨0, 0, []⟩
/-- What stands against a term. -/
def standP (t : Trm) (doc : Val) : List Val := if (getP (cutP 46 t.path) doc).length = 0 ∧ t.op ≠ 9 then [nulV] else getP (cutP 46 t.path) doc
def matchT (t : Trm) (doc : Val) : Bool :=
  if t.op = 8 then (decide (0 < (getP (cutP 46 t.path) doc).length) == decide (t.v.n = 1))
  else (((standP t doc).any (oneT t.op t.v)) != decide (t.op = 2))
end Go.Vd
/- A term against a document: spec's l03Term, whole. -/
set_option linter.unusedSimpArgs false
set_option linter.unusedVariables false
namespace Go.Vd
open Go.Ev Go.Proofs Go.Pu
set_option maxRecDepth 100000
set_option maxHeartbeats 16000000
end Go.Vd
/- spec's TermMatches. -/
set_option linter.unusedSimpArgs false
set_option linter.unusedVariables false
namespace Go.Vd
open Go.Ev Go.Proofs Go.Pu
set_option maxRecDepth 100000
set_option maxHeartbeats 16000000
theorem opOK_range {op : Int} {v : Val} (h : opOK op v = true) : 1 ≤ op ∧ op ≤ 10 := by
  unfold opOK at h
  split at h
  · omega
  · split at h
    · omega
    · split at h
      · omega
      · split at h
        · omega
        · simp at h; omega
end Go.Vd
/- slices.IndexFunc, slices.ContainsFunc over values, with a method value. -/
set_option linter.unusedSimpArgs false
set_option linter.unusedVariables false
namespace Go.Vd
open Go.Ev Go.Proofs Go.Pu
set_option maxRecDepth 100000
set_option maxHeartbeats 4000000
theorem peekL_t (st : St) : ∀ (c : List T), (∀ y ∈ c, y.one = true) → st.peekL (c.map SV.t) = some c
  | [], _ => rfl
  | y :: r, h => by
    have h1 := h y (by simp)
    simp only [List.map_cons, St.peekL, St.peek1, h1, if_true, peekL_t st r (fun z hz => h z (by simp [hz]))]
theorem indexFunc_206_m (xs : List Val) (g : Nat) (c : List T) (hc : ∀ y ∈ c, y.one = true) (p : Val → Bool) (hl : xs.length < 9223372036854775807) (hm : E.md g = []) (hf : E.flat g = true) (hp : ∀ x ∈ xs, run E (.call g [.t (.agg c), .t (valT x)]) = some (.res [xB (p x)] [])) :
    run E (.call 60 [.t (.list (xs.map valT)), .meth g [.agg c]]) = some (.res [xI (idxP p xs)] []) := by
  rw [run_call E 60 _ rfl Tryd.func60 rfl rfl rfl (by simp)]
  rw [E_md] at hm
  have hpk := fun st => peekL_t st c hc
  have lp := fun (r : Int) (hr : r = idxP p xs) => sk (fun s o q hI => loop_for (c := loopAt Tryd.f60 0) (N := 19)
    (fun i s o q => s 0 = .t (.list (xs.map valT)) ∧ s 1 = .meth g [.agg c] ∧ s 7 = .t (.int .i64 xs.length) ∧ s 8 = .t (.int .i64 i) ∧ r = if idxP p (xs.drop i) < 0 then -1 else idxP p (xs.drop i) + i)
    (fun e s' o' q' => e = (if r < 0 then .exit 0 else .ret) ∧ (0 ≤ r → s' 4 = .t (.int .i64 r))) xs.length
    (by
      rintro i s o q hi ⟨h0, h1, h7, h8, hr⟩
      have hd : xs.drop i = xs[i] :: xs.drop (i + 1) := by rw [List.drop_eq_getElem_cons hi]
      have hi' : (i : Int) < (xs.length : Int) := by omega
      have hw := wrap_succ (n := i) (by omega)
      have hx := hp xs[i] (List.getElem_mem hi)
      rw [hd, idxP] at hr
      cases hpx : p xs[i] with
      | true =>
        simp [hpx] at hr hx
        have hr' : ¬ r < 0 := by omega
        simp [-mdOf, loopAt, loopsOf, Tryd.f60, h0, h1, h7, h8, hi, hi', hx, hw, hm, hf, hpk, hr', hr]
      | false =>
        simp [hpx] at hr hx
        have hr2 : r = if idxP p (xs.drop (i + 1)) < 0 then -1 else idxP p (xs.drop (i + 1)) + ((i : Int) + 1) := by
          rw [hr]
          by_cases hq : idxP p (xs.drop (i + 1)) < 0
          · simp [hq]
          · have : ¬ idxP p (xs.drop (i + 1)) + 1 < 0 := by omega
            simp [hq, this]; omega
        clear hr
        simp [-mdOf, loopAt, loopsOf, Tryd.f60, h0, h1, h7, h8, hi, hi', hx, hw, hm, hf, hpk]
        exact hr2)
    (by
      rintro s o q ⟨h0, h1, h7, h8, hr⟩
      simp [idxP] at hr
      simp [loopAt, loopsOf, Tryd.f60, h0, h1, h7, h8, hr])
    xs.length 0 s o q (by omega) hI)
  simp only [loopAt, loopsOf, Tryd.f60] at lp
  obtain ⟨X, A, B, C, hx⟩ := lp _ rfl
  have hz : idxP p xs = if idxP p xs < 0 then -1 else idxP p xs := by
    cases xs with
    | nil => simp [idxP]
    | cons x r =>
      unfold idxP
      split
      · simp
      · split
        · simp
        · have : ¬ idxP p r + 1 < 0 := by omega
          simp [this]
  simp [← hz] at hx
  by_cases h : idxP p xs < 0
  · have h1 : idxP p xs = -1 := by rw [hz]; simp [h]
    simp [h] at hx
    simp [hx, h1]
  · have h2 : 0 ≤ idxP p xs := by omega
    simp [h, h2] at hx
    simp [hx]
theorem containsFunc_143_m (xs : List Val) (g : Nat) (c : List T) (hc : ∀ y ∈ c, y.one = true) (p : Val → Bool) (hl : xs.length < 9223372036854775807) (hm : E.md g = []) (hf : E.flat g = true) (hp : ∀ x ∈ xs, run E (.call g [.t (.agg c), .t (valT x)]) = some (.res [xB (p x)] [])) :
    run E (.call 33 [.t (.list (xs.map valT)), .meth g [.agg c]]) = some (.res [xB (xs.any p)] []) := by
  rw [run_call E 33 _ rfl Tryd.func33 rfl rfl rfl (by simp)]
  have h := indexFunc_206_m xs g c hc p hl hm hf hp
  simp [h, idxP_ge]
end Go.Vd
/- A term against a document: impl's matches; TermMatches of both; the law. -/
set_option linter.unusedSimpArgs false
set_option linter.unusedVariables false
namespace Go.Vd
open Go.Ev Go.Proofs Go.Pu
set_option maxRecDepth 100000
set_option maxHeartbeats 16000000
end Go.Vd
/- slices.Index and slices.Contains of texts; spec's values of a path without doubles. -/
set_option linter.unusedSimpArgs false
set_option linter.unusedVariables false
namespace Go.Vd
open Go.Ev Go.Proofs Go.Pu
set_option maxRecDepth 100000
set_option maxHeartbeats 4000000
/-- What of a list has no equal ahead of it. -/
def dedV : List Val → List Val → List Val
  | acc, [] => acc
  | acc, x :: r => dedV (if acc.any (fun y => sameV y x) then acc else acc ++ [x]) r
def nullV : Val := ⟨0, 0, []⟩
def dedN (xs : List Val) : List Val := if xs.length = 0 then [nullV] else dedV [] xs
def valsP (p : Bytes) (v : Val) : List Val := dedN (getP (cutP 46 p) v)
theorem dedV_len : ∀ (xs acc : List Val), (dedV acc xs).length ≤ acc.length + xs.length
  | [], acc => by simp [dedV]
  | x :: r, acc => by
    have h1 := dedV_len r acc
    have h2 := dedV_len r (acc ++ [x])
    unfold dedV
    split
    · simp; omega
    · simp at h2 ⊢; omega
theorem dedV_len' : ∀ (xs acc : List Val), acc.length ≤ (dedV acc xs).length
  | [], acc => by simp [dedV]
  | x :: r, acc => by
    unfold dedV
    have h := dedV_len' r (if acc.any (fun y => sameV y x) then acc else acc ++ [x])
    split
    · rename_i hc; rw [if_pos hc] at h; exact h
    · rename_i hc; rw [if_neg hc] at h; simp at h; omega
end Go.Vd
/- spec's values of a path without doubles. -/
set_option linter.unusedSimpArgs false
set_option linter.unusedVariables false
namespace Go.Vd
open Go.Ev Go.Proofs Go.Pu
set_option maxRecDepth 100000
set_option maxHeartbeats 4000000
theorem valsP_len (p : Bytes) (v : Val) : (valsP p v).length ≤ v.t.length + 1 := by
  have h := getP_len (cutP 46 p) v
  have h2 := dedV_len (getP (cutP 46 p) v) []
  unfold valsP dedN
  split
  · simp
  · simp at h2; omega
theorem dedV_mem : ∀ (xs acc : List Val), ∀ y ∈ dedV acc xs, y ∈ acc ∨ y ∈ xs
  | [], acc, y, h => .inl (by simpa [dedV] using h)
  | x :: r, acc, y, h => by
    unfold dedV at h
    split at h
    · rcases dedV_mem r _ y h with h | h
      · exact .inl h
      · exact .inr (List.mem_cons_of_mem _ h)
    · rcases dedV_mem r _ y h with h | h
      · rcases List.mem_append.1 h with h | h
        · exact .inl h
        · simp at h; subst h; exact .inr (by simp)
      · exact .inr (List.mem_cons_of_mem _ h)
end Go.Vd
/- impl's keys of one part. -/
set_option linter.unusedSimpArgs false
set_option linter.unusedVariables false
namespace Go.Vd
open Go.Ev Go.Proofs Go.Pu
set_option maxRecDepth 100000
set_option maxHeartbeats 4000000
def keyF (f : Bool) (v : Val) : Bytes := if f then turnP (keyD 5 v) else keyD 5 v
theorem turnB_inj {a b : UInt8} (h : turnB a = turnB b) : a = b := by
  have h1 := turn_wrap a
  have h2 := turn_wrap b
  rw [h] at h1
  rw [← h2] at h1
  have := a.toNat_lt
  have := b.toNat_lt
  simp only [IntKind.wrap, IntKind.bits, IntKind.signed] at h1
  simp at h1
  have : a.toNat = b.toNat := by omega
  exact UInt8.toNat_inj.1 this
theorem keyF_inj {f : Bool} {a b : Val} (ha : okP 5 a = true) (hb : okP 5 b = true) (h : keyF f a = keyF f b) : a = b := by
  have h' : keyD 5 a = keyD 5 b := by
    unfold keyF at h
    cases f with
    | false => simpa using h
    | true =>
      simp [turnP] at h
      exact List.map_inj_right (fun x y h => turnB_inj h) |>.1 h
  exact (key_inj 5 a b [] [] ha hb (by rw [h'])).1
theorem sameV_iff (a b : Val) : sameV a b = true ↔ a = b := by
  cases a; cases b
  simp [sameV]
theorem has_key (f : Bool) (acc : List Val) (x : Val) (ha : ∀ y ∈ acc, okP 5 y = true) (hx : okP 5 x = true) : (acc.map (keyF f)).any (fun k => keyF f x == k) = acc.any (fun y => sameV y x) := by
  rw [Bool.eq_iff_iff]
  simp only [List.any_map, List.any_eq_true, Function.comp, beq_iff_eq, sameV_iff]
  constructor
  · rintro ⟨y, hy, h⟩; exact ⟨y, hy, (keyF_inj hx (ha y hy) h).symm⟩
  · rintro ⟨y, hy, rfl⟩; exact ⟨y, hy, rfl⟩
theorem okP_null : okP 5 nullV = true := by decide
end Go.Vd
/- impl's keys of one part: the whole. -/
set_option linter.unusedSimpArgs false
set_option linter.unusedVariables false
namespace Go.Vd
open Go.Ev Go.Proofs Go.Pu
set_option maxRecDepth 100000
set_option maxHeartbeats 4000000
def keysP (p : Prt) (v : Val) : List Bytes := (valsP p.path v).map (keyF p.desc)
theorem keysP_len (p : Prt) (v : Val) (hv : v.t.length ≤ 300) : (keysP p v).length ≤ 301 := by
  have := valsP_len p.path v
  simp [keysP]; omega
end Go.Vd
/- impl's keys of a document: the two inner loops. -/
set_option linter.unusedSimpArgs false
set_option linter.unusedVariables false
namespace Go.Vd
open Go.Ev Go.Proofs Go.Pu
set_option maxRecDepth 100000
set_option maxHeartbeats 8000000
def cross (ks qs : List Bytes) : List Bytes := ks.flatMap fun k => qs.map (k ++ ·)
abbrev valB (v : Val) : Ob := .box 26 [.t (.int .i64 v.k), .t (.int .i64 v.n), .t (.str v.t)]
end Go.Vd
/- impl's keys of a document. -/
set_option linter.unusedSimpArgs false
set_option linter.unusedVariables false
namespace Go.Vd
open Go.Ev Go.Proofs Go.Pu
set_option maxRecDepth 100000
set_option maxHeartbeats 8000000
def docKeysP : List Prt → Val → List Bytes
  | [], _ => []
  | p :: r, v => r.foldl (fun ks q => cross ks (keysP q v)) (keysP p v)
theorem keyF_len (f : Bool) (v : Val) (h : okP 5 v = true) : (keyF f v).length ≤ 3311 := by
  have h1 := keyD_len 5 v h
  have h2 := okP_size h
  unfold keyF
  split
  · simp [turnP]; omega
  · omega
theorem valsP_ok (p : Bytes) (v : Val) (d : Nat) (hd : d ≤ 5) (h : okP d v = true) : ∀ y ∈ valsP p v, okP 5 y = true := by
  intro y hy
  unfold valsP dedN at hy
  split at hy
  · simp at hy; subst hy; exact okP_null
  · rcases dedV_mem _ _ y hy with h' | h'
    · simp at h'
    · exact getP_ok _ d v hd h y h'
theorem keysP_short (p : Prt) (v : Val) (d : Nat) (hd : d ≤ 5) (h : okP d v = true) : ∀ x ∈ keysP p v, x.length ≤ 3311 := by
  intro x hx
  obtain ⟨y, hy, rfl⟩ := List.mem_map.1 hx
  exact keyF_len _ _ (valsP_ok p.path v d hd h y hy)
end Go.Vd
/- spec's keys of a document. -/
set_option linter.unusedSimpArgs false
set_option linter.unusedVariables false
namespace Go.Vd
open Go.Ev Go.Proofs Go.Pu
set_option maxRecDepth 100000
set_option maxHeartbeats 8000000
end Go.Vd
/- spec's keys of a document: the whole. -/
set_option linter.unusedSimpArgs false
set_option linter.unusedVariables false
namespace Go.Vd
open Go.Ev Go.Proofs Go.Pu
set_option maxRecDepth 100000
set_option maxHeartbeats 8000000
theorem cross_one (ks : List Bytes) : cross [[]] ks = ks := by simp [cross]
theorem docKeys_fold (p : Prt) (ps : List Prt) (v : Val) : (p :: ps).foldl (fun ks q => cross ks (keysP q v)) [[]] = docKeysP (p :: ps) v := by
  rw [List.foldl_cons, cross_one]; rfl
end Go.Vd
/- What is drawn from a text of bytes: bytes, numbers. -/
set_option linter.unusedSimpArgs false
set_option linter.unusedVariables false
namespace Go.Vd
open Go.Ev Go.Proofs Go.Pu
set_option maxRecDepth 100000
set_option maxHeartbeats 8000000
structure Src where
  bs : Bytes
  p : Nat
  sd : Int
abbrev srcX (s : Src) : X := .ref 54 [.t (.list (s.bs.map byteT)), .t (.int .i64 s.p), .t (.int .i64 s.sd)]
structure Src.Ok (s : Src) (m : Nat) : Prop where
  len : s.bs.length < 4294967296
  pos : s.p ≤ m
  lo : 0 ≤ s.sd
  hi : s.sd < 2147483648
theorem srcByte (s : Src) (m : Nat) (hm : m < 1000000000) (h : s.Ok m) : ∃ b s', run E (.call 56 [srcX s]) = some (.res [xI b] [some (srcX s')]) ∧ 0 ≤ b ∧ b < 256 ∧ s'.Ok (m + 1) := by
  obtain ⟨bs, p, sd⟩ := s
  obtain ⟨h1, h2, h3, h4⟩ := h
  simp only at h1 h2 h3 h4
  have d2 := d56_2
  simp [regionOf, findR, pick, Tryd.f56] at d2
  have dd2 := fun st => run_region_draw E st 2 _ d2
  clear d2
  have d3 := d56_3
  simp [regionOf, findR, pick, Tryd.f56] at d3
  have dd3 := fun st => run_region_draw E st 3 _ d3
  clear d3
  have d4 := d56_4
  simp [regionOf, findR, pick, Tryd.f56] at d4
  have dd4 := fun st => run_region_draw E st 4 _ d4
  clear d4
  have hw := wrap_succ (n := p) (by omega)
  by_cases hp : p < bs.length
  · have hle : (p : Int) + 1 ≤ (bs.length : Int) := by omega
    have hxp : bs[p]? = some bs[p] := List.getElem?_eq_getElem hp
    have hb := (bs[p]).toNat_lt
    have hwp := wrap_nat (n := p) (by omega)
    have hw1 : IntKind.i64.wrap (sd * 31) = sd * 31 := wrap_of (by omega) (by omega)
    have hwb := wrap_byte bs[p]
    have hw2 : IntKind.i64.wrap (sd * 31 + (bs[p]).toNat) = sd * 31 + (bs[p]).toNat := wrap_of (by omega) (by omega)
    have hw3 : IntKind.i64.wrap (sd * 31 + (bs[p]).toNat + 7) = sd * 31 + (bs[p]).toNat + 7 := wrap_of (by omega) (by omega)
    have hr : (sd * 31 + ((bs[p]).toNat : Int) + 7).tmod 2147483648 = (sd * 31 + ((bs[p]).toNat : Int) + 7) % 2147483648 := Int.tmod_eq_emod_of_nonneg (by omega)
    have hw4 : IntKind.i64.wrap ((sd * 31 + ((bs[p]).toNat : Int) + 7) % 2147483648) = (sd * 31 + ((bs[p]).toNat : Int) + 7) % 2147483648 := wrap_of (by omega) (by omega)
    refine ⟨((bs[p]).toNat : Int), ⟨bs, p + 1, (sd * 31 + ((bs[p]).toNat : Int) + 7) % 2147483648⟩, ?_, by omega, by omega, ⟨h1, by simp only; omega, by simp only; omega, by simp only; omega⟩⟩
    rw [run_call E 56 _ rfl Tryd.func56 rfl rfl rfl (by simp)]
    generalize hbb : bs[p] = b at *
    simp [dd2, dd3, dd4, hw, hp, hle, hxp, hwp, hw1, hwb, hw2, hw3, hr, hw4, hbb]
  · have hle : ¬ (p : Int) + 1 ≤ (bs.length : Int) := by omega
    by_cases h3k : (3000 : Int) < (p : Int) + 1
    · refine ⟨0, ⟨bs, p + 1, sd⟩, ?_, by omega, by omega, ⟨h1, by simp only; omega, h3, h4⟩⟩
      rw [run_call E 56 _ rfl Tryd.func56 rfl rfl rfl (by simp)]
      simp [dd2, dd3, dd4, hw, hp, hle, h3k]
    · have hw1 : IntKind.i64.wrap (sd * 1103515245) = sd * 1103515245 := wrap_of (by omega) (by omega)
      have hw2 : IntKind.i64.wrap (sd * 1103515245 + 12345) = sd * 1103515245 + 12345 := wrap_of (by omega) (by omega)
      have hr : (sd * 1103515245 + 12345).tmod 2147483648 = (sd * 1103515245 + 12345) % 2147483648 := Int.tmod_eq_emod_of_nonneg (by omega)
      obtain ⟨n, hn⟩ : ∃ n, n = (sd * 1103515245 + 12345) % 2147483648 := ⟨_, rfl⟩
      have hn0 : 0 ≤ n ∧ n < 2147483648 := by omega
      have hw3 : IntKind.i64.wrap n = n := wrap_of (by omega) (by omega)
      have hq : n.tdiv 65536 = n / 65536 := Int.tdiv_eq_ediv_of_nonneg (by omega)
      have hw4 : IntKind.i64.wrap (n / 65536) = n / 65536 := wrap_of (by omega) (by omega)
      have hr2 : (n / 65536).tmod 256 = n / 65536 % 256 := Int.tmod_eq_emod_of_nonneg (by omega)
      have hw5 : IntKind.i64.wrap (n / 65536 % 256) = n / 65536 % 256 := wrap_of (by omega) (by omega)
      rw [← hn] at hr
      refine ⟨n / 65536 % 256, ⟨bs, p + 1, n⟩, ?_, by omega, by omega, ⟨h1, by simp only; omega, hn0.1, hn0.2⟩⟩
      rw [run_call E 56 _ rfl Tryd.func56 rfl rfl rfl (by simp)]
      simp [dd2, dd3, dd4, hw, hp, hle, h3k, hw1, hw2, hr, hw3, hq, hw4, hr2, hw5]
end Go.Vd
/- What is drawn from a text of bytes: numbers below a bound, chances, one of some texts. -/
set_option linter.unusedSimpArgs false
set_option linter.unusedVariables false
namespace Go.Vd
open Go.Ev Go.Proofs Go.Pu
set_option maxRecDepth 100000
set_option maxHeartbeats 8000000
theorem Src.Ok.up {s : Src} {m k : Nat} (h : s.Ok m) (hk : m ≤ k) : s.Ok k := ⟨h.len, Nat.le_trans h.pos hk, h.lo, h.hi⟩
theorem srcNext (s : Src) (m : Nat) (hm : m < 1000000000) (h : s.Ok m) (n : Nat) (h1 : 1 ≤ n) (h2 : n ≤ 256) : ∃ (r : Nat) (s' : Src), run E (.call 27 [srcX s, xI n]) = some (.res [xI r] [some (srcX s')]) ∧ r < n ∧ s'.Ok (m + 1) := by
  by_cases hn : n = 1
  · subst hn
    refine ⟨0, s, ?_, by omega, h.up (by omega)⟩
    rw [run_call E 27 _ rfl Tryd.func27 rfl rfl rfl (by simp)]
    simp
  · obtain ⟨b, s', hb, b0, b1, ok⟩ := srcByte s m hm h
    refine ⟨(b % n).toNat, s', ?_, ?_, ok⟩
    · rw [run_call E 27 _ rfl Tryd.func27 rfl rfl rfl (by simp)]
      have e1 : ¬ ((n : Int) ≤ 1) := by omega
      have e2 : (n : Int) ≤ 256 := by omega
      have e3 : ¬ ((n : Int) = 0) := by omega
      have e4 : b.tmod n = b % n := Int.tmod_eq_emod_of_nonneg b0
      have e5 : 0 ≤ b % (n : Int) ∧ b % (n : Int) < n := ⟨Int.emod_nonneg _ (by omega), Int.emod_lt_of_pos _ (by omega)⟩
      have e6 : IntKind.i64.wrap (b % n) = b % n := wrap_of (by omega) (by omega)
      have e7 : max (b % (n : Int)) 0 = b % (n : Int) := by omega
      have e8 : n ≠ 0 := by omega
      have e9 : ¬ (n ≤ 1) := by omega
      simp [hb, e1, e2, e3, e4, e6, e7, e8, e9, h2]
    · have e5 : 0 ≤ b % (n : Int) ∧ b % (n : Int) < n := ⟨Int.emod_nonneg _ (by omega), Int.emod_lt_of_pos _ (by omega)⟩
      omega
theorem srcChance (s : Src) (m : Nat) (hm : m < 1000000000) (h : s.Ok m) : ∃ (b : Bool) (s' : Src), run E (.call 58 [srcX s, xI 2]) = some (.res [xB b] [some (srcX s')]) ∧ s'.Ok (m + 1) := by
  obtain ⟨r, s', hr, h1, ok⟩ := srcNext s m hm h 2 (by omega) (by omega)
  refine ⟨((r : Int) == 1), s', ?_, ok⟩
  rw [run_call E 58 _ rfl Tryd.func58 rfl rfl rfl (by simp)]
  simp at hr
  simp [hr]
theorem srcPick (s : Src) (m : Nat) (hm : m < 1000000000) (h : s.Ok m) (xs : List Bytes) (h1 : 1 ≤ xs.length) (h2 : xs.length ≤ 256) : ∃ (x : Bytes) (s' : Src), run E (.call 30 [srcX s, .t (.list (xs.map strT))]) = some (.res [xS x] [some (srcX s')]) ∧ x ∈ xs ∧ s'.Ok (m + 1) := by
  obtain ⟨r, s', hr, hlt, ok⟩ := srcNext s m hm h xs.length h1 h2
  refine ⟨xs[r], s', ?_, List.getElem_mem hlt, ok⟩
  rw [run_call E 30 _ rfl Tryd.func30 rfl rfl rfl (by simp)]
  have e1 : ¬ ((xs.length : Int) = 0) := by omega
  have e2 : xs ≠ [] := by intro e; rw [e] at h1; simp at h1
  have e3 : xs[r]? = some xs[r] := List.getElem?_eq_getElem hlt
  simp [hr, e1, e2, e3, hlt]
end Go.Vd
/- Values put together: spec's l01Encode, l01List, l01Doc, l01Int, l01Text. -/
set_option linter.unusedSimpArgs false
set_option linter.unusedVariables false
namespace Go.Vd
open Go.Ev Go.Proofs Go.Pu
set_option maxRecDepth 100000
set_option maxHeartbeats 8000000
def encP (v : Val) : Bytes := if v.k = 0 then numP v.k 1 else if v.k = 1 then numP v.k 1 ++ numP v.n 1 else if v.k = 2 then numP v.k 1 ++ numP (v.n + 4611686018427387904) 8 else numP v.k 1 ++ numP (v.t.length : Nat) 2 ++ v.t
def encF (f : Fld) : Bytes := numP (f.name.length : Nat) 1 ++ f.name ++ encP f.v
def _root_.Go.Pu.Val.little (v : Val) : Prop := -1000000000000 ≤ v.n ∧ v.n ≤ 1000000000000 ∧ v.t.length ≤ 300
theorem okP_little {d : Nat} {v : Val} (h : okP d v = true) : v.little := by
  have := okP_range h
  exact ⟨this.2.2.1, this.2.2.2.1, this.2.2.2.2⟩
theorem encP_len {v : Val} (h : v.little) : (encP v).length ≤ 310 := by
  have := h.2.2
  unfold encP
  split
  · simp [numP_len]
  · split
    · simp [numP_len]
    · split
      · simp [numP_len]
      · simp [numP_len]; omega
theorem l01Encode (v : Val) (h : v.little) : run E (.call 57 [xV v]) = some (.res [xS (encP v)] []) := by
  rw [run_call E 57 _ rfl Tryd.func57 rfl rfl rfl (by simp)]
  have d9 := d57_9
  simp [regionOf, findR, pick, Tryd.f57] at d9
  have dd9 := fun st => run_region_draw E st 9 _ d9
  clear d9
  obtain ⟨h1, h2, h3⟩ := h
  have n1 := l01Number v.k 1 (by omega)
  have n2 := l01Number v.n 1 (by omega)
  have n3 := l01Number (v.n + 4611686018427387904) 8 (by omega)
  have n4 := l01Number (v.t.length : Nat) 2 (by omega)
  have hw : IntKind.i64.wrap (v.n + 4611686018427387904) = v.n + 4611686018427387904 := wrap_of (by omega) (by omega)
  have l1 := numP_len v.k 1
  have l2 := numP_len v.n 1
  have l3 := numP_len (v.n + 4611686018427387904) 8
  have l4 := numP_len (v.t.length : Nat) 2
  unfold encP
  generalize numP v.k 1 = a at *
  generalize numP v.n 1 = b at *
  generalize numP (v.n + 4611686018427387904) 8 = c at *
  generalize numP (v.t.length : Nat) 2 = e at *
  have c1 : a.length + b.length ≤ 140737488355328 := by omega
  have c2 : a.length + c.length ≤ 140737488355328 := by omega
  have c3 : a.length + e.length ≤ 140737488355328 := by omega
  have c4 : a.length + e.length + v.t.length ≤ 140737488355328 := by omega
  simp at n1 n2 n3 n4
  by_cases k0 : v.k = 0
  · have k0' : (v.k = 0) = True := eq_true k0
    clear k0
    simp [n1, k0', l1, l2, l3, l4, c1, c2, c3, c4]
  · by_cases k1 : v.k = 1
    · have k1' : (v.k = 1) = True := eq_true k1
      have k0' : (v.k = 0) = False := eq_false k0
      clear k0 k1
      simp [n1, n2, k0', k1', l1, l2, l3, l4, c1]
    · by_cases k2 : v.k = 2
      · have k2' : (v.k = 2) = True := eq_true k2
        have k1' : (v.k = 1) = False := eq_false k1
        have k0' : (v.k = 0) = False := eq_false k0
        clear k0 k1 k2
        simp [n1, n3, hw, k0', k1', k2', l1, l2, l3, l4, c1]
      · simp [dd9, n1, n4, k0, k1, k2, l1, l2, l3, l4, c3, c4]
        try omega
theorem l01Int (n : Int) : run E (.call 28 [xI n]) = some (.res [valX ⟨2, n, []⟩] []) := by
  rw [run_call E 28 _ rfl Tryd.func28 rfl rfl rfl (by simp)]
  simp
theorem l01Text (t : Bytes) : run E (.call 29 [xS t]) = some (.res [valX ⟨3, 0, t⟩] []) := by
  rw [run_call E 29 _ rfl Tryd.func29 rfl rfl rfl (by simp)]
  simp
theorem l01List (xs : List Val) (h : ∀ x ∈ xs, x.little) (hl : xs.length ≤ 1000) : run E (.call 31 [.t (.list (xs.map valT))]) = some (.res [valX ⟨4, 0, xs.flatMap encP⟩] []) := by
  rw [run_call E 31 _ rfl Tryd.func31 rfl rfl rfl (by simp)]
  have lp := fun (R : Bytes) (hR : R = xs.flatMap encP) => sk (fun s o q hI => loop_for (c := loopAt Tryd.f31 0) (N := 20)
    (fun i s o q => ∃ acc, s 0 = .t (.list (xs.map valT)) ∧ s 2 = .ptr 0 0 ∧ s 3 = .t (.str acc) ∧ s 4 = .t (.int .i64 i) ∧ o 0 = .box 26 [.t (.int .i64 0), .t (.int .i64 0), .t (.str [])] ∧ 0 < q ∧ acc.length ≤ i * 310 ∧ R = acc ++ (xs.drop i).flatMap encP)
    (fun e s' o' q' => e = .exit 0 ∧ s' 2 = .ptr 0 0 ∧ s' 3 = .t (.str R) ∧ o' 0 = .box 26 [.t (.int .i64 0), .t (.int .i64 0), .t (.str [])] ∧ 0 < q') xs.length
    (by
      rintro i s o q hi ⟨acc, h0, h2, h3, h4, ho, hq, hl2, hp⟩
      have hi' : (i : Int) < (xs.length : Int) := by omega
      have hwi := wrap_succ (n := i) (by omega)
      have hxi : xs[i]? = some xs[i] := List.getElem?_eq_getElem hi
      have hli := h _ (List.getElem_mem hi)
      have he := l01Encode xs[i] hli
      have hel := encP_len hli
      rw [List.drop_eq_getElem_cons hi, List.flatMap_cons, ← List.append_assoc] at hp
      generalize encP xs[i] = e at *
      have hcc : acc.length + e.length ≤ 140737488355328 := by omega
      simp [loopAt, loopsOf, Tryd.f31, h0, h2, h3, h4, ho, hi, hi', hwi, hxi, he, hcc, hq]
      exact ⟨by rw [Nat.add_mul]; omega, by rw [hp]; simp⟩)
    (by
      rintro s o q ⟨acc, h0, h2, h3, h4, ho, hq, hl2, hp⟩
      simp at hp
      simp [loopAt, loopsOf, Tryd.f31, h0, h2, h3, h4, ho, hp, hq])
    xs.length 0 s o q (by omega) hI)
  simp only [loopAt, loopsOf, Tryd.f31] at lp
  obtain ⟨X, A, B, C, hx⟩ := lp _ rfl
  have hx' := fun s o q a0 a2 a3 a4 ao aq => hx s o q ⟨[], a0, a2, a3, a4, ao, aq, by simp, by simp⟩
  clear hx lp
  simp at hx'
  simp [hx']
theorem l01Doc (xs : List Fld) (h : ∀ x ∈ xs, x.v.little ∧ x.name.length ≤ 100) (hl : xs.length ≤ 1000) : run E (.call 59 [.t (.list (xs.map fldT))]) = some (.res [valX ⟨5, 0, xs.flatMap encF⟩] []) := by
  rw [run_call E 59 _ rfl Tryd.func59 rfl rfl rfl (by simp)]
  have d5 := d59_5
  simp [regionOf, findR, pick, Tryd.f59] at d5
  have dd5 := fun st => run_region_draw E st 5 _ d5
  clear d5
  have lp := fun (R : Bytes) (hR : R = xs.flatMap encF) => sk (fun s o q hI => loop_for (c := loopAt Tryd.f59 0) (N := 35)
    (fun i s o q => ∃ acc, s 0 = .t (.list (xs.map fldT)) ∧ s 2 = .ptr 0 0 ∧ s 3 = .t (.str acc) ∧ s 4 = .t (.int .i64 i) ∧ o 0 = .box 26 [.t (.int .i64 0), .t (.int .i64 0), .t (.str [])] ∧ 0 < q ∧ acc.length ≤ i * 420 ∧ R = acc ++ (xs.drop i).flatMap encF)
    (fun e s' o' q' => e = .exit 0 ∧ s' 2 = .ptr 0 0 ∧ s' 3 = .t (.str R) ∧ o' 0 = .box 26 [.t (.int .i64 0), .t (.int .i64 0), .t (.str [])] ∧ 0 < q') xs.length
    (by
      rintro i s o q hi ⟨acc, h0, h2, h3, h4, ho, hq, hl2, hp⟩
      have hi' : (i : Int) < (xs.length : Int) := by omega
      have hwi := wrap_succ (n := i) (by omega)
      have hxi : xs[i]? = some xs[i] := List.getElem?_eq_getElem hi
      have hli := h _ (List.getElem_mem hi)
      have he := l01Encode xs[i].v hli.1
      have hel := encP_len hli.1
      have hnl := hli.2
      have hn := l01Number (xs[i].name.length : Nat) 1 (by omega)
      have hnl1 := numP_len (xs[i].name.length : Nat) 1
      have hee : encF xs[i] = numP (xs[i].name.length : Nat) 1 ++ xs[i].name ++ encP xs[i].v := rfl
      rw [List.drop_eq_getElem_cons hi, List.flatMap_cons, ← List.append_assoc] at hp
      rw [hee] at hp
      clear hee
      generalize encP xs[i].v = e at *
      generalize numP (xs[i].name.length : Nat) 1 = z at *
      have hc1 : z.length + (xs[i].name).length ≤ 140737488355328 := by omega
      have hc2 : z.length + (xs[i].name).length + e.length ≤ 140737488355328 := by omega
      have hc3 : acc.length + (z.length + (xs[i].name).length + e.length) ≤ 140737488355328 := by omega
      have hc4 : acc.length + (1 + ((xs[i].name).length + e.length)) ≤ 140737488355328 := by omega
      have hc5 : 1 + (xs[i].name).length ≤ 140737488355328 := by omega
      have hc6 : 1 + (xs[i].name).length + e.length ≤ 140737488355328 := by omega
      simp at hn
      simp [loopAt, loopsOf, Tryd.f59, h0, h2, h3, h4, ho, hi, hi', hwi, dd5, hxi, he, hn, hnl1, hc1, hc2, hc3, hc4, hc5, hc6, hq]
      exact ⟨by rw [Nat.add_mul]; omega, by rw [hp]; simp⟩)
    (by
      rintro s o q ⟨acc, h0, h2, h3, h4, ho, hq, hl2, hp⟩
      simp at hp
      simp [loopAt, loopsOf, Tryd.f59, h0, h2, h3, h4, ho, hp, hq])
    xs.length 0 s o q (by omega) hI)
  simp only [loopAt, loopsOf, Tryd.f59] at lp
  obtain ⟨X, A, B, C, hx⟩ := lp _ rfl
  have hx' := fun s o q a0 a2 a3 a4 ao aq => hx s o q ⟨[], a0, a2, a3, a4, ao, aq, by simp, by simp⟩
  clear hx lp
  simp at hx'
  simp [hx']
end Go.Vd
/- What is drawn from a text of bytes: plain values. -/
set_option linter.unusedSimpArgs false
set_option linter.unusedVariables false
namespace Go.Vd
open Go.Ev Go.Proofs Go.Pu
set_option maxRecDepth 100000
set_option maxHeartbeats 8000000
/-- `sk1`, with something good chosen at each start. -/
theorem skG {α : Type} (good : α → Prop) (a0 : α) (h0 : good a0) {I : Ss → Os → Nat → Prop} {Q : Ss → Os → Nat → Ex → Ss → Os → Nat → Prop} {R : Ss → Os → Nat → Ex → Ss → Os → Nat → α → Prop} (h : ∀ s o q, I s o q → ∃ e s' o' q', Q s o q e s' o' q' ∧ ∃ m, good m ∧ R s o q e s' o' q' m) :
    ∃ (X : Ss → Os → Nat → Ex) (A : Ss → Os → Nat → Ss) (B : Ss → Os → Nat → Os) (C : Ss → Os → Nat → Nat) (M : Ss → Os → Nat → α), (∀ s o q, good (M s o q)) ∧ ∀ s o q, I s o q → Q s o q (X s o q) (A s o q) (B s o q) (C s o q) ∧ R s o q (X s o q) (A s o q) (B s o q) (C s o q) (M s o q) := by
  obtain ⟨X, A, B, C, hx⟩ := sk h
  classical
  have h' : ∀ s o q, ∃ m, good m ∧ (I s o q → R s o q (X s o q) (A s o q) (B s o q) (C s o q) m) := by
    intro s o q
    by_cases hI : I s o q
    · obtain ⟨m, hg, hm⟩ := (hx s o q hI).2
      exact ⟨m, hg, fun _ => hm⟩
    · exact ⟨a0, h0, fun hI' => absurd hI' hI⟩
  exact ⟨X, A, B, C, fun s o q => (h' s o q).choose, fun s o q => (h' s o q).choose_spec.1, fun s o q hI => ⟨(hx s o q hI).1, (h' s o q).choose_spec.2 hI⟩⟩
def scalar (v : Val) : Prop := okP 5 v = true ∧ 0 ≤ v.k ∧ v.k ≤ 3 ∧ v.t.length ≤ 100
theorem scalar_null : scalar ⟨0, 0, []⟩ := ⟨by decide, by decide, by decide, by decide⟩
theorem scalar_bool (r : Nat) (h : r < 2) : scalar ⟨1, r, []⟩ := by
  refine ⟨?_, by simp, by simp, by simp⟩
  unfold okP
  simp
  omega
theorem scalar_int (n : Int) (h1 : -1000000000000 ≤ n) (h2 : n ≤ 1000000000000) : scalar ⟨2, n, []⟩ := by
  refine ⟨?_, by simp, by simp, by simp⟩
  unfold okP
  simp [h1, h2]
theorem scalar_text (t : Bytes) (h : t.length ≤ 100) : scalar ⟨3, 0, t⟩ := by
  refine ⟨?_, by simp, by simp, h⟩
  have h' : t.length ≤ 300 := by omega
  unfold okP
  simp [h']
def five : List Bytes := [[], [97], [97, 98], [98], [0]]
theorem srcFive (s : Src) (m : Nat) (hm : m < 1000000000) (h : s.Ok m) : ∃ (x : Bytes) (s' : Src), run E (.call 30 [srcX s, .t (.list [.str [], .str [97], .str [97, 98], .str [98], .str [0]])]) = some (.res [xS x] [some (srcX s')]) ∧ x.length ≤ 100 ∧ s'.Ok (m + 1) := by
  obtain ⟨x, s', h1, h2, h3⟩ := srcPick s m hm h five (by decide) (by decide)
  refine ⟨x, s', h1, ?_, h3⟩
  simp [five] at h2
  rcases h2 with rfl | rfl | rfl | rfl | rfl <;> simp
/-- The kinds that hold no others. -/
theorem drawScalar (s : Src) (m : Nat) (hm : m + 10 < 1000000000) (h : s.Ok m) : ∃ v s', run E (.call 15 [srcX s, xI 0]) = some (.res [valX v] [some (srcX s')]) ∧ scalar v ∧ s'.Ok (m + 4) := by
  obtain ⟨r0, s0, a0, b0, c0⟩ := srcNext s m (by omega) h 8 (by omega) (by omega)
  obtain ⟨r, s1, a1, b1, c1⟩ := srcNext s0 (m + 1) (by omega) c0 6 (by omega) (by omega)
  obtain ⟨r2, s2, a2, b2, c2⟩ := srcNext s1 (m + 1 + 1) (by omega) c1 2 (by omega) (by omega)
  obtain ⟨r9, s9, a9, b9, c9⟩ := srcNext s1 (m + 1 + 1) (by omega) c1 9 (by omega) (by omega)
  obtain ⟨r3, s3, a3, b3, c3⟩ := srcNext s1 (m + 1 + 1) (by omega) c1 3 (by omega) (by omega)
  obtain ⟨x, s5, a5, b5, c5⟩ := srcFive s1 (m + 1 + 1) (by omega) c1
  have hw : IntKind.i64.wrap ((r9 : Int) - 3) = (r9 : Int) - 3 := wrap_of (by omega) (by omega)
  have i1 := l01Int ((r9 : Int) - 3)
  have i2 := l01Int 1000000000000
  have i3 := l01Int (-1000000000000)
  have i4 := l01Int 300
  have t1 := l01Text x
  simp at a0 a1 a2 a9 a3 a5
  obtain ⟨Y, hY⟩ : ∃ Y, run E (.call 15 [srcX s, xI 0]) = Y := ⟨_, rfl⟩
  rw [hY]
  rw [run_call E 15 _ rfl Tryd.func15 rfl rfl rfl (by simp)] at hY
  rcases (by omega : r = 0 ∨ r = 1 ∨ r = 2 ∨ r = 3 ∨ r = 4 ∨ r = 5) with rfl | rfl | rfl | rfl | rfl | rfl
  · simp [a0, a1] at hY
    subst hY
    exact ⟨⟨0, 0, []⟩, s1, rfl, scalar_null, c1.up (by omega)⟩
  · simp [a0, a1, a2] at hY
    subst hY
    exact ⟨⟨1, r2, []⟩, s2, rfl, scalar_bool r2 b2, c2.up (by omega)⟩
  · simp [a0, a1, a9, hw, i1] at hY
    subst hY
    exact ⟨⟨2, (r9 : Int) - 3, []⟩, s9, rfl, scalar_int _ (by omega) (by omega), c9.up (by omega)⟩
  · simp [a0, a1, a9, hw, i1] at hY
    subst hY
    exact ⟨⟨2, (r9 : Int) - 3, []⟩, s9, rfl, scalar_int _ (by omega) (by omega), c9.up (by omega)⟩
  · simp [a0, a1, a5, t1] at hY
    subst hY
    exact ⟨⟨3, 0, x⟩, s5, rfl, scalar_text x b5, c5.up (by omega)⟩
  · rcases (by omega : r3 = 0 ∨ r3 = 1 ∨ r3 = 2) with rfl | rfl | rfl
    · simp [a0, a1, a3, i2] at hY
      subst hY
      exact ⟨⟨2, 1000000000000, []⟩, s3, rfl, scalar_int _ (by omega) (by omega), c3.up (by omega)⟩
    · simp [a0, a1, a3, i3] at hY
      subst hY
      exact ⟨⟨2, -1000000000000, []⟩, s3, rfl, scalar_int _ (by omega) (by omega), c3.up (by omega)⟩
    · simp [a0, a1, a3, i4] at hY
      subst hY
      exact ⟨⟨2, 300, []⟩, s3, rfl, scalar_int _ (by omega) (by omega), c3.up (by omega)⟩
end Go.Vd
/- What is drawn from a text of bytes: lists. -/
set_option linter.unusedSimpArgs false
set_option linter.unusedVariables false
namespace Go.Vd
open Go.Ev Go.Proofs Go.Pu
set_option maxRecDepth 100000
set_option maxHeartbeats 8000000
abbrev srcB (s : Src) : Ob := .box 54 [.t (.list (s.bs.map byteT)), .t (.int .i64 s.p), .t (.int .i64 s.sd)]
abbrev zeroB : Ob := .box 26 [.t (.int .i64 0), .t (.int .i64 0), .t (.str [])]
/-- Values are drawn at this depth. -/
def Draws (d K : Nat) : Prop := ∀ (s : Src) (m : Nat), m + K < 1000000000 → s.Ok m → ∃ v s', run E (.call 15 [srcX s, xI d]) = some (.res [valX v] [some (srcX s')]) ∧ okP 5 v = true ∧ s'.Ok (m + K)
theorem drawList_loop (d K : Nat) (hd : d ≤ 10) (ih : Draws d K) (n0 : Nat) (hn0 : n0 ≤ 3) (src : Src) (m : Nat) (hm : m + 3 * K < 1000000000) (hs : src.Ok m) : ∀ s o q, (s 0 = .ptr 0 0 ∧ s 1 = .t (.int .i64 (d + 1 : Nat)) ∧ s 4 = .ptr 1 0 ∧ s 6 = .row 2 ∧ s 7 = .t (.int .i64 n0) ∧ o 0 = srcB src ∧ o 1 = zeroB ∧ o 2 = .row 26 [] true ∧ 2 < q) →
    ∃ e s' o' q', run E (.code (.loop (loopAt Tryd.f15 0)) ⟨s, o, q, 72⟩) = some (.st e ⟨s', o', q', 72⟩) ∧ ∃ a : Nat × List Val × Src, ((∀ x ∈ a.2.1, okP 5 x = true) ∧ a.2.1.length ≤ 3 ∧ a.2.2.Ok (m + 3 * K)) ∧ (e = .exit 1 ∧ s' 0 = .ptr 0 0 ∧ s' 4 = .ptr 1 0 ∧ s' 6 = .row a.1 ∧ o' 0 = srcB a.2.2 ∧ o' 1 = zeroB ∧ o' a.1 = .row 26 (a.2.1.map valT) true ∧ 1 < a.1 ∧ a.1 < q' ∧ 0 ≠ q' ∧ 1 ≠ q' ∧ q' ≠ 0 ∧ q' ≠ 1) := by
  intro s o q hI
  refine loop_wf (c := loopAt Tryd.f15 0) (N := 72)
    (fun k s o q => ∃ (r : Nat) (acc : List Val) (sr : Src), s 0 = .ptr 0 0 ∧ s 1 = .t (.int .i64 (d + 1 : Nat)) ∧ s 4 = .ptr 1 0 ∧ s 6 = .row r ∧ s 7 = .t (.int .i64 k) ∧ o 0 = srcB sr ∧ o 1 = zeroB ∧ o r = .row 26 (acc.map valT) true ∧ 1 < r ∧ r < q ∧ k ≤ 3 ∧ (∀ x ∈ acc, okP 5 x = true) ∧ acc.length + k ≤ 3 ∧ sr.Ok (m + (3 - k) * K))
    (fun e s' o' q' => ∃ a : Nat × List Val × Src, ((∀ x ∈ a.2.1, okP 5 x = true) ∧ a.2.1.length ≤ 3 ∧ a.2.2.Ok (m + 3 * K)) ∧ (e = .exit 1 ∧ s' 0 = .ptr 0 0 ∧ s' 4 = .ptr 1 0 ∧ s' 6 = .row a.1 ∧ o' 0 = srcB a.2.2 ∧ o' 1 = zeroB ∧ o' a.1 = .row 26 (a.2.1.map valT) true ∧ 1 < a.1 ∧ a.1 < q' ∧ 0 ≠ q' ∧ 1 ≠ q' ∧ q' ≠ 0 ∧ q' ≠ 1)) ?_
    n0 s o q (by
      obtain ⟨h0, h1, h4, h6, h7, ho0, ho1, ho2, hq⟩ := hI
      exact ⟨2, [], src, h0, h1, h4, h6, h7, ho0, ho1, ho2, by omega, hq, hn0, by simp, by simpa using hn0, hs.up (Nat.le_add_right _ _)⟩)
  rintro k s o q ⟨r, acc, sr, h0, h1, h4, h6, h7, ho0, ho1, hor, hr1, hrq, hk, hacc, hlen, hok⟩
  cases k with
  | zero =>
    simp at h7
    simp [loopAt, loopsOf, Tryd.f15, h7]
    exact ⟨r, acc, sr, ⟨hacc, by omega, hok.up (by simp)⟩, h0, h4, h6, ho0, ho1, hor, hr1, hrq, by omega, by omega, by omega, by omega⟩
  | succ k =>
    have hle : (3 - (k + 1)) * K + K ≤ 3 * K := by
      rw [← Nat.succ_mul]
      exact Nat.mul_le_mul (by omega) (Nat.le_refl _)
    obtain ⟨v, s', hv, hvo, hso⟩ := ih sr (m + (3 - (k + 1)) * K) (by omega) hok
    have e1 : 3 - k = (3 - (k + 1)) + 1 := by omega
    have hso' : s'.Ok (m + (3 - k) * K) := by
      rw [e1, Nat.succ_mul, ← Nat.add_assoc]; exact hso
    have hpos : (0 : Int) < (k : Int) + 1 := by omega
    have hw1 := wrap_nat (n := d) (by omega)
    have hw2 := wrap_nat (n := k) (by omega)
    have hq0 : q ≠ 0 := by omega
    have h0q : 0 ≠ q := by omega
    have h1q : 1 ≠ q := by omega
    have hrn : r ≠ q := by omega
    have hrn1 : r ≠ q + 1 := by omega
    have hr0 : r ≠ 0 := by omega
    have h0r : 0 ≠ r := by omega
    have h1r : 1 ≠ r := by omega
    have hr1' : r ≠ 1 := by omega
    have hqr : q ≠ r := by omega
    have hq1 : q ≠ 1 := by omega
    have hcat : acc.length + 1 ≤ 140737488355328 := by omega
    have hcat2 : (acc.length + 1) * 32 ≤ 140737488355328 := by omega
    simp at h1 h7
    simp [loopAt, loopsOf, Tryd.f15, h0, h1, h4, h6, h7, ho0, ho1, hor, hpos, hw1, hw2, hv, hq0, h0q, h1q, hrn, hrn1, hr0, h0r, h1r, hr1', hqr, hq1, hcat, hcat2]
    exact ⟨k, by omega, rfl, acc ++ [v], s', ⟨rfl, rfl, rfl⟩, by simp, by omega, by omega, fun x hx => by
      rcases List.mem_append.1 hx with hx | hx
      · exact hacc x hx
      · simp at hx; subst hx; exact hvo, by simp; omega, hso'⟩
/-- Documents are drawn at this depth. -/
def Docs (d K : Nat) : Prop := ∀ (s : Src) (m : Nat), m + K < 1000000000 → s.Ok m → ∃ v s', run E (.call 32 [srcX s, xI d]) = some (.res [valX v] [some (srcX s')]) ∧ okP 5 v = true ∧ v.k = 5 ∧ s'.Ok (m + K)
theorem drawValue (d K L : Nat) (hd : d ≤ 10) (ih : Draws d K) (id : Docs d L) : Draws (d + 1) (8 + 3 * K + L) := by
  intro s m hm h
  obtain ⟨r, s0, a0, b0, c0⟩ := srcNext s m (by omega) h 8 (by omega) (by omega)
  have hd1 : ¬ ((d : Int) + 1 = 0) := by omega
  simp at a0
  obtain ⟨Y, hY⟩ : ∃ Y, run E (.call 15 [srcX s, xI (d + 1 : Nat)]) = Y := ⟨_, rfl⟩
  rw [hY]
  rw [run_call E 15 _ rfl Tryd.func15 rfl rfl rfl (by simp)] at hY
  rcases (by omega : r = 0 ∨ r = 1 ∨ r = 2 ∨ r = 3 ∨ r = 4 ∨ r = 5 ∨ r = 6 ∨ r = 7) with rfl | rfl | rfl | rfl | rfl | rfl | rfl | rfl
  · simp [hd1, a0] at hY
    subst hY
    exact ⟨⟨0, 0, []⟩, s0, rfl, scalar_null.1, c0.up (by omega)⟩
  · obtain ⟨r2, s2, a2, b2, c2⟩ := srcNext s0 (m + 1) (by omega) c0 2 (by omega) (by omega)
    simp at a2
    simp [hd1, a0, a2] at hY
    subst hY
    exact ⟨⟨1, r2, []⟩, s2, rfl, (scalar_bool r2 b2).1, c2.up (by omega)⟩
  · obtain ⟨r9, s9, a9, b9, c9⟩ := srcNext s0 (m + 1) (by omega) c0 9 (by omega) (by omega)
    have hw : IntKind.i64.wrap ((r9 : Int) - 3) = (r9 : Int) - 3 := wrap_of (by omega) (by omega)
    have i1 := l01Int ((r9 : Int) - 3)
    simp at a9
    simp [hd1, a0, a9, hw, i1] at hY
    subst hY
    exact ⟨⟨2, (r9 : Int) - 3, []⟩, s9, rfl, (scalar_int _ (by omega) (by omega)).1, c9.up (by omega)⟩
  · obtain ⟨r9, s9, a9, b9, c9⟩ := srcNext s0 (m + 1) (by omega) c0 9 (by omega) (by omega)
    have hw : IntKind.i64.wrap ((r9 : Int) - 3) = (r9 : Int) - 3 := wrap_of (by omega) (by omega)
    have i1 := l01Int ((r9 : Int) - 3)
    simp at a9
    simp [hd1, a0, a9, hw, i1] at hY
    subst hY
    exact ⟨⟨2, (r9 : Int) - 3, []⟩, s9, rfl, (scalar_int _ (by omega) (by omega)).1, c9.up (by omega)⟩
  · obtain ⟨x, s5, a5, b5, c5⟩ := srcFive s0 (m + 1) (by omega) c0
    have t1 := l01Text x
    skip
    simp [hd1, a0, a5, t1] at hY
    subst hY
    exact ⟨⟨3, 0, x⟩, s5, rfl, (scalar_text x b5).1, c5.up (by omega)⟩
  · obtain ⟨r3, s3, a3, b3, c3⟩ := srcNext s0 (m + 1) (by omega) c0 3 (by omega) (by omega)
    simp at a3
    have i2 := l01Int 1000000000000
    have i3 := l01Int (-1000000000000)
    have i4 := l01Int 300
    rcases (by omega : r3 = 0 ∨ r3 = 1 ∨ r3 = 2) with rfl | rfl | rfl
    · simp [hd1, a0, a3, i2] at hY
      subst hY
      exact ⟨⟨2, 1000000000000, []⟩, s3, rfl, (scalar_int _ (by omega) (by omega)).1, c3.up (by omega)⟩
    · simp [hd1, a0, a3, i3] at hY
      subst hY
      exact ⟨⟨2, -1000000000000, []⟩, s3, rfl, (scalar_int _ (by omega) (by omega)).1, c3.up (by omega)⟩
    · simp [hd1, a0, a3, i4] at hY
      subst hY
      exact ⟨⟨2, 300, []⟩, s3, rfl, (scalar_int _ (by omega) (by omega)).1, c3.up (by omega)⟩
  · obtain ⟨n0, s4, a4, b4, c4⟩ := srcNext s0 (m + 1) (by omega) c0 4 (by omega) (by omega)
    simp at a4
    obtain ⟨X, A, B, C, M, hg, hx⟩ := skG _ ((0, [], s4) : Nat × List Val × Src) ⟨by simp, by simp, c4.up (by omega)⟩ (drawList_loop d K hd ih n0 (by omega) s4 (m + 1 + 1) (by omega) c4)
    simp only [loopAt, loopsOf, Tryd.f15] at hx
    simp at hx
    have h161 := fun s o q => l01List (M s o q).2.1 (fun x hx => okP_little ((hg s o q).1 x hx)) (by have := (hg s o q).2.1; omega)
    have hlen : ∀ s o q, ((M s o q).2.1.flatMap encP).length < 4294967296 := fun s o q => by
      have h1 := (hg s o q).1
      have h2 := (hg s o q).2.1
      have h3 := flat_le (f := encP) (g := fun _ => 310) (l := (M s o q).2.1) (fun x hx => encP_len (okP_little (h1 x hx)))
      have h4 : ∀ l : List Val, sumL (fun _ => 310) l = 310 * l.length := by
        intro l
        induction l with
        | nil => rfl
        | cons a r ih => simp [sumL, ih]; omega
      rw [h4] at h3
      omega
    have h46 := fun s o q => specValueOK ⟨4, 0, (M s o q).2.1.flatMap encP⟩ (hlen s o q)
    have i1 := l01Int 1
    skip
    simp [hd1, a0, a4, hx, h161, h46, i1] at hY
    split at hY
    · subst hY
      refine ⟨⟨2, 1, []⟩, _, rfl, (scalar_int 1 (by omega) (by omega)).1, ?_⟩
      exact ((hg _ _ _).2.2).up (by omega)
    · rename_i hb
      subst hY
      refine ⟨⟨4, 0, _⟩, _, rfl, ?_, ?_⟩
      · simp only [Bool.not_eq_false] at hb
        exact hb
      exact ((hg _ _ _).2.2).up (by omega)
  · obtain ⟨v, s', hv, hvo, hk, hso⟩ := id s0 (m + 1) (by omega) c0
    have hw1 := wrap_nat (n := d) (by omega)
    simp [hd1, a0, hv, hw1] at hY
    subst hY
    exact ⟨v, s', rfl, hvo, hso.up (by omega)⟩
end Go.Vd
/- What is drawn from a text of bytes: documents. -/
set_option linter.unusedSimpArgs false
set_option linter.unusedVariables false
namespace Go.Vd
open Go.Ev Go.Proofs Go.Pu
set_option maxRecDepth 100000
set_option maxHeartbeats 8000000
def four : List Bytes := [[97], [98], [99], [116, 97, 103, 115]]
theorem four_len : ∀ x ∈ four, x.length ≤ 100 := by decide
theorem drawDoc_loop (d K : Nat) (hd : d ≤ 10) (ih : Draws d K) (src : Src) (m : Nat) (hm : m + 4 * (K + 1) < 1000000000) (hs : src.Ok m) : ∀ s o q, (s 0 = .ptr 0 0 ∧ s 1 = .t (.int .i64 d) ∧ s 4 = .ptr 1 0 ∧ s 5 = .row 2 ∧ s 6 = .t (.int .i64 0) ∧ o 0 = srcB src ∧ o 1 = zeroB ∧ o 2 = .row 71 [] true ∧ 2 < q) →
    ∃ e s' o' q', run E (.code (.loop (loopAt Tryd.f32 0)) ⟨s, o, q, 34⟩) = some (.st e ⟨s', o', q', 34⟩) ∧ ∃ a : Nat × List Fld × Src, ((∀ x ∈ a.2.1, x.v.little ∧ x.name.length ≤ 100) ∧ a.2.1.length ≤ 4 ∧ a.2.2.Ok (m + 4 * (K + 1))) ∧ (e = .exit 0 ∧ s' 0 = .ptr 0 0 ∧ s' 4 = .ptr 1 0 ∧ s' 5 = .row a.1 ∧ o' 0 = srcB a.2.2 ∧ o' 1 = zeroB ∧ o' a.1 = .row 71 (a.2.1.map fldT) true ∧ 1 < a.1 ∧ a.1 < q' ∧ 0 ≠ q' ∧ 1 ≠ q' ∧ q' ≠ 0 ∧ q' ≠ 1) := by
  intro s o q hI
  have n6 := n32_6
  have s6 := s32_6
  simp [regionOf, findR, pick, Tryd.f32] at n6 s6
  have dd6 := fun st => run_region_drawS E st 6 _ n6 s6
  clear n6 s6
  refine loop_for (c := loopAt Tryd.f32 0) (N := 34)
    (fun i s o q => ∃ (r : Nat) (acc : List Fld) (sr : Src), s 0 = .ptr 0 0 ∧ s 1 = .t (.int .i64 d) ∧ s 4 = .ptr 1 0 ∧ s 5 = .row r ∧ s 6 = .t (.int .i64 i) ∧ o 0 = srcB sr ∧ o 1 = zeroB ∧ o r = .row 71 (acc.map fldT) true ∧ 1 < r ∧ r < q ∧ (∀ x ∈ acc, x.v.little ∧ x.name.length ≤ 100) ∧ acc.length ≤ i ∧ sr.Ok (m + i * (K + 1)))
    (fun e s' o' q' => ∃ a : Nat × List Fld × Src, ((∀ x ∈ a.2.1, x.v.little ∧ x.name.length ≤ 100) ∧ a.2.1.length ≤ 4 ∧ a.2.2.Ok (m + 4 * (K + 1))) ∧ (e = .exit 0 ∧ s' 0 = .ptr 0 0 ∧ s' 4 = .ptr 1 0 ∧ s' 5 = .row a.1 ∧ o' 0 = srcB a.2.2 ∧ o' 1 = zeroB ∧ o' a.1 = .row 71 (a.2.1.map fldT) true ∧ 1 < a.1 ∧ a.1 < q' ∧ 0 ≠ q' ∧ 1 ≠ q' ∧ q' ≠ 0 ∧ q' ≠ 1)) 4 ?_ ?_
    4 0 s o q (by omega) (by
      obtain ⟨h0, h1, h4, h5, h6, ho0, ho1, ho2, hq⟩ := hI
      exact ⟨2, [], src, h0, h1, h4, h5, h6, ho0, ho1, ho2, by omega, hq, by simp, by simp, hs.up (Nat.le_add_right _ _)⟩)
  · rintro i s o q hi ⟨r, acc, sr, h0, h1, h4, h5, h6, ho0, ho1, hor, hr1, hrq, hacc, hlen, hok⟩
    have hi' : (i : Int) < 4 := by omega
    have hwi := wrap_succ (n := i) (by omega)
    have hmul : i * (K + 1) + (K + 1) ≤ 4 * (K + 1) := by
      rw [← Nat.succ_mul]
      exact Nat.mul_le_mul (by omega) (Nat.le_refl _)
    have hnx : (i + 1) * (K + 1) = i * (K + 1) + (K + 1) := Nat.succ_mul _ _
    obtain ⟨b, s1, hb, ok1⟩ := srcChance sr (m + i * (K + 1)) (by omega) hok
    obtain ⟨v, s2, hv, hvo, ok2⟩ := ih s1 (m + i * (K + 1) + 1) (by omega) ok1
    have ok1' : s1.Ok (m + (i + 1) * (K + 1)) := ok1.up (by omega)
    have ok2' : s2.Ok (m + (i + 1) * (K + 1)) := ok2.up (by omega)
    have hq0 : q ≠ 0 := by omega
    have h0q : 0 ≠ q := by omega
    have h1q : 1 ≠ q := by omega
    have hrn : r ≠ q := by omega
    have hrn1 : r ≠ q + 1 := by omega
    have hr0 : r ≠ 0 := by omega
    have h0r : 0 ≠ r := by omega
    have h1r : 1 ≠ r := by omega
    have hr1' : r ≠ 1 := by omega
    have hqr : q ≠ r := by omega
    have hq1 : q ≠ 1 := by omega
    have hcat : acc.length + 1 ≤ 140737488355328 := by omega
    have hcat2 : (acc.length + 1) * 48 ≤ 140737488355328 := by omega
    cases b with
    | false =>
      simp [loopAt, loopsOf, Tryd.f32, h0, h1, h4, h5, h6, ho0, ho1, hor, hi, hi', hwi, hb, hq0, h0q, h1q, hrn, hrn1, hr0, h0r, h1r, hr1', hqr, hq1]
      exact ⟨acc, s1, ⟨rfl, rfl, rfl⟩, rfl, hr1, hrq, hacc, by omega, ok1'⟩
    | true =>
      have hr4 : ([0, 1, 2, 3] : List Nat) = List.range 4 := rfl
      have hgo : ∀ nm : Bytes, nm.length ≤ 100 → ∃ (x : List Fld), (acc.map fldT) ++ [T.agg [.str nm, .int .i64 v.k, .int .i64 v.n, .str v.t]] = x.map fldT ∧ (∀ y ∈ x, y.v.little ∧ y.name.length ≤ 100) ∧ x.length ≤ i + 1 := by
        intro nm hnm
        refine ⟨acc ++ [⟨nm, v⟩], by simp, fun y hy => ?_, by simp; omega⟩
        rcases List.mem_append.1 hy with hy | hy
        · exact hacc y hy
        · simp at hy; subst hy; exact ⟨okP_little hvo, hnm⟩
      rcases (by omega : i = 0 ∨ i = 1 ∨ i = 2 ∨ i = 3) with rfl | rfl | rfl | rfl
      all_goals
        simp at h6 hwi
        simp [loopAt, loopsOf, Tryd.f32, dd6, h0, h1, h4, h5, h6, ho0, ho1, hor, hwi, hb, hv, hr4, hq0, h0q, h1q, hrn, hrn1, hr0, h0r, h1r, hr1', hqr, hq1, hcat, hcat2]
      · obtain ⟨x, x1, x2, x3⟩ := hgo [97] (by simp)
        exact ⟨x, s2, ⟨rfl, rfl, rfl⟩, x1, by omega, x2, by omega, by simpa using ok2'⟩
      · obtain ⟨x, x1, x2, x3⟩ := hgo [98] (by simp)
        exact ⟨x, s2, ⟨rfl, rfl, rfl⟩, x1, by omega, x2, by omega, by simpa using ok2'⟩
      · obtain ⟨x, x1, x2, x3⟩ := hgo [99] (by simp)
        exact ⟨x, s2, ⟨rfl, rfl, rfl⟩, x1, by omega, x2, by omega, by simpa using ok2'⟩
      · obtain ⟨x, x1, x2, x3⟩ := hgo [116, 97, 103, 115] (by simp)
        exact ⟨x, s2, ⟨rfl, rfl, rfl⟩, x1, by omega, x2, by omega, by simpa using ok2'⟩
  · rintro s o q ⟨r, acc, sr, h0, h1, h4, h5, h6, ho0, ho1, hor, hr1, hrq, hacc, hlen, hok⟩
    simp [loopAt, loopsOf, Tryd.f32, h6]
    exact ⟨r, acc, sr, ⟨hacc, hlen, hok⟩, h0, h4, h5, ho0, ho1, hor, hr1, hrq, by omega, by omega, by omega, by omega⟩
theorem drawDoc (d K : Nat) (hd : d ≤ 10) (ih : Draws d K) : Docs d (4 * (K + 1)) := by
  intro s m hm h
  obtain ⟨X, A, B, C, M, hg, hx⟩ := skG _ ((0, [], s) : Nat × List Fld × Src) ⟨by simp, by simp, h.up (by omega)⟩ (drawDoc_loop d K hd ih s m hm h)
  simp only [loopAt, loopsOf, Tryd.f32] at hx
  simp at hx
  have h158 := fun s o q => l01Doc (M s o q).2.1 (hg s o q).1 (by have := (hg s o q).2.1; omega)
  have hlen : ∀ s o q, ((M s o q).2.1.flatMap encF).length < 4294967296 := fun s o q => by
    have h1 := (hg s o q).1
    have h2 := (hg s o q).2.1
    have h3 := flat_le (f := encF) (g := fun _ => 420) (l := (M s o q).2.1) (fun x hx => by
      have a := encP_len (h1 x hx).1
      have b := (h1 x hx).2
      unfold encF
      simp [numP_len]; omega)
    have h4 : ∀ l : List Fld, sumL (fun _ => 420) l = 420 * l.length := by
      intro l
      induction l with
      | nil => rfl
      | cons a r ih => simp [sumL, ih]; omega
    rw [h4] at h3
    omega
  have h46 := fun s o q => specValueOK ⟨5, 0, (M s o q).2.1.flatMap encF⟩ (hlen s o q)
  have h0 := l01Doc [] (by simp) (by simp)
  simp at h0
  obtain ⟨Y, hY⟩ : ∃ Y, run E (.call 32 [srcX s, xI d]) = Y := ⟨_, rfl⟩
  rw [hY]
  rw [run_call E 32 _ rfl Tryd.func32 rfl rfl rfl (by simp)] at hY
  simp [hx, h158, h46, h0] at hY
  split at hY
  · subst hY
    refine ⟨⟨5, 0, []⟩, _, rfl, by decide, rfl, ?_⟩
    exact (hg _ _ _).2.2
  · rename_i hb
    subst hY
    refine ⟨⟨5, 0, _⟩, _, rfl, ?_, rfl, ?_⟩
    · simp only [Bool.not_eq_false] at hb
      exact hb
    exact (hg _ _ _).2.2
end Go.Vd
/- The order of values: turned round, and in a row. -/
set_option linter.unusedSimpArgs false
set_option linter.unusedVariables false
namespace Go.Vd
open Go.Ev Go.Proofs Go.Pu
set_option maxRecDepth 100000
set_option maxHeartbeats 4000000
/-- An order on what is in S: it can be turned round, goes in a row, and tells all apart. -/
structure Ord3 {α : Type} (S : α → Prop) (f : α → α → Int) : Prop where
  anti : ∀ x y, S x → S y → f x y = - f y x
  row : ∀ x y z, S x → S y → S z → f x y ≤ 0 → f y z ≤ 0 → f x z ≤ 0
  zero : ∀ x y, S x → S y → f x y = 0 → x = y
theorem Ord3.lt {α : Type} {S : α → Prop} {f : α → α → Int} (h : Ord3 S f) {x y z : α} (hx : S x) (hy : S y) (hz : S z) (h1 : f x y ≤ 0) (h2 : f y z < 0) : f x z < 0 := by
  have h3 := h.row x y z hx hy hz h1 (by omega)
  by_cases he : f x z = 0
  · have := h.zero x z hx hz he
    subst this
    have := h.anti x y hx hy
    omega
  · omega
theorem Ord3.lt' {α : Type} {S : α → Prop} {f : α → α → Int} (h : Ord3 S f) {x y z : α} (hx : S x) (hy : S y) (hz : S z) (h1 : f x y < 0) (h2 : f y z ≤ 0) : f x z < 0 := by
  have h3 := h.row x y z hx hy hz (by omega) h2
  by_cases he : f x z = 0
  · have := h.zero x z hx hz he
    subst this
    have := h.anti x y hx hy
    omega
  · omega
theorem ordL_anti {α : Type} {S : α → Prop} {f : α → α → Int} (h : Ord3 S f) : ∀ (xs ys : List α), (∀ x ∈ xs, S x) → (∀ y ∈ ys, S y) → ordL f xs ys = - ordL f ys xs
  | [], [], _, _ => by simp [ordL]
  | [], _ :: _, _, _ => by simp [ordL]
  | _ :: _, [], _, _ => by simp [ordL]
  | x :: xs, y :: ys, hx, hy => by
    have h1 := h.anti x y (hx x (by simp)) (hy y (by simp))
    have ih := ordL_anti h xs ys (fun a ha => hx a (by simp [ha])) (fun a ha => hy a (by simp [ha]))
    unfold ordL
    by_cases he : f x y = 0
    · have : f y x = 0 := by omega
      rw [if_pos he, if_pos this]; exact ih
    · have : ¬ f y x = 0 := by omega
      rw [if_neg he, if_neg this]; exact h1
theorem ordL_row {α : Type} {S : α → Prop} {f : α → α → Int} (h : Ord3 S f) : ∀ (xs ys zs : List α), (∀ x ∈ xs, S x) → (∀ y ∈ ys, S y) → (∀ z ∈ zs, S z) → ordL f xs ys ≤ 0 → ordL f ys zs ≤ 0 → ordL f xs zs ≤ 0
  | [], ys, [], _, _, _, _, _ => by simp [ordL]
  | [], ys, _ :: _, _, _, _, _, _ => by simp [ordL]
  | _ :: _, [], _, _, _, _, h1, _ => by simp [ordL] at h1
  | _ :: _, _ :: _, [], _, _, _, _, h2 => by simp [ordL] at h2
  | x :: xs, y :: ys, z :: zs, hx, hy, hz, h1, h2 => by
    have sx := hx x (by simp)
    have sy := hy y (by simp)
    have sz := hz z (by simp)
    have ih := ordL_row h xs ys zs (fun a ha => hx a (by simp [ha])) (fun a ha => hy a (by simp [ha])) (fun a ha => hz a (by simp [ha]))
    unfold ordL at h1 h2 ⊢
    by_cases e1 : f x y = 0
    · have := h.zero x y sx sy e1
      subst this
      rw [if_pos e1] at h1
      by_cases e2 : f x z = 0
      · rw [if_pos e2] at h2 ⊢; exact ih h1 h2
      · rw [if_neg e2] at h2 ⊢; exact h2
    · rw [if_neg e1] at h1
      by_cases e2 : f y z = 0
      · have := h.zero y z sy sz e2
        subst this
        rw [if_neg e1]; exact h1
      · rw [if_neg e2] at h2
        have := h.lt sx sy sz h1 (by omega)
        rw [if_neg (by omega)]; omega
theorem cmpI_ord : Ord3 (fun _ => True) cmpI := by
  refine ⟨fun x y _ _ => ?_, fun x y z _ _ _ => ?_, fun x y _ _ h => by rwa [cmpI_eq] at h⟩
  · unfold cmpI
    split <;> split <;> (try split) <;> omega
  · unfold cmpI
    intro h1 h2
    split at h1 <;> split at h2 <;> split <;> (try split) <;> (try split at h1) <;> (try split at h2) <;> omega
theorem cmpB_ordL : ∀ (a b : Bytes), Lib.compareBytes a b = ordL (fun x y : UInt8 => cmpI x.toNat y.toNat) a b
  | [], [] => by simp [Lib.compareBytes, ordL]
  | [], _ :: _ => by simp [Lib.compareBytes, ordL]
  | _ :: _, [] => by simp [Lib.compareBytes, ordL]
  | x :: a, y :: b => by
    have ih := cmpB_ordL a b
    unfold Lib.compareBytes ordL
    rw [ih]
    generalize ordL (fun x y : UInt8 => cmpI x.toNat y.toNat) a b = r
    unfold cmpI
    simp only [UInt8.lt_iff_toNat_lt]
    by_cases h1 : x.toNat < y.toNat
    · have : (x.toNat : Int) < y.toNat := by omega
      simp [h1, this]
    · by_cases h2 : y.toNat < x.toNat
      · have e1 : ¬ (x.toNat : Int) < y.toNat := by omega
        have e2 : (y.toNat : Int) < x.toNat := by omega
        simp [h1, h2, e1, e2]
      · have e1 : ¬ (x.toNat : Int) < y.toNat := by omega
        have e2 : ¬ (y.toNat : Int) < x.toNat := by omega
        simp [h1, h2, e1, e2]
theorem byte_ord : Ord3 (fun _ => True) (fun x y : UInt8 => cmpI x.toNat y.toNat) := by
  refine ⟨fun x y _ _ => cmpI_ord.anti _ _ trivial trivial, fun x y z _ _ _ => cmpI_ord.row _ _ _ trivial trivial trivial, fun x y _ _ h => ?_⟩
  rw [cmpI_eq] at h
  exact UInt8.toNat_inj.1 (by omega)
theorem cmpB_ord : Ord3 (fun _ => True) Lib.compareBytes := by
  refine ⟨fun x y _ _ => ?_, fun x y z _ _ _ => ?_, fun x y _ _ h => by rwa [compareBytes_eq] at h⟩
  · rw [cmpB_ordL, cmpB_ordL]; exact ordL_anti byte_ord x y (fun _ _ => trivial) (fun _ _ => trivial)
  · rw [cmpB_ordL, cmpB_ordL, cmpB_ordL]; exact ordL_row byte_ord x y z (fun _ _ => trivial) (fun _ _ => trivial) (fun _ _ => trivial)
/-- One order ahead of another. -/
theorem orI_ord {α β γ : Type} {S : α → Prop} {T : β → Prop} {U : γ → Prop} {f : β → β → Int} {g : γ → γ → Int} (p : α → β) (q : α → γ) (hp : ∀ x, S x → T (p x)) (hq : ∀ x, S x → U (q x)) (hf : Ord3 T f) (hg : Ord3 U g) (he : ∀ x y, S x → S y → p x = p y → q x = q y → x = y) : Ord3 S (fun x y => orI (f (p x) (p y)) (g (q x) (q y))) := by
  refine ⟨fun x y hx hy => ?_, fun x y z hx hy hz h1 h2 => ?_, fun x y hx hy h => ?_⟩
  · have a := hf.anti _ _ (hp x hx) (hp y hy)
    have b := hg.anti _ _ (hq x hx) (hq y hy)
    unfold orI
    split <;> split <;> omega
  · unfold orI at h1 h2 ⊢
    by_cases e1 : f (p x) (p y) = 0
    · have ep := hf.zero _ _ (hp x hx) (hp y hy) e1
      rw [if_pos e1] at h1
      rw [ep]
      by_cases e2 : f (p y) (p z) = 0
      · rw [if_pos e2] at h2 ⊢
        exact hg.row _ _ _ (hq x hx) (hq y hy) (hq z hz) h1 h2
      · rw [if_neg e2] at h2 ⊢; exact h2
    · rw [if_neg e1] at h1
      by_cases e2 : f (p y) (p z) = 0
      · have ep := hf.zero _ _ (hp y hy) (hp z hz) e2
        rw [← ep, if_neg e1]; exact h1
      · rw [if_neg e2] at h2
        have := hf.lt (hp x hx) (hp y hy) (hp z hz) h1 (by omega)
        rw [if_neg (by omega)]; omega
  · obtain ⟨z1, z2⟩ := orI_zero h
    exact he x y hx hy (hf.zero _ _ (hp x hx) (hp y hy) z1) (hg.zero _ _ (hq x hx) (hq y hy) z2)
end Go.Vd
/- The order of values is an order. -/
set_option linter.unusedSimpArgs false
set_option linter.unusedVariables false
namespace Go.Vd
open Go.Ev Go.Proofs Go.Pu
set_option maxRecDepth 100000
set_option maxHeartbeats 4000000
theorem orDep {α β : Type} {S : α → Prop} {f : β → β → Int} {r : α → α → Int} (p : α → β) (hf : Ord3 (fun _ => True) f) (ha : ∀ x y, S x → S y → p x = p y → r x y = - r y x) (hr : ∀ x y z, S x → S y → S z → p x = p y → p y = p z → r x y ≤ 0 → r y z ≤ 0 → r x z ≤ 0) (hz : ∀ x y, S x → S y → p x = p y → r x y = 0 → x = y) : Ord3 S (fun x y => if f (p x) (p y) = 0 then r x y else f (p x) (p y)) := by
  refine ⟨fun x y hx hy => ?_, fun x y z hx hy hz h1 h2 => ?_, fun x y hx hy h => ?_⟩
  · have a := hf.anti (p x) (p y) trivial trivial
    by_cases e : f (p x) (p y) = 0
    · have e' : f (p y) (p x) = 0 := by omega
      simp only [if_pos e, if_pos e']
      exact ha x y hx hy (hf.zero _ _ trivial trivial e)
    · have e' : ¬ f (p y) (p x) = 0 := by omega
      simp only [if_neg e, if_neg e']
      exact a
  · by_cases e1 : f (p x) (p y) = 0
    · have ep := hf.zero _ _ trivial trivial e1
      simp only [if_pos e1] at h1
      rw [ep]
      by_cases e2 : f (p y) (p z) = 0
      · have eq := hf.zero _ _ trivial trivial e2
        simp only [if_pos e2] at h2 ⊢
        exact hr x y z hx hy hz ep eq h1 h2
      · simp only [if_neg e2] at h2 ⊢; exact h2
    · simp only [if_neg e1] at h1
      by_cases e2 : f (p y) (p z) = 0
      · have ep := hf.zero _ _ trivial trivial e2
        rw [← ep]; simp only [if_neg e1]; exact h1
      · simp only [if_neg e2] at h2
        have := hf.lt (x := p x) (y := p y) (z := p z) trivial trivial trivial h1 (by omega)
        have e3 : ¬ f (p x) (p z) = 0 := by omega
        simp only [if_neg e3]; omega
  · by_cases e : f (p x) (p y) = 0
    · simp only [if_pos e] at h
      exact hz x y hx hy (hf.zero _ _ trivial trivial e) h
    · simp only [if_neg e] at h
      exact absurd h e
theorem kn_ord : Ord3 (fun _ => True) (fun x y : Int × Int => orI (cmpI x.1 y.1) (cmpI x.2 y.2)) :=
  orI_ord (S := fun _ => True) (T := fun _ => True) (U := fun _ => True) Prod.fst Prod.snd (fun _ _ => trivial) (fun _ _ => trivial) cmpI_ord cmpI_ord (fun x y _ _ h1 h2 => by cases x; cases y; simp_all)
theorem ordL_tri {α : Type} {S : α → Prop} {f : α → α → Int} (h : Ord3 S f) : Ord3 (fun xs : List α => ∀ x ∈ xs, S x) (ordL f) :=
  ⟨fun x y hx hy => ordL_anti h x y hx hy, fun x y z hx hy hz => ordL_row h x y z hx hy hz, fun x y hx hy => ordL_zero (fun a ha b hb hz => h.zero a b (hx a ha) (hy b hb) hz)⟩
/-- What is told apart behind kind and number. -/
def restD (d : Nat) (a b : Val) : Int :=
  if a.k = 4 then (match d with
    | 0 => 0
    | d + 1 => ordL (ordD d) (itemsL a.t) (itemsL b.t))
  else if a.k = 5 then (match d with
    | 0 => 0
    | d + 1 => ordL (fun f g => orI (Lib.compareBytes f.name g.name) (ordD d f.v g.v)) (fieldsL a.t) (fieldsL b.t))
  else Lib.compareBytes a.t b.t
theorem ordD_rest (d : Nat) : ordD d = fun a b => if (fun x y : Int × Int => orI (cmpI x.1 y.1) (cmpI x.2 y.2)) (a.k, a.n) (b.k, b.n) = 0 then restD d a b else (fun x y : Int × Int => orI (cmpI x.1 y.1) (cmpI x.2 y.2)) (a.k, a.n) (b.k, b.n) := by
  funext a b
  unfold ordD restD
  rfl
theorem items_ok {d : Nat} {v : Val} (h : okP (d + 1) v = true) (hk : v.k = 4) : ∀ x ∈ itemsL v.t, okP d x = true := by
  obtain ⟨e, xs, hd, _, hi, hx⟩ := okP_list h hk
  obtain rfl : d = e := by omega
  simpa [itemsL, hi] using hx
theorem fields_ok {d : Nat} {v : Val} (h : okP (d + 1) v = true) (hk : v.k = 5) : ∀ x ∈ fieldsL v.t, okP d x.v = true := by
  obtain ⟨e, xs, hd, _, hi, _, hx⟩ := okP_doc h hk
  obtain rfl : d = e := by omega
  simp only [fieldsL, hi, Option.getD_some]
  exact fun x h => (hx x h).2
theorem fld_ord {d : Nat} (ih : Ord3 (fun v => okP d v = true) (ordD d)) : Ord3 (fun f : Fld => okP d f.v = true) (fun f g => orI (Lib.compareBytes f.name g.name) (ordD d f.v g.v)) :=
  orI_ord (T := fun _ => True) (U := fun v => okP d v = true) Fld.name Fld.v (fun _ _ => trivial) (fun _ h => h) cmpB_ord ih (fun x y _ _ h1 h2 => fld_eq h1 h2)
theorem ord_step (d : Nat) (ih : ∀ e, d = e + 1 → Ord3 (fun v => okP e v = true) (ordD e)) : Ord3 (fun v => okP d v = true) (ordD d) := by
  have hz : ∀ x y, okP d x = true → okP d y = true → ordD d x y = 0 → x = y := fun x y hx hy h => ordD_zero d x y hx hy h
  have hr := ordD_rest d
  have h0 : ∀ x y : Val, (x.k, x.n) = (y.k, y.n) → restD d x y = ordD d x y := by
    intro x y h
    simp only [Prod.mk.injEq] at h
    rw [hr]
    simp [h.1, h.2, orI, cmpI]
  rw [hr]
  refine orDep (fun v => (v.k, v.n)) kn_ord (fun x y hx hy h => ?_) (fun x y z hx hy hz' h1 h2 => ?_) (fun x y hx hy h e => hz x y hx hy (by rw [← h0 x y h]; exact e))
  · simp only [Prod.mk.injEq] at h
    unfold restD
    rw [← h.1]
    split
    · rename_i h4
      cases d with
      | zero => simp
      | succ d => exact (ordL_tri (ih d rfl)).anti _ _ (items_ok hx h4) (items_ok hy (by omega))
    · split
      · rename_i h5
        cases d with
        | zero => simp
        | succ d => exact (ordL_tri (fld_ord (ih d rfl))).anti _ _ (fields_ok hx h5) (fields_ok hy (by omega))
      · exact cmpB_ord.anti _ _ trivial trivial
  · simp only [Prod.mk.injEq] at h1 h2
    unfold restD
    rw [← h1.1]
    split
    · rename_i h4
      cases d with
      | zero => simp
      | succ d => exact (ordL_tri (ih d rfl)).row _ _ _ (items_ok hx h4) (items_ok hy (by omega)) (items_ok hz' (by omega))
    · split
      · rename_i h5
        cases d with
        | zero => simp
        | succ d => exact (ordL_tri (fld_ord (ih d rfl))).row _ _ _ (fields_ok hx h5) (fields_ok hy (by omega)) (fields_ok hz' (by omega))
      · exact cmpB_ord.row _ _ _ trivial trivial trivial
theorem ordD_ord : ∀ d : Nat, Ord3 (fun v => okP d v = true) (ordD d)
  | 0 => ord_step 0 (fun e h => by omega)
  | d + 1 => ord_step (d + 1) (fun e h => by
    have : d = e := by omega
    subst this
    exact ordD_ord d)
end Go.Vd
/- FnOrder: values of a code; both sides' OrderValues. -/
set_option linter.unusedSimpArgs false
set_option linter.unusedVariables false
namespace Go.Vd
open Go.Ev Go.Proofs Go.Pu
set_option maxRecDepth 100000
set_option maxHeartbeats 4000000
theorem indexFunc_60_0 (xs : List Val) (g : Nat)  (p : Val → Bool) (hl : xs.length < 9223372036854775807) (hm : E.md g = []) (hf : E.flat g = true) (hp : ∀ x ∈ xs, run E (.call g [.t (valT x)]) = some (.res [xB (p x)] [])) :
    run E (.call 60 [.t (.list (xs.map valT)), .fn g []]) = some (.res [xI (idxP p xs)] []) := by
  rw [run_call E 60 _ rfl Tryd.func60 rfl rfl rfl (by simp)]
  rw [E_md] at hm
  have lp := fun (r : Int) (hr : r = idxP p xs) => sk (fun s o q hI => loop_for (c := loopAt Tryd.f60 0) (N := 19)
    (fun i s o q => s 0 = .t (.list (xs.map valT)) ∧ s 1 = .fn g [] ∧ s 7 = .t (.int .i64 xs.length) ∧ s 8 = .t (.int .i64 i) ∧ r = if idxP p (xs.drop i) < 0 then -1 else idxP p (xs.drop i) + i)
    (fun e s' o' q' => e = (if r < 0 then .exit 0 else .ret) ∧ (0 ≤ r → s' 4 = .t (.int .i64 r))) xs.length
    (by
      rintro i s o q hi ⟨h0, h1, h7, h8, hr⟩
      have hd : xs.drop i = xs[i] :: xs.drop (i + 1) := by rw [List.drop_eq_getElem_cons hi]
      have hi' : (i : Int) < (xs.length : Int) := by omega
      have hw := wrap_succ (n := i) (by omega)
      have hx := hp xs[i] (List.getElem_mem hi)
      rw [hd, idxP] at hr
      cases hpx : p xs[i] with
      | true =>
        simp [hpx] at hr hx
        have hr' : ¬ r < 0 := by omega
        simp [-mdOf, loopAt, loopsOf, Tryd.f60, h0, h1, h7, h8, hi, hi', hx, hw, hm, hf, hr', hr]
      | false =>
        simp [hpx] at hr hx
        have hr2 : r = if idxP p (xs.drop (i + 1)) < 0 then -1 else idxP p (xs.drop (i + 1)) + ((i : Int) + 1) := by
          rw [hr]
          by_cases hq : idxP p (xs.drop (i + 1)) < 0
          · simp [hq]
          · have : ¬ idxP p (xs.drop (i + 1)) + 1 < 0 := by omega
            simp [hq, this]; omega
        clear hr
        simp [-mdOf, loopAt, loopsOf, Tryd.f60, h0, h1, h7, h8, hi, hi', hx, hw, hm, hf]
        exact hr2)
    (by
      rintro s o q ⟨h0, h1, h7, h8, hr⟩
      simp [idxP] at hr
      simp [loopAt, loopsOf, Tryd.f60, h0, h1, h7, h8, hr])
    xs.length 0 s o q (by omega) hI)
  simp only [loopAt, loopsOf, Tryd.f60] at lp
  obtain ⟨X, A, B, C, hx⟩ := lp _ rfl
  have hz : idxP p xs = if idxP p xs < 0 then -1 else idxP p xs := by
    cases xs with
    | nil => simp [idxP]
    | cons x r =>
      unfold idxP
      split
      · simp
      · split
        · simp
        · have : ¬ idxP p r + 1 < 0 := by omega
          simp [this]
  simp [← hz] at hx
  by_cases h : idxP p xs < 0
  · have h1 : idxP p xs = -1 := by rw [hz]; simp [h]
    simp [h] at hx
    simp [hx, h1]
  · have h2 : 0 ≤ idxP p xs := by omega
    simp [h, h2] at hx
    simp [hx]
theorem containsFunc_33_0 (xs : List Val) (g : Nat)  (p : Val → Bool) (hl : xs.length < 9223372036854775807) (hm : E.md g = []) (hf : E.flat g = true) (hp : ∀ x ∈ xs, run E (.call g [.t (valT x)]) = some (.res [xB (p x)] [])) :
    run E (.call 33 [.t (.list (xs.map valT)), .fn g []]) = some (.res [xB (xs.any p)] []) := by
  rw [run_call E 33 _ rfl Tryd.func33 rfl rfl rfl (by simp)]
  have h := indexFunc_60_0 xs g  p hl hm hf hp
  simp [h, idxP_ge]
theorem rightClosure (v : Val) (hv : v.t.length < 4294967296) : run E (.call 34 [xV v]) = some (.res [xB (!valueOK v)] []) := by
  rw [run_call E 34 _ rfl Tryd.func34 rfl rfl rfl (by simp)]
  have h := implValueOK v hv
  simp [h]
theorem areRight (xs : List Val) (hl : xs.length < 4294967296) (h : ∀ x ∈ xs, x.t.length < 4294967296) : run E (.call 16 [.t (.list (xs.map valT))]) = some (.res [xB (xs.all valueOK)] []) := by
  rw [run_call E 16 _ rfl Tryd.func16 rfl rfl rfl (by simp)]
  have hc := containsFunc_33_0 xs 34 (fun v => !valueOK v) (by omega) rfl (by simp) (fun x hx => rightClosure x (h x hx))
  have he : xs.any (fun v => !valueOK v) = !xs.all valueOK := by simp [List.any_eq_not_all_not]
  rw [he] at hc
  cases hb : xs.all valueOK <;> rw [hb] at hc <;> simp [hc]
theorem implOrderValues (a b : Val) (ha : okP 5 a = true) (hb : okP 5 b = true) : run E (.call 6 [xV a, xV b]) = some (.res [xI (ordD 5 a b), xI 0] []) := by
  rw [run_call E 6 _ rfl Tryd.func6 rfl rfl rfl (by simp)]
  have la := okP_size ha
  have lb := okP_size hb
  have h1 := areRight [a, b] (by simp) (by intro x hx; simp at hx; rcases hx with rfl | rfl <;> omega)
  have h3 := implOrder 5 a b ha hb (by omega) (by omega)
  have e1 : valueOK a = true := ha
  have e2 : valueOK b = true := hb
  have hr2 : ([0, 1] : List Nat) = List.range 2 := rfl
  simp [e1, e2] at h1
  simp [h1, h3, hr2]
theorem specOrderValues (a b : Val) (ha : okP 5 a = true) (hb : okP 5 b = true) : run E (.call 7 [xV a, xV b]) = some (.res [xI (ordD 5 a b), xI 0] []) := by
  rw [run_call E 7 _ rfl Tryd.func7 rfl rfl rfl (by simp)]
  have la := okP_size ha
  have lb := okP_size hb
  have h1 := specValueOK a (by omega)
  have h2 := specValueOK b (by omega)
  have h3 := specOrder 5 a b ha hb (by omega) (by omega)
  have e1 : valueOK a = true := ha
  have e2 : valueOK b = true := hb
  rw [e1] at h1
  rw [e2] at h2
  simp [h1, h2, h3]
end Go.Vd
/- What is drawn from a text of bytes: depths; documents and values of a code. -/
set_option linter.unusedSimpArgs false
set_option linter.unusedVariables false
namespace Go.Vd
open Go.Ev Go.Proofs Go.Pu
set_option maxRecDepth 100000
set_option maxHeartbeats 8000000
theorem draws0 : Draws 0 10 := by
  intro s m hm h
  obtain ⟨v, s', h1, h2, h3⟩ := drawScalar s m hm h
  exact ⟨v, s', h1, h2.1, h3.up (by omega)⟩
theorem docs0 : Docs 0 44 := drawDoc 0 10 (by omega) draws0
theorem draws1 : Draws 1 82 := drawValue 0 10 44 (by omega) draws0 docs0
theorem docs1 : Docs 1 332 := drawDoc 1 82 (by omega) draws1
theorem draws2 : Draws 2 586 := drawValue 1 82 332 (by omega) draws1 docs1
theorem docs2 : Docs 2 2348 := drawDoc 2 586 (by omega) draws2
theorem draws3 : Draws 3 4114 := drawValue 2 586 2348 (by omega) draws2 docs2
theorem l00Source (bs : Bytes) (h : bs.length ≤ 1048576) : ∃ s, run E (.call 14 [.t (.list (bs.map byteT))]) = some (.res [srcX s] []) ∧ s.Ok 0 := by
  have hr : (bs.length : Int).tmod 1000 = (bs.length : Int) % 1000 := Int.tmod_eq_emod_of_nonneg (by omega)
  have hw : IntKind.i64.wrap ((bs.length : Int) % 1000) = (bs.length : Int) % 1000 := wrap_of (by omega) (by omega)
  refine ⟨⟨bs, 0, (bs.length : Int) % 1000⟩, ?_, ⟨by simp only; omega, by simp, by simp only; omega, by simp only; omega⟩⟩
  rw [run_call E 14 _ rfl Tryd.func14 rfl rfl rfl (by simp)]
  simp [hr, hw]
end Go.Vd
/- FnOrder: the values of a code. -/
set_option linter.unusedSimpArgs false
set_option linter.unusedVariables false
namespace Go.Vd
open Go.Ev Go.Proofs Go.Pu
set_option maxRecDepth 100000
set_option maxHeartbeats 8000000
/-- A list of values is drawn. -/
theorem drawMany_loop (K n : Nat) (hn : n ≤ 10) (ih : Draws 2 K) (src : Src) (m : Nat) (hm : m + n * K < 1000000000) (hs : src.Ok m) : ∀ s o q, (s 1 = .t (.int .i64 n) ∧ s 5 = .ptr 0 0 ∧ s 6 = .row 1 ∧ s 7 = .t (.int .i64 0) ∧ o 0 = srcB src ∧ o 1 = .row 26 [] true ∧ 1 < q) →
    ∃ e s' o' q', run E (.code (.loop (loopAt Tryd.f5 0)) ⟨s, o, q, 22⟩) = some (.st e ⟨s', o', q', 22⟩) ∧ ∃ a : Nat × List Val, ((∀ x ∈ a.2, okP 5 x = true) ∧ a.2.length = n) ∧ (e = .exit 0 ∧ s' 6 = .row a.1 ∧ o' a.1 = .row 26 (a.2.map valT) true) := by
  intro s o q hI
  refine loop_for (c := loopAt Tryd.f5 0) (N := 22)
    (fun i s o q => ∃ (r : Nat) (acc : List Val) (sr : Src), s 1 = .t (.int .i64 n) ∧ s 5 = .ptr 0 0 ∧ s 6 = .row r ∧ s 7 = .t (.int .i64 i) ∧ o 0 = srcB sr ∧ o r = .row 26 (acc.map valT) true ∧ 0 < r ∧ r < q ∧ (∀ x ∈ acc, okP 5 x = true) ∧ acc.length = i ∧ sr.Ok (m + i * K))
    (fun e s' o' q' => ∃ a : Nat × List Val, ((∀ x ∈ a.2, okP 5 x = true) ∧ a.2.length = n) ∧ (e = .exit 0 ∧ s' 6 = .row a.1 ∧ o' a.1 = .row 26 (a.2.map valT) true)) n ?_ ?_
    n 0 s o q (by omega) (by
      obtain ⟨h1, h5, h6, h7, ho0, ho1, hq⟩ := hI
      exact ⟨1, [], src, h1, h5, h6, h7, ho0, ho1, by omega, hq, by simp, by simp, hs.up (by omega)⟩)
  · rintro i s o q hi ⟨r, acc, sr, h1, h5, h6, h7, ho0, hor, hr0, hrq, hacc, hlen, hok⟩
    have hi' : (i : Int) < (n : Int) := by omega
    have hwi := wrap_succ (n := i) (by omega)
    have hmul : i * K + K ≤ n * K := by
      rw [← Nat.succ_mul]
      exact Nat.mul_le_mul (by omega) (Nat.le_refl _)
    have hnx : (i + 1) * K = i * K + K := Nat.succ_mul _ _
    obtain ⟨v, s2, hv, hvo, ok2⟩ := ih sr (m + i * K) (by omega) hok
    have ok2' : s2.Ok (m + (i + 1) * K) := ok2.up (by omega)
    have hq0 : q ≠ 0 := by omega
    have h0q : 0 ≠ q := by omega
    have hrn : r ≠ q := by omega
    have hrn1 : r ≠ q + 1 := by omega
    have hr0' : r ≠ 0 := by omega
    have h0r : 0 ≠ r := by omega
    have hqr : q ≠ r := by omega
    have hcat : acc.length + 1 ≤ 140737488355328 := by omega
    have hcat2 : (acc.length + 1) * 32 ≤ 140737488355328 := by omega
    simp at hv
    simp [loopAt, loopsOf, Tryd.f5, h1, h5, h6, h7, ho0, hor, hi, hi', hwi, hv, hq0, h0q, hrn, hrn1, hr0', h0r, hqr, hcat, hcat2]
    exact ⟨acc ++ [v], s2, ⟨rfl, rfl, rfl⟩, by simp, fun x hx => by
      rcases List.mem_append.1 hx with hx | hx
      · exact hacc x hx
      · simp at hx; subst hx; exact hvo, by simp [hlen], ok2'⟩
  · rintro s o q ⟨r, acc, sr, h1, h5, h6, h7, ho0, hor, hr0, hrq, hacc, hlen, hok⟩
    simp [loopAt, loopsOf, Tryd.f5, h1, h7]
    exact ⟨r, acc, ⟨hacc, hlen⟩, h6, hor⟩
theorem valuesOf (bs : Bytes) (h : bs.length ≤ 1048576) : ∃ vs : List Val, run E (.call 5 [.t (.list (bs.map byteT)), xI 3]) = some (.res [.row 26 (vs.map valT)] []) ∧ (∀ x ∈ vs, okP 5 x = true) ∧ vs.length = 3 := by
  obtain ⟨s, h1, h2⟩ := l00Source bs h
  obtain ⟨X, A, B, C, M, hg, hx⟩ := skG _ ((0, [⟨0, 0, []⟩, ⟨0, 0, []⟩, ⟨0, 0, []⟩]) : Nat × List Val) ⟨by decide, rfl⟩ (drawMany_loop 586 3 (by omega) draws2 s 0 (by omega) h2)
  simp only [loopAt, loopsOf, Tryd.f5] at hx
  simp at hx
  obtain ⟨Y, hY⟩ : ∃ Y, run E (.call 5 [.t (.list (bs.map byteT)), xI 3]) = Y := ⟨_, rfl⟩
  rw [hY]
  rw [run_call E 5 _ rfl Tryd.func5 rfl rfl rfl (by simp)] at hY
  simp [h1, hx] at hY
  subst hY
  exact ⟨_, rfl, (hg _ _ _).1, (hg _ _ _).2⟩
end Go.Vd
/- FnOrder: the loops of the law. -/
set_option linter.unusedSimpArgs false
set_option linter.unusedVariables false
namespace Go.Vd
open Go.Ev Go.Proofs Go.Pu
set_option maxRecDepth 100000
set_option maxHeartbeats 8000000
abbrev vB (v : Val) : Ob := .box 26 [.t (.int .i64 v.k), .t (.int .i64 v.n), .t (.str v.t)]
theorem order_in (vs : List Val) (hvs : ∀ x ∈ vs, okP 5 x = true) (hl : vs.length ≤ 100) (a b : Val) (ha : okP 5 a = true) (hb : okP 5 b = true) (r pa pb i j : Nat) (O : Os) (Q : Nat) (hr : O r = .row 26 (vs.map valT) true) (hpa : O pa = vB a) (hpb : O pb = vB b) : ∀ s o q, (s 5 = .row r ∧ s 6 = .t (.int .i64 i) ∧ s 7 = .t (.int .i64 j) ∧ s 8 = .ptr pa 0 ∧ s 9 = .ptr pb 0 ∧ s 10 = .t (.int .i64 (ordD 5 a b)) ∧ s 16 = .t (.int .i64 0) ∧ o = O ∧ q = Q) →
    ∃ e s' o' q', run E (.code (.loop (loopAt Tryd.f3 2)) ⟨s, o, q, 166⟩) = some (.st e ⟨s', o', q', 166⟩) ∧ e = .exit 4 ∧ s' 5 = .row r ∧ s' 6 = .t (.int .i64 i) ∧ s' 7 = .t (.int .i64 j) ∧ o' = O ∧ q' = Q := by
  intro s o q hI
  have d23 := d3_23
  simp [regionOf, findR, pick, Tryd.f3] at d23
  have dd23 := fun st => run_region_draw E st 23 _ d23
  clear d23
  have d24 := d3_24
  simp [regionOf, findR, pick, Tryd.f3] at d24
  have dd24 := fun st => run_region_draw E st 24 _ d24
  clear d24
  refine loop_for (c := loopAt Tryd.f3 2) (N := 166)
    (fun k s o q => s 5 = .row r ∧ s 6 = .t (.int .i64 i) ∧ s 7 = .t (.int .i64 j) ∧ s 8 = .ptr pa 0 ∧ s 9 = .ptr pb 0 ∧ s 10 = .t (.int .i64 (ordD 5 a b)) ∧ s 16 = .t (.int .i64 k) ∧ o = O ∧ q = Q)
    (fun e s' o' q' => e = .exit 4 ∧ s' 5 = .row r ∧ s' 6 = .t (.int .i64 i) ∧ s' 7 = .t (.int .i64 j) ∧ o' = O ∧ q' = Q) vs.length ?_ ?_
    vs.length 0 s o q (by omega) (by simpa using hI)
  · rintro k s o q hk ⟨h5, h6, h7, h8, h9, h10, h16, rfl, rfl⟩
    have hk' : (k : Int) < (vs.length : Int) := by omega
    have hxk : vs[k]? = some vs[k] := List.getElem?_eq_getElem hk
    have hok := hvs _ (List.getElem_mem hk)
    have hw := wrap_succ (n := k) (by omega)
    have c1 := implOrderValues b vs[k] hb hok
    have c2 := implOrderValues a vs[k] ha hok
    have hrow := (ordD_ord 5).row a b vs[k] ha hb hok
    by_cases g1 : ordD 5 a b ≤ 0
    · by_cases g2 : ordD 5 b vs[k] ≤ 0
      · have g3 := hrow g1 g2
        have g3' : ¬ 0 < ordD 5 a vs[k] := by omega
        simp [loopAt, loopsOf, Tryd.f3, dd23, dd24, h5, h6, h7, h8, h9, h10, h16, hr, hpa, hpb, hk, hk', hxk, hw, c1, c2, g1, g2, g3, g3']
      · simp [loopAt, loopsOf, Tryd.f3, dd23, dd24, h5, h6, h7, h8, h9, h10, h16, hr, hpa, hpb, hk, hk', hxk, hw, c1, c2, g1, g2]
    · simp [loopAt, loopsOf, Tryd.f3, dd23, dd24, h5, h6, h7, h8, h9, h10, h16, hr, hpa, hpb, hk, hk', hxk, hw, c1, c2, g1]
  · rintro s o q ⟨h5, h6, h7, h8, h9, h10, h16, rfl, rfl⟩
    simp [loopAt, loopsOf, Tryd.f3, h5, h6, h7, h8, h9, h10, h16, hr]
end Go.Vd
/- FnOrder: the loops of the law, further out. -/
set_option linter.unusedSimpArgs false
set_option linter.unusedVariables false
namespace Go.Vd
open Go.Ev Go.Proofs Go.Pu
set_option maxRecDepth 100000
set_option maxHeartbeats 8000000
def tri1 (n : Int) : Prop := -1 ≤ n ∧ n ≤ 1
theorem cmpI_in (a b : Int) : tri1 (cmpI a b) := by
  unfold cmpI tri1
  split
  · omega
  · split <;> omega
theorem orI_in {a b : Int} (ha : tri1 a) (hb : tri1 b) : tri1 (orI a b) := by
  unfold orI; split
  · exact hb
  · exact ha
theorem ordL_in {α : Type} {f : α → α → Int} (h : ∀ x y, tri1 (f x y)) : ∀ xs ys : List α, tri1 (ordL f xs ys)
  | [], [] => by simp [ordL, tri1]
  | [], _ :: _ => by simp [ordL, tri1]
  | _ :: _, [] => by simp [ordL, tri1]
  | x :: xs, y :: ys => by
    unfold ordL; split
    · exact ordL_in h xs ys
    · exact h x y
theorem cmpB_in (a b : Bytes) : tri1 (Lib.compareBytes a b) := by
  rw [cmpB_ordL]; exact ordL_in (fun x y => cmpI_in _ _) a b
theorem ordD_in : ∀ (d : Nat) (a b : Val), tri1 (ordD d a b)
  | 0, a, b => by
    unfold ordD
    split
    · split
      · simp [tri1]
      · split
        · simp [tri1]
        · exact cmpB_in _ _
    · exact orI_in (cmpI_in _ _) (cmpI_in _ _)
  | d + 1, a, b => by
    unfold ordD
    split
    · split
      · exact ordL_in (fun x y => ordD_in d x y) _ _
      · split
        · exact ordL_in (fun (x y : Fld) => orI_in (cmpB_in _ _) (ordD_in d x.v y.v)) _ _
        · exact cmpB_in _ _
    · exact orI_in (cmpI_in _ _) (cmpI_in _ _)
theorem order_in2 (vs : List Val) (hvs : ∀ x ∈ vs, okP 5 x = true) (hl : vs.length ≤ 100) (a b : Val) (ha : okP 5 a = true) (hb : okP 5 b = true) (r pa pb i j : Nat) : ∀ s o q, (s 5 = .row r ∧ s 6 = .t (.int .i64 i) ∧ s 7 = .t (.int .i64 j) ∧ s 8 = .ptr pa 0 ∧ s 9 = .ptr pb 0 ∧ s 10 = .t (.int .i64 (ordD 5 a b)) ∧ s 16 = .t (.int .i64 0) ∧ o r = .row 26 (vs.map valT) true ∧ o pa = vB a ∧ o pb = vB b) →
    ∃ e s' o' q', run E (.code (.loop (loopAt Tryd.f3 2)) ⟨s, o, q, 166⟩) = some (.st e ⟨s', o', q', 166⟩) ∧ e = .exit 4 ∧ s' 5 = .row r ∧ s' 6 = .t (.int .i64 i) ∧ s' 7 = .t (.int .i64 j) ∧ o' = o ∧ q' = q :=
  fun s o q ⟨h5, h6, h7, h8, h9, h10, h16, hr, hpa, hpb⟩ => order_in vs hvs hl a b ha hb r pa pb i j o q hr hpa hpb s o q ⟨h5, h6, h7, h8, h9, h10, h16, rfl, rfl⟩
theorem order_mid (vs : List Val) (hvs : ∀ x ∈ vs, okP 5 x = true) (hl : vs.length ≤ 100) (i : Nat) (hi : i < vs.length) (r : Nat) : ∀ s o q, (s 5 = .row r ∧ s 6 = .t (.int .i64 i) ∧ s 7 = .t (.int .i64 0) ∧ o r = .row 26 (vs.map valT) true ∧ r < q) →
    ∃ e s' o' q', run E (.code (.loop (loopAt Tryd.f3 1)) ⟨s, o, q, 166⟩) = some (.st e ⟨s', o', q', 166⟩) ∧ e = .exit 2 ∧ s' 5 = .row r ∧ s' 6 = .t (.int .i64 i) ∧ o' r = .row 26 (vs.map valT) true ∧ r < q' := by
  intro s o q hI
  refine loop_for (c := loopAt Tryd.f3 1) (N := 166)
    (fun j s o q => s 5 = .row r ∧ s 6 = .t (.int .i64 i) ∧ s 7 = .t (.int .i64 j) ∧ o r = .row 26 (vs.map valT) true ∧ r < q)
    (fun e s' o' q' => e = .exit 2 ∧ s' 5 = .row r ∧ s' 6 = .t (.int .i64 i) ∧ o' r = .row 26 (vs.map valT) true ∧ r < q') vs.length ?_ ?_
    vs.length 0 s o q (by omega) (by simpa using hI)
  · rintro j s o q hj ⟨h5, h6, h7, hr, hrq⟩
    have hi' : (i : Int) < (vs.length : Int) := by omega
    have hj' : (j : Int) < (vs.length : Int) := by omega
    have hxi : vs[i]? = some vs[i] := List.getElem?_eq_getElem hi
    have hxj : vs[j]? = some vs[j] := List.getElem?_eq_getElem hj
    have oki := hvs _ (List.getElem_mem hi)
    have okj := hvs _ (List.getElem_mem hj)
    have hw := wrap_succ (n := j) (by omega)
    obtain ⟨X, A, B, C, hx⟩ := sk (order_in2 vs hvs hl vs[i] vs[j] oki okj r q (q + 1) i j)
    simp only [loopAt, loopsOf, Tryd.f3] at hx
    simp at hx
    have c1 := implOrderValues vs[i] vs[j] oki okj
    have c2 := specOrderValues vs[i] vs[j] oki okj
    have c3 := implOrderValues vs[j] vs[i] okj oki
    have han := (ordD_ord 5).anti vs[j] vs[i] okj oki
    have hin := ordD_in 5 vs[i] vs[j]
    have hzz : ((vs[i].k == vs[j].k) && ((vs[i].n == vs[j].n) && (vs[i].t == vs[j].t))) = (ordD 5 vs[i] vs[j] == 0) := by
      have hz := (ordD_ord 5).zero vs[i] vs[j] oki okj
      rw [Bool.eq_iff_iff]
      simp only [Bool.and_eq_true, beq_iff_eq]
      constructor
      · rintro ⟨e1, e2, e3⟩
        have : vs[i] = vs[j] := val_eq e1 e2 e3
        rw [this]; exact ordD_refl 5 _ okj
      · intro h
        have := hz h
        rw [this]; exact ⟨rfl, rfl, rfl⟩
    rw [han] at c3
    generalize ordD 5 vs[i] vs[j] = c at *
    have hneg : IntKind.i64.wrap (- -c) = c := by rw [wrap_of (by unfold tri1 at hin; omega) (by unfold tri1 at hin; omega)]; omega
    have hneg2 : IntKind.i64.wrap c = c := wrap_of (by unfold tri1 at hin; omega) (by unfold tri1 at hin; omega)
    have e1 : r ≠ q := by omega
    have e2 : r ≠ q + 1 := by omega
    have e3 : q ≠ r := by omega
    have e4 : q + 1 ≠ r := by omega
    have e5 : r < q + 1 + 1 := by omega
    simp [loopAt, loopsOf, Tryd.f3, h5, h6, h7, hr, hi, hj, hi', hj', hxi, hxj, hw, c1, c2, c3, hx, hzz, hneg, hneg2, e1, e2, e3, e4, e5]
  · rintro s o q ⟨h5, h6, h7, hr, hrq⟩
    simp [loopAt, loopsOf, Tryd.f3, h5, h6, h7, hr, hrq]
end Go.Vd
/- FnOrder over plain data, given that both sides write a value alike. -/
set_option linter.unusedSimpArgs false
set_option linter.unusedVariables false
namespace Go.Vd
open Go.Ev Go.Proofs Go.Pu
set_option maxRecDepth 100000
set_option maxHeartbeats 8000000
theorem order_out (vs : List Val) (hvs : ∀ x ∈ vs, okP 5 x = true) (hl : vs.length ≤ 100) (r : Nat) : ∀ s o q, (s 5 = .row r ∧ s 6 = .t (.int .i64 0) ∧ o r = .row 26 (vs.map valT) true ∧ r < q) →
    ∃ e s' o' q', run E (.code (.loop (loopAt Tryd.f3 0)) ⟨s, o, q, 166⟩) = some (.st e ⟨s', o', q', 166⟩) ∧ e = .exit 0 ∧ s' 5 = .row r ∧ o' r = .row 26 (vs.map valT) true ∧ r < q' := by
  intro s o q hI
  refine loop_for (c := loopAt Tryd.f3 0) (N := 166)
    (fun i s o q => s 5 = .row r ∧ s 6 = .t (.int .i64 i) ∧ o r = .row 26 (vs.map valT) true ∧ r < q)
    (fun e s' o' q' => e = .exit 0 ∧ s' 5 = .row r ∧ o' r = .row 26 (vs.map valT) true ∧ r < q') vs.length ?_ ?_
    vs.length 0 s o q (by omega) (by simpa using hI)
  · rintro i s o q hi ⟨h5, h6, hr, hrq⟩
    have hi' : (i : Int) < (vs.length : Int) := by omega
    have hw := wrap_succ (n := i) (by omega)
    obtain ⟨X, A, B, C, hx⟩ := sk (order_mid vs hvs hl i hi r)
    simp only [loopAt, loopsOf, Tryd.f3] at hx
    simp at hx
    simp [loopAt, loopsOf, Tryd.f3, h5, h6, hr, hi, hi', hw, hx, hrq]
  · rintro s o q ⟨h5, h6, hr, hrq⟩
    simp [loopAt, loopsOf, Tryd.f3, h5, h6, hr, hrq]
/-- Both sides write a value alike. -/
def TextsAlike : Prop := ∀ v, okP 5 v = true → ∃ t c, run E (.call 8 [xV v]) = some (.res [xS t, xI c] []) ∧ run E (.call 9 [xV v]) = some (.res [xS t, xI c] [])
theorem lawOrder_of (ht : TextsAlike) (c0 c1 : Bytes) : run E (.call 3 [.t (.list (c0.map byteT)), .t (.list (c1.map byteT))]) = some (.res [xB true] []) := by
  rw [run_call E 3 _ rfl Tryd.func3 rfl rfl rfl (by simp)]
  by_cases n0 : (1048576 : Int) < (c0.length : Int)
  · simp [n0]
  · by_cases n1 : (1048576 : Int) < (c1.length : Int)
    · simp [n0, n1]
    · obtain ⟨v0, a1, a2, a3⟩ := valuesOf c0 (by omega)
      obtain ⟨v1, b1, b2, b3⟩ := valuesOf c1 (by omega)
      match v0, a3 with
      | [x0, x1, x2], _ =>
        match v1, b3 with
        | [y0, y1, y2], _ =>
          have hvs : ∀ x ∈ [x0, x1, x2, y0, y1, y2], okP 5 x = true := by
            intro x hx
            simp at hx a2 b2
            rcases hx with rfl | rfl | rfl | rfl | rfl | rfl
            · exact a2.1
            · exact a2.2.1
            · exact a2.2.2
            · exact b2.1
            · exact b2.2.1
            · exact b2.2.2
          obtain ⟨t, c, t1, t2⟩ := ht x0 (hvs x0 (by simp))
          obtain ⟨X, A, B, C, hx⟩ := sk (order_out [x0, x1, x2, y0, y1, y2] hvs (by simp) 2)
          simp only [loopAt, loopsOf, Tryd.f3] at hx
          simp at a1 b1 hx
          simp [n0, n1, a1, b1, hx, t1, t2]
end Go.Vd
