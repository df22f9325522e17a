/- Slices of structs that hold slices: what the laws make of their arguments. -/
import Derived.Test.YtgfdeomfociobaaGreatDoorPartNX
import Derived.Test.YtgfdeomfociobaaGreatDoorPartNH
import Derived.Test.YtgfdeomfociobaaGreatDoorPartNG
import Derived.Test.YtgfdeomfociobaaGreatDoorPartNI
set_option linter.unusedSimpArgs false
set_option linter.unusedVariables false
namespace Go.Nd
open Go.Ev Go.Proofs Go.Pu
set_option maxRecDepth 100000
set_option maxHeartbeats 16000000
/-! Plain facts. -/
theorem owns_append {a b : List X} {d : Nat} (ha : X.owns a d = true) (hb : X.owns b d = true) : X.owns (a ++ b) d = true := by
  induction a with
  | nil => exact hb
  | cons x r ih =>
    simp only [List.cons_append, X.owns, Bool.and_eq_true] at ha ⊢
    exact ⟨ha.1, ih ha.2⟩
theorem owns_flat {α : Type} {f : α → List X} {d : Nat} : ∀ {l : List α}, (∀ x ∈ l, X.owns (f x) d = true) → X.owns ((l.map f).flatten) d = true
  | [], _ => by simp [X.owns]
  | a :: r, h => by
    rw [List.map_cons, List.flatten_cons]
    exact owns_append (h a (by simp)) (owns_flat (fun x hx => h x (List.mem_cons_of_mem _ hx)))
mutual
theorem own_up : ∀ (x : X) (d : Nat), x.own d = true → x.own (d + 1) = true
  | .t t, d, h => by cases d <;> simpa [X.own] using h
  | .nil, d, h => by simp [X.own]
  | .row e xs, d, h => by simp [X.own]
  | .sref ty n sz cs, 0, h => by simp [X.own] at h
  | .sref ty n sz cs, d + 1, h => by
    simp only [X.own, Bool.and_eq_true] at h ⊢
    exact ⟨h.1, owns_up cs d h.2⟩
  | .agg cs, d, h => by cases d <;> simp [X.own] at h
  | .ref ty cs, d, h => by cases d <;> simp [X.own] at h
  | .dref cs, d, h => by cases d <;> simp [X.own] at h
  | .fn g cs, d, h => by cases d <;> simp [X.own] at h
  | .meth g cs, d, h => by cases d <;> simp [X.own] at h
theorem owns_up : ∀ (l : List X) (d : Nat), X.owns l d = true → X.owns l (d + 1) = true
  | [], d, h => by simp [X.owns]
  | x :: r, d, h => by
    simp only [X.owns, Bool.and_eq_true] at h ⊢
    exact ⟨own_up x d h.1, owns_up r d h.2⟩
end
theorem dats_flat {α : Type} (f : α → List X) : ∀ l : List α, X.dats ((l.map f).flatten) = (l.map (fun a => X.dats (f a))).flatten
  | [] => by simp [X.dats]
  | a :: r => by
    rw [X.dats_eq] at *
    simp only [List.map_cons, List.flatten_cons, List.map_append]
    rw [← X.dats_eq, ← X.dats_eq, dats_flat f r]
theorem chunk_flat {α : Type} (g : α → List T) (sz : Nat) (hg : ∀ a, (g a).length = sz) : ∀ l : List α, chunkT sz l.length ((l.map g).flatten) = l.map (fun a => T.agg (g a))
  | [] => rfl
  | a :: r => by
    simp only [List.length_cons, List.map_cons, List.flatten_cons, chunkT]
    have h1 : (g a ++ (r.map g).flatten).take sz = g a := by rw [← hg a]; simp
    have h2 : (g a ++ (r.map g).flatten).drop sz = (r.map g).flatten := by rw [← hg a]; simp
    rw [h1, h2, chunk_flat g sz hg r]
/-- The value of a slice of structs. -/
def srX {α : Type} (ty sz : Nat) (f : α → List X) (l : List α) : X := if l = [] then .nil else .sref ty l.length sz ((l.map f).flatten)
theorem srX_own {α : Type} {ty sz d : Nat} {f : α → List X} {l : List α} (hs : 0 < sz) (hl : ∀ a, (f a).length = sz) (h : ∀ x ∈ l, X.owns (f x) d = true) : (srX ty sz f l).own (d + 1) = true := by
  unfold srX
  split
  · simp [X.own]
  · simp only [X.own, Bool.and_eq_true, beq_iff_eq, decide_eq_true_eq]
    exact ⟨⟨Go.Ev.flat_len f sz hl l, hs⟩, owns_flat h⟩
theorem srX_dat {α : Type} {ty sz : Nat} {f : α → List X} {g : α → List T} (hg : ∀ a, X.dats (f a) = g a) (hl : ∀ a, (g a).length = sz) (l : List α) : (srX ty sz f l).dat = .list (l.map fun a => .agg (g a)) := by
  unfold srX
  split
  · rename_i h; subst h; simp [X.dat]
  · simp only [X.dat, dats_flat, hg]
    rw [chunk_flat g sz hl l]
theorem srX_plain {α : Type} {ty sz : Nat} {f : α → List X} {l : List α} : (srX ty sz f l).plain = false := by
  unfold srX
  split <;> rfl
/-- One struct more. -/
theorem fill_next {α : Type} {o o' : Nat → Ob} {b ty q q' sz i d : Nat} {z : List X} {f : α → List X} {l : List α} {cells vs : List SV} {is js : List Nat} (hi : i < l.length) (hf : ∀ a, (f a).length = z.length) (hsz : z.length = sz)
    (h : AllH (Held d o) cells (fillX f z l i) is) (hq : ∀ k ∈ is, b < k ∧ k < q) (k : AllH (Held d o') vs (f l[i]) js) (hq' : ∀ k ∈ js, q ≤ k ∧ k < q') (hbq : b < q) (hqq : q ≤ q') (ho : ∀ j, j < q → j ≠ b → o' j = o j) (hob : o' b = .box ty (Ev.splice cells (i * sz) vs)) :
    ∃ cells' is', o' b = .box ty cells' ∧ AllH (Held d o') cells' (fillX f z l (i + 1)) is' ∧ ∀ k ∈ is', b < k ∧ k < q' := by
  have h' : AllH (Held d o') cells (fillX f z l i) is := h.frame (fun k hk => ho k (hq k hk).2 (by have := (hq k hk).1; omega))
  have hlen := h'.len
  rw [fillX_len f z hf l (by omega), hsz] at hlen
  have hvl : vs.length = sz := by rw [← hsz, ← hf l[i], k.len]
  have hm := Nat.mul_le_mul_right sz (show i + 1 ≤ l.length by omega)
  rw [Nat.add_mul, Nat.one_mul] at hm
  obtain ⟨is', g1, g2⟩ := h'.splice k (off := i * sz) (by omega) (fun j hj hm => by have := (hq' j hj).1; have := (hq j hm).2; omega)
  rw [← hsz, fillX_step f z hf l hi, hsz] at g1
  refine ⟨_, is', hob, g1, fun k hk => ?_⟩
  rcases g2 k hk with hk | hk
  · have := hq k hk; omega
  · have := hq' k hk; omega
/-- Behind the last. -/
theorem fill_end {α : Type} {o : Nat → Ob} {b ty sz d : Nat} {z : List X} {f : α → List X} {l : List α} {cells : List SV} {is : List Nat} (hne : l ≠ []) (hs : 0 < sz) (hf : ∀ a, (f a).length = z.length) (hsz : z.length = sz) (ho : o b = .box ty cells) (h : AllH (Held d o) cells (fillX f z l l.length) is) (hb : b ∉ is) :
    Held (d + 1) o (.sl b l.length sz) (srX ty sz f l) (b :: is) := by
  have hlen := h.len
  rw [fillX_len f z hf l (Nat.le_refl _), hsz] at hlen
  rw [fillX_end] at h
  unfold srX
  rw [if_neg hne]
  exact .inr ⟨b, l.length, sz, ty, cells, _, is, rfl, rfl, rfl, ho, hlen.symm, hs, h, hb⟩
theorem fill_start0 {α : Type} {o : Nat → Ob} {b ty : Nat} {z : List SV} {zx : List X} {f : α → List X} {d : Nat} (l : List α) (hz : AllH (Held d o) z zx []) (ho : o b = .box ty (List.replicate l.length z).flatten) :
    ∃ cells is, o b = .box ty cells ∧ AllH (Held d o) cells (fillX f zx l 0) is ∧ is = [] := by
  refine ⟨_, [], ho, ?_, rfl⟩
  rw [fillX_zero]
  exact hz.rep l.length
theorem bVs_len : ∀ (l : List X) (n : Nat), (X.bVs l n).length = l.length
  | [], n => by simp [X.bVs]
  | x :: r, n => by simp [X.bVs, bVs_len r]
theorem bVs_one {d : Nat} : ∀ {l : List X}, X.owns l d = true → ∀ n, ∀ x ∈ X.bVs l n, x.one = true
  | [], _, n, x, hx => by simp [X.bVs] at hx
  | y :: r, h, n, x, hx => by
    simp only [X.owns, Bool.and_eq_true] at h
    simp only [X.bVs, List.mem_cons] at hx
    rcases hx with rfl | hx
    · exact (bV_cells h.1 n).2
    · exact bVs_one h.2 _ x hx
/-- `sk1`, with something chosen at each start. -/
theorem skH {α : Type} (good : α → Prop) (a0 : α) (h0 : good a0) {I : Ss → Os → Nat → Prop} {Q : Ss → Os → Nat → Ex → Ss → Os → Nat → Prop} {R : Ss → Os → Nat → Ex → Ss → Os → Nat → α → Prop} (h : ∀ s o q, I s o q → ∃ e s' o' q', Q s o q e s' o' q' ∧ ∃ m, good m ∧ R s o q e s' o' q' m) :
    ∃ (X : Ss → Os → Nat → Ex) (A : Ss → Os → Nat → Ss) (B : Ss → Os → Nat → Os) (C : Ss → Os → Nat → Nat) (M : Ss → Os → Nat → α), (∀ s o q, good (M s o q)) ∧ ∀ s o q, I s o q → Q s o q (X s o q) (A s o q) (B s o q) (C s o q) ∧ R s o q (X s o q) (A s o q) (B s o q) (C s o q) (M s o q) := by
  obtain ⟨X, A, B, C, hx⟩ := sk h
  classical
  have h' : ∀ s o q, ∃ m, good m ∧ (I s o q → R s o q (X s o q) (A s o q) (B s o q) (C s o q) m) := by
    intro s o q
    by_cases hI : I s o q
    · obtain ⟨m, hg, hm⟩ := (hx s o q hI).2
      exact ⟨m, hg, fun _ => hm⟩
    · exact ⟨a0, h0, fun hI' => absurd hI' hI⟩
  exact ⟨X, A, B, C, fun s o q => (h' s o q).choose, fun s o q => (h' s o q).choose_spec.1, fun s o q hI => ⟨(hx s o q hI).1, (h' s o q).choose_spec.2 hI⟩⟩
theorem held_of0 {d : Nat} {o : Nat → Ob} {v : SV} {x : X} {ids : List Nat} (h : Held0 o v x ids) : Held d o v x ids := by
  cases d with
  | zero => exact h
  | succ d => exact .inl h
theorem consT {d : Nat} {o : Nat → Ob} {t : T} {l : List SV} {xs : List X} (h1 : t.one = true) (h : AllH (Held d o) l xs []) : AllH (Held d o) (.t t :: l) (.t t :: xs) [] :=
  AllH.cons (i := []) (is := []) (held_of0 (.inl ⟨t, h1, rfl, rfl, rfl⟩)) h (by simp)
theorem consN {d : Nat} {o : Nat → Ob} {l : List SV} {xs : List X} (h : AllH (Held d o) l xs []) : AllH (Held d o) (.nil :: l) (.nil :: xs) [] :=
  AllH.cons (i := []) (is := []) (held_of0 (.inr (.inl ⟨rfl, rfl, rfl⟩))) h (by simp)
theorem own_le {x : X} {d e : Nat} (h : x.own d = true) (hd : d ≤ e) : x.own e = true := by
  obtain ⟨k, rfl⟩ := Nat.le.dest hd
  clear hd
  induction k with
  | zero => exact h
  | succ k ih => exact own_up x (d + k) ih
/-! The values. -/
abbrev clsC (c : List Trm) : List X := [.row 120 (c.map trmT)]
def clsX (f : List (List Trm)) : X := srX 236 1 clsC f
abbrev rdC (r : Rd) : List X := [.t (.str r.coll), clsX r.filter]
def rdsX (l : List Rd) : X := srX 151 2 rdC l
abbrev dnC (d : Dn) : List X := [.t (.int .i64 d.snap), .t (.int .i64 d.at_), rdsX d.reads, .row 167 (d.changes.map chgT), .t (.bool d.inn), .t (.bool d.out)]
def dnsX (l : List Dn) : X := srX 59 6 dnC l
theorem clsC_own (c : List Trm) : X.owns (clsC c) 4 = true := by simp [X.owns, X.own]
theorem clsX_own (f : List (List Trm)) : (clsX f).own 1 = true := srX_own (by omega) (fun _ => rfl) (fun c _ => by simp [X.owns, X.own])
theorem rdC_own (r : Rd) : X.owns (rdC r) 4 = true := by
  have := own_le (clsX_own r.filter) (show 1 ≤ 4 by omega)
  simp [X.owns, X.own, T.one, this]
theorem rdsX_own (l : List Rd) : (rdsX l).own 2 = true := srX_own (by omega) (fun _ => rfl) (fun r _ => by
  have := clsX_own r.filter
  simp [X.owns, X.own, T.one, this])
theorem dnC_own (d : Dn) : X.owns (dnC d) 4 = true := by
  have := own_le (rdsX_own d.reads) (show 2 ≤ 4 by omega)
  simp [X.owns, X.own, T.one, this]
theorem dnsX_own (l : List Dn) : (dnsX l).own 3 = true := srX_own (by omega) (fun _ => rfl) (fun d _ => by
  have := rdsX_own d.reads
  simp [X.owns, X.own, T.one, this])
theorem clsX_dat (f : List (List Trm)) : (clsX f).dat = .list (f.map clsT) := by
  unfold clsX
  exact srX_dat (f := clsC) (g := fun c => [T.list (c.map trmT)]) (fun c => by simp [X.dats, X.dat]) (fun _ => rfl) f
theorem rdsX_dat (l : List Rd) : (rdsX l).dat = .list (l.map rdT) := by
  unfold rdsX
  exact srX_dat (f := rdC) (g := fun r => [T.str r.coll, T.list (r.filter.map clsT)]) (fun r => by simp [X.dats, X.dat, clsX_dat]) (fun _ => rfl) l
theorem dnsX_dat (l : List Dn) : (dnsX l).dat = .list (l.map dnT) := by
  unfold dnsX
  exact srX_dat (f := dnC) (g := fun d => [T.int .i64 d.snap, T.int .i64 d.at_, T.list (d.reads.map rdT), T.list (d.changes.map chgT), T.bool d.inn, T.bool d.out]) (fun d => by simp [X.dats, X.dat, rdsX_dat]) (fun _ => rfl) l
theorem toClsS_loop (xs : List (List Trm)) (hne : xs ≠ []) (hl : xs.length < 4294967296) (hf : ∀ x ∈ xs, run E (.call 179 [.t (clsT x)]) = some (.res [.agg (clsC x)] [])) : ∀ s o q, (s 0 = .t (.list (xs.map clsT)) ∧ s 3 = .sl 0 xs.length 1 ∧ s 4 = .t (.int .i64 0) ∧ q = 1 ∧ o 0 = .box 236 (List.replicate xs.length [SV.nil]).flatten) →
    ∃ e s' o' q', run E (.code (.loop (loopAt Tryz.f76 0)) ⟨s, o, q, 23⟩) = some (.st e ⟨s', o', q', 23⟩) ∧ ∃ ids : List Nat, True ∧ (e = .exit 0 ∧ s' 3 = .sl 0 xs.length 1 ∧ ∀ s2 q2 N2, takeF 6 ⟨s2, o', q2, N2⟩ (.sl 0 xs.length 1) = some (clsX xs, ⟨s2, deadO ids o', q2, N2⟩)) := by
  intro s o q hI
  have hz : ∀ o, AllH (Held 4 o) [SV.nil] [X.nil] [] := fun o => consN .nil
  refine loop_for (c := loopAt Tryz.f76 0) (N := 23)
    (fun i s o q => s 0 = .t (.list (xs.map clsT)) ∧ s 3 = .sl 0 xs.length 1 ∧ s 4 = .t (.int .i64 i) ∧ 0 < q ∧ ∃ cells is, o 0 = .box 236 cells ∧ AllH (Held 4 o) cells (fillX clsC [X.nil] xs i) is ∧ ∀ k ∈ is, 0 < k ∧ k < q)
    (fun e s' o' q' => ∃ ids : List Nat, True ∧ (e = .exit 0 ∧ s' 3 = .sl 0 xs.length 1 ∧ ∀ s2 q2 N2, takeF 6 ⟨s2, o', q2, N2⟩ (.sl 0 xs.length 1) = some (clsX xs, ⟨s2, deadO ids o', q2, N2⟩))) xs.length ?_ ?_
    xs.length 0 s o q (by omega) (by
      obtain ⟨h0, h3, h4, hq, ho⟩ := hI
      obtain ⟨cells, is, g1, g2, g3⟩ := fill_start0 (f := clsC) xs (hz o) ho
      exact ⟨h0, h3, h4, by omega, cells, is, g1, g2, by subst g3; simp⟩)
  · rintro i s o q hi ⟨g0, g3, g4, hq, cells, is, ho, hall, his⟩
    have hi' : (i : Int) < (xs.length : Int) := by omega
    have hwi := wrap_succ (n := i) (by omega)
    have hxi : xs[i]? = some xs[i] := List.getElem?_eq_getElem hi
    have hx := hf _ (List.getElem_mem hi)
    have hown : X.owns (clsC xs[i]) 4 = true := clsC_own xs[i]
    obtain ⟨cs, hcs⟩ : ∃ cs, cs = clsC xs[i] := ⟨_, rfl⟩
    have hcl : cs.length = 1 := by rw [hcs]; rfl
    rw [← hcs] at hx hown
    have hb := bindCells_eq cs
    have hvl : (X.bVs cs q).length = 1 := by rw [bVs_len]; exact hcl
    have hv1 : ∀ x ∈ X.bVs cs q, x.one = true := bVs_one hown q
    have hlow : X.bOs cs q o 0 = o 0 := X.bOs_low cs q o 0 hq
    have hN := X.bNs_le cs q
    have hlen : xs.length * 1 = cells.length := by rw [← hall.len, fillX_len clsC _ (fun _ => rfl) xs (by omega)]; rfl
    have hst : i + 1 ≤ cells.length := by omega
    obtain ⟨js, hj1, hj2⟩ := X.bHelds cs 4 q o hown
    have hv2 := eq_true hv1
    have hn := fill_next (o := o) (o' := upd (X.bOs cs q o) 0 (.box 236 (splice cells (i * 1) (X.bVs cs q)))) (b := 0) (ty := 236) (q := q) (q' := X.bNs cs q) (sz := 1) (z := [X.nil]) (f := clsC) (js := js) (vs := X.bVs cs q) hi (fun _ => rfl) rfl hall his (by rw [← hcs]; exact hj1.frame (fun j hj => upd_ne _ _ (by have := (hj2 j hj).1; omega))) hj2 hq hN (fun j h1 h2 => by rw [upd_ne _ _ h2]; exact X.bOs_low cs q o j h1) (upd_self _ _ _)
    obtain ⟨cells', is', e1, e2, e3⟩ := hn
    rw [upd_self] at e1
    injection e1 with _ e1
    subst e1
    simp [loopAt, loopsOf, Tryz.f76, g0, g3, g4, hi, hi', hxi, hwi, hx, hb, hvl, hv2, hlow, ho, hst, -splice, -SV.one]
    exact ⟨by omega, is', by first | exact e2 | (rw [Nat.mul_one] at e2; exact e2), e3⟩
  · rintro s o q ⟨g0, g3, g4, hq, cells, is, ho, hall, his⟩
    have hh := fill_end (sz := 1) (z := [X.nil]) (f := clsC) (l := xs) hne (by omega) (fun _ => rfl) rfl ho hall (fun hm => by have := (his 0 hm).1; omega)
    simp [loopAt, loopsOf, Tryz.f76, g0, g3, g4]
    exact ⟨_, fun s2 q2 N2 => Held.take (st := ⟨s2, o, q2, N2⟩) hh 6 (by omega)⟩
theorem toClsS (xs : List (List Trm)) (hl : xs.length < 4294967296) (hf : ∀ x ∈ xs, run E (.call 179 [.t (clsT x)]) = some (.res [.agg (clsC x)] [])) : run E (.call 76 [.t (.list (xs.map clsT))]) = some (.res [clsX xs] []) := by
  rw [run_call E 76 _ rfl Tryz.func76 rfl rfl rfl (by simp)]
  by_cases h0 : xs = []
  · subst h0
    have lp := sk (fun s o q hI => loop_for (c := loopAt Tryz.f76 0) (N := 23)
      (fun i s o q => s 0 = .t (.list []) ∧ s 3 = .nil ∧ s 4 = .t (.int .i64 i))
      (fun e s' o' q' => e = .exit 0 ∧ s' 3 = .nil) 0
      (by rintro i s o q hi _; omega)
      (by
        rintro s o q ⟨g0, g3, g4⟩
        simp at g4
        simp [loopAt, loopsOf, Tryz.f76, g0, g3, g4])
      0 0 s o q (by omega) hI)
    simp only [loopAt, loopsOf, Tryz.f76] at lp
    obtain ⟨X, A, B, C, hx⟩ := lp
    simp at hx
    simp [hx, clsX, srX]
  · obtain ⟨X, A, B, C, M, _, hx⟩ := skH (fun _ : List Nat => True) [] trivial (toClsS_loop xs h0 hl hf)
    simp only [loopAt, loopsOf, Tryz.f76] at hx
    simp at hx
    have h1 : xs.length ≤ 140737488355328 := by omega
    have h2 : xs.length * 24 ≤ 140737488355328 := by omega
    have h3 : ¬ xs.length = 0 := fun e => h0 (List.eq_nil_of_length_eq_zero e)
    simp [h0, h1, h2, h3, hx]
theorem toRdS_loop (xs : List (Rd)) (hne : xs ≠ []) (hl : xs.length < 4294967296) (hf : ∀ x ∈ xs, run E (.call 190 [.t (rdT x)]) = some (.res [.agg (rdC x)] [])) : ∀ s o q, (s 0 = .t (.list (xs.map rdT)) ∧ s 3 = .sl 0 xs.length 2 ∧ s 4 = .t (.int .i64 0) ∧ q = 1 ∧ o 0 = .box 151 (List.replicate xs.length [SV.t (T.str []), SV.nil]).flatten) →
    ∃ e s' o' q', run E (.code (.loop (loopAt Tryz.f87 0)) ⟨s, o, q, 23⟩) = some (.st e ⟨s', o', q', 23⟩) ∧ ∃ ids : List Nat, True ∧ (e = .exit 0 ∧ s' 3 = .sl 0 xs.length 2 ∧ ∀ s2 q2 N2, takeF 6 ⟨s2, o', q2, N2⟩ (.sl 0 xs.length 2) = some (rdsX xs, ⟨s2, deadO ids o', q2, N2⟩)) := by
  intro s o q hI
  have hz : ∀ o, AllH (Held 4 o) [SV.t (T.str []), SV.nil] [X.t (T.str []), X.nil] [] := fun o => consT rfl (consN .nil)
  refine loop_for (c := loopAt Tryz.f87 0) (N := 23)
    (fun i s o q => s 0 = .t (.list (xs.map rdT)) ∧ s 3 = .sl 0 xs.length 2 ∧ s 4 = .t (.int .i64 i) ∧ 0 < q ∧ ∃ cells is, o 0 = .box 151 cells ∧ AllH (Held 4 o) cells (fillX rdC [X.t (T.str []), X.nil] xs i) is ∧ ∀ k ∈ is, 0 < k ∧ k < q)
    (fun e s' o' q' => ∃ ids : List Nat, True ∧ (e = .exit 0 ∧ s' 3 = .sl 0 xs.length 2 ∧ ∀ s2 q2 N2, takeF 6 ⟨s2, o', q2, N2⟩ (.sl 0 xs.length 2) = some (rdsX xs, ⟨s2, deadO ids o', q2, N2⟩))) xs.length ?_ ?_
    xs.length 0 s o q (by omega) (by
      obtain ⟨h0, h3, h4, hq, ho⟩ := hI
      obtain ⟨cells, is, g1, g2, g3⟩ := fill_start0 (f := rdC) xs (hz o) ho
      exact ⟨h0, h3, h4, by omega, cells, is, g1, g2, by subst g3; simp⟩)
  · rintro i s o q hi ⟨g0, g3, g4, hq, cells, is, ho, hall, his⟩
    have hi' : (i : Int) < (xs.length : Int) := by omega
    have hwi := wrap_succ (n := i) (by omega)
    have hxi : xs[i]? = some xs[i] := List.getElem?_eq_getElem hi
    have hx := hf _ (List.getElem_mem hi)
    have hown : X.owns (rdC xs[i]) 4 = true := rdC_own xs[i]
    obtain ⟨cs, hcs⟩ : ∃ cs, cs = rdC xs[i] := ⟨_, rfl⟩
    have hcl : cs.length = 2 := by rw [hcs]; rfl
    rw [← hcs] at hx hown
    have hb := bindCells_eq cs
    have hvl : (X.bVs cs q).length = 2 := by rw [bVs_len]; exact hcl
    have hv1 : ∀ x ∈ X.bVs cs q, x.one = true := bVs_one hown q
    have hlow : X.bOs cs q o 0 = o 0 := X.bOs_low cs q o 0 hq
    have hN := X.bNs_le cs q
    have hlen : xs.length * 2 = cells.length := by rw [← hall.len, fillX_len rdC _ (fun _ => rfl) xs (by omega)]; rfl
    have hst : i * 2 + 2 ≤ cells.length := by omega
    obtain ⟨js, hj1, hj2⟩ := X.bHelds cs 4 q o hown
    have hv2 := eq_true hv1
    have hn := fill_next (o := o) (o' := upd (X.bOs cs q o) 0 (.box 151 (splice cells (i * 2) (X.bVs cs q)))) (b := 0) (ty := 151) (q := q) (q' := X.bNs cs q) (sz := 2) (z := [X.t (T.str []), X.nil]) (f := rdC) (js := js) (vs := X.bVs cs q) hi (fun _ => rfl) rfl hall his (by rw [← hcs]; exact hj1.frame (fun j hj => upd_ne _ _ (by have := (hj2 j hj).1; omega))) hj2 hq hN (fun j h1 h2 => by rw [upd_ne _ _ h2]; exact X.bOs_low cs q o j h1) (upd_self _ _ _)
    obtain ⟨cells', is', e1, e2, e3⟩ := hn
    rw [upd_self] at e1
    injection e1 with _ e1
    subst e1
    simp [loopAt, loopsOf, Tryz.f87, g0, g3, g4, hi, hi', hxi, hwi, hx, hb, hvl, hv2, hlow, ho, hst, -splice, -SV.one]
    exact ⟨by omega, is', by first | exact e2 | (rw [Nat.mul_one] at e2; exact e2), e3⟩
  · rintro s o q ⟨g0, g3, g4, hq, cells, is, ho, hall, his⟩
    have hh := fill_end (sz := 2) (z := [X.t (T.str []), X.nil]) (f := rdC) (l := xs) hne (by omega) (fun _ => rfl) rfl ho hall (fun hm => by have := (his 0 hm).1; omega)
    simp [loopAt, loopsOf, Tryz.f87, g0, g3, g4]
    exact ⟨_, fun s2 q2 N2 => Held.take (st := ⟨s2, o, q2, N2⟩) hh 6 (by omega)⟩
theorem toRdS (xs : List (Rd)) (hl : xs.length < 4294967296) (hf : ∀ x ∈ xs, run E (.call 190 [.t (rdT x)]) = some (.res [.agg (rdC x)] [])) : run E (.call 87 [.t (.list (xs.map rdT))]) = some (.res [rdsX xs] []) := by
  rw [run_call E 87 _ rfl Tryz.func87 rfl rfl rfl (by simp)]
  by_cases h0 : xs = []
  · subst h0
    have lp := sk (fun s o q hI => loop_for (c := loopAt Tryz.f87 0) (N := 23)
      (fun i s o q => s 0 = .t (.list []) ∧ s 3 = .nil ∧ s 4 = .t (.int .i64 i))
      (fun e s' o' q' => e = .exit 0 ∧ s' 3 = .nil) 0
      (by rintro i s o q hi _; omega)
      (by
        rintro s o q ⟨g0, g3, g4⟩
        simp at g4
        simp [loopAt, loopsOf, Tryz.f87, g0, g3, g4])
      0 0 s o q (by omega) hI)
    simp only [loopAt, loopsOf, Tryz.f87] at lp
    obtain ⟨X, A, B, C, hx⟩ := lp
    simp at hx
    simp [hx, rdsX, srX]
  · obtain ⟨X, A, B, C, M, _, hx⟩ := skH (fun _ : List Nat => True) [] trivial (toRdS_loop xs h0 hl hf)
    simp only [loopAt, loopsOf, Tryz.f87] at hx
    simp at hx
    have h1 : xs.length ≤ 140737488355328 := by omega
    have h2 : xs.length * 40 ≤ 140737488355328 := by omega
    have h3 : ¬ xs.length = 0 := fun e => h0 (List.eq_nil_of_length_eq_zero e)
    simp [h0, h1, h2, h3, hx]
theorem toDnS_loop (xs : List (Dn)) (hne : xs ≠ []) (hl : xs.length < 4294967296) (hf : ∀ x ∈ xs, run E (.call 27 [.t (dnT x)]) = some (.res [.agg (dnC x)] [])) : ∀ s o q, (s 0 = .t (.list (xs.map dnT)) ∧ s 3 = .sl 0 xs.length 6 ∧ s 4 = .t (.int .i64 0) ∧ q = 1 ∧ o 0 = .box 59 (List.replicate xs.length [SV.t (T.int .i64 0), SV.t (T.int .i64 0), SV.nil, SV.nil, SV.t (T.bool false), SV.t (T.bool false)]).flatten) →
    ∃ e s' o' q', run E (.code (.loop (loopAt Tryz.f42 0)) ⟨s, o, q, 23⟩) = some (.st e ⟨s', o', q', 23⟩) ∧ ∃ ids : List Nat, True ∧ (e = .exit 0 ∧ s' 3 = .sl 0 xs.length 6 ∧ ∀ s2 q2 N2, takeF 6 ⟨s2, o', q2, N2⟩ (.sl 0 xs.length 6) = some (dnsX xs, ⟨s2, deadO ids o', q2, N2⟩)) := by
  intro s o q hI
  have hz : ∀ o, AllH (Held 4 o) [SV.t (T.int .i64 0), SV.t (T.int .i64 0), SV.nil, SV.nil, SV.t (T.bool false), SV.t (T.bool false)] [X.t (T.int .i64 0), X.t (T.int .i64 0), X.nil, X.nil, X.t (T.bool false), X.t (T.bool false)] [] := fun o => consT rfl (consT rfl (consN (consN (consT rfl (consT rfl .nil)))))
  refine loop_for (c := loopAt Tryz.f42 0) (N := 23)
    (fun i s o q => s 0 = .t (.list (xs.map dnT)) ∧ s 3 = .sl 0 xs.length 6 ∧ s 4 = .t (.int .i64 i) ∧ 0 < q ∧ ∃ cells is, o 0 = .box 59 cells ∧ AllH (Held 4 o) cells (fillX dnC [X.t (T.int .i64 0), X.t (T.int .i64 0), X.nil, X.nil, X.t (T.bool false), X.t (T.bool false)] xs i) is ∧ ∀ k ∈ is, 0 < k ∧ k < q)
    (fun e s' o' q' => ∃ ids : List Nat, True ∧ (e = .exit 0 ∧ s' 3 = .sl 0 xs.length 6 ∧ ∀ s2 q2 N2, takeF 6 ⟨s2, o', q2, N2⟩ (.sl 0 xs.length 6) = some (dnsX xs, ⟨s2, deadO ids o', q2, N2⟩))) xs.length ?_ ?_
    xs.length 0 s o q (by omega) (by
      obtain ⟨h0, h3, h4, hq, ho⟩ := hI
      obtain ⟨cells, is, g1, g2, g3⟩ := fill_start0 (f := dnC) xs (hz o) ho
      exact ⟨h0, h3, h4, by omega, cells, is, g1, g2, by subst g3; simp⟩)
  · rintro i s o q hi ⟨g0, g3, g4, hq, cells, is, ho, hall, his⟩
    have hi' : (i : Int) < (xs.length : Int) := by omega
    have hwi := wrap_succ (n := i) (by omega)
    have hxi : xs[i]? = some xs[i] := List.getElem?_eq_getElem hi
    have hx := hf _ (List.getElem_mem hi)
    have hown : X.owns (dnC xs[i]) 4 = true := dnC_own xs[i]
    obtain ⟨cs, hcs⟩ : ∃ cs, cs = dnC xs[i] := ⟨_, rfl⟩
    have hcl : cs.length = 6 := by rw [hcs]; rfl
    rw [← hcs] at hx hown
    have hb := bindCells_eq cs
    have hvl : (X.bVs cs q).length = 6 := by rw [bVs_len]; exact hcl
    have hv1 : ∀ x ∈ X.bVs cs q, x.one = true := bVs_one hown q
    have hlow : X.bOs cs q o 0 = o 0 := X.bOs_low cs q o 0 hq
    have hN := X.bNs_le cs q
    have hlen : xs.length * 6 = cells.length := by rw [← hall.len, fillX_len dnC _ (fun _ => rfl) xs (by omega)]; rfl
    have hst : i * 6 + 6 ≤ cells.length := by omega
    obtain ⟨js, hj1, hj2⟩ := X.bHelds cs 4 q o hown
    have hv2 := eq_true hv1
    have hn := fill_next (o := o) (o' := upd (X.bOs cs q o) 0 (.box 59 (splice cells (i * 6) (X.bVs cs q)))) (b := 0) (ty := 59) (q := q) (q' := X.bNs cs q) (sz := 6) (z := [X.t (T.int .i64 0), X.t (T.int .i64 0), X.nil, X.nil, X.t (T.bool false), X.t (T.bool false)]) (f := dnC) (js := js) (vs := X.bVs cs q) hi (fun _ => rfl) rfl hall his (by rw [← hcs]; exact hj1.frame (fun j hj => upd_ne _ _ (by have := (hj2 j hj).1; omega))) hj2 hq hN (fun j h1 h2 => by rw [upd_ne _ _ h2]; exact X.bOs_low cs q o j h1) (upd_self _ _ _)
    obtain ⟨cells', is', e1, e2, e3⟩ := hn
    rw [upd_self] at e1
    injection e1 with _ e1
    subst e1
    simp [loopAt, loopsOf, Tryz.f42, g0, g3, g4, hi, hi', hxi, hwi, hx, hb, hvl, hv2, hlow, ho, hst, -splice, -SV.one]
    exact ⟨by omega, is', by first | exact e2 | (rw [Nat.mul_one] at e2; exact e2), e3⟩
  · rintro s o q ⟨g0, g3, g4, hq, cells, is, ho, hall, his⟩
    have hh := fill_end (sz := 6) (z := [X.t (T.int .i64 0), X.t (T.int .i64 0), X.nil, X.nil, X.t (T.bool false), X.t (T.bool false)]) (f := dnC) (l := xs) hne (by omega) (fun _ => rfl) rfl ho hall (fun hm => by have := (his 0 hm).1; omega)
    simp [loopAt, loopsOf, Tryz.f42, g0, g3, g4]
    exact ⟨_, fun s2 q2 N2 => Held.take (st := ⟨s2, o, q2, N2⟩) hh 6 (by omega)⟩
theorem toDnS (xs : List (Dn)) (hl : xs.length < 4294967296) (hf : ∀ x ∈ xs, run E (.call 27 [.t (dnT x)]) = some (.res [.agg (dnC x)] [])) : run E (.call 42 [.t (.list (xs.map dnT))]) = some (.res [dnsX xs] []) := by
  rw [run_call E 42 _ rfl Tryz.func42 rfl rfl rfl (by simp)]
  by_cases h0 : xs = []
  · subst h0
    have lp := sk (fun s o q hI => loop_for (c := loopAt Tryz.f42 0) (N := 23)
      (fun i s o q => s 0 = .t (.list []) ∧ s 3 = .nil ∧ s 4 = .t (.int .i64 i))
      (fun e s' o' q' => e = .exit 0 ∧ s' 3 = .nil) 0
      (by rintro i s o q hi _; omega)
      (by
        rintro s o q ⟨g0, g3, g4⟩
        simp at g4
        simp [loopAt, loopsOf, Tryz.f42, g0, g3, g4])
      0 0 s o q (by omega) hI)
    simp only [loopAt, loopsOf, Tryz.f42] at lp
    obtain ⟨X, A, B, C, hx⟩ := lp
    simp at hx
    simp [hx, dnsX, srX]
  · obtain ⟨X, A, B, C, M, _, hx⟩ := skH (fun _ : List Nat => True) [] trivial (toDnS_loop xs h0 hl hf)
    simp only [loopAt, loopsOf, Tryz.f42] at hx
    simp at hx
    have h1 : xs.length ≤ 140737488355328 := by omega
    have h2 : xs.length * 72 ≤ 140737488355328 := by omega
    have h3 : ¬ xs.length = 0 := fun e => h0 (List.eq_nil_of_length_eq_zero e)
    simp [h0, h1, h2, h3, hx]
end Go.Nd
/- The laws' marks: texts. -/
set_option linter.unusedSimpArgs false
set_option linter.unusedVariables false
namespace Go.Nd
open Go.Ev Go.Proofs Go.Pu
set_option maxRecDepth 100000
set_option maxHeartbeats 4000000
/-- The digits of a number ahead of a text. -/
def digs (n : Nat) (acc : Bytes) : Bytes := if h : n = 0 then acc else digs (n / 10) (byteAt (48 + (n : Int) % 10) 0 :: acc)
termination_by n
decreasing_by omega
theorem digs_len : ∀ (n : Nat) (acc : Bytes), (digs n acc).length ≤ acc.length + n := by
  intro n
  induction n using Nat.strongRecOn with
  | ind n ih =>
    intro acc
    rw [digs]
    by_cases h : n = 0
    · rw [dif_pos h]; omega
    · rw [dif_neg h]
      have := ih (n / 10) (by omega) (byteAt (48 + (n : Int) % 10) 0 :: acc)
      simp at this
      omega
def markT (n : Nat) : Bytes := if n = 0 then [109, 48] else 109 :: digs n []
theorem markText (n : Nat) (hn : n ≤ 1099511627776) : run E (.call 238 [xI n]) = some (.res [xS (markT n)] []) := by
  rw [run_call E 238 _ rfl Tryz.func238 rfl rfl rfl (by simp)]
  unfold markT
  by_cases h0 : n = 0
  · subst h0
    simp
  · have hpos : ¬ ((n : Int) ≤ 0) := by omega
    have lp := fun (R : Bytes) (hR : R = digs n []) => sk (fun s o q hI => loop_wf (c := loopAt Tryz.f238 0) (N := 20)
      (fun k s o q => ∃ m acc, s 0 = .t (.int .i64 (m : Nat)) ∧ s 3 = .t (.str acc) ∧ k = m ∧ acc.length + m ≤ 1099511627776 ∧ digs m acc = R)
      (fun e s' o' q' => e = .exit 0 ∧ s' 3 = .t (.str R))
      (by
        rintro k s o q ⟨m, acc, s0, s3, hk, hl, hp⟩
        rw [digs] at hp
        by_cases hm : m = 0
        · rw [dif_pos hm] at hp
          subst hm
          subst hp
          simp at s0
          simp [loopAt, loopsOf, Tryz.f238, s0, s3]
        · rw [dif_neg hm] at hp
          have hm' : (0 : Int) < (m : Int) := by omega
          have hmp : 0 < m := by omega
          have hw2 : IntKind.i64.wrap ((m : Int) / 10) = ((m / 10 : Nat) : Int) := by rw [wrap_of (by omega) (by omega)]; omega
          have hw3 : IntKind.i64.wrap (48 + (m : Int) % 10) = 48 + (m : Int) % 10 := wrap_of (by omega) (by omega)
          have hw4 := u8_wrap (48 + (m : Int) % 10)
          have hr1 : (m : Int).tmod 10 = (m : Int) % 10 := Int.tmod_eq_emod_of_nonneg (by omega)
          have hr2 : (m : Int).tdiv 10 = (m : Int) / 10 := Int.tdiv_eq_ediv_of_nonneg (by omega)
          have hcc : 1 + acc.length ≤ 140737488355328 := by omega
          simp [loopAt, loopsOf, Tryz.f238, s0, s3, hm', hmp, hr1, hr2, hw2, hw3, hw4, hcc]
          exact ⟨m / 10, by omega, m / 10, rfl, rfl, by omega, hp⟩)
      n s o q hI)
    simp only [loopAt, loopsOf, Tryz.f238] at lp
    obtain ⟨X, A, B, C, hx⟩ := lp _ rfl
    have hx' := fun s o q a0 a3 => hx s o q ⟨n, [], a0, a3, rfl, by simp; omega, rfl⟩
    clear hx lp
    simp at hx'
    have hdl := digs_len n []
    have hcc : 1 + (digs n []).length ≤ 140737488355328 := by simp at hdl; omega
    simp [hpos, h0, hx', hcc]
end Go.Nd
/- The laws' marks, through slices of slices. -/
set_option linter.unusedSimpArgs false
set_option linter.unusedVariables false
namespace Go.Nd
open Go.Ev Go.Proofs Go.Pu
set_option maxRecDepth 100000
set_option maxHeartbeats 16000000
/-- A number and its text. -/
theorem markN (K : Nat) (h : K < 1099511627776) : ∃ b, run E (.call 238 [.t (.int .i64 (K : Int))]) = some (.res [.t (.str b)] []) ∧ IntKind.i64.wrap ((K : Int) + 1) = ((K + 1 : Nat) : Int) :=
  ⟨_, markText K (by omega), wrap_succ (by omega)⟩
/-! Flat rows. -/
def isTrm (x : T) : Prop := ∃ a b c d e, x = .agg [.int .i64 a, .str b, .int .i64 c, .int .i64 d, .str e]
theorem markTerm_loop (n k : Nat) (hk : k + 5 * n < 1099511627776) (hn : n < 4294967296) : ∀ s o q, (s 0 = .row 0 ∧ s 1 = .t (.int .i64 (k : Nat)) ∧ s 5 = .t (.int .i64 0) ∧ ∃ xs, o 0 = .row 120 xs true ∧ xs.length = n ∧ ∀ x ∈ xs, isTrm x) →
    ∃ e s' o' q', run E (.code (.loop (loopAt Tryz.f323 0)) ⟨s, o, q, 53⟩) = some (.st e ⟨s', o', q', 53⟩) ∧ ∃ xs : List T, True ∧ (e = .exit 0 ∧ s' 0 = .row 0 ∧ s' 1 = .t (.int .i64 (k + 5 * n : Nat)) ∧ o' 0 = .row 120 xs true) := by
  intro s o q hI
  refine loop_for (c := loopAt Tryz.f323 0) (N := 53)
    (fun i s o q => s 0 = .row 0 ∧ s 1 = .t (.int .i64 (k + 5 * i : Nat)) ∧ s 5 = .t (.int .i64 i) ∧ ∃ xs, o 0 = .row 120 xs true ∧ xs.length = n ∧ ∀ x ∈ xs, isTrm x)
    (fun e s' o' q' => ∃ xs : List T, True ∧ (e = .exit 0 ∧ s' 0 = .row 0 ∧ s' 1 = .t (.int .i64 (k + 5 * n : Nat)) ∧ o' 0 = .row 120 xs true)) n ?_ ?_
    n 0 s o q (by omega) (by simpa using hI)
  · rintro i s o q hi ⟨h0, h1, h5, xs, ho, hl, hx⟩
    have hil : i < xs.length := by omega
    have hi' : (i : Int) < (xs.length : Int) := by omega
    have hwi := wrap_succ (n := i) (by omega)
    obtain ⟨a, b, c, d, e, hxi⟩ := hx _ (List.getElem_mem hil)
    have hxi' : xs[i]? = some (.agg [.int .i64 a, .str b, .int .i64 c, .int .i64 d, .str e]) := by rw [List.getElem?_eq_getElem hil, hxi]
    obtain ⟨b0, m0, w0⟩ := markN (k + 5 * i) (by omega)
    obtain ⟨b1, m1, w1⟩ := markN (k + 5 * i + 1) (by omega)
    obtain ⟨b2, m2, w2⟩ := markN (k + 5 * i + 1 + 1) (by omega)
    obtain ⟨b3, m3, w3⟩ := markN (k + 5 * i + 1 + 1 + 1) (by omega)
    obtain ⟨b4, m4, w4⟩ := markN (k + 5 * i + 1 + 1 + 1 + 1) (by omega)
    have hlast : ((k + 5 * i + 1 + 1 + 1 + 1 + 1 : Nat) : Int) = ((k + 5 * (i + 1) : Nat) : Int) := by omega
    rw [hlast] at w4
    generalize ((k + 5 * (i + 1) : Nat) : Int) = K5 at *
    generalize ((k + 5 * i + 1 + 1 + 1 + 1 : Nat) : Int) = K4 at *
    generalize ((k + 5 * i + 1 + 1 + 1 : Nat) : Int) = K3 at *
    generalize ((k + 5 * i + 1 + 1 : Nat) : Int) = K2 at *
    generalize ((k + 5 * i + 1 : Nat) : Int) = K1 at *
    generalize ((k + 5 * i : Nat) : Int) = K0 at *
    simp [loopAt, loopsOf, Tryz.f323, h0, h1, h5, ho, hi', hil, hwi, hxi, hxi', w0, w1, w2, w3, w4, m1, m4]
    refine ⟨hl, fun x hx' => ?_⟩
    rcases List.mem_or_eq_of_mem_set hx' with h | h
    · exact hx x h
    · exact ⟨_, _, _, _, _, h⟩
  · rintro s o q ⟨h0, h1, h5, xs, ho, hl, hx⟩
    simp [loopAt, loopsOf, Tryz.f323, h0, h1, h5, ho, hl]
theorem markTermS (ts : List Trm) (k : Nat) (hk : k + 5 * ts.length < 1099511627776) (hn : ts.length < 4294967296) : ∃ xs : List T, run E (.call 323 [.row 120 (ts.map trmT), xI k]) = some (.res [xI (k + 5 * ts.length : Nat)] [some (.row 120 xs)]) := by
  obtain ⟨X, A, B, C, M, _, hx⟩ := skH (fun _ : List T => True) [] trivial (markTerm_loop ts.length k hk hn)
  simp only [loopAt, loopsOf, Tryz.f323] at hx
  have hx' := fun s o q a0 a1 a5 a6 => hx s o q ⟨a0, a1, a5, ts.map trmT, a6, by simp, fun x hx => by
    obtain ⟨t, _, rfl⟩ := List.mem_map.1 hx
    exact ⟨_, _, _, _, _, rfl⟩⟩
  clear hx
  simp at hx'
  obtain ⟨Y, hY⟩ : ∃ Y, run E (.call 323 [.row 120 (ts.map trmT), xI k]) = Y := ⟨_, rfl⟩
  rw [hY]
  rw [run_call E 323 _ rfl Tryz.func323 rfl rfl rfl (by simp)] at hY
  simp [hx'] at hY
  subst hY
  exact ⟨_, rfl⟩
/-! Slices of structs. -/
def cntC (f : List (List Trm)) : Nat := (f.map fun c => 5 * c.length).sum
theorem cntC_take {f : List (List Trm)} {i : Nat} (hi : i < f.length) : cntC (f.take (i + 1)) = cntC (f.take i) + 5 * f[i].length := by
  unfold cntC
  have e : f.take (i + 1) = f.take i ++ [f[i]] := by rw [List.take_add_one, List.getElem?_eq_getElem hi]; rfl
  rw [e, List.map_append, List.sum_append_nat]
  simp
theorem cntC_le {f : List (List Trm)} {i : Nat} : cntC (f.take i) ≤ cntC f := by
  have : cntC f = cntC (f.take i) + cntC (f.drop i) := by
    unfold cntC
    rw [← List.sum_append_nat, ← List.map_append, List.take_append_drop]
  omega
theorem held_row {d : Nat} {o : Nat → Ob} {v : SV} {e : Nat} {xs : List T} {ids : List Nat} (h : Held d o v (.row e xs) ids) : ∃ r, v = .row r ∧ ids = [r] ∧ o r = .row e xs true := by
  have h0 : ∀ {v : SV} {ids : List Nat}, Held0 o v (.row e xs) ids → ∃ r, v = .row r ∧ ids = [r] ∧ o r = .row e xs true := by
    rintro v ids (⟨t, _, _, h, _⟩ | ⟨_, h, _⟩ | ⟨r, e', xs', rfl, h, rfl, ho⟩)
    · cases h
    · cases h
    · injection h with h1 h2
      subst h1; subst h2
      exact ⟨r, rfl, rfl, ho⟩
  cases d with
  | zero => exact h0 h
  | succ d =>
    rcases h with h | ⟨b, n, sz, ty, cells, xs', is, _, h, _⟩
    · exact h0 h
    · cases h
theorem markClause_loop (f : List (List Trm)) (b k : Nat) (hk : k + cntC f < 1099511627776) (hn : f.length < 4294967296) (hl : ∀ c ∈ f, c.length < 4294967296) : ∀ s o q, (s 0 = .sl b f.length 1 ∧ s 1 = .t (.int .i64 (k : Nat)) ∧ s 5 = .t (.int .i64 0) ∧ ∃ cells is, o b = .box 236 cells ∧ cells.length = f.length ∧ AllH (Held 4 o) cells ((f.map clsC).flatten) is ∧ b ∉ is) →
    ∃ e s' o' q', run E (.code (.loop (loopAt Tryz.f239 0)) ⟨s, o, q, 20⟩) = some (.st e ⟨s', o', q', 20⟩) ∧ (e = .exit 0 ∧ s' 0 = .sl b f.length 1 ∧ s' 1 = .t (.int .i64 (k + cntC f : Nat))) := by
  intro s o q hI
  refine loop_for (c := loopAt Tryz.f239 0) (N := 20)
    (fun i s o q => s 0 = .sl b f.length 1 ∧ s 1 = .t (.int .i64 (k + cntC (f.take i) : Nat)) ∧ s 5 = .t (.int .i64 i) ∧ ∃ cells is, o b = .box 236 cells ∧ cells.length = f.length ∧ AllH (Held 4 o) (cells.drop i) (((f.drop i).map clsC).flatten) is ∧ b ∉ is)
    (fun e s' o' q' => e = .exit 0 ∧ s' 0 = .sl b f.length 1 ∧ s' 1 = .t (.int .i64 (k + cntC f : Nat))) f.length ?_ ?_
    f.length 0 s o q (by omega) (by simpa [cntC] using hI)
  · rintro i s o q hi ⟨h0, h1, h5, cells, is, hb, hlc, hall, hbi⟩
    have hi' : (i : Int) < (f.length : Int) := by omega
    have hwi := wrap_succ (n := i) (by omega)
    have hil : i + 1 ≤ cells.length := by omega
    have hil2 : i + 1 ≤ f.length := by omega
    rw [List.drop_eq_getElem_cons hi, List.map_cons, List.flatten_cons] at hall
    have hdc : cells.drop i = cells[i] :: cells.drop (i + 1) := List.drop_eq_getElem_cons (by omega)
    rw [hdc] at hall
    cases hall with
    | @cons v x i1 vs xs i2 hv hr hd =>
      obtain ⟨r, hvr, rfl, hor⟩ := held_row hv
      rw [hvr] at hdc
      have hrb : r ≠ b := fun e => hbi (by simp [e])
      have hbr : b ≠ r := fun e => hrb e.symm
      obtain ⟨ys, hm⟩ := markTermS f[i] (k + cntC (f.take i)) (by have := cntC_le (f := f) (i := i + 1); rw [cntC_take hi] at this; omega) (hl _ (List.getElem_mem hi))
      rw [show k + cntC (f.take i) + 5 * f[i].length = k + cntC (f.take (i + 1)) by rw [cntC_take hi]; omega] at hm
      simp only [Int.natCast_add] at hm
      simp [loopAt, loopsOf, Tryz.f239, h0, h1, h5, hb, hi, hi', hwi, hil2, hlc, hdc, hor, hrb, hbr, hm]
      refine ⟨i2, ?_, fun hm2 => hbi (by simp [hm2])⟩
      rw [← List.map_drop]
      refine hr.frame (fun j hj => ?_)
      have hjr : j ≠ r := fun e => hd r (by simp) (e ▸ hj)
      rw [upd_ne _ _ hjr, upd_ne _ _ hjr]
  · rintro s o q ⟨h0, h1, h5, cells, is, hb, hlc, hall, hbi⟩
    rw [List.take_length] at h1
    simp [loopAt, loopsOf, Tryz.f239, h0, h1, h5]
theorem held_sref {d : Nat} {o : Nat → Ob} {v : SV} {ty n sz : Nat} {xs : List X} {ids : List Nat} (h : Held d o v (.sref ty n sz xs) ids) (hd : d ≤ 5) : ∃ b cells is, v = .sl b n sz ∧ ids = b :: is ∧ o b = .box ty cells ∧ cells.length = n * sz ∧ AllH (Held 4 o) cells xs is ∧ b ∉ is := by
  cases d with
  | zero =>
    rcases h with ⟨t, _, _, h, _⟩ | ⟨_, h, _⟩ | ⟨r, e', xs', _, h, _⟩ <;> cases h
  | succ d =>
    rcases h with h | ⟨b, n', sz', ty', cells, xs', is, rfl, h, rfl, h1, h2, h3, h4, h5⟩
    · rcases h with ⟨t, _, _, h, _⟩ | ⟨_, h, _⟩ | ⟨r, e', xs', _, h, _⟩ <;> cases h
    · injection h with q1 q2 q3 q4
      subst q1; subst q2; subst q3; subst q4
      exact ⟨b, cells, is, rfl, rfl, h1, h2, h4.mono (fun v x i _ _ h => h.upTo (by omega)), h5⟩
theorem srX_ne {α : Type} {ty sz : Nat} {f : α → List X} {l : List α} (h : l ≠ []) : srX ty sz f l = .sref ty l.length sz ((l.map f).flatten) := by
  unfold srX
  rw [if_neg h]
/-- What comes back of a slice that went over. -/
def BackOK (x : X) (bs : Option X) : Prop := bs = none ∨ (bs = some .nil ∧ x = .nil)
theorem back_rule {d : Nat} {o : Nat → Ob} {v : SV} {x : X} {ids : List Nat} {bs : Option X} (h : Held d o v x ids) (hb : BackOK x bs) (st st0 : St) : st.regain st0 v bs = some st := by
  rcases hb with rfl | ⟨rfl, rfl⟩
  · cases v <;> rfl
  · have h0 : ∀ {v : SV} {ids : List Nat}, Held0 o v .nil ids → v = .nil := by
      rintro v ids (⟨t, _, _, h, _⟩ | ⟨h, _, _⟩ | ⟨r, e', xs', _, h, _⟩)
      · cases h
      · exact h
      · cases h
    have : v = .nil := by
      cases d with
      | zero => exact h0 h
      | succ d =>
        rcases h with h | ⟨b, n, sz, ty, cells, xs', is, _, h, _⟩
        · exact h0 h
        · cases h
    subst this
    rfl
theorem bind_int (st : St) (k : IntKind) (n : Int) : st.bind (.t (.int k n)) = (.t (.int k n), st) := rfl
theorem markClauseS (f : List (List Trm)) (k : Nat) (hk : k + cntC f < 1099511627776) (hn : f.length < 4294967296) (hl : ∀ c ∈ f, c.length < 4294967296) : ∃ bs, run E (.call 239 [clsX f, xI k]) = some (.res [xI (k + cntC f : Nat)] [bs]) ∧ BackOK (clsX f) bs := by
  by_cases h0 : f = []
  · subst h0
    have lp := sk (fun s o q hI => loop_for (c := loopAt Tryz.f239 0) (N := 20)
      (fun i s o q => s 0 = .nil ∧ s 1 = .t (.int .i64 (k : Nat)) ∧ s 5 = .t (.int .i64 i))
      (fun e s' o' q' => e = .exit 0 ∧ s' 0 = .nil ∧ s' 1 = .t (.int .i64 (k : Nat))) 0
      (by rintro i s o q hi _; omega)
      (by
        rintro s o q ⟨g0, g1, g5⟩
        simp at g5
        simp [loopAt, loopsOf, Tryz.f239, g0, g1, g5])
      0 0 s o q (by omega) hI)
    simp only [loopAt, loopsOf, Tryz.f239] at lp
    obtain ⟨X, A, B, C, hx⟩ := lp
    simp at hx
    refine ⟨some .nil, ?_, .inr ⟨rfl, rfl⟩⟩
    rw [run_call E 239 _ rfl Tryz.func239 rfl rfl rfl (by simp)]
    simp [hx, clsX, srX, cntC]
  · obtain ⟨ids, hh, _⟩ := X.bHeld (clsX f) 1 0 (fun _ => Ob.dead) (clsX_own f)
    have hsr : clsX f = .sref 236 f.length 1 ((f.map clsC).flatten) := srX_ne h0
    have hb := bind_own (clsX_own f)
    generalize hO : X.bO (clsX f) 0 (fun _ => Ob.dead) = O at hh
    generalize hV : X.bV (clsX f) 0 = V at hh
    rw [hsr] at hh
    obtain ⟨b, cells, is, rfl, rfl, g1, g2, g3, g4⟩ := held_sref hh (by omega)
    obtain ⟨X, A, B, C, hx⟩ := sk (markClause_loop f b k hk hn hl)
    simp only [loopAt, loopsOf, Tryz.f239] at hx
    have hx' := fun s q a0 a1 a5 => hx s O q ⟨a0, a1, a5, cells, is, g1, by omega, g3, g4⟩
    clear hx
    simp at hx'
    refine ⟨none, ?_, .inl rfl⟩
    rw [run_call E 239 _ rfl Tryz.func239 rfl rfl rfl (by simp)]
    simp [hb, bind_int, hO, hV, hx', -St.bind]
/-- Any value that is held may go over. -/
theorem give_rule {d : Nat} {o : Nat → Ob} {v : SV} {x : X} {ids : List Nat} (h : Held d o v x ids) (hd : d ≤ 6) (hp : x.plain = false) (st : St) (ho : ∀ j ∈ ids, st.o j = o j) : st.giveMut v = some x ∧ st.mutIds v = ids :=
  Held.mut (st := st) (h.frame ho) hd hp
def cntR (r : Rd) : Nat := 1 + cntC r.filter
def cntRs (l : List Rd) : Nat := (l.map cntR).sum
theorem sum_take {α : Type} (g : α → Nat) {l : List α} {i : Nat} (hi : i < l.length) : ((l.take (i + 1)).map g).sum = ((l.take i).map g).sum + g l[i] := by
  have e : l.take (i + 1) = l.take i ++ [l[i]] := by rw [List.take_add_one, List.getElem?_eq_getElem hi]; rfl
  rw [e, List.map_append, List.sum_append_nat]
  simp
theorem sum_le {α : Type} (g : α → Nat) (l : List α) (i : Nat) : ((l.take i).map g).sum ≤ (l.map g).sum := by
  have : (l.map g).sum = ((l.take i).map g).sum + ((l.drop i).map g).sum := by
    rw [← List.sum_append_nat, ← List.map_append, List.take_append_drop]
  omega
theorem cut_two {cells : List SV} {i : Nat} {a v : SV} {post : List SV} (h : cells.drop (i * 2) = a :: v :: post) : i * 2 + 2 ≤ cells.length ∧ ∀ x : SV, (splice cells (i * 2) [x]).length = cells.length ∧ (splice cells (i * 2) [x]).drop (i * 2 + 1) = v :: post ∧ (splice cells (i * 2) [x]).drop (i * 2 + 2) = post := by
  have hl : i * 2 + 2 ≤ cells.length := by
    have := congrArg List.length h
    simp at this
    omega
  refine ⟨hl, fun x => ⟨splice_length _ _ _ (by simp; omega), ?_, ?_⟩⟩
  · rw [splice_drop _ _ _ _ (by simp) (by simp; omega), ← List.drop_drop, h]; rfl
  · rw [splice_drop _ _ _ _ (by simp) (by simp; omega), ← List.drop_drop, h]; rfl
theorem markRead_loop (l : List Rd) (b k : Nat) (hk : k + cntRs l < 1099511627776) (hn : l.length < 4294967296) (hl : ∀ r ∈ l, r.filter.length < 4294967296 ∧ ∀ c ∈ r.filter, c.length < 4294967296) : ∀ s o q, (s 0 = .sl b l.length 2 ∧ s 1 = .t (.int .i64 (k : Nat)) ∧ s 5 = .t (.int .i64 0) ∧ ∃ cells is, o b = .box 151 cells ∧ cells.length = l.length * 2 ∧ AllH (Held 4 o) cells ((l.map rdC).flatten) is ∧ b ∉ is) →
    ∃ e s' o' q', run E (.code (.loop (loopAt Tryz.f139 0)) ⟨s, o, q, 29⟩) = some (.st e ⟨s', o', q', 29⟩) ∧ (e = .exit 0 ∧ s' 0 = .sl b l.length 2 ∧ s' 1 = .t (.int .i64 (k + cntRs l : Nat))) := by
  intro s o q hI
  refine loop_for (c := loopAt Tryz.f139 0) (N := 29)
    (fun i s o q => s 0 = .sl b l.length 2 ∧ s 1 = .t (.int .i64 (k + cntRs (l.take i) : Nat)) ∧ s 5 = .t (.int .i64 i) ∧ ∃ cells is, o b = .box 151 cells ∧ cells.length = l.length * 2 ∧ AllH (Held 4 o) (cells.drop (i * 2)) (((l.drop i).map rdC).flatten) is ∧ b ∉ is)
    (fun e s' o' q' => e = .exit 0 ∧ s' 0 = .sl b l.length 2 ∧ s' 1 = .t (.int .i64 (k + cntRs l : Nat))) l.length ?_ ?_
    l.length 0 s o q (by omega) (by simpa [cntRs] using hI)
  · rintro i s o q hi ⟨h0, h1, h5, cells, is, hb, hlc, hall, hbi⟩
    have hi' : (i : Int) < (l.length : Int) := by omega
    have hwi := wrap_succ (n := i) (by omega)
    rw [List.drop_eq_getElem_cons hi, List.map_cons, List.flatten_cons] at hall
    generalize hdc : cells.drop (i * 2) = dc at hall
    cases hall with
    | @cons a x i1 vs xs i2 ha hr hd =>
      cases hr with
      | @cons v x2 i3 post xs2 i4 hv hr hd2 =>
        obtain ⟨c1, c2⟩ := cut_two hdc
        have hsum := sum_take cntR hi
        have hle := sum_le cntR l (i + 1)
        obtain ⟨b0, m0, w0⟩ := markN (k + cntRs (l.take i)) (by unfold cntRs at *; omega)
        obtain ⟨bs, hm, hbk⟩ := markClauseS l[i].filter (k + cntRs (l.take i) + 1) (by unfold cntRs cntR at *; omega) (hl _ (List.getElem_mem hi)).1 (hl _ (List.getElem_mem hi)).2
        rw [show k + cntRs (l.take i) + 1 + cntC l[i].filter = k + cntRs (l.take (i + 1)) by unfold cntRs cntR at *; omega] at hm
        have hb3 : ∀ j ∈ i3, j ≠ b := fun j hj e => hbi (by subst e; simp [hj])
        generalize ((k + cntRs (l.take i) : Nat) : Int) = K0 at *
        generalize ((k + cntRs (l.take i) + 1 : Nat) : Int) = K1 at *
        generalize ((k + cntRs (l.take (i + 1)) : Nat) : Int) = K2 at *
        have hg := fun (s : Nat → SV) (q N : Nat) (X : Ob) => give_rule hv (by omega) srX_plain ⟨s, upd o b X, q, N⟩ (fun j hj => upd_ne _ _ (hb3 j hj))
        have hg1 := fun s q N X => (hg s q N X).1
        have hg2 := fun s q N X => (hg s q N X).2
        have hrg := back_rule hv hbk
        have hnd := hv.nodup
        have hbn : b ∉ i3 := fun hm => hb3 b hm rfl
        have hdb : ∀ f : Nat → Ob, deadO i3 f b = f b := fun f => by simp [deadO, hbn]
        have c3 : i * 2 + 1 ≤ cells.length := by omega
        simp [loopAt, loopsOf, Tryz.f139, h0, h1, h5, hb, hi, hi', hwi, w0, m0, c1, c3, (c2 _).1, (c2 _).2.1, hg1, hg2, hnd, hdb, hm, hrg, kill_dead, deadO_nil, -splice, -kill, -St.giveMut, -St.mutIds, -St.regain]
        refine ⟨hlc, i4, ?_, fun hm => hbi (by simp [hm])⟩
        rw [← List.map_drop, show (i + 1) * 2 = i * 2 + 2 by omega, (c2 _).2.2]
        refine hr.frame (fun j hj => ?_)
        have hj3 : j ∉ i3 := fun hm => hd2 j hm hj
        have hjb : j ≠ b := fun e => hbi (by subst e; simp [hj])
        simp only [deadO, hj3, if_false]
        exact upd_ne _ _ hjb
  · rintro s o q ⟨h0, h1, h5, cells, is, hb, hlc, hall, hbi⟩
    rw [List.take_length] at h1
    simp [loopAt, loopsOf, Tryz.f139, h0, h1, h5]
theorem markReadS (l : List Rd) (k : Nat) (hk : k + cntRs l < 1099511627776) (hn : l.length < 4294967296) (hl : ∀ r ∈ l, r.filter.length < 4294967296 ∧ ∀ c ∈ r.filter, c.length < 4294967296) : ∃ bs, run E (.call 139 [rdsX l, xI k]) = some (.res [xI (k + cntRs l : Nat)] [bs]) ∧ BackOK (rdsX l) bs := by
  by_cases h0 : l = []
  · subst h0
    have lp := sk (fun s o q hI => loop_for (c := loopAt Tryz.f139 0) (N := 29)
      (fun i s o q => s 0 = .nil ∧ s 1 = .t (.int .i64 (k : Nat)) ∧ s 5 = .t (.int .i64 i))
      (fun e s' o' q' => e = .exit 0 ∧ s' 0 = .nil ∧ s' 1 = .t (.int .i64 (k : Nat))) 0
      (by rintro i s o q hi _; omega)
      (by
        rintro s o q ⟨g0, g1, g5⟩
        simp at g5
        simp [loopAt, loopsOf, Tryz.f139, g0, g1, g5])
      0 0 s o q (by omega) hI)
    simp only [loopAt, loopsOf, Tryz.f139] at lp
    obtain ⟨X, A, B, C, hx⟩ := lp
    simp at hx
    refine ⟨some .nil, ?_, .inr ⟨rfl, rfl⟩⟩
    rw [run_call E 139 _ rfl Tryz.func139 rfl rfl rfl (by simp)]
    simp [hx, rdsX, srX, cntRs]
  · obtain ⟨ids, hh, _⟩ := X.bHeld (rdsX l) 2 0 (fun _ => Ob.dead) (rdsX_own l)
    have hsr : rdsX l = .sref 151 l.length 2 ((l.map rdC).flatten) := srX_ne h0
    have hb := bind_own (rdsX_own l)
    generalize hO : X.bO (rdsX l) 0 (fun _ => Ob.dead) = O at hh
    generalize hV : X.bV (rdsX l) 0 = V at hh
    rw [hsr] at hh
    obtain ⟨b, cells, is, rfl, rfl, g1, g2, g3, g4⟩ := held_sref hh (by omega)
    obtain ⟨X, A, B, C, hx⟩ := sk (markRead_loop l b k hk hn hl)
    simp only [loopAt, loopsOf, Tryz.f139] at hx
    have hx' := fun s q a0 a1 a5 => hx s O q ⟨a0, a1, a5, cells, is, g1, by omega, g3, g4⟩
    clear hx
    simp at hx'
    refine ⟨none, ?_, .inl rfl⟩
    rw [run_call E 139 _ rfl Tryz.func139 rfl rfl rfl (by simp)]
    simp [hb, bind_int, hO, hV, hx', -St.bind]
end Go.Nd
/- The laws' equality and marks of []int. -/
set_option linter.unusedSimpArgs false
set_option linter.unusedVariables false
namespace Go.Nd
open Go.Ev Go.Proofs Go.Pu
set_option maxRecDepth 100000
set_option maxHeartbeats 4000000
theorem eqIntS (xs : List Nat) (hl : xs.length < 9223372036854775807) :
    run E (.call 44 [.t (.list (xs.map intT)), .t (.list (xs.map intT))]) = some (.res [xB true] []) := by
  rw [run_call E 44 _ rfl Tryz.func44 rfl rfl rfl (by simp)]
  have d6 := d44_6
  simp [regionOf, findR, pick, Tryz.f44] at d6
  have dd := fun st => run_region_draw E st 6 _ d6
  clear d6
  have lp := sk (fun s o q hI => loop_for (c := loopAt Tryz.f44 0) (N := 26)
    (fun i s o q => s 0 = .t (.list (xs.map intT)) ∧ s 1 = .t (.list (xs.map intT)) ∧ s 5 = .t (.int .i64 i))
    (fun e s' o' q' => e = .exit 0) xs.length
    (by
      rintro i s o q hi ⟨g0, g1, g5⟩
      have hi' : (i : Int) < (xs.length : Int) := by omega
      have hwi := wrap_succ (n := i) (by omega)
      have hxi : xs[i]? = some xs[i] := List.getElem?_eq_getElem hi
      simp [loopAt, loopsOf, Tryz.f44, dd, g0, g1, g5, hi', hxi, hwi])
    (by
      rintro s o q ⟨g0, g1, g5⟩
      simp [loopAt, loopsOf, Tryz.f44, g0, g1, g5])
    xs.length 0 s o q (by omega) hI)
  simp only [loopAt, loopsOf, Tryz.f44] at lp
  obtain ⟨X, A, B, C, hx⟩ := lp
  simp at hx
  simp [hx]
def marksI (k n : Nat) : List Nat := (List.range n).map fun i => k + i
theorem marksI_len (k n : Nat) : (marksI k n).length = n := by simp [marksI]
theorem marksI_get (k n i : Nat) (h : i < n) : (marksI k n)[i]? = some (k + i) := by simp [marksI, h]
theorem flats_ints : ∀ l : List Nat, T.flats (l.map intT) = true
  | [] => rfl
  | x :: r => by simp [T.flats, flats_ints r]
theorem markIntS_nil (k : Nat) (hk : k ≤ 1099511627776) : run E (.call 47 [.nil, xI k]) = some (.res [xI k] [some .nil]) := by
  rw [run_call E 47 _ rfl Tryz.func47 rfl rfl rfl (by simp)]
  have lp := sk (fun s o q hI => loop_for (c := loopAt Tryz.f47 0) (N := 19)
    (fun i s o q => s 0 = .nil ∧ s 1 = .t (.int .i64 k) ∧ s 5 = .t (.int .i64 i))
    (fun e s' o' q' => e = .exit 0 ∧ s' 0 = .nil ∧ s' 1 = .t (.int .i64 k)) 0
    (by
      rintro i s o q hi ⟨h0, h1, h5⟩
      omega)
    (by
      rintro s o q ⟨h0, h1, h5⟩
      simp [loopAt, loopsOf, Tryz.f47, h0, h1, h5])
    0 0 s o q (by omega) hI)
  simp only [loopAt, loopsOf, Tryz.f47] at lp
  obtain ⟨X, A, B, C, hx⟩ := lp
  simp at hx
  simp [hx]
theorem markIntS (xs : List Nat) (k : Nat) (hl : xs.length < 4294967296) (hk : k < 1099511627776) : run E (.call 47 [.row 3 (xs.map intT), xI k]) = some (.res [xI (k + xs.length : Nat)] [some (.row 3 ((marksI k xs.length).map intT))]) := by
  rw [run_call E 47 _ rfl Tryz.func47 rfl rfl rfl (by simp)]
  have lp := sk (fun s o q hI => loop_for (c := loopAt Tryz.f47 0) (N := 19)
    (fun i s o q => s 0 = .row 0 ∧ s 1 = .t (.int .i64 (k + i : Nat)) ∧ s 5 = .t (.int .i64 i) ∧ o 0 = .row 3 ((marksI k i ++ xs.drop i).map intT) true)
    (fun e s' o' q' => e = .exit 0 ∧ s' 0 = .row 0 ∧ s' 1 = .t (.int .i64 (k + xs.length : Nat)) ∧ o' 0 = .row 3 ((marksI k xs.length).map intT) true) xs.length
    (by
      rintro i s o q hi ⟨h0, h1, h5, ho⟩
      have hd : marksI k (i + 1) ++ xs.drop (i + 1) = (marksI k i ++ xs.drop i).set i (k + i) := by
        rw [List.set_append_right _ _ (by rw [marksI_len]; exact Nat.le_refl _), marksI_len, Nat.sub_self, List.drop_eq_getElem_cons hi, List.set_cons_zero]
        simp [marksI, List.range_succ]
      have hlen : (marksI k i ++ xs.drop i).length = xs.length := by simp [marksI_len]; omega
      rw [hd]
      clear hd
      generalize marksI k i ++ xs.drop i = ys at *
      have hi' : (i : Int) < (xs.length : Int) := by omega
      have hiy : i < ys.length := by omega
      have hwi := wrap_succ (n := i) (by omega)
      have hwk := wrap_succ (n := k + i) (by omega)
      have hxi : ys[i]? = some ys[i] := List.getElem?_eq_getElem hiy
      have hek : ((k + i : Nat) : Int) + 1 = ((k + (i + 1) : Nat) : Int) := by omega
      have hek2 : k + i + 1 = k + (i + 1) := by omega
      rw [hek2] at hwk
      generalize hKi : k + i = ki at *
      simp [loopAt, loopsOf, Tryz.f47, h0, h1, h5, ho, hi', hi, hiy, hwi, hwk, hxi, hlen])
    (by
      rintro s o q ⟨h0, h1, h5, ho⟩
      simp at ho
      simp [loopAt, loopsOf, Tryz.f47, h0, h1, h5, ho, marksI_len])
    xs.length 0 s o q (by omega) hI)
  simp only [loopAt, loopsOf, Tryz.f47] at lp
  obtain ⟨X, A, B, C, hx⟩ := lp
  simp [marksI] at hx
  simp [hx, marksI]
theorem heldIntS (n k : Nat) (hl : n < 4294967296) (hk : k < 1099511627776) : run E (.call 48 [.t (.list ((marksI k n).map intT)), xI k]) = some (.res [xI (k + n : Nat)] []) := by
  rw [run_call E 48 _ rfl Tryz.func48 rfl rfl rfl (by simp)]
  obtain ⟨xs, hxs⟩ : ∃ xs, xs = marksI k n := ⟨_, rfl⟩
  have hln : xs.length = n := by rw [hxs, marksI_len]
  have hget : ∀ i, i < n → xs[i]? = some (k + i) := by intro i hi; rw [hxs]; exact marksI_get k n i hi
  rw [← hxs]
  clear hxs
  have lp := sk (fun s o q hI => loop_for (c := loopAt Tryz.f48 0) (N := 21)
    (fun i s o q => s 0 = .t (.list (xs.map intT)) ∧ s 1 = .t (.int .i64 (k + i : Nat)) ∧ s 5 = .t (.int .i64 i))
    (fun e s' o' q' => e = .exit 0 ∧ s' 1 = .t (.int .i64 (k + n : Nat))) n
    (by
      rintro i s o q hi ⟨h0, h1, h5⟩
      have hi' : (i : Int) < (xs.length : Int) := by omega
      have hix : i < xs.length := by omega
      have hwi := wrap_succ (n := i) (by omega)
      have hwk := wrap_succ (n := k + i) (by omega)
      have hxi := hget i hi
      have hek2 : k + i + 1 = k + (i + 1) := by omega
      rw [hek2] at hwk
      generalize hKi : k + i = ki at *
      have hxi2 : xs[i] = ki := by
        have := List.getElem?_eq_getElem hix
        rw [hxi] at this
        simpa using this.symm
      simp [loopAt, loopsOf, Tryz.f48, h0, h1, h5, hi', hix, hwi, hwk, hxi, hxi2])
    (by
      rintro s o q ⟨h0, h1, h5⟩
      simp [loopAt, loopsOf, Tryz.f48, h0, h1, h5, hln])
    n 0 s o q (by omega) hI)
  simp only [loopAt, loopsOf, Tryz.f48] at lp
  obtain ⟨X, A, B, C, hx⟩ := lp
  simp at hx
  simp [hx]
end Go.Nd
/- The laws' marks: changes, those that were committed. -/
set_option linter.unusedSimpArgs false
set_option linter.unusedVariables false
namespace Go.Nd
open Go.Ev Go.Proofs Go.Pu
set_option maxRecDepth 100000
set_option maxHeartbeats 32000000
def isChg (x : T) : Prop := ∃ a b c d e f g h i j, x = .agg [.str a, .int .i64 b, .bool c, .int .i64 d, .int .i64 e, .str f, .int .i64 g, .int .i64 h, .str i, .bool j]
theorem markChg_loop (n k : Nat) (hk : k + 10 * n < 1099511627776) (hn : n < 4294967296) : ∀ s o q, (s 0 = .row 0 ∧ s 1 = .t (.int .i64 (k : Nat)) ∧ s 5 = .t (.int .i64 0) ∧ ∃ xs, o 0 = .row 167 xs true ∧ xs.length = n ∧ ∀ x ∈ xs, isChg x) →
    ∃ e s' o' q', run E (.code (.loop (loopAt Tryz.f140 0)) ⟨s, o, q, 102⟩) = some (.st e ⟨s', o', q', 102⟩) ∧ ∃ xs : List T, True ∧ (e = .exit 0 ∧ s' 0 = .row 0 ∧ s' 1 = .t (.int .i64 (k + 10 * n : Nat)) ∧ o' 0 = .row 167 xs true) := by
  intro s o q hI
  refine loop_for (c := loopAt Tryz.f140 0) (N := 102)
    (fun i s o q => s 0 = .row 0 ∧ s 1 = .t (.int .i64 (k + 10 * i : Nat)) ∧ s 5 = .t (.int .i64 i) ∧ ∃ xs, o 0 = .row 167 xs true ∧ xs.length = n ∧ ∀ x ∈ xs, isChg x)
    (fun e s' o' q' => ∃ xs : List T, True ∧ (e = .exit 0 ∧ s' 0 = .row 0 ∧ s' 1 = .t (.int .i64 (k + 10 * n : Nat)) ∧ o' 0 = .row 167 xs true)) n ?_ ?_
    n 0 s o q (by omega) (by simpa using hI)
  · rintro i s o q hi ⟨h0, h1, h5, xs, ho, hl, hx⟩
    have hil : i < xs.length := by omega
    have hi' : (i : Int) < (xs.length : Int) := by omega
    have hwi := wrap_succ (n := i) (by omega)
    obtain ⟨a, b, c, d, e, f, g, h, ii, j, hxi⟩ := hx _ (List.getElem_mem hil)
    have hxi' : xs[i]? = some (.agg [.str a, .int .i64 b, .bool c, .int .i64 d, .int .i64 e, .str f, .int .i64 g, .int .i64 h, .str ii, .bool j]) := by rw [List.getElem?_eq_getElem hil, hxi]
    obtain ⟨b0, m0, w0⟩ := markN (k + 10 * i) (by omega)
    obtain ⟨b1, m1, w1⟩ := markN (k + 10 * i + 1) (by omega)
    obtain ⟨b2, m2, w2⟩ := markN (k + 10 * i + 1 + 1) (by omega)
    obtain ⟨b3, m3, w3⟩ := markN (k + 10 * i + 1 + 1 + 1) (by omega)
    obtain ⟨b4, m4, w4⟩ := markN (k + 10 * i + 1 + 1 + 1 + 1) (by omega)
    obtain ⟨b5, m5, w5⟩ := markN (k + 10 * i + 1 + 1 + 1 + 1 + 1) (by omega)
    obtain ⟨b6, m6, w6⟩ := markN (k + 10 * i + 1 + 1 + 1 + 1 + 1 + 1) (by omega)
    obtain ⟨b7, m7, w7⟩ := markN (k + 10 * i + 1 + 1 + 1 + 1 + 1 + 1 + 1) (by omega)
    obtain ⟨b8, m8, w8⟩ := markN (k + 10 * i + 1 + 1 + 1 + 1 + 1 + 1 + 1 + 1) (by omega)
    obtain ⟨b9, m9, w9⟩ := markN (k + 10 * i + 1 + 1 + 1 + 1 + 1 + 1 + 1 + 1 + 1) (by omega)
    have hlast : ((k + 10 * i + 1 + 1 + 1 + 1 + 1 + 1 + 1 + 1 + 1 + 1 : Nat) : Int) = ((k + 10 * (i + 1) : Nat) : Int) := by omega
    rw [hlast] at w9
    generalize ((k + 10 * (i + 1) : Nat) : Int) = K10 at *
    generalize ((k + 10 * i + 1 + 1 + 1 + 1 + 1 + 1 + 1 + 1 + 1 : Nat) : Int) = K9 at *
    generalize ((k + 10 * i + 1 + 1 + 1 + 1 + 1 + 1 + 1 + 1 : Nat) : Int) = K8 at *
    generalize ((k + 10 * i + 1 + 1 + 1 + 1 + 1 + 1 + 1 : Nat) : Int) = K7 at *
    generalize ((k + 10 * i + 1 + 1 + 1 + 1 + 1 + 1 : Nat) : Int) = K6 at *
    generalize ((k + 10 * i + 1 + 1 + 1 + 1 + 1 : Nat) : Int) = K5 at *
    generalize ((k + 10 * i + 1 + 1 + 1 + 1 : Nat) : Int) = K4 at *
    generalize ((k + 10 * i + 1 + 1 + 1 : Nat) : Int) = K3 at *
    generalize ((k + 10 * i + 1 + 1 : Nat) : Int) = K2 at *
    generalize ((k + 10 * i + 1 : Nat) : Int) = K1 at *
    generalize ((k + 10 * i : Nat) : Int) = K0 at *
    simp [loopAt, loopsOf, Tryz.f140, h0, h1, h5, ho, hi', hil, hwi, hxi, hxi', w0, w1, w2, w3, w4, w5, w6, w7, w8, w9, m0, m5, m8]
    refine ⟨hl, fun x hx' => ?_⟩
    rcases List.mem_or_eq_of_mem_set hx' with h | h
    · exact hx x h
    · exact ⟨_, _, _, _, _, _, _, _, _, _, h⟩
  · rintro s o q ⟨h0, h1, h5, xs, ho, hl, hx⟩
    simp [loopAt, loopsOf, Tryz.f140, h0, h1, h5, ho, hl]
theorem markChangeS (cs : List Chg) (k : Nat) (hk : k + 10 * cs.length < 1099511627776) (hn : cs.length < 4294967296) : ∃ xs : List T, run E (.call 140 [.row 167 (cs.map chgT), xI k]) = some (.res [xI (k + 10 * cs.length : Nat)] [some (.row 167 xs)]) := by
  obtain ⟨X, A, B, C, M, _, hx⟩ := skH (fun _ : List T => True) [] trivial (markChg_loop cs.length k hk hn)
  simp only [loopAt, loopsOf, Tryz.f140] at hx
  have hx' := fun s o q a0 a1 a5 a6 => hx s o q ⟨a0, a1, a5, cs.map chgT, a6, by simp, fun x hx => by
    obtain ⟨t, _, rfl⟩ := List.mem_map.1 hx
    exact ⟨_, _, _, _, _, _, _, _, _, _, rfl⟩⟩
  clear hx
  simp at hx'
  obtain ⟨Y, hY⟩ : ∃ Y, run E (.call 140 [.row 167 (cs.map chgT), xI k]) = Y := ⟨_, rfl⟩
  rw [hY]
  rw [run_call E 140 _ rfl Tryz.func140 rfl rfl rfl (by simp)] at hY
  simp [hx'] at hY
  subst hY
  exact ⟨_, rfl⟩
def cntD (d : Dn) : Nat := 4 + cntRs d.reads + 10 * d.changes.length
def cntDs (l : List Dn) : Nat := (l.map cntD).sum
theorem cut_six {cells : List SV} {i : Nat} {a0 a1 v w a4 a5 : SV} {post : List SV} (h : cells.drop (i * 6) = a0 :: a1 :: v :: w :: a4 :: a5 :: post) : i * 6 + 6 ≤ cells.length ∧ ∀ x y : SV, (splice (splice cells (i * 6) [x]) (i * 6 + 1) [y]).length = cells.length ∧ (splice (splice cells (i * 6) [x]) (i * 6 + 1) [y]).drop (i * 6 + 2) = v :: w :: a4 :: a5 :: post ∧ (splice (splice cells (i * 6) [x]) (i * 6 + 1) [y]).drop (i * 6 + 3) = w :: a4 :: a5 :: post ∧
    ∀ p r : SV, (splice (splice (splice (splice cells (i * 6) [x]) (i * 6 + 1) [y]) (i * 6 + 4) [p]) (i * 6 + 5) [r]).length = cells.length ∧ (splice (splice (splice (splice cells (i * 6) [x]) (i * 6 + 1) [y]) (i * 6 + 4) [p]) (i * 6 + 5) [r]).drop (i * 6 + 6) = post := by
  have hl : i * 6 + 6 ≤ cells.length := by
    have := congrArg List.length h
    simp at this
    omega
  have len1 : ∀ x, (splice cells (i * 6) [x]).length = cells.length := fun x => splice_length _ _ _ (by simp; omega)
  have len2 : ∀ x y, (splice (splice cells (i * 6) [x]) (i * 6 + 1) [y]).length = cells.length := fun x y => (splice_length _ _ _ (by simp [len1]; omega)).trans (len1 x)
  have d2 : ∀ x y j, 2 ≤ j → (splice (splice cells (i * 6) [x]) (i * 6 + 1) [y]).drop (i * 6 + j) = (a0 :: a1 :: v :: w :: a4 :: a5 :: post).drop j := fun x y j hj => by
    rw [splice_drop _ _ _ _ (by simp; omega) (by simp [len1]; omega), splice_drop _ _ _ _ (by simp; omega) (by simp; omega), ← List.drop_drop, h]
  have len3 : ∀ x y p, (splice (splice (splice cells (i * 6) [x]) (i * 6 + 1) [y]) (i * 6 + 4) [p]).length = cells.length := fun x y p => (splice_length _ _ _ (by simp [len2]; omega)).trans (len2 x y)
  refine ⟨hl, fun x y => ⟨len2 x y, d2 x y 2 (by omega), d2 x y 3 (by omega), fun p r => ⟨(splice_length _ _ _ (by simp [len3]; omega)).trans (len3 x y p), ?_⟩⟩⟩
  rw [splice_drop _ _ _ _ (by simp) (by simp [len3]; omega), splice_drop _ _ _ _ (by simp) (by simp [len2]; omega), d2 x y 6 (by omega)]
  rfl
end Go.Nd
/- The laws' marks: those that were committed. -/
set_option linter.unusedSimpArgs false
set_option linter.unusedVariables false
namespace Go.Nd
open Go.Ev Go.Proofs Go.Pu
set_option maxRecDepth 100000
set_option maxHeartbeats 32000000
theorem markDone_loop (l : List Dn) (b k : Nat) (hk : k + cntDs l < 1099511627776) (hn : l.length < 4294967296) (hl : ∀ d ∈ l, d.changes.length < 4294967296 ∧ d.reads.length < 4294967296 ∧ ∀ r ∈ d.reads, r.filter.length < 4294967296 ∧ ∀ c ∈ r.filter, c.length < 4294967296) : ∀ s o q, (s 0 = .sl b l.length 6 ∧ s 1 = .t (.int .i64 (k : Nat)) ∧ s 5 = .t (.int .i64 0) ∧ ∃ cells is, o b = .box 59 cells ∧ cells.length = l.length * 6 ∧ AllH (Held 4 o) cells ((l.map dnC).flatten) is ∧ b ∉ is) →
    ∃ e s' o' q', run E (.code (.loop (loopAt Tryz.f46 0)) ⟨s, o, q, 59⟩) = some (.st e ⟨s', o', q', 59⟩) ∧ (e = .exit 0 ∧ s' 0 = .sl b l.length 6 ∧ s' 1 = .t (.int .i64 (k + cntDs l : Nat))) := by
  intro s o q hI
  refine loop_for (c := loopAt Tryz.f46 0) (N := 59)
    (fun i s o q => s 0 = .sl b l.length 6 ∧ s 1 = .t (.int .i64 (k + cntDs (l.take i) : Nat)) ∧ s 5 = .t (.int .i64 i) ∧ ∃ cells is, o b = .box 59 cells ∧ cells.length = l.length * 6 ∧ AllH (Held 4 o) (cells.drop (i * 6)) (((l.drop i).map dnC).flatten) is ∧ b ∉ is)
    (fun e s' o' q' => e = .exit 0 ∧ s' 0 = .sl b l.length 6 ∧ s' 1 = .t (.int .i64 (k + cntDs l : Nat))) l.length ?_ ?_
    l.length 0 s o q (by omega) (by simpa [cntDs] using hI)
  · rintro i s o q hi ⟨h0, h1, h5, cells, is, hb, hlc, hall, hbi⟩
    have hi' : (i : Int) < (l.length : Int) := by omega
    have hwi := wrap_succ (n := i) (by omega)
    rw [List.drop_eq_getElem_cons hi, List.map_cons, List.flatten_cons] at hall
    generalize hdc : cells.drop (i * 6) = dc at hall
    have h6 : ∃ a0 a1 v w a4 a5 post i2 i3 i4, dc = a0 :: a1 :: v :: w :: a4 :: a5 :: post ∧ Held 4 o v (rdsX l[i].reads) i2 ∧ Held 4 o w (.row 167 (l[i].changes.map chgT)) i3 ∧ AllH (Held 4 o) post (((l.drop (i + 1)).map dnC).flatten) i4 ∧ (∀ j ∈ i2, j ∈ is) ∧ (∀ j ∈ i3, j ∈ is) ∧ (∀ j ∈ i4, j ∈ is) ∧ (∀ j ∈ i2, j ∉ i3 ∧ j ∉ i4) ∧ ∀ j ∈ i3, j ∉ i4 := by
      cases hall with
      | @cons a0 _ j0 _ _ _ _ hr0 hd0 =>
        cases hr0 with
        | @cons a1 _ j1 _ _ _ _ hr1 hd1 =>
          cases hr1 with
          | @cons v _ i2 _ _ _ hv hr2 hd2 =>
            cases hr2 with
            | @cons w _ i3 _ _ _ hw hr3 hd3 =>
              cases hr3 with
              | @cons a4 _ j4 _ _ _ _ hr4 hd4 =>
                cases hr4 with
                | @cons a5 _ j5 post _ i4 _ hr5 hd5 =>
                  exact ⟨a0, a1, v, w, a4, a5, post, i2, i3, i4, rfl, hv, hw, hr5, fun j hj => by simp [hj], fun j hj => by simp [hj], fun j hj => by simp [hj], fun j hj => by
                    have := hd2 j hj
                    simp at this
                    exact ⟨this.1, this.2.2.2⟩, fun j hj => by
                    have := hd3 j hj
                    simp at this
                    exact this.2.2⟩
    obtain ⟨a0, a1, v, w, a4, a5, post, i2, i3, i4, rfl, hv, hw, hpost, s2, s3, s4, d23, d34⟩ := h6
    obtain ⟨r, rfl, rfl, hor⟩ := held_row hw
    obtain ⟨c1, c2⟩ := cut_six hdc
    have hsum := sum_take cntD hi
    have hle := sum_le cntD l (i + 1)
    obtain ⟨b0, m0, w0⟩ := markN (k + cntDs (l.take i)) (by unfold cntDs at *; omega)
    obtain ⟨b1, m1, w1⟩ := markN (k + cntDs (l.take i) + 1) (by unfold cntDs cntD at *; omega)
    obtain ⟨bs, hm, hbk⟩ := markReadS l[i].reads (k + cntDs (l.take i) + 1 + 1) (by unfold cntDs cntD at *; omega) (hl _ (List.getElem_mem hi)).2.1 (hl _ (List.getElem_mem hi)).2.2
    obtain ⟨ys, hm2⟩ := markChangeS l[i].changes (k + cntDs (l.take i) + 1 + 1 + cntRs l[i].reads) (by unfold cntDs cntD at *; omega) (hl _ (List.getElem_mem hi)).1
    obtain ⟨b4, m4, w4⟩ := markN (k + cntDs (l.take i) + 1 + 1 + cntRs l[i].reads + 10 * l[i].changes.length) (by unfold cntDs cntD at *; omega)
    obtain ⟨b5, m5, w5⟩ := markN (k + cntDs (l.take i) + 1 + 1 + cntRs l[i].reads + 10 * l[i].changes.length + 1) (by unfold cntDs cntD at *; omega)
    rw [show k + cntDs (l.take i) + 1 + 1 + cntRs l[i].reads + 10 * l[i].changes.length + 1 + 1 = k + cntDs (l.take (i + 1)) by unfold cntDs cntD at *; omega] at w5
    have hb2 : ∀ j ∈ i2, j ≠ b := fun j hj e => hbi (e ▸ s2 j hj)
    have hrb : r ≠ b := fun e => hbi (e ▸ s3 r (by simp))
    have hbr : b ≠ r := fun e => hrb e.symm
    have hr2 : r ∉ i2 := fun hm => (d23 r hm).1 (by simp)
    generalize ((k + cntDs (l.take (i + 1)) : Nat) : Int) = K6 at *
    generalize ((k + cntDs (l.take i) + 1 + 1 + cntRs l[i].reads + 10 * l[i].changes.length + 1 : Nat) : Int) = K5 at *
    generalize ((k + cntDs (l.take i) + 1 + 1 + cntRs l[i].reads + 10 * l[i].changes.length : Nat) : Int) = K4 at *
    generalize ((k + cntDs (l.take i) + 1 + 1 + cntRs l[i].reads : Nat) : Int) = K3 at *
    generalize ((k + cntDs (l.take i) + 1 + 1 : Nat) : Int) = K2 at *
    generalize ((k + cntDs (l.take i) + 1 : Nat) : Int) = K1 at *
    generalize ((k + cntDs (l.take i) : Nat) : Int) = K0 at *
    have hg := fun (s : Nat → SV) (q N : Nat) (X Y : Ob) => give_rule hv (by omega) srX_plain ⟨s, upd (upd o b X) b Y, q, N⟩ (fun j hj => by show upd (upd o b X) b Y j = o j; rw [upd_ne _ _ (hb2 j hj), upd_ne _ _ (hb2 j hj)])
    have hg1 := fun s q N X Y => (hg s q N X Y).1
    have hg2 := fun s q N X Y => (hg s q N X Y).2
    have hdr : ∀ f : Nat → Ob, deadO i2 f r = f r := fun f => by simp [deadO, hr2]
    have hw1 : ∀ (s : Nat → SV) (q N : Nat) (X Y : Ob), St.giveMut ⟨s, deadO i2 (upd (upd o b X) b Y), q, N⟩ (.row r) = some (.row 167 (l[i].changes.map chgT)) := fun s q N X Y => by
      simp [St.giveMut, hdr, upd, hrb, hor]
    have hw2 : ∀ st : St, st.mutIds (.row r) = [r] := fun st => rfl
    have hw3 : ∀ (st : St) (s : Nat → SV) (q N : Nat) (X Y : Ob), St.regain st ⟨s, deadO i2 (upd (upd o b X) b Y), q, N⟩ (.row r) (some (.row 167 ys)) = some (st.setO r (.row 167 ys true)) := fun st s q N X Y => by
      simp [St.regain, hdr, upd, hrb, hor]
    have hrg := back_rule hv hbk
    have hnd := hv.nodup
    have hbn : b ∉ i2 := fun hm => hb2 b hm rfl
    have hdb : ∀ f : Nat → Ob, deadO i2 f b = f b := fun f => by simp [deadO, hbn]
    have hdb2 : ∀ f : Nat → Ob, deadO [r] f b = f b := fun f => by simp [deadO, hbr]
    have e1 : i * 6 + 1 ≤ cells.length := by omega
    have e2 : i * 6 + 1 + 1 ≤ cells.length := by omega
    have e3 : i * 6 + 2 + 1 ≤ cells.length := by omega
    have e4 : i * 6 + 3 + 1 ≤ cells.length := by omega
    have e5 : i * 6 + 4 + 1 ≤ cells.length := by omega
    have e6 : i * 6 + 5 + 1 ≤ cells.length := by omega
    have len1 : ∀ x, (splice cells (i * 6) [x]).length = cells.length := fun x => splice_length _ _ _ (by simp; omega)
    have len2 := fun x y => (c2 x y).1
    have len3 : ∀ x y p, (splice (splice (splice cells (i * 6) [x]) (i * 6 + 1) [y]) (i * 6 + 4) [p]).length = cells.length := fun x y p => (splice_length _ _ _ (by simp [len2]; omega)).trans (len2 x y)
    have len4 := fun x y p r => ((c2 x y).2.2.2 p r).1
    have g2 := fun x y => (c2 x y).2.1
    have g3 := fun x y => (c2 x y).2.2.1
    simp [loopAt, loopsOf, Tryz.f46, h0, h1, h5, hb, hi, hi', hwi, w0, w1, w4, w5, e1, e2, e3, e4, e5, e6, len1, len2, len3, g2, g3, hg1, hg2, hw1, hw2, hw3, hnd, hdb, hdb2, hbr, hm, hm2, hrg, kill_dead, deadO_nil, -splice, -kill, -St.giveMut, -St.mutIds, -St.regain]
    refine ⟨by rw [len4]; exact hlc, i4, ?_, fun hm => hbi (s4 b hm)⟩
    rw [← List.map_drop, show (i + 1) * 6 = i * 6 + 6 by omega, ((c2 _ _).2.2.2 _ _).2]
    refine hpost.frame (fun j hj => ?_)
    have hjb : j ≠ b := fun e => hbi (e ▸ s4 j hj)
    have hjr : j ≠ r := fun e => d34 r (by simp) (e ▸ hj)
    have hj2 : j ∉ i2 := fun hm => (d23 j hm).2 hj
    simp [upd, deadO, hjb, hjr, hj2]
  · rintro s o q ⟨h0, h1, h5, cells, is, hb, hlc, hall, hbi⟩
    rw [List.take_length] at h1
    simp [loopAt, loopsOf, Tryz.f46, h0, h1, h5]
theorem markDoneS (l : List Dn) (k : Nat) (hk : k + cntDs l < 1099511627776) (hn : l.length < 4294967296) (hl : ∀ d ∈ l, d.changes.length < 4294967296 ∧ d.reads.length < 4294967296 ∧ ∀ r ∈ d.reads, r.filter.length < 4294967296 ∧ ∀ c ∈ r.filter, c.length < 4294967296) : ∃ bs, run E (.call 46 [dnsX l, xI k]) = some (.res [xI (k + cntDs l : Nat)] [bs]) ∧ BackOK (dnsX l) bs := by
  by_cases h0 : l = []
  · subst h0
    have lp := sk (fun s o q hI => loop_for (c := loopAt Tryz.f46 0) (N := 59)
      (fun i s o q => s 0 = .nil ∧ s 1 = .t (.int .i64 (k : Nat)) ∧ s 5 = .t (.int .i64 i))
      (fun e s' o' q' => e = .exit 0 ∧ s' 0 = .nil ∧ s' 1 = .t (.int .i64 (k : Nat))) 0
      (by rintro i s o q hi _; omega)
      (by
        rintro s o q ⟨g0, g1, g5⟩
        simp at g5
        simp [loopAt, loopsOf, Tryz.f46, g0, g1, g5])
      0 0 s o q (by omega) hI)
    simp only [loopAt, loopsOf, Tryz.f46] at lp
    obtain ⟨X, A, B, C, hx⟩ := lp
    simp at hx
    refine ⟨some .nil, ?_, .inr ⟨rfl, rfl⟩⟩
    rw [run_call E 46 _ rfl Tryz.func46 rfl rfl rfl (by simp)]
    simp [hx, dnsX, srX, cntDs]
  · obtain ⟨ids, hh, _⟩ := X.bHeld (dnsX l) 3 0 (fun _ => Ob.dead) (dnsX_own l)
    have hsr : dnsX l = .sref 59 l.length 6 ((l.map dnC).flatten) := srX_ne h0
    have hb := bind_own (dnsX_own l)
    generalize hO : X.bO (dnsX l) 0 (fun _ => Ob.dead) = O at hh
    generalize hV : X.bV (dnsX l) 0 = V at hh
    rw [hsr] at hh
    obtain ⟨b, cells, is, rfl, rfl, g1, g2, g3, g4⟩ := held_sref hh (by omega)
    obtain ⟨X, A, B, C, hx⟩ := sk (markDone_loop l b k hk hn hl)
    simp only [loopAt, loopsOf, Tryz.f46] at hx
    have hx' := fun s q a0 a1 a5 => hx s O q ⟨a0, a1, a5, cells, is, g1, by omega, g3, g4⟩
    clear hx
    simp at hx'
    refine ⟨none, ?_, .inl rfl⟩
    rw [run_call E 46 _ rfl Tryz.func46 rfl rfl rfl (by simp)]
    simp [hb, bind_int, hO, hV, hx', -St.bind]
end Go.Nd
/- How many cells the laws' marks write: bounded by the sizes that the laws bound. -/
set_option linter.unusedSimpArgs false
set_option linter.unusedVariables false
namespace Go.Nd
open Go.Ev Go.Proofs Go.Pu
set_option maxRecDepth 100000
set_option maxHeartbeats 4000000
theorem goSz_cnt {α : Type} {f : α → Int → Int} {g : α → Nat} : ∀ {xs : List α} {l : Int}, 0 ≤ l → (∀ x ∈ xs, ∀ k, 0 ≤ k → ¬ f x k < 0 → (g x : Int) ≤ 16 * (k - f x k)) → ¬ goSz f xs l < 0 → (((xs.map g).sum : Nat) : Int) ≤ 16 * (l - goSz f xs l)
  | [], l, h0, _, _ => by simp [goSz]
  | x :: r, l, h0, hg, h => by
    unfold goSz at h ⊢
    split at h
    · omega
    · rename_i hf
      rw [if_neg hf]
      have h1 := hg x (by simp) l h0 hf
      have h2 := goSz_cnt (f := f) (g := g) (xs := r) (l := f x l) (by omega) (fun y hy => hg y (by simp [hy])) h
      simp only [List.map_cons, List.sum_cons, Int.natCast_add]
      omega
theorem lstSz_cnt {α : Type} {f : α → Int → Int} {g : α → Nat} {xs : List α} {l : Int} (h0 : 0 ≤ l) (hg : ∀ x ∈ xs, ∀ k, 0 ≤ k → ¬ f x k < 0 → (g x : Int) ≤ 16 * (k - f x k)) (h : ¬ lstSz f xs l < 0) : (((xs.map fun x => g x + 16).sum : Nat) : Int) ≤ 16 * (l - lstSz f xs l) := by
  unfold lstSz at h ⊢
  split at h
  · omega
  · rename_i hb
    rw [if_neg hb]
    have h1 := goSz_cnt (f := f) (g := g) (by omega) hg h
    have h2 : szB xs.length l = l - xs.length := by
      unfold szB at hb ⊢
      split at hb
      · omega
      · rename_i hc; rw [if_neg hc]
    have h3 : ∀ ys : List α, (ys.map fun x => g x + 16).sum = (ys.map g).sum + 16 * ys.length := by
      intro ys
      induction ys with
      | nil => rfl
      | cons a r ih => simp only [List.map_cons, List.sum_cons, List.length_cons, ih]; omega
    rw [h3, Int.natCast_add]
    omega
theorem sum_mono {α : Type} {g g' : α → Nat} : ∀ {xs : List α}, (∀ x ∈ xs, g x ≤ g' x) → (xs.map g).sum ≤ (xs.map g').sum
  | [], _ => by simp
  | x :: r, h => by
    simp only [List.map_cons, List.sum_cons]
    have h1 := h x (by simp)
    have h2 := sum_mono (xs := r) (fun y hy => h y (by simp [hy]))
    omega
theorem lstSz_bd {α : Type} {f : α → Int → Int} {g g' : α → Nat} {xs : List α} {l : Int} (h0 : 0 ≤ l) (hg : ∀ x ∈ xs, ∀ k, 0 ≤ k → ¬ f x k < 0 → (g x : Int) ≤ 16 * (k - f x k)) (hgg : ∀ x ∈ xs, g' x ≤ g x + 16) (h : ¬ lstSz f xs l < 0) : (((xs.map g').sum : Nat) : Int) ≤ 16 * (l - lstSz f xs l) := by
  have h1 := lstSz_cnt h0 hg h
  have h2 := sum_mono (g := g') (g' := fun x => g x + 16) hgg
  omega
theorem szCls_bd {c : List Trm} {k : Int} (h0 : 0 ≤ k) (h : ¬ szCls c k < 0) : ((5 * c.length : Nat) : Int) ≤ 16 * (k - szCls c k) := by
  obtain ⟨h1, _⟩ := thenSz_neg h
  have e : szCls c k = lstSz szTrm c k := by simp only [szCls, thenSz]; rw [if_neg h1]
  have h2 := lstSz_bd (f := szTrm) (g := fun _ => 0) (g' := fun _ => 5) h0 (fun x _ k hk hn => by have := szTrm_le x k hk; simp; omega) (fun _ _ => by omega) h1
  have h3 : ∀ c : List Trm, (c.map fun _ => 5).sum = 5 * c.length := by
    intro c
    induction c with
    | nil => rfl
    | cons a r ih => simp only [List.map_cons, List.sum_cons, List.length_cons, ih]; omega
  rw [h3] at h2
  rw [e]; exact h2
theorem szFil_bd {c : List (List Trm)} {k : Int} (h0 : 0 ≤ k) (h : ¬ szFil c k < 0) : ((cntC c : Nat) : Int) ≤ 16 * (k - szFil c k) := by
  obtain ⟨h1, _⟩ := thenSz_neg h
  have e : szFil c k = lstSz szCls c k := by simp only [szFil, thenSz]; rw [if_neg h1]
  rw [e]
  exact lstSz_bd (f := szCls) (g := fun c => 5 * c.length) h0 (fun x _ k hk hn => szCls_bd hk hn) (fun _ _ => by omega) h1
theorem szRd_bd {r : Rd} {k : Int} (h0 : 0 ≤ k) (h : ¬ szRd r k < 0) : ((cntC r.filter : Nat) : Int) ≤ 16 * (k - szRd r k) := by
  obtain ⟨h1, h2⟩ := thenSz_neg h
  obtain ⟨h3, _⟩ := thenSz_neg h2
  have e : szRd r k = szFil r.filter (szB r.coll.length k) := by simp only [szRd, thenSz]; rw [if_neg h1, if_neg h3]
  have l1 := szB_le (n := r.coll.length) h0
  have h4 := szFil_bd (c := r.filter) (k := szB r.coll.length k) (by omega) h3
  rw [e]; omega
theorem szDn_bd {d : Dn} {k : Int} (h0 : 0 ≤ k) (h : ¬ szDn d k < 0) : ((cntRs d.reads + 10 * d.changes.length : Nat) : Int) ≤ 16 * (k - szDn d k) := by
  obtain ⟨h1, h2⟩ := thenSz_neg h
  obtain ⟨h3, _⟩ := thenSz_neg h2
  have e : szDn d k = lstSz szChg d.changes (lstSz szRd d.reads k) := by simp only [szDn, thenSz]; rw [if_neg h1, if_neg h3]
  have l1 := lstSz_le (f := szRd) (xs := d.reads) h0 (fun y _ k hk => szRd_le y k hk)
  have h4 := lstSz_bd (f := szRd) (g := fun r => cntC r.filter) (g' := cntR) h0 (fun x _ k hk hn => szRd_bd hk hn) (fun x _ => by unfold cntR; omega) h1
  have h5 := lstSz_bd (f := szChg) (g := fun _ => 0) (g' := fun _ => 10) (l := lstSz szRd d.reads k) (by omega) (fun x _ k hk hn => by have := szChg_le x k hk; simp; omega) (fun _ _ => by omega) h3
  have h6 : ∀ c : List Chg, (c.map fun _ => 10).sum = 10 * c.length := by
    intro c
    induction c with
    | nil => rfl
    | cons a r ih => simp only [List.map_cons, List.sum_cons, List.length_cons, ih]; omega
  rw [h6] at h5
  rw [e]
  unfold cntRs
  omega
theorem szDns_bd {l : List Dn} {k : Int} (h0 : 0 ≤ k) (h : ¬ lstSz szDn l k < 0) : ((cntDs l : Nat) : Int) ≤ 16 * (k - lstSz szDn l k) :=
  lstSz_bd (f := szDn) (g := fun d => cntRs d.reads + 10 * d.changes.length) (g' := cntD) h0 (fun x _ k hk hn => szDn_bd hk hn) (fun x _ => by unfold cntD; omega) h
end Go.Nd
/- What the laws make of one filter, one read, one that was committed. -/
set_option linter.unusedSimpArgs false
set_option linter.unusedVariables false
namespace Go.Nd
open Go.Ev Go.Proofs Go.Pu
set_option maxRecDepth 100000
set_option maxHeartbeats 16000000
theorem take_rule {x : X} {d : Nat} (h : x.own d = true) (hd : d ≤ 6) (n : Nat) : ∃ F : (Nat → Ob) → (Nat → Ob) → (Nat → Ob), (∀ o o' i, x.bN n ≤ i → F o o' i = o' i) ∧ ∀ (s : Nat → SV) (q N : Nat) (o o' : Nat → Ob), (∀ i, n ≤ i → i < x.bN n → o' i = x.bO n o i) → St.takeCell ⟨s, o', q, N⟩ (x.bV n) = some (x, ⟨s, F o o', q, N⟩) := by
  obtain ⟨I, hI⟩ := Classical.axiomOfChoice (fun o : Nat → Ob => X.bHeld x d n o h)
  refine ⟨fun o o' => deadO (I o) o', fun o o' i hi => ?_, fun s q N o o' ho => ?_⟩
  · simp only [deadO]
    rw [if_neg (fun hm => by have := ((hI o).2 i hm).2; omega)]
  · exact Held.takeC (st := ⟨s, o', q, N⟩) ((hI o).1.frame (fun i hi => ho i ((hI o).2 i hi).1 ((hI o).2 i hi).2)) hd
theorem bind_tt (st : St) (t : T) : st.bind (.t t) = (ofT t, st) := rfl
theorem bind_row (st : St) (e : Nat) (xs : List T) : st.bind (.row e xs) = (.row st.n, st.alloc (.row e xs true)) := rfl
theorem bind_agg (st : St) (cs : List X) : st.bind (.agg cs) = (.agg (st.bindCells cs).1, (st.bindCells cs).2) := rfl
theorem one_t (x : T) : SV.one (.t x) = x.one := rfl
theorem one_row (r : Nat) : SV.one (.row r) = true := rfl
theorem one_nil : SV.one .nil = true := rfl
theorem cells_t (x : T) : SV.cells (.t x) = [.t x] := rfl
theorem cells_row (r : Nat) : SV.cells (.row r) = [.row r] := rfl
theorem cells_nil : SV.cells .nil = [.nil] := rfl
theorem cells_agg (cs : List SV) : SV.cells (.agg cs) = cs := rfl
theorem toFilterD (f : List (List Trm)) (h : f.length < 4294967296) (hc : ∀ c ∈ f, c.length < 4294967296) : run E (.call 16 [.t (filT f)]) = some (.res [.agg [clsX f]] []) := by
  rw [run_call E 16 _ rfl Tryz.func16 rfl rfl rfl (by simp)]
  have h1 := toClsS f h (fun c hm => toClause c (hc c hm))
  have hb := bind_own (clsX_own f)
  obtain ⟨F, _, hF⟩ := take_rule (clsX_own f) (by omega) 3
  have htk := fun s q N o A B => hF s q N o (upd (upd ((clsX f).bO 3 o) 2 A) 1 B) (fun i h1 h2 => by rw [upd_ne _ _ (by omega), upd_ne _ _ (by omega)])
  have hlow : ∀ o i, i < 3 → (clsX f).bO 3 o i = o i := fun o i hi => X.bO_low _ 3 o i hi
  obtain ⟨c1, c2⟩ := bV_cells (clsX_own f) 3
  simp [h1, hb, htk, hlow, c1, c2, bind_tt, bind_agg, one_t, one_row, one_nil, cells_t, cells_row, cells_nil, cells_agg, -St.bind, -St.takeCell, -SV.one, -SV.cells]
theorem bind_one (x : X) (st : St) : st.bindCells [x] = ([x.bV st.n], { st with o := x.bO st.n st.o, n := x.bN st.n }) := by
  rw [bindCells_eq]
  simp only [X.bVs, X.bOs, X.bNs]
theorem toRdD (x : Rd) (h : x.Sm) : run E (.call 190 [.t (rdT x)]) = some (.res [.agg (rdC x)] []) := by
  rw [run_call E 190 _ rfl Tryz.func190 rfl rfl rfl (by simp)]
  have h1 := toFilterD x.filter h.filter.1 (fun c hc => (h.filter.2 c hc).1)
  have hb := bind_one (clsX x.filter)
  obtain ⟨F, _, hF⟩ := take_rule (clsX_own x.filter) (by omega) 3
  have htk := fun s q N o A B => hF s q N o (upd (upd ((clsX x.filter).bO 3 o) 2 A) 1 B) (fun i h1 h2 => by rw [upd_ne _ _ (by omega), upd_ne _ _ (by omega)])
  have hlow : ∀ o i, i < 3 → (clsX x.filter).bO 3 o i = o i := fun o i hi => X.bO_low _ 3 o i hi
  obtain ⟨c1, c2⟩ := bV_cells (clsX_own x.filter) 3
  have htt : ∀ (st : St) (s : Bytes), st.takeCell (.t (.str s)) = some (.t (.str s), st) := fun st s => rfl
  simp [h1, hb, htk, htt, hlow, c1, c2, bind_tt, bind_agg, one_t, one_row, one_nil, cells_t, cells_row, cells_nil, cells_agg, -St.bind, -St.bindCells, -St.takeCell, -SV.one, -SV.cells]
theorem toDnD (x : Dn) (h : x.Sm) : run E (.call 27 [.t (dnT x)]) = some (.res [.agg (dnC x)] []) := by
  rw [run_call E 27 _ rfl Tryz.func27 rfl rfl rfl (by simp)]
  have h1 := toRdS x.reads h.reads.1 (fun r hr => toRdD r (h.reads.2 r hr))
  have h2 := to_98 x.changes h.changes.1 (fun c hc => toChg c (h.changes.2 c hc))
  have hb := bind_own (rdsX_own x.reads)
  obtain ⟨F, hF1, hF⟩ := take_rule (rdsX_own x.reads) (by omega) 3
  have hN := X.bN_le (rdsX x.reads) 3
  generalize hM : (rdsX x.reads).bN 3 = M at *
  have n0 : M ≠ 0 := by omega
  have n1 : M ≠ 1 := by omega
  have n2 : M ≠ 2 := by omega
  have n3 : 0 ≠ M := by omega
  have n4 : 1 ≠ M := by omega
  have n5 : 2 ≠ M := by omega
  have htk := fun s q N o A B C D E' R => hF s q N o (upd (upd (upd (upd (upd (upd ((rdsX x.reads).bO 3 o) 2 A) M R) 2 B) 2 C) 2 D) 1 E') (fun i h1 h2 => by
    rw [upd_ne _ _ (by omega), upd_ne _ _ (by omega), upd_ne _ _ (by omega), upd_ne _ _ (by omega), upd_ne _ _ (by omega), upd_ne _ _ (by omega)])
  have hFM : ∀ o o', F o o' M = o' M := fun o o' => hF1 o o' M (Nat.le_refl _)
  have hlow : ∀ o i, i < 3 → (rdsX x.reads).bO 3 o i = o i := fun o i hi => X.bO_low _ 3 o i hi
  obtain ⟨c1, c2⟩ := bV_cells (rdsX_own x.reads) 3
  have htt : ∀ (st : St) (k : IntKind) (n : Int), st.takeCell (.t (.int k n)) = some (.t (.int k n), st) := fun st k n => rfl
  have htb : ∀ (st : St) (b : Bool), st.takeCell (.t (.bool b)) = some (.t (.bool b), st) := fun st b => rfl
  have htr : ∀ (st : St) (r : Nat), st.takeCell (.row r) = match st.o r with
    | .row e xs true => some (.row e xs, st.setO r .dead)
    | .row _ xs false => some (.t (.list xs), st)
    | _ => none := fun st r => rfl
  simp [h1, h2, hb, hM, n0, n1, n2, n3, n4, n5, htk, hFM, htt, htb, htr, hlow, c1, c2, bind_tt, bind_row, bind_agg, one_t, one_row, one_nil, cells_t, cells_row, cells_nil, cells_agg, -St.bind, -St.takeCell, -SV.one, -SV.cells]
end Go.Nd
/- Slices of boxes in a law: looked at, handed over. -/
set_option linter.unusedSimpArgs false
set_option linter.unusedVariables false
namespace Go.Nd
open Go.Ev Go.Proofs Go.Pu
set_option maxRecDepth 100000
set_option maxHeartbeats 4000000
theorem bind_nil (st : St) : st.bind .nil = (.nil, st) := rfl
theorem dead_one (r : Nat) (o : Nat → Ob) : deadO [r] o = upd o r .dead := (deadO_one r o).symm
theorem look_rule {d : Nat} {o : Nat → Ob} {v : SV} {x : X} {ids : List Nat} (h : Held d o v x ids) (hd : d ≤ 6) (s : Nat → SV) (q N : Nat) : St.giveRo ⟨s, o, q, N⟩ v = some (.t x.dat) ∧ St.roIds ⟨s, o, q, N⟩ v = ids := Held.ro (st := ⟨s, o, q, N⟩) h hd
/-- A value made at a place, with all that can be said about it. -/
theorem made {x : X} {d : Nat} (h : x.own d = true) (n : Nat) (o : Nat → Ob) : ∃ (V : SV) (A : Nat → Ob) (m : Nat) (ids : List Nat), (∀ s N, St.bind ⟨s, o, n, N⟩ x = (V, ⟨s, A, m, N⟩)) ∧ Held d A V x ids ∧ (∀ i ∈ ids, n ≤ i ∧ i < m) ∧ n ≤ m ∧ ∀ i, i < n → A i = o i := by
  obtain ⟨ids, hh, hc⟩ := X.bHeld x d n o h
  exact ⟨x.bV n, x.bO n o, x.bN n, ids, fun s N => bind_own h _, hh, hc, X.bN_le x n, fun i hi => X.bO_low x n o i hi⟩
theorem dead_out {ids : List Nat} {o : Nat → Ob} {i : Nat} (h : i ∉ ids) : deadO ids o i = o i := by simp [deadO, h]
theorem ro_row (st : St) (r : Nat) : st.giveRo (.row r) = match st.o r with
    | .row _ xs _ => some (.t (.list xs))
    | _ => none := by
  simp only [St.giveRo, St.lookX, St.peek, St.peek1]
  cases h : st.o r <;> simp [h, St.peekX, St.peek1F, St.peek1]
theorem ro_nil (st : St) : st.giveRo .nil = some (.t (.list [])) := rfl
theorem ro_list (st : St) (l : List T) : st.giveRo (.t (.list l)) = some (.t (.list l)) := rfl
theorem ro_int (st : St) (k : IntKind) (n : Int) : st.giveRo (.t (.int k n)) = some (.t (.int k n)) := rfl
theorem rid_row (st : St) (r : Nat) : st.roIds (.row r) = [r] := rfl
theorem rid_nil (st : St) : st.roIds .nil = [] := rfl
theorem rid_t (st : St) (t : T) : st.roIds (.t t) = [] := by
  cases t <;> rfl
theorem mut_row (st : St) (r : Nat) : st.giveMut (.row r) = match st.o r with
    | .row e xs true => some (.row e xs)
    | _ => none := rfl
theorem mut_nil (st : St) : st.giveMut .nil = some .nil := rfl
theorem mid_row (st : St) (r : Nat) : st.mutIds (.row r) = [r] := rfl
theorem mid_nil (st : St) : st.mutIds .nil = [] := rfl
theorem rg_row (st st0 : St) (r e : Nat) (xs : List T) : st.regain st0 (.row r) (some (.row e xs)) = match st0.o r with
    | .row e' _ true => if e' = e then some (st.setO r (.row e xs true)) else none
    | _ => none := rfl
theorem rg_nil (st st0 : St) (b : Option X) : st.regain st0 .nil b = some st := by
  rcases b with _ | x
  · rfl
  · cases x <;> rfl
end Go.Nd
