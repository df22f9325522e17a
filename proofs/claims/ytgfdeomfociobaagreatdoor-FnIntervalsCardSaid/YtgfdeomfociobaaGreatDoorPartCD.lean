/- Operations that may change places: the swap, and runs of lists. -/
import Derived.Test.YtgfdeomfociobaaGreatDoorPartCC
import Derived.SizedLaws
import Derived.ChangeArms
import Derived.Below
import Derived.Carry
import Derived.Laws.StructEq
set_option linter.unusedSimpArgs false
set_option linter.unusedVariables false
namespace Go.Ev
section
variable {E : Env} {C : Nat → List X → List X → List (Option X) → Prop}

/-- One operation, done. -/
def StepE (E : Env) (b : Bool) (C : Nat → List X → List X → List (Option X) → Prop) (o : Oper) (st st' : St) : Prop :=
  dstOk st o = true ∧ ∃ v st1, Eff E b C o st v st1 ∧ st' = st1.put o.dst v
theorem disj_x {x y : Oper} (h : disjointS x y = true) : (∀ d, x.dst = some d → d ∉ reads y.op ∧ y.dst ≠ some d) ∧ ∀ d, y.dst = some d → d ∉ reads x.op := by
  unfold disjointS at h
  rw [Bool.and_eq_true] at h
  obtain ⟨h1, h2⟩ := h
  constructor
  · intro d hd
    rw [hd] at h1
    simp only [Bool.and_eq_true, Bool.not_eq_true', bne_iff_ne, ne_eq] at h1
    exact ⟨by simpa using h1.1, h1.2⟩
  · intro d hd
    rw [hd] at h2
    simpa using h2
theorem put_reads {st : St} {d : Option Nat} {v : SV} {op : Op} (h : ∀ e, d = some e → e ∉ reads op) : ∀ i ∈ reads op, (st.put d v).s i = st.s i :=
  fun i hi => put_off (fun e => h i e hi)
theorem put_st (st : St) (d : Option Nat) (v : SV) : (st.put d v).N = st.N ∧ (st.put d v).n = st.n ∧ (st.put d v).o = st.o := by cases d <;> exact ⟨rfl, rfl, rfl⟩
theorem dstOk_N {st st1 : St} {o : Oper} (h : st1.N = st.N) : dstOk st1 o = dstOk st o := by
  unfold dstOk
  cases o.dst <;> simp [h]
theorem bindCell_quiet {x : X} (h : x.quiet = true) (st : St) : (st.bindCell x).2 = st ∧ ∀ st2 : St, (st2.bindCell x).1 = (st.bindCell x).1 := by
  cases x <;> simp [X.quiet] at h <;> exact ⟨rfl, fun _ => rfl⟩
theorem bindCells_quiet : ∀ {l : List X}, X.quiets l = true → ∀ (st : St), (st.bindCells l).2 = st ∧ ∀ st2 : St, (st2.bindCells l).1 = (st.bindCells l).1
  | [], _, st => ⟨rfl, fun _ => rfl⟩
  | x :: r, h, st => by
    simp only [X.quiets, Bool.and_eq_true] at h
    obtain ⟨a1, a2⟩ := bindCell_quiet h.1 st
    have b := fun st => bindCells_quiet h.2 st
    refine ⟨?_, fun st2 => ?_⟩
    · simp only [St.bindCells, a1, (b st).1]
    · simp only [St.bindCells, a1, a2 st2]
      obtain ⟨a3, _⟩ := bindCell_quiet h.1 st2
      rw [a3, (b st).2 st2]
theorem bind_quiet {x : X} (h : x.quiet = true) (st : St) : (st.bind x).2 = st ∧ ∀ st2 : St, (st2.bind x).1 = (st.bind x).1 := by
  cases x with
  | t t => exact ⟨rfl, fun _ => rfl⟩
  | nil => exact ⟨rfl, fun _ => rfl⟩
  | agg cs =>
    obtain ⟨a1, a2⟩ := bindCells_quiet (by simpa [X.quiet] using h) st
    exact ⟨a1, fun st2 => by simp only [St.bind, a2 st2]⟩
  | _ => simp [X.quiet] at h
theorem bindAll_quiet : ∀ {l : List X}, X.quiets l = true → ∀ (st : St), (st.bindAll l).2 = st ∧ ∀ st2 : St, (st2.bindAll l).1 = (st.bindAll l).1
  | [], _, st => ⟨rfl, fun _ => rfl⟩
  | x :: r, h, st => by
    simp only [X.quiets, Bool.and_eq_true] at h
    obtain ⟨a1, a2⟩ := bind_quiet h.1 st
    have b := fun st => bindAll_quiet h.2 st
    refine ⟨?_, fun st2 => ?_⟩
    · simp only [St.bindAll, a1, (b st).1]
    · simp only [St.bindAll, a1, a2 st2]
      obtain ⟨a3, _⟩ := bind_quiet h.1 st2
      rw [a3, (b st).2 st2]
theorem go_grown {st st2 : St} (hw : WF st) (hg : Grown st st2) : ∀ {l : List SV} {xs : List (List T)}, St.giveRo.go st l = some xs → St.giveRo.go st2 l = some xs
  | [], xs, h => h
  | v :: r, xs, h => by
    cases v with
    | ptr b off =>
      cases off with
      | zero =>
        simp only [St.giveRo.go] at h ⊢
        split at h
        · rename_i ho
          rw [hg.box hw ho]
          split at h
          · rename_i hp
            simp only [peekL_grown hg hw hp]
            simp only [Option.map_eq_some_iff] at h ⊢
            obtain ⟨ys, h1, h2⟩ := h
            exact ⟨ys, go_grown hw hg h1, h2⟩
          · cases h
        · cases h
      | succ n => simp [St.giveRo.go] at h
    | dptr cs =>
      simp only [St.giveRo.go, Option.map_eq_some_iff] at h ⊢
      obtain ⟨ys, h1, h2⟩ := h
      exact ⟨ys, go_grown hw hg h1, h2⟩
    | _ => simp [St.giveRo.go] at h
theorem peek_grown {st st2 : St} (hw : WF st) (hg : Grown st st2) {v : SV} {t : T} (h : st.peek v = some t) : st2.peek v = some t := by
  unfold St.peek at h ⊢
  split at h
  · split at h
    · cases h
    · rename_i h1
      simp only [peekL_grown hg hw h1]
      exact h
  · exact peek1_grown hg hw h
theorem giveRo_grown {st st2 : St} (hw : WF st) (hg : Grown st st2) {v : SV} {x : X} (h : st.giveRo v = some x) : st2.giveRo v = some x := by
  cases v with
  | fn g caps =>
    simp only [St.giveRo, Option.map_eq_some_iff] at h ⊢
    obtain ⟨ys, h1, h2⟩ := h
    exact ⟨ys, go_grown hw hg h1, h2⟩
  | ptr b off =>
    simp only [St.giveRo] at h ⊢
    split at h
    · rename_i ho
      rw [hg.box hw ho]
      simp only [Option.map_eq_some_iff] at h ⊢
      obtain ⟨ys, h1, h2⟩ := h
      exact ⟨ys, peekL_grown hg hw h1, h2⟩
    · cases h
  | eptr r i off =>
    simp only [St.giveRo] at h ⊢
    split at h
    · rename_i ho
      obtain ⟨l', h1⟩ := hg.row hw ho
      rw [h1]; exact h
    · cases h
  | dptr cs => exact h
  | meth g first => exact h
  | _ =>
    simp only [St.giveRo, Option.map_eq_some_iff] at h ⊢
    obtain ⟨t, h1, h2⟩ := h
    exact ⟨t, peek_grown hw hg h1, h2⟩
theorem give_grown {st st2 : St} (hw : WF st) (hg : Grown st st2) : ∀ {l : List SV} {xs : List X}, st.give [] l = some xs → st2.give [] l = some xs
  | [], xs, h => h
  | v :: r, xs, h => by
    simp only [St.give, List.headD_nil, Bool.false_eq_true, if_false, List.tail_nil] at h ⊢
    split at h
    · rename_i h1 h2
      simp only [giveRo_grown hw hg h1, give_grown hw hg h2]
      exact h
    · cases h
/-- What a call tells of its results where the callee is flat. -/
def Tells (E : Env) (C : Nat → List X → List X → List (Option X) → Prop) : Prop := ∀ g xs rs bs, C g xs rs bs → E.flat g = true → X.quiets rs = true
theorem quiet_back {st st1 : St} {v : SV} {g : Nat} {caps vs : List SV} {rs : List X} {bs : List (Option X)} (hm : (E.md g).isEmpty = true) (hf : E.flat g = true) (hq : X.quiets rs = true) (h : callBack E st (.fn g caps) vs rs bs = some (v, st1)) : st1 = st ∧ ∀ st2, callBack E st2 (.fn g caps) vs rs bs = some (v, st2) := by
  have hm' : E.md g = [] := by simpa using hm
  have hk : ∀ st : St, kill (st.mutAll []) st = st := fun _ => rfl
  have hmid : ∀ st : St, callMid E st g (ownB E g rs bs) (vs ++ caps) = some st := by
    intro st
    have ho : ownB E g rs bs = true := by unfold ownB; rw [if_pos hf]
    unfold callMid
    simp only [ho, hm', muts_nil, hk]
  unfold callBack at h
  simp only [hmid, hm', muts_nil] at h
  split at h
  · cases h
  · rename_i st2 hr
    cases bs with
    | cons b bs => simp [St.regainAll] at hr
    | nil =>
      simp only [St.regainAll, Option.some.injEq] at hr
      subst hr
      obtain ⟨b1, b2⟩ := bindAll_quiet hq st
      simp only [Option.some.injEq, Prod.mk.injEq] at h
      obtain ⟨rfl, rfl⟩ := h
      refine ⟨b1, fun st2 => ?_⟩
      unfold callBack
      simp only [hmid, hm', muts_nil, St.regainAll, b2 st2, (bindAll_quiet hq st2).1]
theorem flat_data {st st1 : St} {v : SV} {g : Nat} {as : List SV} {rs : List X} {bs : List (Option X)} (hm : (E.md g).isEmpty = true) (hf : E.flat g = true) (h : dataBack E st g as rs bs = some (v, st1)) : st1 = st ∧ ∀ st2 : St, dataBack E st2 g as rs bs = some (v, st2) := by
  have hm' : E.md g = [] := by simpa using hm
  have hk : ∀ st : St, kill (st.mutAll []) st = st := fun _ => rfl
  have hmid : ∀ st : St, callMid E st g (E.flat g) as = some st := by
    intro st
    unfold callMid
    simp only [hf, hm', muts_nil, hk]
  unfold dataBack at h ⊢
  simp only [hmid] at h ⊢
  split at h
  · simp only [Option.some.injEq, Prod.mk.injEq] at h
    obtain ⟨rfl, rfl⟩ := h
    exact ⟨rfl, fun _ => rfl⟩
  · cases h
theorem still_same {b : Bool} {o : Oper} {st st1 : St} {v : SV} (hT : Tells E C) (hs : still E o.op = true) (h : Eff E b C o st v st1) : st1 = st := by
  unfold still at hs
  rw [Bool.or_eq_true] at hs
  cases h with
  | op h =>
    rcases hs with hs | hs
    · rw [opB_other (fun t n ps e => by rw [e] at hs; simp [isReader] at hs)] at h
      exact reader_same hs h
    · rw [opB_other (fun t n ps e => by rw [e] at hs; simp [isQuiet] at hs)] at h
      cases ho : o.op <;> rw [ho] at hs h <;> simp only [isQuiet] at hs <;> try contradiction
      rename_i c
      simp only [St.op] at h
      split at hs
      · rename_i hc
        rw [hc] at h
        cases h
      · cases hs
  | @call cl f g xs rs bs ho hc hp hC hb =>
    rcases hs with hs | hs
    · rw [ho] at hs; simp [isReader, hc] at hs
    · rw [ho] at hs
      simp only [isQuiet, hc] at hs
      cases f with
      | func g' =>
        have hv : st.val (.func g') = .fn g' [] := rfl
        rw [hv] at hb hp
        simp only [Bool.and_eq_true] at hs
        have hgg : g = g' := by
          unfold callPrep at hp
          simp only at hp
          split at hp
          · simp only [Option.map_eq_some_iff, Prod.mk.injEq] at hp
            obtain ⟨_, _, e, _⟩ := hp
            exact e.symm
          · cases hp
        subst hgg
        cases b with
        | false => exact (quiet_back hs.1 hs.2 (hT _ _ _ _ hC hs.2) hb).1
        | true =>
          simp only [callBackB, callBackS, hs.1, if_true] at hb
          exact (flat_data hs.1 hs.2 hb).1
      | _ => simp at hs
theorem still_grown {b : Bool} {o : Oper} {st st2 : St} {v : SV} (hT : Tells E C) (hs : still E o.op = true) (w : WF st) (hg : Grown st st2) (h1 : st2.s = st.s) (h2 : st2.N = st.N) (h : Eff E b C o st v st) : Eff E b C o st2 v st2 := by
  have hs0 := hs
  unfold still at hs
  rw [Bool.or_eq_true] at hs
  cases h with
  | op h =>
    rcases hs with hs | hs
    · have hne : ∀ t n ps, o.op ≠ .buildSlice t n ps := fun t n ps e => by rw [e] at hs; simp [isReader] at hs
      rw [opB_other hne] at h
      exact .op (by rw [opB_other hne]; exact reader_grown hs w hg h1 h2 h)
    · rw [opB_other (fun t n ps e => by rw [e] at hs; simp [isQuiet] at hs)] at h
      cases ho : o.op <;> rw [ho] at hs h <;> simp only [isQuiet] at hs <;> try contradiction
      rename_i c
      simp only [St.op] at h
      split at hs
      · rename_i hc
        rw [hc] at h
        cases h
      · cases hs
  | @call cl f g xs rs bs ho hc hp hC hb =>
    rcases hs with hs | hs
    · rw [ho] at hs; simp [isReader, hc] at hs
    · rw [ho] at hs
      simp only [isQuiet, hc] at hs
      cases f with
      | func g' =>
        have hv : ∀ st : St, st.val (.func g') = .fn g' [] := fun _ => rfl
        rw [hv] at hb hp
        simp only [Bool.and_eq_true] at hs
        have hm' : E.md g' = [] := by simpa using hs.1
        unfold callPrep at hp
        simp only [hm', muts_nil] at hp
        split at hp
        · simp only [Option.map_eq_some_iff, Prod.mk.injEq] at hp
          obtain ⟨xs', hx, rfl, rfl⟩ := hp
          have hvs : cl.args.toList.map st2.val = cl.args.toList.map st.val := List.map_congr_left (fun x _ => val_same h1 h2 x)
          refine .call ho hc (g := g') (xs := xs') (rs := rs) (bs := bs) ?_ hC ?_
          · rw [hv, hvs]
            unfold callPrep
            simp only [hm', muts_nil, give_grown w hg hx]
            rw [if_pos ⟨by simp [St.mutAll], fun i _ => by simp [St.mutAll]⟩]
            rfl
          · rw [hv, hvs]
            cases b with
            | false => exact (quiet_back hs.1 hs.2 (hT _ _ _ _ hC hs.2) hb).2 st2
            | true =>
              simp only [callBackB, callBackS, hs.1, if_true] at hb ⊢
              exact (flat_data hs.1 hs.2 hb).2 st2
        · cases hp
      | _ => simp at hs
/-! ### What freezes rows alone, and what is allocated -/
theorem freeze_alloc {st : St} {r : Nat} (ob : Ob) (hr : r < st.n) : (st.alloc ob).freeze r = (st.freeze r).alloc ob := by
  have ho : (st.alloc ob).o r = st.o r := upd_ne _ _ (by omega)
  unfold St.freeze
  rw [ho]
  cases hor : st.o r with
  | row e xs l =>
    simp only [St.setO, St.alloc]
    congr 1
    funext i
    simp only [upd]
    by_cases h1 : i = r
    · subst h1
      have : i ≠ st.n := by omega
      simp [this]
    · by_cases h2 : i = st.n
      · subst h2
        simp [h1]
      · simp [h1, h2]
  | _ => rfl
theorem freeze_n (st : St) (r : Nat) : (st.freeze r).n = st.n := by
  unfold St.freeze; split <;> rfl
theorem freezeAll_alloc : ∀ {ids : List Nat} {st : St} (ob : Ob), (∀ r ∈ ids, r < st.n) → freezeAll ids (st.alloc ob) = (freezeAll ids st).alloc ob
  | [], st, ob, h => rfl
  | r :: l, st, ob, h => by
    show freezeAll l ((st.alloc ob).freeze r) = (freezeAll l (st.freeze r)).alloc ob
    rw [freeze_alloc ob (h r (by simp))]
    exact freezeAll_alloc ob (fun q hq => by rw [freeze_n]; exact h q (by simp [hq]))
theorem freezeAll_n : ∀ (ids : List Nat) (st : St), (freezeAll ids st).n = st.n
  | [], st => rfl
  | r :: l, st => by
    show (freezeAll l (st.freeze r)).n = st.n
    rw [freezeAll_n l, freeze_n]
theorem roIds_grown {st st2 : St} (hw : WF st) (hg : Grown st st2) {v : SV} {x : X} (h : st.giveRo v = some x) : st2.roIds v = st.roIds v := by
  have hgo : ∀ {l : List SV} {xs : List (List T)}, St.giveRo.go st l = some xs → st2.capIds l = st.capIds l := by
    intro l
    induction l with
    | nil => intro xs _; rfl
    | cons s r ih =>
      intro xs h
      cases s with
      | ptr b off =>
        cases off with
        | succ n => simp [St.giveRo.go] at h
        | zero =>
          simp only [St.giveRo.go] at h
          split at h
          · rename_i ho
            split at h
            · simp only [Option.map_eq_some_iff] at h
              obtain ⟨ys, h1, _⟩ := h
              simp only [St.capIds, ho, hg.box hw ho, ih h1]
            · cases h
          · cases h
      | dptr cs =>
        simp only [St.giveRo.go, Option.map_eq_some_iff] at h
        obtain ⟨ys, h1, _⟩ := h
        simp only [St.capIds, ih h1]
      | _ => simp [St.giveRo.go] at h
  cases v with
  | fn g caps =>
    simp only [St.giveRo, Option.map_eq_some_iff] at h
    obtain ⟨ys, h1, _⟩ := h
    simp only [St.roIds, hgo h1]
  | ptr b off =>
    simp only [St.giveRo] at h
    split at h
    · rename_i ho
      simp only [St.roIds, St.capIds, ho, hg.box hw ho]
    · cases h
  | _ => rfl
theorem roAll_grown {st st2 : St} (hw : WF st) (hg : Grown st st2) : ∀ {l : List SV} {xs : List X}, st.give [] l = some xs → st2.roAll l = st.roAll l
  | [], xs, h => rfl
  | v :: r, xs, h => by
    simp only [St.give, List.headD_nil, Bool.false_eq_true, if_false, List.tail_nil] at h
    split at h
    · rename_i h1 h2
      have ih := roAll_grown hw hg h2
      simp only [St.roAll, List.map_cons, List.flatten_cons] at ih ⊢
      rw [roIds_grown hw hg h1, ih]
    · cases h
theorem ros_nil {α : Type} : ∀ (l : List α), ros [] l = l
  | [] => rfl
  | x :: r => by simp only [ros, List.headD_nil, Bool.false_eq_true, if_false, List.tail_nil, ros_nil r]
theorem rowAt_lt {st : St} (hw : WF st) {r : Nat} (h : st.rowAt r = true) : r < st.n := by
  refine hw.lt (fun e => ?_)
  simp [St.rowAt, e] at h
theorem rowAt_alloc {st : St} {ob : Ob} {r : Nat} (hr : r < st.n) : (st.alloc ob).rowAt r = st.rowAt r := by
  have ho : (st.alloc ob).o r = st.o r := upd_ne _ _ (by omega)
  simp only [St.rowAt, ho]
theorem data_alloc {st st1 : St} {v : SV} {g : Nat} {as : List SV} {xs rs : List X} {bs : List (Option X)} (hw : WF st) (ob : Ob) (hm : (E.md g).isEmpty = true) (hg : st.give [] as = some xs) (h : dataBack E st g as rs bs = some (v, st1)) : st1.n = st.n ∧ dataBack E (st.alloc ob) g as rs bs = some (v, st1.alloc ob) := by
  have hm' : E.md g = [] := by simpa using hm
  have hk : ∀ st : St, kill (st.mutAll []) st = st := fun _ => rfl
  have hro : (st.alloc ob).roAll as = st.roAll as := roAll_grown hw (grown_alloc st ob) hg
  unfold dataBack at h ⊢
  unfold callMid at h ⊢
  simp only [hm', muts_nil, ros_nil, hk, hro] at h ⊢
  cases hfl : E.flat g with
  | true =>
    simp only [hfl] at h ⊢
    split at h
    · simp only [Option.some.injEq, Prod.mk.injEq] at h
      obtain ⟨rfl, rfl⟩ := h
      exact ⟨rfl, rfl⟩
    · cases h
  | false =>
    simp only [hfl] at h ⊢
    by_cases hall : (st.roAll as).all st.rowAt = true
    · rw [if_pos hall] at h
      have hlt : ∀ r ∈ st.roAll as, r < st.n := fun r hr => rowAt_lt hw (List.all_eq_true.1 hall r hr)
      have hall2 : (st.roAll as).all (st.alloc ob).rowAt = true := by
        rw [List.all_eq_true] at hall ⊢
        intro r hr
        rw [rowAt_alloc (hlt r hr)]
        exact hall r hr
      rw [if_pos hall2, freezeAll_alloc ob hlt]
      simp only at h ⊢
      split at h
      · simp only [Option.some.injEq, Prod.mk.injEq] at h
        obtain ⟨rfl, rfl⟩ := h
        exact ⟨freezeAll_n _ _, rfl⟩
      · cases h
    · rw [if_neg hall] at h
      cases h
theorem absorb1_alloc {st st1 : St} (hw : WF st) (ob : Ob) {s : SV} {t : T} (h : st.absorb1 s = some (t, st1)) : st1.n = st.n ∧ (st.alloc ob).absorb1 s = some (t, st1.alloc ob) := by
  have hpk : ∀ t, st.peek1 s = some t → (st.alloc ob).peek1 s = some t := fun t h => peek1_grown (grown_alloc st ob) hw h
  unfold St.absorb1 at h ⊢
  split at h
  · cases h
  · rename_i t0 hp
    rw [hpk t0 hp]
    simp only
    have hrow : ∀ r lo hi, (s = .row r ∨ s = .view r lo hi) → r < st.n := by
      intro r lo hi hs
      refine hw.lt (fun e => ?_)
      rcases hs with rfl | rfl <;> simp [St.peek1, e] at hp
    split at h
    · rename_i r
      simp only [Option.some.injEq, Prod.mk.injEq] at h
      obtain ⟨rfl, rfl⟩ := h
      refine ⟨freeze_n _ _, ?_⟩
      simp only [freeze_alloc ob (hrow r 0 0 (.inl rfl))]
    · rename_i r lo hi
      simp only [Option.some.injEq, Prod.mk.injEq] at h
      obtain ⟨rfl, rfl⟩ := h
      refine ⟨freeze_n _ _, ?_⟩
      simp only [freeze_alloc ob (hrow r lo hi (.inr rfl))]
    · rename_i hn1 hn2
      simp only [Option.some.injEq, Prod.mk.injEq] at h
      obtain ⟨rfl, rfl⟩ := h
      refine ⟨rfl, ?_⟩
      cases s <;> first | rfl | exact absurd rfl (hn1 _) | exact absurd rfl (hn2 _ _ _)
theorem absorbL_alloc (ob : Ob) : ∀ {l : List SV} {st st1 : St} {ts : List T}, WF st → st.absorbL l = some (ts, st1) → st1.n = st.n ∧ (st.alloc ob).absorbL l = some (ts, st1.alloc ob)
  | [], st, st1, ts, hw, h => by
    simp only [St.absorbL, Option.some.injEq, Prod.mk.injEq] at h
    obtain ⟨rfl, rfl⟩ := h
    exact ⟨rfl, rfl⟩
  | s :: r, st, st1, ts, hw, h => by
    unfold St.absorbL at h
    split at h
    · cases h
    · rename_i t st2 h1
      split at h
      · cases h
      · rename_i ts' st3 h2
        simp only [Option.some.injEq, Prod.mk.injEq] at h
        obtain ⟨rfl, rfl⟩ := h
        obtain ⟨a1, a2⟩ := absorb1_alloc hw ob h1
        obtain ⟨b1, b2⟩ := absorbL_alloc ob ((keeps_absorb1 h1).wf hw) h2
        refine ⟨b1.trans a1, ?_⟩
        unfold St.absorbL
        simp only [a2, b2]
theorem absorb_alloc {st st1 : St} (hw : WF st) (ob : Ob) {s : SV} {t : T} (h : st.absorb s = some (t, st1)) : st1.n = st.n ∧ (st.alloc ob).absorb s = some (t, st1.alloc ob) := by
  unfold St.absorb at h ⊢
  split at h
  · split at h
    · cases h
    · rename_i h1
      simp only [Option.some.injEq, Prod.mk.injEq] at h
      obtain ⟨rfl, rfl⟩ := h
      obtain ⟨a1, a2⟩ := absorbL_alloc ob hw h1
      simp only [a2]
      exact ⟨a1, trivial⟩
  · rename_i hn
    obtain ⟨a1, a2⟩ := absorb1_alloc hw ob h
    cases s <;> first | exact ⟨a1, a2⟩ | exact absurd rfl (hn _)
theorem absorbAll_alloc (ob : Ob) : ∀ {l : List SV} {st st1 : St} {ts : List T}, WF st → st.absorbAll l = some (ts, st1) → st1.n = st.n ∧ (st.alloc ob).absorbAll l = some (ts, st1.alloc ob)
  | [], st, st1, ts, hw, h => by
    simp only [St.absorbAll, Option.some.injEq, Prod.mk.injEq] at h
    obtain ⟨rfl, rfl⟩ := h
    exact ⟨rfl, rfl⟩
  | s :: r, st, st1, ts, hw, h => by
    unfold St.absorbAll at h
    split at h
    · cases h
    · rename_i t st2 h1
      split at h
      · cases h
      · rename_i ts' st3 h2
        simp only [Option.some.injEq, Prod.mk.injEq] at h
        obtain ⟨rfl, rfl⟩ := h
        obtain ⟨a1, a2⟩ := absorb_alloc hw ob h1
        obtain ⟨b1, b2⟩ := absorbAll_alloc ob ((keeps_absorb h1).wf hw) h2
        refine ⟨b1.trans a1, ?_⟩
        unfold St.absorbAll
        simp only [a2, b2]
/-- What is calm goes the same way from a state with one object more. -/
theorem calm_alloc {o : Oper} {st st1 : St} {v : SV} (hc : isCalm E o.op = true) (w : WF st) (ob : Ob) (h : Eff E true C o st v st1) : st1.n = st.n ∧ Eff E true C o (st.alloc ob) v (st1.alloc ob) := by
  have hvv : ∀ x, (st.alloc ob).val x = st.val x := fun x => val_same rfl rfl x
  cases h with
  | op h =>
    cases ho : o.op <;> rw [ho] at hc h <;> simp only [isCalm] at hc <;> try contradiction
    · rename_i t n ps
      simp only [St.opB, St.opS] at h
      split at h
      · rename_i hcond
        split at h
        · rename_i ts st2 hab
          simp only [Option.some.injEq, Prod.mk.injEq] at h
          obtain ⟨rfl, rfl⟩ := h
          obtain ⟨a1, a2⟩ := absorbAll_alloc ob w hab
          refine ⟨a1, .op ?_⟩
          have e2 : (ps.toList.map fun p => (st.alloc ob).val p.2) = ps.toList.map fun p => st.val p.2 := List.map_congr_left (fun p _ => hvv p.2)
          rw [ho]
          simp only [St.opB, St.opS, e2]
          rw [if_pos hcond, a2]
        · cases h
      · cases h
    · rename_i c
      simp only [St.opB, St.opS, St.op] at h
      split at hc
      · rename_i hcc
        rw [hcc] at h
        cases h
      · cases hc
  | @call cl f g xs rs bs ho hcl hp hC hb =>
    rw [ho] at hc
    simp only [isCalm, hcl] at hc
    cases f with
    | func g' =>
      have hm : (E.md g').isEmpty = true := by simpa using hc
      have hm' : E.md g' = [] := by simpa using hm
      have hv : ∀ st : St, st.val (.func g') = .fn g' [] := fun _ => rfl
      rw [hv] at hb hp
      unfold callPrep at hp
      simp only [hm', muts_nil] at hp
      split at hp
      · simp only [Option.map_eq_some_iff, Prod.mk.injEq] at hp
        obtain ⟨xs', hx, rfl, rfl⟩ := hp
        simp only [callBackB, callBackS, hm, if_true] at hb
        have hx' : st.give [] (cl.args.toList.map st.val ++ []) = some xs' := hx
        obtain ⟨a1, a2⟩ := data_alloc w ob hm hx' hb
        have hvs : cl.args.toList.map (st.alloc ob).val = cl.args.toList.map st.val := List.map_congr_left (fun x _ => hvv x)
        refine ⟨a1, .call ho hcl (g := g') (xs := xs') (rs := rs) (bs := bs) ?_ hC ?_⟩
        · rw [hv, hvs]
          unfold callPrep
          simp only [hm', muts_nil, give_grown w (grown_alloc st ob) hx]
          rw [if_pos ⟨by simp [St.mutAll], fun i _ => by simp [St.mutAll]⟩]
          rfl
        · rw [hv, hvs]
          simp only [callBackB, callBackS, hm, if_true]
          exact a2
      · cases hp
    | _ => simp at hc
section
variable {b : Bool} {x y : Oper} {st s1 s2 : St}
theorem swap_s {x y : Oper} {b1 a1 : St} {u v : SV} (w : WF a1) (ey : Eff E b C y (a1.put x.dst v) u b1) : b1 = (b1.ss a1.s).put x.dst v := by
  have hs : b1.s = (a1.put x.dst v).s := (ey.keeps (by intro i hi; rw [(put_st a1 x.dst v).2.2]; rw [(put_st a1 x.dst v).2.1] at hi; exact w i hi)).s
  cases hxd : x.dst with
  | none =>
    rw [hxd] at hs
    show b1 = b1.ss a1.s
    have hs' : b1.s = a1.s := hs
    rw [← hs']; rfl
  | some d =>
    rw [hxd] at hs
    have hs' : b1.s = upd a1.s d v := hs
    show b1 = { (b1.ss a1.s) with s := upd a1.s d v }
    rw [← hs']; rfl
/-- The first changes nothing, and finds behind the second what it found ahead of it. -/
theorem swap_x {v u : SV} {b1 : St} (hd : disjointS x y = true) (w : WF st) (dx : dstOk st x = true) (ex : Eff E b C x st v st) (dy : dstOk st y = true) (ey : Eff E b C y (st.put x.dst v) u b1)
    (hin : ∀ q, q.s = st.s → q.N = st.N → Eff E b C y st u q → Eff E b C x q v q) : ∃ t1, StepE E b C y st t1 ∧ StepE E b C x t1 (b1.put y.dst u) := by
  obtain ⟨hd1, hd2⟩ := disj_x hd
  have hcomm : ∀ (q : St), ((q.put y.dst u).put x.dst v) = ((q.put x.dst v).put y.dst u) := fun q => (put_comm (fun d hd => (hd1 d hd).2)).symm
  have ey' := ey.ss (s := st.s) (fun i hi => ((put_reads (st := st) (d := x.dst) (v := v) (op := y.op) (fun e he => (hd1 e he).1)) i hi).symm)
  have h0 : (st.put x.dst v).ss st.s = st := by cases x.dst <;> rfl
  rw [h0] at ey'
  have ky := ey'.keeps w
  refine ⟨(b1.ss st.s).put y.dst u, ⟨dy, u, _, ey', rfl⟩, ?_, v, (b1.ss st.s).put y.dst u, ?_, ?_⟩
  · rw [dstOk_N ((put_st _ _ _).1.trans ky.N)]; exact dx
  · have hh : Eff E b C x (b1.ss st.s) v (b1.ss st.s) := hin (b1.ss st.s) rfl ky.N ey'
    have := hh.ss (s := ((b1.ss st.s).put y.dst u).s) (put_reads hd2)
    rw [← put_ss] at this
    exact this
  · rw [hcomm, ← swap_s w ey]
/-- The second changes nothing, and needs nothing of the first. -/
theorem swap_y {v u : SV} {a1 : St} (hd : disjointS x y = true) (w : WF st) (dx : dstOk st x = true) (ex : Eff E b C x st v a1) (dy : dstOk st y = true)
    (h1 : Eff E b C y st u st) : ∃ t1, StepE E b C y st t1 ∧ StepE E b C x t1 ((a1.put x.dst v).put y.dst u) := by
  obtain ⟨hd1, hd2⟩ := disj_x hd
  have hcomm : ∀ (q : St), ((q.put y.dst u).put x.dst v) = ((q.put x.dst v).put y.dst u) := fun q => (put_comm (fun d hd => (hd1 d hd).2)).symm
  have kx := ex.keeps w
  refine ⟨st.put y.dst u, ⟨dy, u, st, h1, rfl⟩, ?_, v, (a1.put y.dst u), ?_, ?_⟩
  · rw [dstOk_N (put_st _ _ _).1]; exact dx
  · have := ex.ss (s := (st.put y.dst u).s) (put_reads hd2)
    rw [← put_ss] at this
    have he : a1.ss (st.put y.dst u).s = a1.put y.dst u := by
      cases y.dst with
      | none => show a1.ss st.s = a1; rw [← kx.s]; rfl
      | some d => show a1.ss (upd st.s d u) = _; rw [← kx.s]; rfl
    rwa [he] at this
  · rw [hcomm]
/-- The second's value from the state ahead of the first. -/
theorem back_y {v u : SV} {a1 : St} (hd : disjointS x y = true) (w : WF st) (ex : Eff E b C x st v a1) (hn : ∀ q : St, q.s = (a1.put x.dst v).s → q.N = (a1.put x.dst v).N → Eff E b C y q u q) : Eff E b C y st u st := by
  obtain ⟨hd1, hd2⟩ := disj_x hd
  have kx := ex.keeps w
  have h1 := hn { st with s := (a1.put x.dst v).s } rfl (by show st.N = _; rw [(put_st _ _ _).1, kx.N])
  have h2 := h1.ss (s := st.s) (fun i hi => by
    show st.s i = (a1.put x.dst v).s i
    rw [put_off (fun e => (hd1 i e).1 hi), kx.s])
  exact h2
theorem swapE (hT : Tells E C) (hm : mayPass E b x y = true) (w : WF st) (hx : StepE E b C x st s1) (hy : StepE E b C y s1 s2) : ∃ t1, StepE E b C y st t1 ∧ StepE E b C x t1 s2 := by
  obtain ⟨dx, v, a1, ex, rfl⟩ := hx
  obtain ⟨dy, u, b1, ey, rfl⟩ := hy
  unfold mayPass at hm
  rw [Bool.and_eq_true] at hm
  obtain ⟨hd, hm⟩ := hm
  have kx := ex.keeps w
  rw [dstOk_N ((put_st a1 x.dst v).1.trans kx.N)] at dy
  rw [Bool.or_eq_true, Bool.or_eq_true] at hm
  rcases hm with (hm | hp) | hm
  · rw [Bool.and_eq_true, Bool.or_eq_true, Bool.or_eq_true] at hm
    obtain ⟨h1, h2⟩ := hm
    have := still_same hT h1 ex
    subst this
    refine swap_x hd w dx ex dy ey (fun q qs qN eq => ?_)
    rcases h2 with (hp | hp) | hp
    · have hxr : isReader E x.op = true := by
        cases hx : x.op <;> rw [hx] at hp <;> first | rfl | exact hp | (simp [isPure] at hp; done) | skip
        rename_i c
        simp only [isPure] at hp
        simp only [isReader]
        split at hp <;> rename_i hc <;> first | rw [hc] | cases hp
      have hne : ∀ t n ps, x.op ≠ .buildSlice t n ps := fun t n ps e => by rw [e] at hxr; simp [isReader] at hxr
      have hxop : a1.op E x.op = some (v, a1) := by
        cases ex with
        | op h => rwa [opB_other hne] at h
        | call ho hc => rw [ho] at hxr; simp [isReader, hc] at hxr
      exact .op (by rw [opB_other hne]; exact (pure_any (st := a1) (st2 := q) hp qs qN hxop).2)
    · rw [still_same hT hp eq]; exact ex
    · exact still_grown (st := a1) (st2 := q) hT h1 w (eq.grown hp) qs qN ex
  · have hr : isReader E y.op = true := by
      cases hy : y.op <;> rw [hy] at hp <;> first | rfl | exact hp | (simp [isPure] at hp; done) | skip
      rename_i c
      simp only [isPure] at hp
      simp only [isReader]
      split at hp <;> rename_i hc <;> first | rw [hc] | cases hp
    have hne : ∀ t n ps, y.op ≠ .buildSlice t n ps := fun t n ps e => by rw [e] at hr; simp [isReader] at hr
    have hyop : (a1.put x.dst v).op E y.op = some (u, b1) := by
      cases ey with
      | op h => rwa [opB_other hne] at h
      | call ho hc => rw [ho] at hr; simp [isReader, hc] at hr
    have := reader_same hr hyop
    subst this
    refine swap_y hd w dx ex dy (back_y hd w ex (fun q qs qN => .op ?_))
    rw [opB_other hne]
    exact (pure_any hp qs qN hyop).2
  · simp only [Bool.and_eq_true] at hm
    obtain ⟨rfl, hc, ha⟩ := hm
    obtain ⟨hd1, hd2⟩ := disj_x hd
    have hcomm : ∀ (q : St) (u : SV), ((q.put y.dst u).put x.dst v) = ((q.put x.dst v).put y.dst u) := fun q u => (put_comm (fun d hd => (hd1 d hd).2)).symm
    have ey' := ey.ss (s := st.s) (fun i hi => by
      rw [put_off (fun e => (hd1 i e).1 hi), kx.s])
    have h0 : (a1.put x.dst v).ss st.s = a1 := by
      rw [← kx.s]
      cases x.dst <;> rfl
    rw [h0] at ey'
    -- what is allocated
    have hal : ∃ ob, u = .ptr a1.n 0 ∧ b1.ss st.s = a1.alloc ob ∧ Eff E true C y st (.ptr st.n 0) (st.alloc ob) := by
      have hvv : ∀ x, a1.val x = st.val x := fun x => val_same kx.s kx.N x
      cases ey' with
      | op h =>
        cases hyo : y.op <;> rw [hyo] at ha h <;> simp only [isAlloc] at ha <;> try contradiction
        · simp only [St.opB, St.opS, St.op] at h
          split at h
          · rename_i hk
            simp only [Option.some.injEq, Prod.mk.injEq] at h
            obtain ⟨rfl, e⟩ := h
            refine ⟨_, rfl, e.symm, .op ?_⟩
            rw [hyo]
            simp only [St.opB, St.opS, St.op]
            rw [if_pos hk]
          · cases h
        · simp only [St.opB, St.opS, St.op, hvv] at h
          split at h
          · rename_i hk
            simp only [Option.some.injEq, Prod.mk.injEq] at h
            obtain ⟨rfl, e⟩ := h
            refine ⟨_, rfl, e.symm, .op ?_⟩
            rw [hyo]
            simp only [St.opB, St.opS, St.op]
            rw [if_pos hk]
          · cases h
      | call ho => rw [ho] at ha; simp [isAlloc] at ha
    obtain ⟨ob, hu, hb1, hy1⟩ := hal
    obtain ⟨n1, ex1⟩ := calm_alloc hc w ob ex
    rw [n1] at hu
    subst hu
    refine ⟨(st.alloc ob).put y.dst (.ptr st.n 0), ⟨dy, _, _, hy1, rfl⟩, ?_, v, (a1.alloc ob).put y.dst (.ptr st.n 0), ?_, ?_⟩
    · rw [dstOk_N ((put_st _ _ _).1)]; exact dx
    · have := ex1.ss (s := ((st.alloc ob).put y.dst (.ptr st.n 0)).s) (put_reads hd2)
      rw [← put_ss] at this
      have he : (a1.alloc ob).ss ((st.alloc ob).put y.dst (.ptr st.n 0)).s = (a1.alloc ob).put y.dst (.ptr st.n 0) := by
        cases y.dst with
        | none => show (a1.alloc ob).ss st.s = a1.alloc ob; rw [← kx.s]; rfl
        | some d => show (a1.alloc ob).ss (upd st.s d _) = _; rw [← kx.s]; rfl
      rwa [he] at this
    · rw [hcomm, ← hb1]
      have hb : b1 = (b1.ss st.s).put x.dst v := by
        have := swap_s (kx.wf w) ey
        rw [kx.s] at this
        exact this
      rw [← hb]
/-- By labels. -/
def passD (x y : Oper) (lx ly : Lab) : Bool := disjointS x y && dynOK lx ly
theorem swapD (hm : passD x y (labOf E st x) (labOf E s1 y) = true) (w : WF st) (hx : StepE E true C x st s1) (hy : StepE E true C y s1 s2) (hns : labOf E st x ≠ .skip) (hns' : labOf E s1 y ≠ .skip) : ∃ t1, StepE E true C y st t1 ∧ StepE E true C x t1 s2 := by
  obtain ⟨dx, v, a1, ex, rfl⟩ := hx
  obtain ⟨dy, u, b1, ey, rfl⟩ := hy
  unfold passD at hm
  rw [Bool.and_eq_true] at hm
  obtain ⟨hd, hm⟩ := hm
  obtain ⟨hd1, hd2⟩ := disj_x hd
  have kx := ex.keeps w
  rw [dstOk_N ((put_st a1 x.dst v).1.trans kx.N)] at dy
  have hly : labOf E (a1.put x.dst v) y = labOf E st y := lab_same ((put_st _ _ _).1.trans kx.N) (fun i hi => by rw [put_off (fun e => (hd1 i e).1 hi), kx.s])
  by_cases px : labOf E st x = .pu
  · obtain ⟨rfl, hn⟩ := neutral ex px
    exact swap_x hd w dx ex dy ey (fun q qs qN _ => hn q qs qN)
  · by_cases py : labOf E (a1.put x.dst v) y = .pu
    · obtain ⟨rfl, hn⟩ := neutral ey py
      exact swap_y hd w dx ex dy (back_y hd w ex hn)
    · -- a load ahead
      rw [hly] at hm hns' py
      have hld : ∃ b1 o1 n1, labOf E st x = .ld b1 o1 n1 := by
        have key : ∀ lx ly, dynOK lx ly = true → lx ≠ .skip → lx ≠ .pu → ly ≠ .skip → ly ≠ .pu → ∃ b1 o1 n1, lx = .ld b1 o1 n1 := by
          intro lx ly hm hns px hns' py
          cases lx <;> first | exact absurd rfl hns | exact absurd rfl px | exact ⟨_, _, _, rfl⟩ | (cases ly <;> first | exact absurd rfl hns' | exact absurd rfl py | cases hm)
        exact key _ _ hm hns px hns' py
      obtain ⟨bb, oo, nn, hlx⟩ := hld
      have hxl : ∃ t a, x.op = .load t a ∧ st.val a = .ptr bb oo ∧ (E.ty t).size = nn := by
        unfold labOf at hlx
        cases hxo : x.op <;> rw [hxo] at hlx <;> simp only at hlx <;> try (cases hlx; done)
        · split at hlx <;> cases hlx
        · rename_i t a
          split at hlx
          · rename_i hv
            injection hlx with e1 e2 e3
            subst e1; subst e2
            exact ⟨t, a, rfl, hv, e3⟩
          · cases hlx
          · cases hlx
        · split at hlx <;> cases hlx
        · split at hlx <;> cases hlx
        · split at hlx <;> cases hlx
      obtain ⟨t, a, hxo, hva, hnn⟩ := hxl
      have hxop : st.op E (.load t a) = some (v, a1) := by
        cases ex with
        | op h => rw [hxo] at h; exact h
        | call ho => rw [hxo] at ho; cases ho
      have hsm := reader_same (E := E) (op := .load t a) rfl hxop
      subst hsm
      refine swap_x hd w dx ex dy ey (fun q qs qN eq => .op ?_)
      rw [hxo]
      show q.op E (.load t a) = some (v, q)
      rw [hlx] at hm
      cases hly2 : labOf E a1 y with
      | skip => exact absurd hly2 hns'
      | pu => exact absurd hly2 py
      | kp => exact load_kept qs qN hva (fun ty cs ho => ⟨cs, (eq.kept w (.inl hly2)) _ _ ho, rfl, rfl⟩) hxop
      | no => rw [hly2] at hm; cases hm
      | ld _ _ _ => rw [hly2] at hm; cases hm
      | sb b2 o2 n2 =>
        rw [hly2] at hm
        simp only [dynOK, Bool.or_eq_true, decide_eq_true_eq] at hm
        have hyl : ∃ t' a' x', y.op = .store t' a' x' ∧ a1.val a' = .ptr b2 o2 ∧ (a1.val x').cells.length = n2 := by
          unfold labOf at hly2
          cases hyo : y.op <;> rw [hyo] at hly2 <;> simp only at hly2 <;> try (cases hly2; done)
          · split at hly2 <;> cases hly2
          · split at hly2 <;> cases hly2
          · rename_i t' a' x'
            split at hly2
            · rename_i hv
              injection hly2 with e1 e2 e3
              subst e1; subst e2
              exact ⟨t', a', x', rfl, hv, e3⟩
            · cases hly2
          · split at hly2 <;> cases hly2
          · split at hly2 <;> cases hly2
        obtain ⟨t', a', x', hyo, hva', hn2⟩ := hyl
        have hyop : a1.op E (.store t' a' x') = some (u, q) := by
          cases eq with
          | op h => rw [hyo] at h; exact h
          | call ho => rw [hyo] at ho; cases ho
        exact load_store qs qN hva hva' (by rw [hnn, hn2]; exact hm) hyop hxop
      | cl p =>
        rw [hly2] at hm
        have hp : bb ∉ p := by simpa [dynOK] using hm
        exact load_kept qs qN hva (fun ty cs ho => ⟨cs, (eq.kept w (.inr ⟨_, hly2, hp⟩)) _ _ ho, rfl, rfl⟩) hxop
end
/-- The slot that a guard reads. -/
def gslot (all : Array Oper) (o : Oper) : Option Nat := o.guard.bind fun g => (all[g.1]?).bind (·.dst)
def guardsApart (all : Array Oper) (x y : Oper) : Bool :=
  (match gslot all y with
    | none => true
    | some d => x.dst != some d) &&
  (match gslot all x with
    | none => true
    | some d => y.dst != some d)
def mayPassG (E : Env) (b : Bool) (all : Array Oper) (x y : Oper) : Bool := mayPass E b x y && guardsApart all x y
theorem guard_same {all : Array Oper} {o : Oper} {st st1 : St} (hN : st1.N = st.N) (h : ∀ d, gslot all o = some d → st1.s d = st.s d) : guardOf all st1 o = guardOf all st o := by
  unfold guardOf
  cases hg : o.guard with
  | none => rfl
  | some g =>
    obtain ⟨j, want⟩ := g
    simp only
    cases hd : (all[j]?).bind (·.dst) with
    | none => rfl
    | some d =>
      have := h d (by simp [gslot, hg, hd])
      simp only [St.val, hN, this]
/-- One operation: done, or passed over. -/
def StepR (E : Env) (b : Bool) (C : Nat → List X → List X → List (Option X) → Prop) (all : Array Oper) (o : Oper) (st st' : St) : Prop :=
  (guardOf all st o = some true ∧ StepE E b C o st st') ∨ (guardOf all st o = some false ∧ dstOk st o = true ∧ st' = st.put o.dst (.tup []))
/-- The same, with its label. -/
def StepL (E : Env) (C : Nat → List X → List X → List (Option X) → Prop) (all : Array Oper) (p : Oper × Lab) (st st' : St) : Prop :=
  (guardOf all st p.1 = some true ∧ p.2 = labOf E st p.1 ∧ StepE E true C p.1 st st') ∨ (guardOf all st p.1 = some false ∧ p.2 = .skip ∧ dstOk st p.1 = true ∧ st' = st.put p.1.dst (.tup []))
theorem lab_noskip (E : Env) (st : St) (o : Oper) : labOf E st o ≠ .skip := by
  unfold labOf
  split <;> (try split) <;> (try split) <;> (intro h; cases h)
theorem StepE.keep {b : Bool} {o : Oper} {st st1 : St} (h : StepE E b C o st st1) (w : WF st) : st1.N = st.N ∧ ∀ d, o.dst ≠ some d → st1.s d = st.s d := by
  obtain ⟨_, v, a, ha, rfl⟩ := h
  have k := ha.keeps w
  exact ⟨(put_st _ _ _).1.trans k.N, fun d hd => (put_off hd).trans (by rw [k.s])⟩
theorem StepR.keep {b : Bool} {all : Array Oper} {o : Oper} {st st1 : St} (h : StepR E b C all o st st1) (w : WF st) : st1.N = st.N ∧ ∀ d, o.dst ≠ some d → st1.s d = st.s d := by
  rcases h with ⟨_, h⟩ | ⟨_, _, rfl⟩
  · exact h.keep w
  · exact ⟨(put_st _ _ _).1, fun d hd => put_off hd⟩
/-- The swap, given the swap of what is done. -/
theorem swapG {b : Bool} {all : Array Oper} {x y : Oper} {st s1 s2 : St} (hdj : disjointS x y = true) (hga : guardsApart all x y = true) (w : WF st)
    (hsw : guardOf all st x = some true → guardOf all s1 y = some true → StepE E b C x st s1 → StepE E b C y s1 s2 → ∃ t1, StepE E b C y st t1 ∧ StepE E b C x t1 s2) (hx : StepR E b C all x st s1) (hy : StepR E b C all y s1 s2) :
    ∃ t1, StepR E b C all y st t1 ∧ StepR E b C all x t1 s2 ∧ guardOf all st y = guardOf all s1 y ∧ guardOf all t1 x = guardOf all st x := by
  have gy : ∀ d, gslot all y = some d → x.dst ≠ some d := by
    intro d hd
    unfold guardsApart at hga
    rw [Bool.and_eq_true, hd] at hga
    simpa using hga.1
  have gx : ∀ d, gslot all x = some d → y.dst ≠ some d := by
    intro d hd
    unfold guardsApart at hga
    rw [Bool.and_eq_true, hd] at hga
    simpa using hga.2
  obtain ⟨hd1, hd2⟩ := disj_x hdj
  have hcomm : ∀ (q : St) (u v : SV), ((q.put y.dst u).put x.dst v) = ((q.put x.dst v).put y.dst u) := fun q u v => (put_comm (fun d hd => (hd1 d hd).2)).symm
  rcases hx with ⟨hgx, hx⟩ | ⟨hgx, dx, rfl⟩
  · obtain ⟨kN, ks⟩ := hx.keep w
    have e1 : guardOf all s1 y = guardOf all st y := guard_same kN (fun d hd => ks d (gy d hd))
    rcases hy with ⟨hgy, hy⟩ | ⟨hgy, dy, rfl⟩
    · obtain ⟨t1, h1, h2⟩ := hsw hgx hgy hx hy
      obtain ⟨kN', ks'⟩ := h1.keep w
      have e2 : guardOf all t1 x = guardOf all st x := guard_same kN' (fun d hd => ks' d (gx d hd))
      exact ⟨t1, .inl ⟨e1 ▸ hgy, h1⟩, .inl ⟨e2.trans hgx, h2⟩, e1.symm, e2⟩
    · have e2 : guardOf all (st.put y.dst (.tup [])) x = guardOf all st x := guard_same (put_st _ _ _).1 (fun d hd => put_off (gx d hd))
      refine ⟨st.put y.dst (.tup []), .inr ⟨e1 ▸ hgy, (dstOk_N kN).symm.trans dy, rfl⟩, .inl ⟨e2.trans hgx, ?_⟩, e1.symm, e2⟩
      obtain ⟨dx, v, a1, ex, rfl⟩ := hx
      have k := ex.keeps w
      refine ⟨by rw [dstOk_N (put_st _ _ _).1]; exact dx, v, a1.ss (st.put y.dst (.tup [])).s, ?_, ?_⟩
      · have := ex.ss (s := (st.put y.dst (.tup [])).s) (put_reads hd2)
        rw [← put_ss] at this
        exact this
      · have he : a1.ss (st.put y.dst (.tup [])).s = a1.put y.dst (.tup []) := by
          cases y.dst with
          | none => show a1.ss st.s = a1; rw [← k.s]; rfl
          | some d => show a1.ss (upd st.s d (.tup [])) = _; rw [← k.s]; rfl
        rw [he, hcomm]
  · have e1 : guardOf all (st.put x.dst (.tup [])) y = guardOf all st y := guard_same (put_st _ _ _).1 (fun d hd => put_off (gy d hd))
    rcases hy with ⟨hgy, hy⟩ | ⟨hgy, dy, rfl⟩
    · obtain ⟨dy, u, b1, ey, rfl⟩ := hy
      have ey' := ey.ss (s := st.s) (fun i hi => ((put_reads (st := st) (d := x.dst) (v := .tup []) (op := y.op) (fun e he => (hd1 e he).1)) i hi).symm)
      have h0 : (st.put x.dst (.tup [])).ss st.s = st := by cases x.dst <;> rfl
      rw [h0] at ey'
      have ky := ey'.keeps w
      have hq : StepE E b C y st ((b1.ss st.s).put y.dst u) := ⟨(dstOk_N (put_st _ _ _).1).symm.trans dy, u, _, ey', rfl⟩
      obtain ⟨kN', ks'⟩ := hq.keep w
      have e2 : guardOf all ((b1.ss st.s).put y.dst u) x = guardOf all st x := guard_same kN' (fun d hd => ks' d (gx d hd))
      refine ⟨_, .inl ⟨e1 ▸ hgy, hq⟩, .inr ⟨e2.trans hgx, (dstOk_N kN').trans dx, ?_⟩, e1.symm, e2⟩
      rw [hcomm, ← swap_s w ey]
    · have e2 : guardOf all (st.put y.dst (.tup [])) x = guardOf all st x := guard_same (put_st _ _ _).1 (fun d hd => put_off (gx d hd))
      exact ⟨st.put y.dst (.tup []), .inr ⟨e1 ▸ hgy, (dstOk_N (put_st _ _ _).1).symm.trans dy, rfl⟩, .inr ⟨e2.trans hgx, (dstOk_N (put_st _ _ _).1).trans dx, (hcomm st (.tup []) (.tup [])).symm⟩, e1.symm, e2⟩
theorem swap (hT : Tells E C) {b : Bool} {all : Array Oper} {x y : Oper} {st s1 s2 : St} (hm : mayPassG E b all x y = true) (w : WF st) (hx : StepR E b C all x st s1) (hy : StepR E b C all y s1 s2) : ∃ t1, StepR E b C all y st t1 ∧ StepR E b C all x t1 s2 := by
  unfold mayPassG at hm
  rw [Bool.and_eq_true] at hm
  obtain ⟨hm, hga⟩ := hm
  have hdj : disjointS x y = true := by
    unfold mayPass at hm
    rw [Bool.and_eq_true] at hm
    exact hm.1
  obtain ⟨t1, h1, h2, _⟩ := swapG hdj hga w (fun _ _ hx hy => swapE hT hm w hx hy) hx hy
  exact ⟨t1, h1, h2⟩
theorem StepL.toR {all : Array Oper} {p : Oper × Lab} {st st1 : St} (h : StepL E C all p st st1) : StepR E true C all p.1 st st1 := by
  rcases h with ⟨h1, _, h2⟩ | ⟨h1, _, h2, h3⟩
  · exact .inl ⟨h1, h2⟩
  · exact .inr ⟨h1, h2, h3⟩
theorem StepL.lab {all : Array Oper} {p : Oper × Lab} {st st1 : St} (h : StepL E C all p st st1) (hg : guardOf all st p.1 = some true) : p.2 = labOf E st p.1 := by
  rcases h with ⟨_, h1, _⟩ | ⟨h1, _⟩
  · exact h1
  · rw [hg] at h1; cases h1
theorem StepL.skip {all : Array Oper} {p : Oper × Lab} {st st1 : St} (h : StepL E C all p st st1) (hg : guardOf all st p.1 = some false) : p.2 = .skip := by
  rcases h with ⟨h1, _⟩ | ⟨_, h1, _⟩
  · rw [hg] at h1; cases h1
  · exact h1
/-- With labels: by rule, or by what the labels say. -/
def passL (E : Env) (all : Array Oper) (p q : Oper × Lab) : Bool := mayPassG E true all p.1 q.1 || (passD p.1 q.1 p.2 q.2 && guardsApart all p.1 q.1)
theorem swapL (hT : Tells E C) {all : Array Oper} {p q : Oper × Lab} {st s1 s2 : St} (hm : passL E all p q = true) (w : WF st) (hx : StepL E C all p st s1) (hy : StepL E C all q s1 s2) : ∃ t1, StepL E C all q st t1 ∧ StepL E C all p t1 s2 := by
  have hdj : disjointS p.1 q.1 = true ∧ guardsApart all p.1 q.1 = true := by
    unfold passL at hm
    rw [Bool.or_eq_true] at hm
    rcases hm with hm | hm
    · unfold mayPassG mayPass at hm
      simp only [Bool.and_eq_true] at hm
      exact ⟨hm.1.1, hm.2⟩
    · unfold passD at hm
      simp only [Bool.and_eq_true] at hm
      exact ⟨hm.1.1, hm.2⟩
  obtain ⟨hdj, hga⟩ := hdj
  obtain ⟨hd1, hd2⟩ := disj_x hdj
  have kx := hx.toR.keep w
  have hlq : labOf E s1 q.1 = labOf E st q.1 := lab_same kx.1 (fun i hi => kx.2 i (fun e => (hd1 i e).1 hi))
  obtain ⟨t1, h1, h2, g1, g2⟩ := swapG hdj hga w (fun gx gy ex ey => by
    unfold passL at hm
    rw [Bool.or_eq_true] at hm
    rcases hm with hm | hm
    · unfold mayPassG at hm
      rw [Bool.and_eq_true] at hm
      exact swapE hT hm.1 w ex ey
    · rw [Bool.and_eq_true, hx.lab gx, hy.lab gy] at hm
      exact swapD hm.1 w ex ey (lab_noskip _ _ _) (lab_noskip _ _ _)) hx.toR hy.toR
  have ky := h1.keep w
  have hlp : labOf E t1 p.1 = labOf E st p.1 := lab_same ky.1 (fun i hi => ky.2 i (fun e => hd2 i e hi))
  refine ⟨t1, ?_, ?_⟩
  · rcases h1 with ⟨hg, he⟩ | ⟨hg, hd, he⟩
    · exact .inl ⟨hg, by rw [← hlq]; exact hy.lab (g1 ▸ hg), he⟩
    · exact .inr ⟨hg, hy.skip (g1 ▸ hg), hd, he⟩
  · rcases h2 with ⟨hg, he⟩ | ⟨hg, hd, he⟩
    · exact .inl ⟨hg, by rw [hlp]; exact hx.lab (g2 ▸ hg), he⟩
    · exact .inr ⟨hg, hx.skip (g2 ▸ hg), hd, he⟩
theorem StepR.wf {b : Bool} {all : Array Oper} {o : Oper} {st st1 : St} (h : StepR E b C all o st st1) (w : WF st) : WF st1 := by
  rcases h with ⟨_, _, v, a, ha, rfl⟩ | ⟨_, _, rfl⟩
  · have := (ha.keeps w).wf w
    intro i hi
    rw [(put_st a o.dst v).2.1] at hi
    rw [(put_st a o.dst v).2.2]
    exact this i hi
  · intro i hi
    rw [(put_st st o.dst (.tup [])).2.1] at hi
    rw [(put_st st o.dst (.tup [])).2.2]
    exact w i hi
/-- A list of operations, one by one. -/
inductive RunR {α : Type} (S : α → St → St → Prop) : List α → St → St → Prop
  | nil (st : St) : RunR S [] st st
  | cons {o : α} {r : List α} {st st1 st2 : St} (h : S o st st1) (k : RunR S r st1 st2) : RunR S (o :: r) st st2
inductive Swaps {α : Type} (p : α → α → Bool) : List α → List α → Prop
  | refl (l : List α) : Swaps p l l
  | cons {o : α} {l l' : List α} (h : Swaps p l l') : Swaps p (o :: l) (o :: l')
  | swap {x y : α} {l l' : List α} (h : p x y = true) (k : Swaps p (y :: x :: l) l') : Swaps p (x :: y :: l) l'
  | trans {l l' l'' : List α} (h : Swaps p l l') (k : Swaps p l' l'') : Swaps p l l''
theorem RunR.swaps {α : Type} {S : α → St → St → Prop} {p : α → α → Bool} (hs : ∀ {x y : α} {st s1 s2 : St}, p x y = true → WF st → S x st s1 → S y s1 s2 → ∃ t1, S y st t1 ∧ S x t1 s2) (hwf : ∀ {o : α} {st st1 : St}, S o st st1 → WF st → WF st1) {l l' : List α} (hr : Swaps p l l') : ∀ {st st' : St}, WF st → RunR S l st st' → RunR S l' st st' := by
  induction hr with
  | refl l => exact fun _ h => h
  | cons h ih =>
    intro st st' w h
    cases h with
    | cons h1 h2 => exact .cons h1 (ih (hwf h1 w) h2)
  | swap hm k ih =>
    intro st st' w h
    cases h with
    | cons h1 h2 =>
      cases h2 with
      | cons h2 h3 =>
        obtain ⟨t1, k1, k2⟩ := hs hm w h1 h2
        exact ih w (.cons k1 (.cons k2 h3))
  | trans h k ih1 ih2 => exact fun w h => ih2 w (ih1 w h)
abbrev OpsR (E : Env) (b : Bool) (C : Nat → List X → List X → List (Option X) → Prop) (all : Array Oper) : List Oper → St → St → Prop := RunR (StepR E b C all)
abbrev OpsL (E : Env) (C : Nat → List X → List X → List (Option X) → Prop) (all : Array Oper) : List (Oper × Lab) → St → St → Prop := RunR (StepL E C all)
theorem OpsL.toR {all : Array Oper} {l : List (Oper × Lab)} {st st' : St} (h : OpsL E C all l st st') : OpsR E true C all (l.map (·.1)) st st' := by
  induction h with
  | nil st => exact .nil st
  | cons h k ih => exact .cons h.toR ih
theorem OpsR.swaps (hT : Tells E C) {b : Bool} {all : Array Oper} {l l' : List Oper} (hr : Swaps (mayPassG E b all) l l') {st st' : St} (w : WF st) (h : OpsR E b C all l st st') : OpsR E b C all l' st st' :=
  RunR.swaps (S := StepR E b C all) (p := mayPassG E b all) (fun hm w h1 h2 => swap hT hm w h1 h2) (fun h w => h.wf w) hr w h
theorem OpsL.swaps (hT : Tells E C) {all : Array Oper} {l l' : List (Oper × Lab)} (hr : Swaps (passL E all) l l') {st st' : St} (w : WF st) (h : OpsL E C all l st st') : OpsL E C all l' st st' :=
  RunR.swaps (S := StepL E C all) (p := passL E all) (fun hm w h1 h2 => swapL hT hm w h1 h2) (fun h w => h.toR.wf w) hr w h
end
end Go.Ev
/- Operations of strict regions: slices that are built are plain data. -/
set_option linter.unusedSimpArgs false
set_option linter.unusedVariables false
namespace Go.Ev
section
variable {E : Env} {P : Program} {M0 : Nat → Prop} {w0 : World} {c : Ctx} {st st' : St} {a : Act} {w w' : World}
theorem row_data (hI : Inv E M0 w0 c st w) {xs : List T} {e z k : Nat} {vs : Array Value} {fr : Nat × Nat} (hh : w'.heap = w.heap.push (.cells vs e fr)) (ht : w'.tape = w.tape) (ho : w'.os = w.os) (hu : w'.output = w.output)
    (hz : z = (E.ty e).size) (hz0 : 0 < z) (hk : xs.length ≤ k) (hm : k ≤ maxLen) (hw : ∀ x ∈ xs, x.cells.length = z) (h1 : ∀ x ∈ xs, ∀ y ∈ x.cells, y.one = true) (hvs : k * z ≤ vs.size) (hfr : ∀ j, j < k * z → ¬ (fr.1 ≤ j ∧ j < fr.2))
    (hc : ∀ (j : Nat) x (t : Nat) y, xs[j]? = some x → x.cells[t]? = some y → ∃ v, vs[j * z + t]? = some v ∧ RD c.F w y v) :
    Step E M0 w0 c st w (.t (.list xs)) st (c.withF (fun k => c.F k ∨ k = w.heap.size)) (.slice (some ⟨w.heap.size, 0, none⟩) xs.length k) w' := by
  have hs := row_step hI hh ht ho hu hz hz0 hk hm hw h1 hvs hfr hc
  have hF : ∀ k, c.F k → c.F k ∨ k = w.heap.size := fun k hk => .inl hk
  have hsame : Same w w' (fun _ => False) := ⟨by rw [hh]; simp, fun k hk _ => by rw [hh, Array.getElem?_push, if_neg (by omega)], ht, ho, hu⟩
  have hw' := hI.world hsame (fun _ h => h.elim) (fun _ _ _ h => h)
  have hinv := hw'.moreF (F := fun k => c.F k ∨ k = w.heap.size) hF (fun k hk => by
    rcases hk with hk | rfl
    · exact ⟨hw'.F k hk, hw'.bnd k hk⟩
    · exact ⟨by rw [hh]; simp, .inr (.inr hI.same.size)⟩) (fun i hi ho hk => by
    rcases hk with hk | hk
    · exact (hI.own i hi ho).2.1 hk
    · have := (hI.own i hi ho).1
      omega)
  refine ⟨Ctx.le_withF hF, hinv, hs.keep, rfl, rfl, .t ?_⟩
  have hrn : st.n < (st.alloc (.row e xs true)).n := Nat.lt_succ_self _
  have hro : (st.alloc (.row e xs true)).o st.n = .row e xs true := upd_self _ _ _
  have hrd := hs.inv.row_RD hrn hro
  have hval : (c.push w.heap.size (.slice (some ⟨w.heap.size, 0, none⟩) xs.length k) z).val st.n = .slice (some ⟨w.heap.size, 0, none⟩) xs.length k := by rw [← hI.n]; exact upd_self _ _ _
  rw [hval] at hrd
  refine hrd.mono (fun q hq => ?_) (fun _ _ => rfl)
  rcases hq with hq | ⟨i, hi, _, _, rfl⟩
  · exact .inl hq
  · obtain rfl := List.mem_singleton.1 hi
    rw [← hI.n]
    exact .inr (upd_self _ _ _)
theorem opS_sound (hP : POK E P) (hI : Inv E M0 w0 c st w) (hL : Laid E c.F w) (hA : InvA c st a w) {o : Oper} {r : SV} {st1 : St} (h : st.opS E o.op = some (r, st1)) : Answers E P M0 w0 c st w (execOp a.eval o) r st1 := by
  by_cases hb : ∃ t n ps, o.op = .buildSlice t n ps
  · obtain ⟨t, n, ps, ho⟩ := hb
    rw [ho] at h
    unfold execOp
    rw [ho]
    simp only [St.opS] at h
    split at h
    · rename_i hc
      split at h
      · rename_i ts st2 hab
        simp only [Option.some.injEq, Prod.mk.injEq] at h
        obtain ⟨rfl, rfl⟩ := h
        obtain ⟨cells', F, hrun, g1, g2, g5, g6, htn, i7, hnmax, hmem, hsz, hcell⟩ := buildSlice_pre hP hI hA hc hab
        have hstep := row_data (w' := w.alloc (.cells cells' (E.ty t).elem)) (c := c.withF F) g1 (xs := ts) (e := (E.ty t).elem) (z := (E.ty (E.ty t).elem).size) (k := n) (fr := (0, 0)) rfl rfl rfl rfl rfl i7 (by omega) hnmax (fun x hx => (hmem x hx).1) (fun x hx => (hmem x hx).2)
          (by rw [hsz]; exact Nat.le_refl _) (fun j _ => by simp) hcell
        rw [htn] at hstep
        exact .value ⟨_, _, hrun, _, ⟨(Ctx.le_withF g2).trans hstep.le, hstep.inv, fun k hk => hstep.keep k (g2 k hk), hstep.hs.trans g5, hstep.hN.trans g6, hstep.rel⟩⟩
      · cases h
    · cases h
  · have he : st.opS E o.op = st.op E o.op := by
      cases ho : o.op <;> first | rfl | exact absurd ⟨_, _, _, ho⟩ hb
    rw [he] at h
    exact op_sound hP hI hL hA h
end
end Go.Ev
/- What the evaluator computes is what the program does. -/
set_option linter.unusedSimpArgs false
set_option linter.unusedVariables false
namespace Go.Ev

structure SOK (E : Env) (P : Program) : Prop where
  pok : POK E P
  name : ∀ (f : Nat) (fn : Func), P.funcs[f]? = some fn → fn.body.isSome = true → (fn.name == "runtime.NumGoroutine") = false
  ext : ∀ f g args rs bs, E.ext f = some g → g args = some (rs, bs) → CallOK E P f args rs bs
  draw : ∀ ops l, E.draw ops = some l → ∀ t, Swaps (mayPassG E false ops) l ((Region.schedule (P.follows .mixedOrders) ops t).filterMap (ops[·]?))
  drawS : ∀ ops p, E.drawS ops = some p → ∀ ls : List Lab, ls.length = p.2.length → ckOK p.1 ls = true → ∀ t, ∃ lab : Nat → Lab, Swaps (passL E ops) (p.2.zip ls) ((Region.schedule (P.follows .mixedOrders) ops t).filterMap (fun i => (ops[i]?).map fun o => (o, lab i)))

def LoopWp (P : Program) (c : Code) (Q : Exit → Act → World → Prop) (a : Act) (w : World) : Prop :=
  ∀ (b : Frame) (k : List Item) (cs : List Frame), ∃ e a' w', Q e a' w' ∧ Arrives P (lone (b.at a (.code c :: .inLoop c :: k)) cs w) b k cs e a' w'
theorem LoopWp.wp {P : Program} {c : Code} {Q : Exit → Act → World → Prop} {a : Act} {w : World} (h : LoopWp P c Q a w) : (Code.loop c).wp P Q a w :=
  fun b k cs => let ⟨e, a', w', q, r⟩ := h b k cs; ⟨e, a', w', q, .of_steps (.one step_loop) r⟩
theorem LoopWp.round {P : Program} {c : Code} {Q : Exit → Act → World → Prop} {a : Act} {w : World} (h : c.wp P (Exit.then (LoopWp P c Q) Q) a w) : LoopWp P c Q a w := by
  intro b k cs
  obtain ⟨e, a₁, w₁, hq, harr⟩ := h b (.inLoop c :: k) cs
  cases e with
  | normal =>
    obtain ⟨e₂, a₂, w₂, hq₂, harr₂⟩ := hq b k cs
    exact ⟨e₂, a₂, w₂, hq₂, .of_steps (Steps.trans harr (.one step_inLoop)) harr₂⟩
  | exit id => exact ⟨_, a₁, w₁, hq, .pass (x := .inLoop c) rfl (fun _ _ => .inl (by simp)) harr⟩
  | goto l => exact ⟨_, a₁, w₁, hq, .pass (x := .inLoop c) rfl (fun _ _ => .inl (by simp)) harr⟩
  | ret => exact ⟨_, a₁, w₁, hq, .pass (x := .inLoop c) rfl (fun _ _ => .inl (by simp)) harr⟩
  | panic ch => exact ⟨_, a₁, w₁, hq, .pass (x := .inLoop c) rfl (fun _ _ => .inl (by simp)) harr⟩
  | outgrown => exact ⟨_, a₁, w₁, hq, .pass (x := .inLoop c) rfl (fun _ _ => .inl (by simp)) harr⟩
def CodeWp (P : Program) : Code → (Exit → Act → World → Prop) → Act → World → Prop
  | .loop c => LoopWp P c
  | c => c.wp P
theorem CodeWp.wp {P : Program} {c : Code} {Q : Exit → Act → World → Prop} {a : Act} {w : World} (h : CodeWp P c Q a w) : c.wp P Q a w := by
  cases c <;> first | exact h | exact LoopWp.wp h

def ExOf : Ex → Exit
  | .normal => .normal
  | .exit id => .exit id
  | .ret => .ret
def Fine (E : Env) (M0 : Nat → Prop) (w0 : World) (c : Ctx) (e : Ex) (st' : St) : Exit → Act → World → Prop := fun x a' w' => x = ExOf e ∧ ∃ c', c.Le c' ∧ Inv E M0 w0 c' st' w' ∧ InvA c' st' a' w'
theorem Fine.mono {E : Env} {M0 : Nat → Prop} {w0 : World} {c c1 : Ctx} {e : Ex} {st' : St} {x : Exit} {a : Act} {w : World} (h : Fine E M0 w0 c1 e st' x a w) (hc : c.Le c1) : Fine E M0 w0 c e st' x a w := by
  obtain ⟨h1, c', h2, h3⟩ := h
  exact ⟨h1, c', hc.trans h2, h3⟩

inductive OpsG (E : Env) (C : Nat → List X → List X → List (Option X) → Prop) (all : Array Oper) : List Oper → St → St → Prop
  | nil (st : St) : OpsG E C all [] st st
  | skip {o : Oper} {r : List Oper} {st st2 : St} (hd : dstOk st o = true) (hg : guardOf all st o = some false) (k : OpsG E C all r (st.put o.dst (.tup [])) st2) : OpsG E C all (o :: r) st st2
  | cons {o : Oper} {r : List Oper} {st st1 st2 : St} {v : SV} (hd : dstOk st o = true) (hg : guardOf all st o = some true) (h : Eff E false C o st v st1) (k : OpsG E C all r (st1.put o.dst v) st2) : OpsG E C all (o :: r) st st2
theorem OpsG.toR {E : Env} {C : Nat → List X → List X → List (Option X) → Prop} {all : Array Oper} {l : List Oper} {st st' : St} (h : OpsG E C all l st st') : OpsR E false C all l st st' := by
  induction h with
  | nil st => exact .nil st
  | skip hd hg k ih => exact .cons (.inr ⟨hg, hd, rfl⟩) ih
  | cons hd hg h k ih => exact .cons (.inl ⟨hg, hd, _, _, h, rfl⟩) ih
def Sound (E : Env) (P : Program) : Task → Out → Prop
  | .code c st, .st e st' => ∀ M0 w0 ctx a w, Laid0 E M0 ctx.F w0 → Inv E M0 w0 ctx st w → InvA ctx st a w → CodeWp P c (Fine E M0 w0 ctx e st') a w
  | .ops none all rest st, .st e st' => e = .normal ∧ OpsG E (CallOK E P) all rest st st'
  | .ops (some p) all rest st, .st e st' => e = .normal ∧ ∃ ls : List Lab, ls.length = rest.length ∧ OpsL E (CallOK E P) all (rest.zip ls) st st' ∧ ckOK p.1 (p.2 ++ ls) = true
  | .call f xs, .res rs bs => CallOK E P f xs rs bs
  | _, _ => True

section
variable {E : Env} {P : Program} {M0 : Nat → Prop} {w0 : World} {c : Ctx} {st st' : St} {a : Act} {w w' : World}

theorem Inv.slots (hI : Inv E M0 w0 c st w) (s : Nat → SV) (N : Nat) : Inv E M0 w0 c { st with s := s, N := N } w := ⟨hI.n, hI.obs, hI.dead, hI.inj, hI.own, hI.F, hI.one, hI.same, hI.bnd⟩
theorem Inv.put (hI : Inv E M0 w0 c st w) (d : Option Nat) (v : SV) : Inv E M0 w0 c (st.put d v) w := by
  cases d with
  | none => exact hI
  | some d => exact ⟨hI.n, hI.obs, hI.dead, hI.inj, hI.own, hI.F, hI.one, hI.same, hI.bnd⟩
theorem Inv.drawn (hI : Inv E M0 w0 c st w) (d : Nat) : Inv E M0 w0 c st { w with drawn := d } := by
  refine hI.world (S := fun _ => False) ⟨Nat.le_refl _, fun _ _ _ => rfl, rfl, rfl, rfl⟩ (fun _ h => h.elim) (fun _ _ _ h => h)
theorem InvA.drawn (hA : InvA c st a w) (d : Nat) : InvA c st a { w with drawn := d } := hA.mono (Ctx.Le.refl c) (fun _ _ => rfl) rfl rfl

theorem rel_skip : Rel c w (.tup []) undef := .tup [] #[] rfl (fun i s v hs _ => by simp at hs)
theorem wanted_of (hA : InvA c st a w) {all : Array Oper} {o : Oper} {b : Bool} (h : guardOf all st o = some b) : Region.wanted o (yielded all a.tmps) = b := by
  unfold guardOf at h
  unfold Region.wanted
  split at h
  · rename_i hg
    obtain rfl := Option.some.inj h
    rw [hg]
  · rename_i j want hg
    rw [hg]
    split at h
    · cases h
    · rename_i d hd
      split at h
      · rename_i x hx
        obtain rfl := Option.some.inj h
        have hlt : d < st.N := by
          by_cases hlt : d < st.N
          · exact hlt
          · simp [St.val, hlt] at hx
        have hr := val_rel hA (.tmp d)
        rw [hx] at hr
        have he := hr.bool
        have hsz : d < a.tmps.size := by rw [hA.size]; exact hlt
        have hg : a.tmps[d]? = some (.bool x) := by
          simp only [Act.eval, Array.getD, hsz, dif_pos] at he
          rw [Array.getElem?_eq_getElem hsz]
          exact congrArg some he
        simp only [yielded, hd, Option.bind_some, hg]
        cases x <;> cases want <;> rfl
      · rename_i hx
        obtain rfl := Option.some.inj h
        have hr := val_rel hA (.tmp d)
        rw [hx] at hr
        have he : a.eval (.tmp d) = .tuple #[] := by
          generalize a.eval (.tmp d) = v at hr
          cases hr with
          | tup cs vs hl hh =>
            have : vs = #[] := by
              cases vs with
              | mk l => cases l with
                | nil => rfl
                | cons x l => simp at hl
            rw [this]
        have hg : ((all[j]?).bind (·.dst)).bind (a.tmps[·]?) = none ∨ ((all[j]?).bind (·.dst)).bind (a.tmps[·]?) = some (.tuple #[]) := by
          rw [hd, Option.bind_some]
          by_cases hsz : d < a.tmps.size
          · right
            simp only [Act.eval, Array.getD, hsz, dif_pos] at he
            rw [Array.getElem?_eq_getElem hsz]
            exact congrArg some he
          · left
            exact Array.getElem?_eq_none (Nat.le_of_not_lt hsz)
        rcases hg with hg | hg <;> simp [yielded, hg]
      · cases h

theorem resVals_ok (hP : POK E P) (hI : Inv E M0 w0 c st w) (hA : InvA c st a w) : ∀ {rvs : List ResultVar} {ss : List SV}, st.resVals E rvs = some ss → ∃ us : List Value, us.length = ss.length ∧ (∀ (i : Nat) s v, ss[i]? = some s → us[i]? = some v → Rel c w s v) ∧
    (rvs.mapM (fun | .tmp t => pure (a.tmps.getD t undef) | .cell x t => do loadVar t (← asAddr (a.tmps.getD x undef)) : ResultVar → Sem Value)).run P w = .ok us w
  | [], ss, h => by
    simp only [St.resVals, Option.some.injEq] at h
    subst h
    exact ⟨[], rfl, fun i s v hs => by simp at hs, rfl⟩
  | .tmp t :: r, ss, h => by
    simp only [St.resVals, Option.map_eq_some_iff] at h
    obtain ⟨ss', h1, rfl⟩ := h
    obtain ⟨us, g1, g2, g3⟩ := resVals_ok hP hI hA h1
    refine ⟨a.tmps.getD t undef :: us, by simp [g1], fun i s v hs hv => ?_, ?_⟩
    · cases i with
      | zero => simp at hs hv; subst hs; subst hv; simpa [Act.eval] using val_rel hA (.tmp t)
      | succ i => exact g2 i s v (by simpa using hs) (by simpa using hv)
    · simp only [List.mapM_cons, Sem.run_bind, Sem.run_pure, Result.andThen_ok, g3]
  | .cell x t :: r, ss, h => by
    simp only [St.resVals] at h
    split at h
    · rename_i s ss' h1 h2
      obtain rfl := Option.some.inj h
      obtain ⟨us, g1, g2, g3⟩ := resVals_ok hP hI hA h2
      have hr := val_rel hA (.tmp x)
      obtain ⟨u, u1, u2⟩ := load_run (P := P) hP hI hr h1
      have hu : (do loadVar t (← asAddr (a.tmps.getD x undef)) : Sem Value).run P w = .ok u w := by
        have : a.eval (.tmp x) = a.tmps.getD x undef := rfl
        rw [this] at u1
        unfold Instr.loadAt at u1
        generalize a.tmps.getD x undef = p at u1
        cases p with
        | pointer p =>
          cases p with
          | some A => exact u1
          | none => simp [Instr.sureAddr, stuck] at u1
        | _ => simp [Instr.sureAddr, stuck] at u1
      refine ⟨u :: us, by simp [g1], fun i s v hs hv => ?_, ?_⟩
      · cases i with
        | zero => simp at hs hv; subst hs; subst hv; exact u2
        | succ i => exact g2 i s v (by simpa using hs) (by simpa using hv)
      · simp only [List.mapM_cons, Sem.run_bind] at hu ⊢
        rw [hu]
        simp only [Result.andThen_ok, g3, Sem.run_pure]
    · cases h
theorem results_ok (hP : POK E P) (hI : Inv E M0 w0 c st w) (hA : InvA c st a w) {fn : Func} {ss : List SV} (h : st.resVals E fn.results.toList = some ss) : ∃ us : List Value, us.length = ss.length ∧ (∀ (i : Nat) s v, ss[i]? = some s → us[i]? = some v → Rel c w s v) ∧ (results fn a.tmps).run P w = .ok (resV us) w := by
  obtain ⟨us, g1, g2, g3⟩ := resVals_ok hP hI hA h
  refine ⟨us, g1, g2, ?_⟩
  unfold results
  rw [Array.mapM_eq_mapM_toList]
  simp only [Sem.run_bind]
  have : (List.toArray <$> (fn.results.toList.mapM (fun | .tmp t => pure (a.tmps.getD t undef) | .cell x t => do loadVar t (← asAddr (a.tmps.getD x undef)) : ResultVar → Sem Value))).run P w = .ok us.toArray w := by
    simp only [map_eq_pure_bind, Sem.run_bind, g3, Result.andThen_ok, Sem.run_pure]
  erw [this]
  simp only [Result.andThen_ok, Sem.run_pure]
  match us with
  | [u] => rfl
  | [] => rfl
  | u :: u' :: r => simp [resV]

theorem bindAll_length : ∀ (l : List X) (st : St), (st.bindAll l).1.length = l.length
  | [], st => rfl
  | x :: r, st => by simp [St.bindAll, bindAll_length r]
/-- A function's body gives the call. -/
theorem body_ok (hE : SOK E P) {f : Nat} {fn : Func} {cd : Code} {args rs : List X} {bs : List (Option X)} {e : Ex} {st : St} (hf : P.funcs[f]? = some fn) (hb : fn.body = some cd)
    (hw : Sound E P (.code cd (initSt fn.ntmps (emptySt.bindAll args).1 (emptySt.bindAll args).2)) (.st e st)) (he : (e = .normal ∨ e = .ret) ∧ args.length ≤ fn.ntmps)
    (hfin : st.finish E (E.flat f) fn.results.toList (muts (E.md f) (emptySt.bindAll args).1) = some (rs, bs)) : CallOK E P f args rs bs := by
  unfold St.finish at hfin
  split at hfin
  · cases hfin
  · rename_i ss hss
    split at hfin
    · cases hfin
    · rename_i rs' st2 htake
      simp only at hfin
      split at hfin
      · rename_i hflat
        simp only [Option.some.injEq, Prod.mk.injEq] at hfin
        obtain ⟨rfl, rfl⟩ := hfin
        refine ⟨fun h => by simpa [h] using hflat, fun F w vals bl hx hn hfr hF hLd => .inl ⟨?_, ?_⟩⟩
        · have hnm := hE.name f fn hf (by rw [hb]; rfl)
          have hnm' : ¬ fn.name = "runtime.NumGoroutine" := by simpa using hnm
          simp [callFunc, hf, hnm', hb]
        · have h0 : Inv E (fun k => k ∈ bl) w ⟨0, fun _ => 0, fun _ => undef, fun _ => 0, F, F⟩ emptySt w :=
            ⟨rfl, fun i hi => (by cases hi), fun _ _ => rfl, fun i j hi => (by cases hi), fun i hi => (by cases hi), hF, fun i hi => (by cases hi), Same.refl _ _, fun k hk => .inl hk⟩
          obtain ⟨c1, b1, l1, r1⟩ := bindAll_ok h0 hx hn (fun k hk => ⟨(hfr k hk).1, (hfr k hk).2, .inl hk, fun i hi => by cases hi⟩)
          have hF1 : c1.F = F := b1.F
          have hsz : vals.size = (emptySt.bindAll args).1.length := by rw [l1]; simp
          have hal : (emptySt.bindAll args).1.length = args.length := bindAll_length args emptySt
          have hA1 : InvA c1 (initSt fn.ntmps (emptySt.bindAll args).1 (emptySt.bindAll args).2) { tmps := vals ++ Array.replicate (fn.ntmps - vals.size) undef, defers := [] } w := by
            refine ⟨?_, rfl, fun i hi => ?_⟩
            · show (vals ++ Array.replicate (fn.ntmps - vals.size) undef).size = fn.ntmps
              simp only [Array.size_append, Array.size_replicate]
              omega
            · show Rel c1 w ((emptySt.bindAll args).1.getD i .undef) _
              by_cases hlt : i < (emptySt.bindAll args).1.length
              · have hlt2 : i < vals.size := by omega
                have := r1 i _ vals[i] (List.getElem?_eq_getElem hlt) (by simp [hlt2])
                simp only [List.getD_eq_getElem?_getD, List.getElem?_eq_getElem hlt, Option.getD_some]
                have hg : (vals ++ Array.replicate (fn.ntmps - vals.size) undef).getD i undef = vals[i] := by
                  rw [Array.getD_eq_getD_getElem?, Array.getElem?_append, if_pos hlt2, Array.getElem?_eq_getElem hlt2]
                  rfl
                rw [hg]
                exact this
              · simp only [List.getD_eq_getElem?_getD, List.getElem?_eq_none (Nat.le_of_not_lt hlt), Option.getD_none]
                exact .undef _
          have hL0 : Laid0 E (fun k => k ∈ bl) c1.F w := fun g hg => ⟨by rw [hF1]; exact (hLd g hg).1, fun hm => (hfr g hm).2 (hLd g hg).1, (hLd g hg).2⟩
          have hcode := (hw _ _ _ _ _ hL0 (b1.inv.slots _ _) hA1).wp
          refine calls_of_wp hf hb (wp_mono hcode ?_)
          rintro x a' w' ⟨rfl, c2, hle, hI2, hA2⟩
          obtain ⟨us, u1, u2, u3⟩ := results_ok hE.pok hI2 hA2 hss
          obtain ⟨br, t1, t2⟩ := takeAll_ok (vs := us) hI2 u1 u2 htake
          have hkeep : ∀ k, c1.F k → w'.heap[k]? = w.heap[k]? := fun k hk => hI2.same.blk k (hF k (hF1 ▸ hk)) (fun hm => (hfr k hm).2 (hF1 ▸ hk))
          have hms := muts_rel (c := c1) (w := w) (md := E.md f) (ss := (emptySt.bindAll args).1) (vs := vals.toList) (by rw [l1]) r1
          obtain ⟨bb, k1, k2⟩ := backAll_ok (vs := muts (E.md f) vals.toList) t2.inv hms.1 (fun i s v hs hv => (hms.2 i s v hs hv).mono hle hkeep)
          have htk := t2.trans k2
          have hpost : ∃ us', Ending.returned (resV us) = .returned (resV us') ∧ Leaves E F w bl (muts (E.md f) vals.toList) rs' (st2.backAll (muts (E.md f) (emptySt.bindAll args).1)).1 us' w' := by
            refine ⟨us, rfl, c2.F, br, bb, hI2.same, fun k hk => hle.F k (by rw [hF1]; exact hk), fun k hk => ?_, hI2.F, t1, k1, htk.nodup, fun k hk => ?_⟩
            · rcases hI2.bnd k hk with h | h
              · exact .inl (b1.le.F0 k (hle.F0 k h))
              · exact .inr h
            · exact htk.free hI2 hk
          rcases he.1 with rfl | rfl
          · exact ⟨hA2.dfr, _, u3, hpost⟩
          · exact ⟨hA2.dfr, _, u3, hpost⟩
      · cases hfin

/-- One operation. -/
theorem op_wp (hE : SOK E P) (hL : Laid0 E M0 c.F w0) (hI : Inv E M0 w0 c st w) (hA : InvA c st a w) {b : Bool} {o : Oper} {r : SV} {st1 : St} (h : st.opB E b o.op = some (r, st1)) {K : Act → World → Prop} {Q : Exit → Act → World → Prop}
    (hK : ∀ c' a' w', c.Le c' → Inv E M0 w0 c' (st1.put o.dst r) w' → InvA c' (st1.put o.dst r) a' w' → K a' w') : o.wp P a w K Q := by
  obtain ⟨n, w', h1, c', x, hx, hs⟩ : Answers E P M0 w0 c st w (execOp a.eval o) r st1 := by
    cases b with
    | false => exact op_sound (P := P) hE.pok hI (hI.laid hL) hA h
    | true => exact opS_sound (P := P) hE.pok hI (hI.laid hL) hA h
  have hA' := (hA.mono hs.le hs.keep hs.hs hs.hN)
  unfold Oper.wp
  rw [h1]
  rcases hx with rfl | ⟨rfl, rfl⟩
  · exact hK c' _ w' hs.le (hs.inv.put _ _) (hA'.put hs.rel)
  · exact hK c' _ w' hs.le (hs.inv.put _ _) (hA'.put hs.rel)
/-- One call. -/
theorem call_wp (hL : Laid0 E M0 c.F w0) (hI : Inv E M0 w0 c st w) (hA : InvA c st a w) {b : Bool} {o : Oper} {cl : Call} {f : Operand} {g : Nat} {xs rs : List X} {bs : List (Option X)} {r : SV} {st1 : St} (ho : o.op = .call cl) (hcl : cl.callee = .value f)
    (hp : callPrep E st (st.val f) (cl.args.toList.map st.val) = some (g, xs)) (hc : CallOK E P g xs rs bs) (hb : callBackB E b st (st.val f) (cl.args.toList.map st.val) rs bs = some (r, st1)) {K : Act → World → Prop} {Q : Exit → Act → World → Prop}
    (hK : ∀ c' a' w', c.Le c' → Inv E M0 w0 c' (st1.put o.dst r) w' → InvA c' (st1.put o.dst r) a' w' → K a' w') : o.wp P a w K Q := by
  have hrel : ∀ (i : Nat) s v, (cl.args.toList.map st.val)[i]? = some s → (cl.args.toList.map a.eval)[i]? = some v → Rel c w s v := (fun i s v hs hv => by
    rw [List.getElem?_map, Option.map_eq_some_iff] at hs hv
    obtain ⟨p, hp, rfl⟩ := hs
    obtain ⟨p', hp', rfl⟩ := hv
    rw [hp] at hp'
    obtain rfl := Option.some.inj hp'
    exact val_rel hA _)
  obtain ⟨first, caps, hfv, hgo⟩ : ∃ first caps : Array Value, a.eval f = .func (.func g) first caps ∧ Goes P g (first ++ (cl.args.toList.map a.eval).toArray ++ caps) w (fun e w' => ∃ u, e = .returned u ∧ ∃ c', Step E M0 w0 c st w r st1 c' u w') := by
    cases b with
    | false => exact call_ok (us := cl.args.toList.map a.eval) hI (hI.laid hL) (val_rel hA f) (by simp) hrel hp hc hb
    | true => exact callS_ok (us := cl.args.toList.map a.eval) hI (hI.laid hL) (val_rel hA f) (by simp) hrel hp hc hb
  have hargs : (cl.args.toList.map a.eval).toArray = cl.args.map a.eval := by apply Array.ext'; simp
  rw [hargs] at hgo
  have hrun : (execOp a.eval o).run P w = (callFunc g (first ++ cl.args.map a.eval ++ caps)).run P w := by
    unfold execOp
    simp only [ho, resolve, hcl, hfv, Deferred.ofValue, Sem.run_bind, Sem.run_pure, Result.andThen_ok, invoke]
  have hnext : ∀ e w', (∃ u, e = Ending.returned u ∧ ∃ c', Step E M0 w0 c st w r st1 c' u w') → ∃ u, e = .returned u ∧ K (a.put o.dst u) w' := by
    rintro e w' ⟨u, rfl, c', hs⟩
    exact ⟨u, rfl, hK c' _ w' hs.le (hs.inv.put _ _) ((hA.mono hs.le hs.keep hs.hs hs.hN).put hs.rel)⟩
  unfold Oper.wp
  rw [hrun]
  rcases hgo with ⟨h1, h2⟩ | ⟨v, w', h1, h2⟩
  · rw [h1, Oper.upon_enter]
    refine h2.mono (fun e w' he => ?_)
    obtain ⟨u, rfl, h⟩ := hnext e w' he
    exact h
  · rw [h1, Oper.upon_value]
    obtain ⟨u, he, h⟩ := hnext _ w' h2
    injection he with he
    subst he
    exact h
theorem wpList_cons {all : Array Oper} {o : Oper} {rest : List Oper} {Q : Exit → Act → World → Prop} (hA : InvA c st a w) (hg : guardOf all st o = some true) (h : o.wp P a w (wpList P all Q rest) Q) : wpList P all Q (o :: rest) a w := by
  simp only [wpList, wanted_of hA hg, if_true]
  exact .inl h
theorem wpList_skip {all : Array Oper} {o : Oper} {rest : List Oper} {Q : Exit → Act → World → Prop} (hA : InvA c st a w) (hg : guardOf all st o = some false) (h : wpList P all Q rest (a.put o.dst undef) w) : wpList P all Q (o :: rest) a w := by
  simp only [wpList, wanted_of hA hg, Bool.false_eq_true, if_false]
  exact h
theorem wpList_mono {all : Array Oper} {Q Q' : Exit → Act → World → Prop} (hq : ∀ e a w, Q e a w → Q' e a w) : ∀ {rest : List Oper} {a : Act} {w : World}, wpList P all Q rest a w → wpList P all Q' rest a w
  | [], a, w, h => hq _ _ _ h
  | o :: rest, a, w, h => by
    simp only [wpList] at h ⊢
    split at h
    · rename_i hw
      simp only [hw, if_true]
      rcases h with h | ⟨h, a0, w0, h0⟩
      · refine .inl ?_
        unfold Oper.wp at h ⊢
        cases hr : (execOp a.eval o).run P w with
        | ok n w' =>
          rw [hr] at h
          cases n with
          | value v => exact wpList_mono hq h
          | skip => exact wpList_mono hq h
          | defer d => exact wpList_mono hq h
          | enter f args =>
            refine Calls.mono h (fun e w'' he => ?_)
            cases e with
            | returned v => exact wpList_mono hq he
            | panicked ch => exact hq _ _ _ he
            | outgrown =>
              obtain ⟨a1, w1, h1⟩ := he
              exact ⟨a1, w1, hq _ _ _ h1⟩
          | row row args => exact Rows.mono h (fun v w'' he => wpList_mono hq he)
          | _ => exact h
        | halt hh w' =>
          rw [hr] at h
          cases hh with
          | panic v => exact hq _ _ _ h
          | _ => exact h
      · exact .inr ⟨h, a0, w0, hq _ _ _ h0⟩
    · rename_i hw
      simp only [hw, Bool.false_eq_true, if_false]
      exact wpList_mono hq h

theorem eff_wp (hE : SOK E P) (hL : Laid0 E M0 c.F w0) (hI : Inv E M0 w0 c st w) (hA : InvA c st a w) {b : Bool} {o : Oper} {r : SV} {st1 : St} (h : Eff E b (CallOK E P) o st r st1) {K : Act → World → Prop} {Q : Exit → Act → World → Prop}
    (hK : ∀ c' a' w', c.Le c' → Inv E M0 w0 c' (st1.put o.dst r) w' → InvA c' (st1.put o.dst r) a' w' → K a' w') : o.wp P a w K Q := by
  cases h with
  | op h => exact op_wp hE hL hI hA h hK
  | call ho hc hp hC hb => exact call_wp hL hI hA ho hc hp hC hb hK
theorem opsG_wp (hE : SOK E P) {all : Array Oper} {l : List Oper} {st st' : St} (h : OpsG E (CallOK E P) all l st st') : ∀ {c : Ctx} {a : Act} {w : World}, Laid0 E M0 c.F w0 → Inv E M0 w0 c st w → InvA c st a w → wpList P all (Fine E M0 w0 c .normal st') l a w := by
  induction h with
  | nil st => exact fun _ hI hA => wpList_nil ⟨rfl, _, Ctx.Le.refl _, hI, hA⟩
  | skip hd hg k ih => exact fun hL hI hA => wpList_skip hA hg (ih hL (hI.put _ _) (hA.put rel_skip))
  | cons hd hg h k ih =>
    intro c a w hL hI hA
    refine wpList_cons hA hg (eff_wp hE hL hI hA h (fun c' a' w' hle hI' hA' => ?_))
    exact wpList_mono (fun e a w h => h.mono hle) (ih (hL.mono hle.F) hI' hA')
theorem wpOps_mono {ops : Array Oper} {Q Q' : Exit → Act → World → Prop} (hq : ∀ e a w, Q e a w → Q' e a w) : ∀ {l : List Nat} {a : Act} {w : World}, wpOps P ops Q l a w → wpOps P ops Q' l a w
  | [], a, w, h => hq _ _ _ h
  | i :: rest, a, w, h => by
    simp only [wpOps] at h ⊢
    split at h
    · exact wpOps_mono hq h
    · rename_i o ho
      split at h
      · rename_i hw
        simp only [hw, if_true]
        rcases h with h | ⟨h, a0, w0, h0⟩
        · refine .inl ?_
          unfold Oper.wp at h ⊢
          cases hr : (execOp a.eval o).run P w with
          | ok n w' =>
            rw [hr] at h
            cases n with
            | value v => exact wpOps_mono hq h
            | skip => exact wpOps_mono hq h
            | defer d => exact wpOps_mono hq h
            | enter f args =>
              refine Calls.mono h (fun e w'' he => ?_)
              cases e with
              | returned v => exact wpOps_mono hq he
              | panicked ch => exact hq _ _ _ he
              | outgrown =>
                obtain ⟨a1, w1, h1⟩ := he
                exact ⟨a1, w1, hq _ _ _ h1⟩
            | row row args => exact Rows.mono h (fun v w'' he => wpOps_mono hq he)
            | _ => exact h
          | halt hh w' =>
            rw [hr] at h
            cases hh with
            | panic v => exact hq _ _ _ h
            | _ => exact h
        · exact .inr ⟨h, a0, w0, hq _ _ _ h0⟩
      · rename_i hw
        simp only [hw, Bool.false_eq_true, if_false]
        exact wpOps_mono hq h
theorem opsR_wp (hE : SOK E P) {b : Bool} {ops : Array Oper} : ∀ (is : List Nat) {st st' : St} {c : Ctx} {a : Act} {w : World}, OpsR E b (CallOK E P) ops (is.filterMap (ops[·]?)) st st' → Laid0 E M0 c.F w0 → Inv E M0 w0 c st w → InvA c st a w → wpOps P ops (Fine E M0 w0 c .normal st') is a w
  | [], st, st', c, a, w, h, hL, hI, hA => by
    cases h
    exact ⟨rfl, c, Ctx.Le.refl c, hI, hA⟩
  | i :: is, st, st', c, a, w, h, hL, hI, hA => by
    simp only [wpOps]
    cases ho : ops[i]? with
    | none =>
      simp only
      have : (i :: is).filterMap (ops[·]?) = is.filterMap (ops[·]?) := by simp [List.filterMap_cons, ho]
      rw [this] at h
      exact opsR_wp hE is h hL hI hA
    | some o =>
      simp only
      have : (i :: is).filterMap (ops[·]?) = o :: is.filterMap (ops[·]?) := by simp [List.filterMap_cons, ho]
      rw [this] at h
      cases h with
      | cons h1 h2 =>
        rcases h1 with ⟨hg, hd, v, st1, he, rfl⟩ | ⟨hg, hd, rfl⟩
        · have hw := wanted_of hA hg
          simp only [hw, if_true]
          refine .inl (eff_wp hE hL hI hA he (fun c' a' w' hle hI' hA' => ?_))
          exact wpOps_mono (fun e a w h => h.mono hle) (opsR_wp hE is h2 (hL.mono hle.F) hI' hA')
        · have hw := wanted_of hA hg
          simp only [hw, Bool.false_eq_true, if_false]
          exact opsR_wp hE is h2 hL (hI.put _ _) (hA.put rel_skip)

theorem sound (hE : SOK E P) : ∀ t out, run E t = some out → Sound E P t out := by
  refine run.partial_correctness E (Sound E P) ?_
  intro rn IH t out h
  unfold body at h
  split at h
  · -- code
    rename_i cd st
    split at h
    · obtain rfl := Option.some.inj h
      exact fun M0 w0 ctx a w hL hI hA => wp_skip ⟨rfl, ctx, Ctx.Le.refl ctx, hI, hA⟩
    · rename_i id ops draw
      cases draw with
      | false =>
        simp only at h
        have ih := IH _ _ h
        cases out with
        | res rs bs => trivial
        | st e st' =>
          obtain ⟨rfl, ih⟩ := ih
          intro M0 w0 ctx a w hL hI hA
          exact wp_region_list (opsG_wp hE ih hL hI hA)
      | true =>
        simp only at h
        split at h
        · split at h
          · cases h
          · rename_i p hl
            have ih := IH _ _ h
            cases out with
            | res rs bs => trivial
            | st e st' =>
              obtain ⟨rfl, ls, hlen, hO, hck⟩ := ih
              intro M0 w0 ctx a w hL hI hA
              have hr := hE.drawS ops p hl ls hlen (by simpa using hck)
              refine wp_region_draw (fun t => ?_)
              obtain ⟨lab, hsw⟩ := hr t
              have hL2 := (hO.swaps (fun g xs rs bs hc hf => (hc.1 hf).2.2) hsw hI.dead).toR
              have hmap : ∀ is : List Nat, (is.filterMap (fun i => (ops[i]?).map fun o => (o, lab i))).map (·.1) = is.filterMap (ops[·]?) := by
                intro is
                rw [List.map_filterMap]
                congr 1
                funext i
                cases ops[i]? <;> rfl
              rw [hmap] at hL2
              exact opsR_wp hE _ hL2 hL (hI.drawn _) (hA.drawn _)
        · rename_i l hl
          have ih := IH _ _ h
          cases out with
          | res rs bs => trivial
          | st e st' =>
            obtain ⟨rfl, ih⟩ := ih
            intro M0 w0 ctx a w hL hI hA
            have hr := hE.draw ops l hl
            have hR := ih.toR
            exact wp_region_draw (fun t => opsR_wp hE _ (hR.swaps (fun g xs rs bs hc hf => (hc.1 hf).2.2) (hr t) hI.dead) hL (hI.drawn _) (hA.drawn _))
    · -- seq
      rename_i x y
      cases h1 : rn (.code x st) with
      | none => simp [h1] at h
      | some o1 =>
        rw [h1] at h
        have ih1 := IH _ _ h1
        simp only [Option.bind_eq_bind, Option.bind_some] at h
        split at h
        · rename_i st1
          have ih2 := IH _ _ h
          cases out with
          | res rs bs => trivial
          | st e st' =>
            intro M0 w0 ctx a w hL hI hA
            refine wp_seq (wp_mono (CodeWp.wp (ih1 M0 w0 ctx a w hL hI hA)) ?_)
            rintro x a' w' ⟨rfl, c', hle, hI', hA'⟩
            exact wp_mono (CodeWp.wp (ih2 M0 w0 c' a' w' (hL.mono hle.F) hI' hA')) (fun e a w h => h.mono hle)
        · rename_i hne
          obtain rfl := Option.some.inj h
          cases o1 with
          | res rs bs => trivial
          | st e st' =>
            intro M0 w0 ctx a w hL hI hA
            refine wp_seq (wp_mono (CodeWp.wp (ih1 M0 w0 ctx a w hL hI hA)) ?_)
            intro x a' w' hf
            cases e with
            | normal => exact absurd rfl (hne st')
            | exit id => obtain ⟨rfl, hf⟩ := hf; exact ⟨rfl, hf⟩
            | ret => obtain ⟨rfl, hf⟩ := hf; exact ⟨rfl, hf⟩
    · -- cond
      rename_i cnd x y
      split at h
      · rename_i b hb
        have hx : ∀ ctx a w, InvA ctx st a w → a.eval cnd = .bool b := by
          intro ctx a w hA
          have := val_rel hA cnd
          rw [hb] at this
          exact this.bool
        cases out with
        | res rs bs => trivial
        | st e st' =>
          intro M0 w0 ctx a w hL hI hA
          cases b with
          | true =>
            simp only [if_true] at h
            exact wp_cond_true (hx ctx a w hA) (CodeWp.wp (IH _ _ h M0 w0 ctx a w hL hI hA))
          | false =>
            simp only [Bool.false_eq_true, if_false] at h
            exact wp_cond_false (hx ctx a w hA) (CodeWp.wp (IH _ _ h M0 w0 ctx a w hL hI hA))
      · cases h
    · -- block
      rename_i id x
      cases h1 : rn (.code x st) with
      | none => simp [h1] at h
      | some o1 =>
        rw [h1] at h
        have ih1 := IH _ _ h1
        simp only [Option.bind_eq_bind, Option.bind_some] at h
        cases o1 with
        | res rs bs =>
          simp only [Option.some.injEq] at h
          subst h
          trivial
        | st e1 st1 =>
          cases out with
          | res rs bs => trivial
          | st e st' =>
            intro M0 w0 ctx a w hL hI hA
            refine wp_block (wp_mono (CodeWp.wp (ih1 M0 w0 ctx a w hL hI hA)) ?_)
            rintro x a' w' ⟨rfl, hf⟩
            cases e1 with
            | normal =>
              simp only [Option.some.injEq, Out.st.injEq] at h
              obtain ⟨rfl, rfl⟩ := h
              exact ⟨rfl, hf⟩
            | ret =>
              simp only [Option.some.injEq, Out.st.injEq] at h
              obtain ⟨rfl, rfl⟩ := h
              exact ⟨rfl, hf⟩
            | exit j =>
              simp only at h
              by_cases hj : j = id
              · rw [if_pos hj] at h
                simp only [Option.some.injEq, Out.st.injEq] at h
                obtain ⟨rfl, rfl⟩ := h
                simp only [ExOf, Exit.inBlock, hj, if_true]
                exact ⟨rfl, hf⟩
              · rw [if_neg hj] at h
                simp only [Option.some.injEq, Out.st.injEq] at h
                obtain ⟨rfl, rfl⟩ := h
                simp only [ExOf, Exit.inBlock, hj, if_false]
                exact ⟨rfl, hf⟩
    · -- loop
      rename_i x
      cases h1 : rn (.code x st) with
      | none => simp [h1] at h
      | some o1 =>
        rw [h1] at h
        have ih1 := IH _ _ h1
        simp only [Option.bind_eq_bind, Option.bind_some] at h
        split at h
        · rename_i st1
          have ih2 := IH _ _ h
          cases out with
          | res rs bs => trivial
          | st e st' =>
            intro M0 w0 ctx a w hL hI hA
            refine LoopWp.round (wp_mono (CodeWp.wp (ih1 M0 w0 ctx a w hL hI hA)) ?_)
            rintro y a' w' ⟨rfl, c', hle, hI', hA'⟩
            have := ih2 M0 w0 c' a' w' (hL.mono hle.F) hI' hA'
            intro b k cs
            obtain ⟨e2, a2, w2, q, r⟩ := this b k cs
            exact ⟨e2, a2, w2, q.mono hle, r⟩
        · rename_i hne
          obtain rfl := Option.some.inj h
          cases o1 with
          | res rs bs => trivial
          | st e st' =>
            intro M0 w0 ctx a w hL hI hA
            refine LoopWp.round (wp_mono (CodeWp.wp (ih1 M0 w0 ctx a w hL hI hA)) ?_)
            intro y a' w' hf
            cases e with
            | normal => exact absurd rfl (hne st')
            | exit id => obtain ⟨rfl, hf⟩ := hf; exact ⟨rfl, hf⟩
            | ret => obtain ⟨rfl, hf⟩ := hf; exact ⟨rfl, hf⟩
    · obtain rfl := Option.some.inj h
      exact fun M0 w0 ctx a w hL hI hA => wp_exit ⟨rfl, ctx, Ctx.Le.refl ctx, hI, hA⟩
    · obtain rfl := Option.some.inj h
      exact fun M0 w0 ctx a w hL hI hA => wp_ret ⟨rfl, ctx, Ctx.Le.refl ctx, hI, hA⟩
    · cases h
  · -- ops
    rename_i m all l st
    cases m with
    | none =>
      split at h
      · obtain rfl := Option.some.inj h
        exact ⟨rfl, .nil _⟩
      · rename_i o rest
        split at h
        · cases h
        · rename_i hd
          have hd' : dstOk st o = true := by simpa using hd
          split at h
          · cases h
          · rename_i hg
            have ih := IH _ _ h
            cases out with
            | res rs bs => trivial
            | st e st' =>
              obtain ⟨rfl, ih⟩ := ih
              exact ⟨rfl, .skip hd' hg ih⟩
          · rename_i hg
            split at h
            · rename_i f args at' hop
              split at h
              · cases h
              · rename_i g xs hp
                cases h1 : rn (.call g xs) with
                | none => simp [h1] at h
                | some o1 =>
                  rw [h1] at h
                  have ih1 := IH _ _ h1
                  simp only [Option.bind_eq_bind, Option.bind_some] at h
                  split at h
                  · rename_i rs bs
                    split at h
                    · cases h
                    · rename_i v st1 hb
                      have ih := IH _ _ h
                      cases out with
                      | res rs bs => trivial
                      | st e st' =>
                        obtain ⟨rfl, ih⟩ := ih
                        exact ⟨rfl, .cons hd' hg (.call hop rfl hp ih1 hb) ih⟩
                  · cases h
            · split at h
              · cases h
              · rename_i v st1 hop
                have ih := IH _ _ h
                cases out with
                | res rs bs => trivial
                | st e st' =>
                  obtain ⟨rfl, ih⟩ := ih
                  exact ⟨rfl, .cons hd' hg (.op hop) ih⟩
    | some p =>
      have app : ∀ (l0 : List Lab) (x : Lab) (ls : List Lab), l0 ++ [x] ++ ls = l0 ++ (x :: ls) := fun l0 x ls => by simp
      split at h
      · dsimp only at h
        by_cases hck : ckOK p.1 p.2 = true
        · rw [if_pos hck] at h
          obtain rfl := Option.some.inj h
          exact ⟨rfl, [], rfl, .nil _, by rw [List.append_nil]; exact hck⟩
        · rw [if_neg hck] at h
          cases h
      · rename_i o rest
        split at h
        · cases h
        · rename_i hd
          have hd' : dstOk st o = true := by simpa using hd
          split at h
          · cases h
          · rename_i hg
            have ih := IH _ _ h
            cases out with
            | res rs bs => trivial
            | st e st' =>
              obtain ⟨rfl, ls, h1, h2, h3⟩ := ih
              exact ⟨rfl, .skip :: ls, by simp [h1], .cons (.inr ⟨hg, rfl, hd', rfl⟩) h2, by rw [← app]; exact h3⟩
          · rename_i hg
            split at h
            · rename_i f args at' hop
              split at h
              · cases h
              · rename_i g xs hp
                cases h1 : rn (.call g xs) with
                | none => simp [h1] at h
                | some o1 =>
                  rw [h1] at h
                  have ih1 := IH _ _ h1
                  simp only [Option.bind_eq_bind, Option.bind_some] at h
                  split at h
                  · rename_i rs bs
                    split at h
                    · cases h
                    · rename_i v st1 hb
                      have ih := IH _ _ h
                      cases out with
                      | res rs bs => trivial
                      | st e st' =>
                        obtain ⟨rfl, ls, h1, h2, h3⟩ := ih
                        exact ⟨rfl, labOf E st o :: ls, by simp [h1], .cons (.inl ⟨hg, rfl, hd', _, _, .call hop rfl hp ih1 hb, rfl⟩) h2, by rw [← app]; exact h3⟩
                  · cases h
            · split at h
              · cases h
              · rename_i v st1 hop
                have ih := IH _ _ h
                cases out with
                | res rs bs => trivial
                | st e st' =>
                  obtain ⟨rfl, ls, h1, h2, h3⟩ := ih
                  exact ⟨rfl, labOf E st o :: ls, by simp [h1], .cons (.inl ⟨hg, rfl, hd', _, _, .op hop, rfl⟩) h2, by rw [← app]; exact h3⟩
  · -- call
    rename_i f args
    split at h
    · rename_i g hg
      simp only [Option.map_eq_some_iff] at h
      obtain ⟨⟨rs, bs⟩, hp, rfl⟩ := h
      exact hE.ext f g args rs bs hg hp
    · split at h
      · cases h
      · rename_i fn hf
        rw [hE.pok.fn] at hf
        split at h
        · cases h
        · rename_i cd hb
          simp only at h
          cases h1 : rn (.code cd (initSt fn.ntmps (emptySt.bindAll args).1 (emptySt.bindAll args).2)) with
          | none => simp [h1] at h
          | some o1 =>
            rw [h1] at h
            have ih := IH _ _ h1
            simp only [Option.bind_eq_bind, Option.bind_some] at h
            split at h
            · rename_i e st1
              split at h
              · rename_i he
                simp only [Option.map_eq_some_iff] at h
                obtain ⟨⟨rs, bs⟩, hfin, rfl⟩ := h
                exact body_ok hE hf hb ih he hfin
              · cases h
            · cases h
end
end Go.Ev
/- What a row's inputs are, as trees. -/
set_option linter.unusedSimpArgs false
set_option linter.unusedVariables false
namespace Go.Ev
open Go.RowKit

def contig (E : Env) (size : Nat) : Nat → List (Nat × Nat) → Bool
  | o, [] => o == size
  | o, p :: r => p.1 == o && contig E size (o + (E.ty p.2).size) r
def plainTy (E : Env) : Nat → Nat → Bool
  | 0, _ => false
  | n + 1, t => match (E.ty t).k with
    | .int _ | .bool | .str => true
    | .slice => plainTy E n (E.ty t).elem
    | .struct => contig E (E.ty t).size 0 (E.ty t).fields && (E.ty t).fields.all fun p => plainTy E n p.2
    | _ => false
def typed (E : Env) : Nat → Nat → List T → Prop
  | 0, _, _ => False
  | n + 1, t, ts => match (E.ty t).k, ts with
    | .int k, [.int k' m] => k' = k ∧ (Lit.int k m).wf = true
    | .bool, [.bool _] => True
    | .str, [.str s] => s.length ≤ 140737488351232
    | .slice, [.list xs] => xs.length * (E.ty (E.ty t).elem).bytes ≤ 140737488351232 ∧ ∀ x ∈ xs, ∃ cs, x = (if (E.ty (E.ty t).elem).agg then T.agg cs else (cs.headD (.bool false))) ∧ cs.length = (E.ty (E.ty t).elem).size ∧ typed E n (E.ty t).elem cs
    | .struct, cs => cs.length = (E.ty t).size ∧ ∀ p ∈ (E.ty t).fields, typed E n p.2 ((cs.drop p.1).take (E.ty p.2).size)
    | _, _ => False

section
variable {H : Type} {enc : TypeId × Value → H} {E : Env} {P : Program} {w : World} {base : Nat} {spare : Nat → Bool} {held : Bool}

theorem weights_all {e : TypeId} {d : DataW H} {x : Nat} : ∀ {l : List (DataW H)}, d ∈ l → x ∈ d.weights P e → x ∈ DataW.weightsAll P e l
  | y :: r, hd, hx => by
    simp only [DataW.weightsAll, List.mem_append]
    rcases List.mem_cons.1 hd with rfl | hd
    · exact .inl hx
    · exact .inr (weights_all hd hx)

/-- Read trees, cell by cell. -/
def Reads (w : World) (ts : List T) (cs : List Value) : Prop :=
  ts.length = cs.length ∧ (∀ y ∈ ts, y.one = true) ∧ ∀ (i : Nat) y v, ts[i]? = some y → cs[i]? = some v → RD (fun k => k < w.heap.size) w y v
theorem Reads.append {ts ts' : List T} {cs cs' : List Value} (h : Reads w ts cs) (h' : Reads w ts' cs') : Reads w (ts ++ ts') (cs ++ cs') := by
  obtain ⟨h1, h2, h3⟩ := h
  obtain ⟨k1, k2, k3⟩ := h'
  refine ⟨by simp [h1, k1], fun y hy => (List.mem_append.1 hy).elim (h2 y) (k2 y), fun i y v hy hv => ?_⟩
  rw [List.getElem?_append] at hy hv
  rw [← h1] at hv
  split at hy
  · rename_i hi; rw [if_pos hi] at hv; exact h3 i y v hy hv
  · rename_i hi; rw [if_neg hi] at hv; exact k3 _ y v hy hv
theorem reads_one {t : T} {v : Value} (h1 : t.one = true) (h : RD (fun k => k < w.heap.size) w t v) : Reads w [t] [v] := by
  refine ⟨rfl, by simpa using h1, fun i y u hy hu => ?_⟩
  cases i with
  | zero => simp at hy hu; subst hy; subst hu; exact h
  | succ i => simp at hy
theorem struct_reads {n : Nat} {cs : List Value} : ∀ (l : List (Nat × Nat)) (o : Nat), contig E cs.length o l = true → (∀ p ∈ l, ∃ ts, ts.length = (E.ty p.2).size ∧ typed E n p.2 ts ∧ Reads w ts ((cs.drop p.1).take (E.ty p.2).size)) →
    ∃ ts, Reads w ts (cs.drop o) ∧ ∀ p ∈ l, o ≤ p.1 ∧ typed E n p.2 ((ts.drop (p.1 - o)).take (E.ty p.2).size)
  | [], o, h, _ => by
    have : o = cs.length := by simpa [contig] using h
    subst this
    exact ⟨[], by simp [Reads], by simp⟩
  | p :: r, o, h, hp => by
    simp only [contig, Bool.and_eq_true, beq_iff_eq] at h
    obtain ⟨rfl, h⟩ := h
    obtain ⟨ts, h1, h2, h3⟩ := hp p (by simp)
    obtain ⟨ts', k1, k2⟩ := struct_reads r (p.1 + (E.ty p.2).size) h (fun p hp' => hp p (List.mem_cons_of_mem _ hp'))
    refine ⟨ts ++ ts', ?_, fun q hq => ?_⟩
    · have : cs.drop p.1 = (cs.drop p.1).take (E.ty p.2).size ++ cs.drop (p.1 + (E.ty p.2).size) := by
        rw [← List.drop_drop, List.take_append_drop]
      rw [this]
      exact h3.append k1
    · rcases List.mem_cons.1 hq with rfl | hq
      · refine ⟨Nat.le_refl _, ?_⟩
        rw [Nat.sub_self, List.drop_zero, ← h1, List.take_left]
        exact h2
      · obtain ⟨g1, g2⟩ := k2 q hq
        refine ⟨by omega, ?_⟩
        have : q.1 - p.1 = ts.length + (q.1 - (p.1 + (E.ty p.2).size)) := by omega
        rw [this, List.drop_append]
        have hz : ts.drop (ts.length + (q.1 - (p.1 + (E.ty p.2).size))) = [] := by simp
        rw [hz, List.nil_append, Nat.add_sub_cancel_left]
        exact g2

theorem cellsOf_ok (hP : POK E P) {t : Nat} (hk : (E.ty t).k ≠ .other) : P.cellsOf t = (E.ty t).size ∧ P.bytesOf t = (E.ty t).bytes := by
  obtain ⟨q, z, h1, h2, h3, _⟩ := (hP.ty t).info hk
  simp [Program.cellsOf, Program.bytesOf, h1, h2, h3]
theorem plain_known {n t : Nat} (h : plainTy E n t = true) : (E.ty t).k ≠ .other := by
  cases n with
  | zero => cases h
  | succ n =>
    intro e
    simp [plainTy, e] at h

theorem trod_typed (hP : POK E P) : ∀ (n t fuel : Nat) (cs : List Value) (d : DataW H) (ps : List MemPlace), plainTy E n t = true → DataW.trod enc P w base spare held fuel t cs = some (d, ps) → (∀ x ∈ d.weights P t, x ≤ reachBytes) →
    ∃ ts, ts.length = (E.ty t).size ∧ typed E n t ts ∧ Reads w ts cs
  | 0, t, fuel, cs, d, ps, hp, h, hw => by cases hp
  | n + 1, t, fuel, cs, d, ps, hp, h, hw => by
    have hne := plain_known hp
    obtain ⟨q, z, i1, i2, i3, i4, i5, i6, i7, i8, i9, i10⟩ := (hP.ty t).info hne
    have hu := (hP.ty t).und
    have hone : (E.ty t).k ≠ .struct → (E.ty t).size = 1 := fun h => i10 (by unfold TI.agg; split <;> first | contradiction | rfl)
    cases hk : (E.ty t).k with
    | int k =>
      rw [hk] at hu
      obtain ⟨m, rfl, _, hwf⟩ := DataW.trod_int hu h
      exact ⟨[.int k m], by rw [hone (by simp [hk])]; rfl, by simp [typed, hk, hwf], reads_one rfl (.int _ _)⟩
    | bool =>
      rw [hk] at hu
      obtain ⟨b, rfl, _⟩ := DataW.trod_bool hu h
      exact ⟨[.bool b], by rw [hone (by simp [hk])]; rfl, by simp [typed, hk], reads_one rfl (.bool _)⟩
    | str =>
      rw [hk] at hu
      obtain ⟨s, rfl, hx, hs⟩ := DataW.trod_string hu h
      obtain ⟨⟨l⟩⟩ := s
      simp only [Prod.mk.injEq] at hx
      obtain ⟨rfl, rfl⟩ := hx
      have := hw l.length (by simp [DataW.weights])
      exact ⟨[.str l], by rw [hone (by simp [hk])]; rfl, by simp only [typed, hk]; exact this, reads_one rfl (.str _)⟩
    | slice =>
      rw [hk] at hu
      simp only at hu
      simp only [plainTy, hk] at hp
      have hke := plain_known hp
      obtain ⟨ce, be⟩ := cellsOf_ok hP hke
      obtain ⟨q', z', j1, j2, j3, j4, j5, j6, j7, j8, j9, j10⟩ := (hP.ty (E.ty t).elem).info hke
      rcases DataW.trod_slice hu h with ⟨rfl, _⟩ | ⟨a, len, cap, elems, rest, m, _, rfl, hx, hb, hl, hm, hlen, hel, _, _⟩
      · refine ⟨[.list []], by rw [hone (by simp [hk])]; rfl, by simp [typed, hk], reads_one rfl ?_⟩
        exact .list [] none 0 1 (fun _ _ => undef) (Nat.le_refl _) (by decide) (by omega) (by simp) (by simp) (fun h => absurd rfl h) (fun j x i y hx => by simp at hx)
      · simp only [Prod.mk.injEq] at hx
        obtain ⟨rfl, rfl⟩ := hx
        -- each element
        have each : ∀ i, i < len → ∃ (cs' : List Value) (ts : List T), w.cells? base (a.add (i * (E.ty (E.ty t).elem).size)) (E.ty (E.ty t).elem).size = some cs' ∧ ts.length = (E.ty (E.ty t).elem).size ∧ typed E n (E.ty t).elem ts ∧ Reads w ts cs' := by
          intro i hi
          have h1 := hel i hi
          rw [ce] at h1
          have hil : i < elems.length := by omega
          rw [List.getElem?_eq_getElem hil, Option.bind_eq_some_iff] at h1
          obtain ⟨cs', g1, g2⟩ := h1
          obtain ⟨ts, k1, k2, k3⟩ := trod_typed hP n (E.ty t).elem m cs' elems[i].1 elems[i].2 hp g2 (fun x hx => hw x (by
            simp only [DataW.weights, hu]
            refine List.mem_cons_of_mem _ (List.mem_append_left _ (weights_all (d := elems[i].1) (List.mem_map.2 ⟨_, List.getElem_mem hil, rfl⟩) hx))))
          exact ⟨cs', ts, g1, k1, k2, k3⟩
        have hbw : len * (E.ty (E.ty t).elem).bytes ≤ 140737488351232 := by
          have := hw ((elems.length + rest.length) * P.bytesOf (E.ty t).elem) (by simp [DataW.weights, hu])
          rw [be, hlen] at this
          have h2 := Nat.mul_le_mul_right (E.ty (E.ty t).elem).bytes (Nat.le_add_right len rest.length)
          exact Nat.le_trans h2 this
        -- the trees
        have hch : ∃ f : Nat → List T, ∀ i, i < len → ∃ cs', w.cells? base (a.add (i * (E.ty (E.ty t).elem).size)) (E.ty (E.ty t).elem).size = some cs' ∧ (f i).length = (E.ty (E.ty t).elem).size ∧ typed E n (E.ty t).elem (f i) ∧ Reads w (f i) cs' := by
          refine ⟨fun i => if h : i < len then (each i h).choose_spec.choose else [], fun i hi => ⟨(each i hi).choose, ?_⟩⟩
          simp only [dif_pos hi]
          exact (each i hi).choose_spec.choose_spec
        obtain ⟨f, hf⟩ := hch
        let el : List T → T := fun cs => if (E.ty (E.ty t).elem).agg then T.agg cs else cs.headD (.bool false)
        have hcells : ∀ i, i < len → (el (f i)).cells = f i := by
          intro i hi
          obtain ⟨cs', g1, g2, g3, g4⟩ := hf i hi
          simp only [el]
          split
          · rfl
          · rename_i hag
            have : (E.ty (E.ty t).elem).size = 1 := j10 (by simpa using hag)
            rw [this] at g2
            match hfi : f i, g2 with
            | [y], _ => exact one_cells (g4.2.1 y (by rw [hfi]; simp))
        refine ⟨[.list ((List.range len).map fun i => el (f i))], by rw [hone (by simp [hk])]; rfl, ?_, reads_one rfl ?_⟩
        · simp only [typed, hk]
          refine ⟨by simpa using hbw, fun x hx => ?_⟩
          obtain ⟨i, hi, rfl⟩ := List.mem_map.1 hx
          obtain ⟨cs', g1, g2, g3, g4⟩ := hf i (by simpa using hi)
          exact ⟨f i, rfl, g2, g3⟩
        · have hlen2 : ((List.range len).map fun i => el (f i)).length = len := by simp
          have hget : ∀ (j : Nat) x, ((List.range len).map fun i => el (f i))[j]? = some x → j < len ∧ x = el (f j) := by
            intro j x hx
            have hj := (List.getElem?_eq_some_iff.1 hx).1
            rw [hlen2] at hj
            rw [List.getElem?_map, List.getElem?_range hj] at hx
            exact ⟨hj, by simpa using hx.symm⟩
          have hmem : ∀ x ∈ ((List.range len).map fun i => el (f i)), ∃ j, j < len ∧ x = el (f j) := by
            intro x hx
            obtain ⟨j, hj⟩ := List.mem_iff_getElem?.1 hx
            exact ⟨j, hget j x hj⟩
          have hcell : ∀ j i, j < len → i < (E.ty (E.ty t).elem).size → ∃ v, w.cell? (a.add (j * (E.ty (E.ty t).elem).size + i)) = some v ∧ ∀ y, (f j)[i]? = some y → RD (fun k => k < w.heap.size) w y v := by
            intro j i hj hi
            obtain ⟨cs', g1, g2, g3, g4⟩ := hf j hj
            have hlen3 : cs'.length = (E.ty (E.ty t).elem).size := by rw [← g4.1, g2]
            have hcv := (World.cells?_some g1).2.2 i hi
            rw [add_add] at hcv
            have hi3 : i < cs'.length := by omega
            rw [List.getElem?_eq_getElem hi3] at hcv
            exact ⟨_, hcv, fun y hy => g4.2.2 i y _ hy (List.getElem?_eq_getElem hi3)⟩
          have hval := RD.list (F := fun k => k < w.heap.size) (w := w) ((List.range len).map fun i => el (f i)) (some a) cap (E.ty (E.ty t).elem).size (fun j i => (w.cell? (a.add (j * (E.ty (E.ty t).elem).size + i))).getD undef) (by rw [hlen2]; exact hl) hm j7
            (fun x hx => by
              obtain ⟨j, hj, rfl⟩ := hmem x hx
              obtain ⟨cs', g1, g2, g3, g4⟩ := hf j hj
              rw [hcells j hj, g2])
            (fun x hx y hy => by
              obtain ⟨j, hj, rfl⟩ := hmem x hx
              obtain ⟨cs', g1, g2, g3, g4⟩ := hf j hj
              rw [hcells j hj] at hy
              exact g4.2.1 y hy)
            (fun hne => by
              have hpos : 0 < len := by
                rw [← hlen2]; exact List.length_pos_iff.2 hne
              obtain ⟨v, hv, _⟩ := hcell 0 0 hpos j7
              obtain ⟨g, o, sp⟩ := a
              cases sp with
              | some sp =>
                exfalso
                have ha : (⟨g, o, some sp⟩ : Addr).add (0 * (E.ty (E.ty t).elem).size + 0) = ⟨g, o, some sp⟩ := by simp [Addr.add]
                rw [ha] at hv
                simp only [World.cell?] at hv
                split at hv <;> simp at hv
              | none =>
                refine ⟨g, o, rfl, ?_, fun j i hj hi => ?_⟩
                · rw [add_at] at hv
                  simp only [World.cell?] at hv
                  by_cases hg : g < w.heap.size
                  · exact hg
                  · rw [Array.getElem?_eq_none (Nat.le_of_not_lt hg)] at hv
                    simp at hv
                · rw [hlen2] at hj
                  obtain ⟨v, hv, _⟩ := hcell j i hj hi
                  have hv' := hv
                  rw [add_at] at hv'
                  rw [hv', hv]
                  rfl)
            (fun j x i y hx hy => by
              obtain ⟨hj, rfl⟩ := hget j x hx
              rw [hcells j hj] at hy
              have hi := (List.getElem?_eq_some_iff.1 hy).1
              obtain ⟨cs', g1, g2, g3, g4⟩ := hf j hj
              rw [g2] at hi
              obtain ⟨v, hv, hr⟩ := hcell j i hj hi
              rw [hv]
              exact hr y hy)
          rw [hlen2] at hval
          exact hval
    | struct =>
      rw [hk] at hu
      obtain ⟨fs, hu, hsz, hfs⟩ := hu
      simp only [plainTy, hk, Bool.and_eq_true] at hp
      obtain ⟨hp1, hp2⟩ := hp
      have hp2' := List.all_eq_true.1 hp2
      obtain ⟨xs, m, _, hx, hcl, hxl, hxs⟩ := DataW.trod_struct hu h
      simp only [Prod.mk.injEq] at hx
      obtain ⟨rfl, rfl⟩ := hx
      rw [(cellsOf_ok hP hne).1] at hcl
      rw [← hcl] at hp1
      obtain ⟨ts, k1, k2⟩ := struct_reads (E := E) (w := w) (n := n) (cs := cs) (E.ty t).fields 0 hp1 (fun p hp => by
        obtain ⟨j, hj⟩ := List.mem_iff_getElem?.1 hp
        obtain ⟨f, e1, e2, e3⟩ := hfs j p.1 p.2 hj
        have hpl := hp2' p hp
        have h1 := hxs j f e1
        rw [e2, e3, (cellsOf_ok hP (plain_known hpl)).1] at h1
        have hjf := (Array.getElem?_eq_some_iff.1 e1).1
        have hjx : j < xs.length := by omega
        rw [List.getElem?_eq_getElem hjx] at h1
        obtain ⟨ts, k1, k2, k3⟩ := trod_typed hP n p.2 m _ xs[j].1 xs[j].2 hpl h1 (fun x hx => hw x (by
          simp only [DataW.weights, hu]
          refine DataW.weights_mem_each (j := j) (t := p.2) (d := xs[j].1) ?_ ?_ x hx
          · rw [List.getElem?_map, Array.getElem?_toList, e1]; simp [e3]
          · rw [List.getElem?_map, List.getElem?_eq_getElem hjx]; rfl))
        exact ⟨ts, k1, k2, k3⟩)
      rw [List.drop_zero] at k1
      have hl : ts.length = (E.ty t).size := by rw [k1.1, hcl]
      refine ⟨ts, hl, ?_, k1⟩
      simp only [typed, hk]
      exact ⟨hl, fun p hp => by simpa using (k2 p hp).2⟩
    | flat => simp [plainTy, hk] at hp
    | other => simp [plainTy, hk] at hp

theorem run_callsL (hE : SOK E P) (hL : Laid E (fun k => k < w.heap.size) w) {f : Nat} {fn : Func} {xs : List X} {vals : Array Value} {bs : List (Option X)} (hf : P.funcs[f]? = some fn) (hb : fn.body.isSome = true) (hx : XVs E (fun k => k < w.heap.size) w xs vals.toList []) (h : run E (.call f xs) = some (.res [.t (.bool true)] bs)) :
    Calls P f vals w (fun e w' => e = .returned (.bool true) ∧ Below w.heap.size w w') := by
  obtain ⟨_, hc⟩ := sound hE _ _ h
  have := hc (fun k => k < w.heap.size) w vals [] hx (by simp) (by simp) (fun _ h => h) hL
  have hnm := hE.name f fn hf hb
  have hnm' : ¬ fn.name = "runtime.NumGoroutine" := by simpa using hnm
  have hbn : fn.body.isNone = false := by
    cases hbb : fn.body with
    | none => rw [hbb] at hb; simp at hb
    | some c => rfl
  have hrun : (callFunc f vals).run P w = .ok (.enter f vals) w := by
    cases hbb : fn.body with
    | none => rw [hbb] at hb; simp at hb
    | some c => simp [callFunc, hf, hnm', hbb]
  rcases this with ⟨_, h2⟩ | ⟨v, w', h1, _⟩
  · refine h2.mono ?_
    rintro e w' ⟨us, rfl, F', br, bb, s1, _, _, _, s5, _⟩
    cases s5 with
    | cons h r =>
      cases r
      cases h with
      | t h =>
        cases h
        exact ⟨rfl, s1.os, s1.tape, s1.out, s1.size, fun k hk => s1.blk k hk (by simp)⟩
  · rw [hrun] at h1
    simp at h1
theorem run_calls (hE : SOK E P) (hg : ∀ g, E.glob g = []) {f : Nat} {fn : Func} {xs : List X} {vals : Array Value} {bs : List (Option X)} (hf : P.funcs[f]? = some fn) (hb : fn.body.isSome = true) (hx : XVs E (fun k => k < w.heap.size) w xs vals.toList []) (h : run E (.call f xs) = some (.res [.t (.bool true)] bs)) :
    Calls P f vals w (fun e w' => e = .returned (.bool true) ∧ Below w.heap.size w w') :=
  run_callsL hE (fun g h => absurd (hg g) h) hf hb hx h
theorem one_of_okWide (hP : POK E P) {n t b0 : Nat} {r : Reach} {v : Value} (hp : plainTy E n t = true) (ha : (E.ty t).agg = false) (hv : Value.okWide P w r b0 t v) : oneV v = true := by
  have hu := (hP.ty t).und
  cases n with
  | zero => cases hp
  | succ n =>
    cases hk : (E.ty t).k <;> rw [hk] at hu <;> simp only at hu
    all_goals first
      | (simp [plainTy, hk] at hp; done)
      | (simp [TI.agg, hk] at ha; done)
      | (simp only [Value.okWide, hu, Cell.okWide] at hv
         cases v <;> first | rfl | (simp [Cell.ok, hu] at hv; done))
def pack (E : Env) (t : Nat) (ts : List T) : T := if (E.ty t).agg then .agg ts else ts.headD (.bool false)
theorem reads_value (hP : POK E P) {n t b0 : Nat} {r : Reach} {v : Value} {ts : List T} (hp : plainTy E n t = true) (hv : Value.okWide P w r b0 t v) (hl : ts.length = (E.ty t).size) (h : Reads w ts v.cells.toList) : RD (fun k => k < w.heap.size) w (pack E t ts) v := by
  obtain ⟨q, z, i1, i2, i3, i4, i5, i6, i7, i8, i9, i10⟩ := (hP.ty t).info (plain_known hp)
  unfold pack
  cases ha : (E.ty t).agg with
  | true =>
    have hk : (E.ty t).k = .struct := by
      unfold TI.agg at ha
      split at ha
      · assumption
      · cases ha
    have hu := (hP.ty t).und
    rw [hk] at hu
    obtain ⟨fs, hu, _⟩ := hu
    simp only [Value.okWide, hu] at hv
    obtain ⟨cs, rfl, _, _⟩ := hv
    obtain ⟨h1, h2, h3⟩ := h
    simp only [if_true]
    exact .agg ts cs (by simpa [Value.cells] using h1) h2 (fun i c v hc hv => h3 i c v hc (by simpa [Value.cells] using hv))
  | false =>
    have h1 := oneV_cells (one_of_okWide hP hp ha hv)
    rw [i10 ha] at hl
    rw [h1] at h
    simp only [Bool.false_eq_true, if_false]
    match ts, hl with
    | [y], _ => exact h.2.2 0 y v rfl rfl
def TypedAll (E : Env) (n : Nat) : List Nat → List (List T) → Prop
  | [], [] => True
  | t :: ts, y :: ys => typed E n t y ∧ TypedAll E n ts ys
  | _, _ => False
def packs (E : Env) : List Nat → List (List T) → List X
  | t :: ts, y :: ys => .t (pack E t y) :: packs E ts ys
  | _, _ => []
theorem args_ok (hP : POK E P) {n b0 : Nat} {r : Reach} : ∀ {ts : List Nat} {vs : List Value} {ds : List (DataW H)} {ps : List MemPlace}, (∀ t ∈ ts, plainTy E n t = true) → DataW.TrodAll enc P w base spare held ts vs ds ps → (∀ (j : Nat) t v, ts[j]? = some t → vs[j]? = some v → Value.okWide P w r b0 t v) →
    (∀ x ∈ DataW.weightsEach P ts ds, x ≤ reachBytes) → ∃ tss, TypedAll E n ts tss ∧ XVs E (fun k => k < w.heap.size) w (packs E ts tss) vs []
  | [], vs, ds, ps, hp, h, hv, hw => by
    cases vs <;> cases ds <;> simp [DataW.TrodAll] at h
    exact ⟨[], trivial, .nil⟩
  | t :: ts, vs, ds, ps, hp, h, hv, hw => by
    cases vs <;> cases ds <;> simp [DataW.TrodAll] at h
    rename_i v vs d ds
    obtain ⟨p, ⟨fuel, hf⟩, q, hq, _⟩ := h
    simp only [DataW.weightsEach, List.mem_append] at hw
    obtain ⟨y, y1, y2, y3⟩ := trod_typed hP n t fuel _ d p (hp t (by simp)) hf (fun x hx => hw x (.inl hx))
    obtain ⟨ys, k1, k2⟩ := args_ok hP (fun t ht => hp t (List.mem_cons_of_mem _ ht)) hq (fun j t v ht hv' => hv (j + 1) t v (by simpa using ht) (by simpa using hv')) (fun x hx => hw x (.inr hx))
    exact ⟨y :: ys, ⟨y2, k1⟩, .cons (b := []) (.t (reads_value hP (hp t (by simp)) (hv 0 t v rfl rfl) y1 y3)) k2⟩
theorem trodAll_back {w' : World} (hl : laidOutB P = true) : ∀ {ts : List Nat} {vs : List Value} {ds : List (DataW H)} {ps : List MemPlace}, (∀ t ∈ ts, P.readableRec t = true ∧ t < P.types.size) → DataW.TrodAll enc P w 0 (fun _ => true) true ts vs ds ps → Below w.heap.size w w' →
    DataW.TrodAll enc P w' 0 (fun b => decide (b < w.heap.size)) true ts vs ds ps
  | [], vs, ds, ps, hr, h, hb => by
    cases vs <;> cases ds <;> simp [DataW.TrodAll] at h ⊢
    exact h
  | t :: ts, vs, ds, ps, hr, h, hb => by
    cases vs <;> cases ds <;> simp [DataW.TrodAll] at h ⊢
    obtain ⟨p, hp, q, hq, e⟩ := h
    refine ⟨p, Below.trod hl (hr t (by simp)).1 (hr t (by simp)).2 hp hb ?_, q, trodAll_back hl (fun t ht => hr t (List.mem_cons_of_mem _ ht)) hq hb, e⟩
    obtain ⟨m, hm⟩ := hp
    exact DataW.trod_lt m _ _ _ hm
end
end Go.Ev
/- The type table of a program, read off the program; the table is true. -/
set_option linter.unusedSimpArgs false
set_option linter.unusedVariables false
namespace Go.Ev

def TI.none : TI := { k := .other, size := 0, bytes := 0, zero := [], elem := 0, fields := [] }
def kindOf : TypeDesc → TK
  | .int k => .int k
  | .bool => .bool
  | .string => .str
  | .slice _ => .slice
  | .struct _ => .struct
  | .array _ _ => .other
  | _ => .flat
def elemOf : TypeDesc → Nat
  | .slice e => e
  | _ => 0
def fieldsOf : TypeDesc → List (Nat × Nat)
  | .struct fs => fs.toList.map fun f => (f.offset, f.type)
  | _ => []
def isAggV : Value → Bool
  | .agg _ => true
  | _ => false
def tyMk (d : TypeDesc) (q : TypeInfo) (z : Value) : TI := { k := kindOf d, size := q.size, bytes := q.bytes, zero := z.cells.toList.map ofConst, elem := elemOf d, fields := fieldsOf d }
def tyGood (i : TI) (z : Value) : Bool := (z.cells.size == i.size) && decide (0 < i.size) && i.zero.all SV.one && (isAggV z == i.agg) && (i.agg || i.size == 1)
def tyOf (P : Program) (t : Nat) : TI :=
  match P.underlying t, P.info? t with
  | some d, some q => match q.zero with
    | some z => if tyGood (tyMk d q z) z = true then tyMk d q z else .none
    | none => .none
  | _, _ => .none

theorem tyOK_none (P : Program) (t : Nat) : TyOK P t .none := ⟨trivial, fun h => absurd rfl h⟩
theorem tyOf_ok (P : Program) (t : Nat) : TyOK P t (tyOf P t) := by
  unfold tyOf
  split
  · rename_i d q hd hq
    split
    · rename_i z hz
      split
      · rename_i hg
        simp only [tyGood, Bool.and_eq_true, beq_iff_eq, decide_eq_true_eq, Bool.or_eq_true] at hg
        obtain ⟨⟨⟨⟨g1, g2⟩, g3⟩, g4⟩, g5⟩ := hg
        refine ⟨?_, fun _ => ⟨q, z, hq, rfl, rfl, hz, by simp [tyMk], by simpa [tyMk] using g1, g2, fun j s v hs hv => ?_, ?_, fun ha => ?_⟩⟩
        · cases d <;> simp only [tyMk, kindOf, elemOf, fieldsOf] <;> first
            | exact hd
            | exact ⟨_, hd, trivial⟩
            | exact trivial
            | (refine ⟨_, hd, by simp, fun j o ft hj => ?_⟩
               rw [List.getElem?_map, Option.map_eq_some_iff] at hj
               obtain ⟨f, hf, e⟩ := hj
               simp only [Prod.mk.injEq] at e
               exact ⟨f, by simpa using hf, e.1, e.2⟩)
        · simp only [tyMk, List.getElem?_map, Option.map_eq_some_iff] at hs
          obtain ⟨u, hu, rfl⟩ := hs
          rw [Array.getElem?_toList, hv] at hu
          obtain rfl := Option.some.inj hu
          refine ⟨rfl, List.all_eq_true.1 g3 _ ?_⟩
          simp only [tyMk, List.mem_map]
          exact ⟨v, by simpa using Array.mem_of_getElem? hv, rfl⟩
        · cases z <;> simp only [isAggV] at g4 ⊢ <;> exact g4.symm
        · rcases g5 with g5 | g5
          · rw [ha] at g5; cases g5
          · exact g5
      · exact tyOK_none P t
    · exact tyOK_none P t
  · exact tyOK_none P t
end Go.Ev
/- Equality of flat structs; the evaluator's surroundings of a program. -/
set_option linter.unusedSimpArgs false
set_option linter.unusedVariables false
namespace Go.Ev

def kindAt (P : Program) (t : Nat) : TK := match P.underlying t with
  | some d => kindOf d
  | none => .other
def flatKind : TK → Bool
  | .int _ | .bool | .str => true
  | _ => false
def eqGood (P : Program) : Nat → List Field → Bool
  | _, [] => true
  | i, f :: r => f.offset == i && f.name != "_" && flatKind (kindAt P f.type) && eqGood P (i + 1) r
def eqKinds (P : Program) (t : Nat) : List TK := match P.underlying t with
  | some (.struct fs) => if !P.stoodInHeld t && !P.eqGuardType P.depth t && eqGood P 0 fs.toList then fs.toList.map fun f => kindAt P f.type else []
  | _ => []
theorem kindAt_und {P : Program} {t : Nat} (h : flatKind (kindAt P t) = true) : (∃ k, kindAt P t = .int k ∧ P.underlying t = some (.int k)) ∨ (kindAt P t = .bool ∧ P.underlying t = some .bool) ∨ (kindAt P t = .str ∧ P.underlying t = some .string) := by
  unfold kindAt at *
  cases hd : P.underlying t with
  | none => simp [hd, flatKind] at h
  | some d =>
    cases d <;> simp [hd, kindOf, flatKind] at h ⊢

section
variable {P : Program} {w : World}
theorem eqOne {d t : Nat} {F : Nat → Prop} {x y : T} {u v : Value} {r q : List T} {b : Bool} (hf : flatKind (kindAt P t) = true) (hx : RD F w x u) (hy : RD F w y v) (ks : List TK) (hk : kindsOK (kindAt P t :: ks) (x :: r) = true) (hk' : kindsOK (kindAt P t :: ks) (y :: q) = true) (h : eqCells (x :: r) (y :: q) = some b) :
    ∃ b1 b2, (Op.equalIn (d + 1) t u v).run P w = .ok b1 w ∧ eqCells r q = some b2 ∧ b = (b1 && b2) ∧ kindsOK ks r = true ∧ kindsOK ks q = true ∧ (isAgg t).run P w = .ok false w := by
  rcases kindAt_und hf with ⟨k, h1, h2⟩ | ⟨h1, h2⟩ | ⟨h1, h2⟩ <;> rw [h1] at hk hk'
  · cases x <;> simp only [kindsOK] at hk <;> first | contradiction | skip
    cases y <;> simp only [kindsOK] at hk' <;> first | contradiction | skip
    cases hx; cases hy
    simp only [eqCells] at h
    split at h
    · rename_i hkk
      subst hkk
      rw [Option.map_eq_some_iff] at h
      obtain ⟨b2, e1, e2⟩ := h
      exact ⟨_, b2, by simp [Op.equalIn, und_run h2], e1, e2.symm, hk, hk', by simp [isAgg, und_run h2]⟩
    · cases h
  · cases x <;> simp only [kindsOK] at hk <;> first | contradiction | skip
    cases y <;> simp only [kindsOK] at hk' <;> first | contradiction | skip
    cases hx; cases hy
    simp only [eqCells] at h
    rw [Option.map_eq_some_iff] at h
    obtain ⟨b2, e1, e2⟩ := h
    exact ⟨_, b2, by simp [Op.equalIn, und_run h2], e1, e2.symm, hk, hk', by simp [isAgg, und_run h2]⟩
  · cases x <;> simp only [kindsOK] at hk <;> first | contradiction | skip
    cases y <;> simp only [kindsOK] at hk' <;> first | contradiction | skip
    cases hx; cases hy
    simp only [eqCells] at h
    rw [Option.map_eq_some_iff] at h
    obtain ⟨b2, e1, e2⟩ := h
    rename_i s1 s2
    refine ⟨s1 == s2, b2, ?_, e1, e2.symm, hk, hk', by simp [isAgg, und_run h2]⟩
    have := run_equalIn_string (P := P) w d t ⟨⟨s1⟩⟩ ⟨⟨s2⟩⟩ h2
    rwa [toList_mk, toList_mk] at this

theorem eqFields_run {d : Nat} {F : Nat → Prop} {vs us : Array Value} : ∀ (fs : List Field) (i : Nat) (xs ys : List T) (b : Bool), eqGood P i fs = true → kindsOK (fs.map fun f => kindAt P f.type) xs = true → kindsOK (fs.map fun f => kindAt P f.type) ys = true → eqCells xs ys = some b →
    (∀ (j : Nat) x, xs[j]? = some x → ∃ v, vs[i + j]? = some v ∧ RD F w x v) → (∀ (j : Nat) x, ys[j]? = some x → ∃ v, us[i + j]? = some v ∧ RD F w x v) → (Op.eqFields (d + 1) vs us fs).run P w = .ok b w
  | [], i, xs, ys, b, hg, hk, hk', h, hx, hy => by
    cases xs <;> simp [kindsOK] at hk
    cases ys <;> simp [kindsOK] at hk'
    simp [eqCells] at h
    subst h
    simp [Op.eqFields]
  | f :: fs, i, xs, ys, b, hg, hk, hk', h, hx, hy => by
    simp only [eqGood, Bool.and_eq_true, beq_iff_eq, bne_iff_ne] at hg
    obtain ⟨⟨⟨g1, g2⟩, g3⟩, g4⟩ := hg
    cases xs with
    | nil => rw [List.map_cons] at hk; cases hkk : kindAt P f.type <;> simp [hkk, kindsOK] at hk
    | cons x xs =>
      cases ys with
      | nil => rw [List.map_cons] at hk'; cases hkk : kindAt P f.type <;> simp [hkk, kindsOK] at hk'
      | cons y ys =>
        obtain ⟨v, hv, rv⟩ := hx 0 x rfl
        obtain ⟨u, hu, ru⟩ := hy 0 y rfl
        rw [Nat.add_zero] at hv hu
        obtain ⟨b1, b2, e1, e2, rfl, k1, k2, hag⟩ := eqOne (d := d) (b := b) (r := xs) (q := ys) g3 rv ru (fs.map fun f => kindAt P f.type) (by simpa using hk) (by simpa using hk') h
        have ih := eqFields_run (d := d) (F := F) (vs := vs) (us := us) fs (i + 1) xs ys b2 g4 k1 k2 e2 (fun j x hj => by
          obtain ⟨v, hv, rv⟩ := hx (j + 1) x (by simpa using hj)
          exact ⟨v, by rw [← hv]; congr 1; omega, rv⟩) (fun j x hj => by
          obtain ⟨v, hv, rv⟩ := hy (j + 1) x (by simpa using hj)
          exact ⟨v, by rw [← hv]; congr 1; omega, rv⟩)
        have p1 : (part f.type vs f.offset).run P w = .ok v w := by simp [part, hag, g1, hv]
        have p2 : (part f.type us f.offset).run P w = .ok u w := by simp [part, hag, g1, hu]
        rw [Op.eqFields]
        simp only [if_pos g2, Sem.run_bind, p1, p2, e1, Result.andThen_ok]
        cases b1
        · simp
        · simpa using ih
theorem eqT_ok (t : Nat) (hne : eqKinds P t ≠ []) (x y : Operand) (F : Nat → Prop) (xs ys : List T) (vs us : Array Value) (b : Bool) (hx : RD F w (.agg xs) (.agg vs)) (hy : RD F w (.agg ys) (.agg us)) (hk : kindsOK (eqKinds P t) xs = true) (hk' : kindsOK (eqKinds P t) ys = true) (h : eqCells xs ys = some b) :
    ((do eqGuard .eql t x y (.agg vs) (.agg us); binOp .eql t (.agg vs) (.agg us)) : Sem Value).run P w = .ok (.bool b) w ∧ ((do eqGuard .neq t x y (.agg vs) (.agg us); binOp .neq t (.agg vs) (.agg us)) : Sem Value).run P w = .ok (.bool (!b)) w := by
  have hk0 := hk
  unfold eqKinds at hne hk hk'
  split at hne
  · rename_i fs hu
    split at hne
    · rename_i hc
      rw [hu] at hk hk'
      simp only at hk hk'
      rw [if_pos hc] at hk hk'
      simp only [Bool.and_eq_true, Bool.not_eq_true'] at hc
      obtain ⟨⟨c1, c2⟩, c3⟩ := hc
      have hrel : ∀ {zs : List T} {ws : Array Value}, RD F w (.agg zs) (.agg ws) → ∀ (j : Nat) z, zs[j]? = some z → ∃ v, ws[0 + j]? = some v ∧ RD F w z v := by
        intro zs ws hz j z hj
        cases hz with
        | agg _ _ hl h1 hr =>
          have hlt := (List.getElem?_eq_some_iff.1 hj).1
          have hlt2 : j < ws.size := by omega
          exact ⟨ws[j], by simp [hlt2], hr j z _ hj (Array.getElem?_eq_getElem hlt2)⟩
      have hrun := eqFields_run (P := P) (w := w) (d := 9998) fs.toList 0 xs ys b c3 hk hk' h (hrel hx) (hrel hy)
      have heq : (Op.equal t (.agg vs) (.agg us)).run P w = .ok b w := by
        show (Op.equalIn (9999 + 1) t (.agg vs) (.agg us)).run P w = _
        have hf : P.fieldsOf t = fs := by simp [Program.fieldsOf, hu]
        rw [run_equalIn_struct (P := P) w 9999 t vs us (by rw [hf]; exact hu) c1, hf]
        exact hrun
      have hg : ∀ op, (eqGuard op t x y (.agg vs) (.agg us)).run P w = .ok () w := by
        intro op
        unfold eqGuard
        cases op <;> simp [c2]
      have e1 : (binOp .eql t (.agg vs) (.agg us)).run P w = .ok (.bool b) w := by
        show ((do pure (.bool (← Op.equal t (.agg vs) (.agg us)))) : Sem Value).run P w = _
        simp only [Sem.run_bind, heq, Result.andThen_ok, Sem.run_pure]
      have e2 : (binOp .neq t (.agg vs) (.agg us)).run P w = .ok (.bool (!b)) w := by
        show ((do pure (.bool (!(← Op.equal t (.agg vs) (.agg us))))) : Sem Value).run P w = _
        simp only [Sem.run_bind, heq, Result.andThen_ok, Sem.run_pure]
      exact ⟨by simp only [Sem.run_bind, hg, Result.andThen_ok, e1], by simp only [Sem.run_bind, hg, Result.andThen_ok, e2]⟩
    · exact absurd rfl hne
  · exact absurd rfl hne
end

/-- An array type, of elements of one cell. -/
def arrOf (P : Program) (t : Nat) : Option (Nat × Nat) := match P.underlying t with
  | some (.array n e) => match P.info? e with
    | some q => if q.size = 1 then some (n, e) else none
    | none => none
  | _ => none
theorem arrOf_ok {P : Program} {t n e : Nat} (h : arrOf P t = some (n, e)) : P.underlying t = some (.array n e) ∧ ∃ q, P.info? e = some q ∧ q.size = 1 := by
  unfold arrOf at h
  split at h
  · rename_i n' e' hu
    split at h
    · rename_i q hq
      split at h
      · rename_i h1
        simp only [Option.some.injEq, Prod.mk.injEq] at h
        obtain ⟨rfl, rfl⟩ := h
        exact ⟨hu, q, hq, h1⟩
      · cases h
    · cases h
  · cases h
/-- The surroundings of a program. -/
def envOf (P : Program) (md : Nat → List Bool) (flat : Nat → Bool) (ext : Nat → Option (List X → Option (List X × List (Option X)))) (draw : Array Oper → Option (List Oper)) (drawS : Array Oper → Option (List (Nat × Nat) × List Oper)) (glob : Nat → List T := fun _ => []) : Env :=
  { glob := glob, arr := arrOf P, ty := tyOf P, eqT := eqKinds P, fn := fun f => P.funcs[f]?, md := md, flat := flat, ext := ext, draw := draw, drawS := drawS }
theorem envOf_pok (P : Program) (md : Nat → List Bool) (flat : Nat → Bool) (ext : Nat → Option (List X → Option (List X × List (Option X)))) (draw : Array Oper → Option (List Oper)) (drawS : Array Oper → Option (List (Nat × Nat) × List Oper)) (glob : Nat → List T) : POK (envOf P md flat ext draw drawS glob) P :=
  ⟨tyOf_ok P, fun _ => rfl, fun t hne x y F w xs ys vs us b hx hy hk hk' h => eqT_ok t hne x y F xs ys vs us b hx hy hk hk' h, fun _ _ _ h => arrOf_ok h⟩
def namesOK (P : Program) : Bool := P.funcs.all fun fn => !(fn.body.isSome && fn.name == "runtime.NumGoroutine")
theorem namesOK_name {P : Program} (h : namesOK P = true) (f : Nat) (fn : Func) (hf : P.funcs[f]? = some fn) (hb : fn.body.isSome = true) : (fn.name == "runtime.NumGoroutine") = false := by
  unfold namesOK at h
  rw [Array.all_eq_true'] at h
  have := h fn (Array.mem_of_getElem? hf)
  simpa [hb] using this
end Go.Ev
/- How the evaluator goes, rule by rule: for 'simp'. -/
set_option linter.unusedSimpArgs false
set_option linter.unusedVariables false
namespace Go.Ev

noncomputable def thenOps (E : Env) (all : Array Oper) (r : List Oper) (o : Option St) : Option Out := match o with
  | none => none
  | some st => run E (.ops none all r st)
noncomputable def thenOpsS (E : Env) (ck : List (Nat × Nat)) (ls : List Lab) (all : Array Oper) (r : List Oper) (o : Option St) : Option Out := match o with
  | none => none
  | some st => run E (.ops (some (ck, ls)) all r st)
noncomputable def thenBackS (E : Env) (st : St) (f : SV) (vs : List SV) (dst : Option Nat) (o : Option Out) : Option St := match o with
  | some (.res rs bs) => match callBackS E st f vs rs bs with
    | none => none
    | some q => some (q.2.put dst q.1)
  | _ => none
noncomputable def thenGoS (E : Env) (st : St) (f : SV) (vs : List SV) (dst : Option Nat) (o : Option (Nat × List X)) : Option St := match o with
  | none => none
  | some p => thenBackS E st f vs dst (run E (.call p.1 p.2))
noncomputable def thenSeq (E : Env) (b : Code) (o : Option Out) : Option Out := match o with
  | none => none
  | some (.st .normal st) => run E (.code b st)
  | some o => some o
def thenBlock (id : Nat) (o : Option Out) : Option Out := match o with
  | none => none
  | some (.st (.exit j) st) => if j = id then some (.st .normal st) else some (.st (.exit j) st)
  | some o => some o
noncomputable def thenLoop (E : Env) (c : Code) (o : Option Out) : Option Out := match o with
  | none => none
  | some (.st .normal st) => run E (.code (.loop c) st)
  | some o => some o
noncomputable def thenCall (E : Env) (fl : Bool) (rvs : List ResultVar) (ms : List SV) (o : Option Out) : Option Out := match o with
  | some (.st e st) => if e = .normal ∨ e = .ret then (st.finish E fl rvs ms).map fun p => .res p.1 p.2 else none
  | _ => none
noncomputable def thenBack (E : Env) (st : St) (f : SV) (vs : List SV) (dst : Option Nat) (o : Option Out) : Option St := match o with
  | some (.res rs bs) => match callBack E st f vs rs bs with
    | none => none
    | some q => some (q.2.put dst q.1)
  | _ => none
noncomputable def thenGo (E : Env) (st : St) (f : SV) (vs : List SV) (dst : Option Nat) (o : Option (Nat × List X)) : Option St := match o with
  | none => none
  | some p => thenBack E st f vs dst (run E (.call p.1 p.2))
def thenPut (dst : Option Nat) (o : Option (SV × St)) : Option St := match o with
  | none => none
  | some q => some (q.2.put dst q.1)

section
variable (E : Env) (all : Array Oper) (r : List Oper) (b c : Code) (st : St) (id j f : Nat) (fn : Func) (args : List X) (sv : SV) (vs : List SV) (dst : Option Nat) (p : Prop) [Decidable p]
theorem thenOps_some : thenOps E all r (some st) = run E (.ops none all r st) := rfl
theorem thenOpsS_some (ck : List (Nat × Nat)) (ls : List Lab) : thenOpsS E ck ls all r (some st) = run E (.ops (some (ck, ls)) all r st) := rfl
theorem thenOpsS_ite (ck : List (Nat × Nat)) (ls : List Lab) (x y : Option St) : thenOpsS E ck ls all r (if p then x else y) = if p then thenOpsS E ck ls all r x else thenOpsS E ck ls all r y := by split <;> rfl
theorem thenBackS_res (rs : List X) (bs : List (Option X)) : thenBackS E st sv vs dst (some (.res rs bs)) = thenPut dst (callBackS E st sv vs rs bs) := by
  simp only [thenBackS, thenPut]
theorem thenBackS_ite (x y : Option Out) : thenBackS E st sv vs dst (if p then x else y) = if p then thenBackS E st sv vs dst x else thenBackS E st sv vs dst y := by split <;> rfl
theorem thenGoS_some (q : Nat × List X) : thenGoS E st sv vs dst (some q) = thenBackS E st sv vs dst (run E (.call q.1 q.2)) := rfl
theorem thenOps_ite (x y : Option St) : thenOps E all r (if p then x else y) = if p then thenOps E all r x else thenOps E all r y := by split <;> rfl
theorem thenSeq_normal : thenSeq E b (some (.st .normal st)) = run E (.code b st) := rfl
theorem thenSeq_exit : thenSeq E b (some (.st (.exit j) st)) = some (.st (.exit j) st) := rfl
theorem thenSeq_ret : thenSeq E b (some (.st .ret st)) = some (.st .ret st) := rfl
theorem thenSeq_ite (x y : Option Out) : thenSeq E b (if p then x else y) = if p then thenSeq E b x else thenSeq E b y := by split <;> rfl
theorem thenBlock_normal : thenBlock id (some (.st .normal st)) = some (.st .normal st) := rfl
theorem thenBlock_exit : thenBlock id (some (.st (.exit j) st)) = if j = id then some (.st .normal st) else some (.st (.exit j) st) := rfl
theorem thenBlock_ret : thenBlock id (some (.st .ret st)) = some (.st .ret st) := rfl
theorem thenBlock_ite (x y : Option Out) : thenBlock id (if p then x else y) = if p then thenBlock id x else thenBlock id y := by split <;> rfl
theorem thenLoop_normal : thenLoop E c (some (.st .normal st)) = run E (.code (.loop c) st) := rfl
theorem thenLoop_exit : thenLoop E c (some (.st (.exit j) st)) = some (.st (.exit j) st) := rfl
theorem thenLoop_ret : thenLoop E c (some (.st .ret st)) = some (.st .ret st) := rfl
theorem thenLoop_ite (x y : Option Out) : thenLoop E c (if p then x else y) = if p then thenLoop E c x else thenLoop E c y := by split <;> rfl
theorem thenCall_normal (fl : Bool) (rvs : List ResultVar) (ms : List SV) : thenCall E fl rvs ms (some (.st .normal st)) = (st.finish E fl rvs ms).map fun p => .res p.1 p.2 := by simp [thenCall]
theorem thenCall_ret (fl : Bool) (rvs : List ResultVar) (ms : List SV) : thenCall E fl rvs ms (some (.st .ret st)) = (st.finish E fl rvs ms).map fun p => .res p.1 p.2 := by simp [thenCall]
theorem thenCall_ite (fl : Bool) (rvs : List ResultVar) (ms : List SV) (x y : Option Out) : thenCall E fl rvs ms (if p then x else y) = if p then thenCall E fl rvs ms x else thenCall E fl rvs ms y := by split <;> rfl
theorem thenBack_res (rs : List X) (bs : List (Option X)) : thenBack E st sv vs dst (some (.res rs bs)) = thenPut dst (callBack E st sv vs rs bs) := by
  simp only [thenBack, thenPut]
theorem thenBack_ite (x y : Option Out) : thenBack E st sv vs dst (if p then x else y) = if p then thenBack E st sv vs dst x else thenBack E st sv vs dst y := by split <;> rfl
theorem thenGo_some (q : Nat × List X) : thenGo E st sv vs dst (some q) = thenBack E st sv vs dst (run E (.call q.1 q.2)) := rfl
theorem thenPut_some (q : SV × St) : thenPut dst (some q) = some (q.2.put dst q.1) := rfl
theorem thenPut_ite (x y : Option (SV × St)) : thenPut dst (if p then x else y) = if p then thenPut dst x else thenPut dst y := by split <;> rfl

noncomputable def stepO (o : Oper) : Option St :=
  if dstOk st o = false then none else match guardOf all st o with
          | none => none
          | some false => some (st.put o.dst (.tup []))
          | some true => match o.op with
            | .call c => match c.callee with
              | .value f => thenGo E st (st.val f) (c.args.toList.map st.val) o.dst (callPrep E st (st.val f) (c.args.toList.map st.val))
              | .builtin b => thenPut o.dst (st.builtin E b c.argTypes.toList (c.args.toList.map st.val))
              | _ => none
            | op => thenPut o.dst (st.op E op)
noncomputable def stepS (o : Oper) : Option St :=
  if dstOk st o = false then none else match guardOf all st o with
          | none => none
          | some false => some (st.put o.dst (.tup []))
          | some true => match o.op with
            | .call c => match c.callee with
              | .value f => thenGoS E st (st.val f) (c.args.toList.map st.val) o.dst (callPrep E st (st.val f) (c.args.toList.map st.val))
              | .builtin b => thenPut o.dst (st.builtin E b c.argTypes.toList (c.args.toList.map st.val))
              | _ => none
            | op => thenPut o.dst (st.opS E op)
def labS (o : Oper) : Lab := match guardOf all st o with
  | some false => .skip
  | _ => labOf E st o
theorem run_call {fn : Func} {c : Code} {n : Nat} {rvs : List ResultVar} (hx : E.ext f = none) (hf : E.fn f = some fn) (hb : fn.body = some c) (hn : fn.ntmps = n) (hr : fn.results.toList = rvs) (hl : args.length ≤ n) :
    run E (.call f args) = thenCall E (E.flat f) rvs (muts (E.md f) (emptySt.bindAll args).1) (run E (.code c (initSt n (emptySt.bindAll args).1 (emptySt.bindAll args).2))) := by
  rw [run_eq]; unfold body; simp only [hx, hf, hb]
  subst hn; subst hr
  unfold thenCall
  cases run E (.code c (initSt fn.ntmps (emptySt.bindAll args).1 (emptySt.bindAll args).2)) with
  | none => rfl
  | some o => cases o with
    | st e s => simp [hl]
    | res rs bs => rfl
theorem run_seq (a : Code) : run E (.code (.seq a b) st) = thenSeq E b (run E (.code a st)) := by
  rw [run_eq]; unfold body
  dsimp only
  unfold thenSeq
  cases run E (.code a st) with
  | none => rfl
  | some o => cases o with
    | st e s => cases e <;> rfl
    | res rs bs => rfl
theorem run_region (id : Nat) (ops : Array Oper) : run E (.code (.region id ops false) st) = run E (.ops none ops ops.toList st) := by rw [run_eq]; rfl
theorem run_region_draw (id : Nat) (ops : Array Oper) {l : List Oper} (h : E.draw ops = some l) : run E (.code (.region id ops true) st) = run E (.ops none ops l st) := by rw [run_eq]; unfold body; simp [h]
theorem run_region_drawS (id : Nat) (ops : Array Oper) {ck : List (Nat × Nat)} {l : List Oper} (h0 : E.draw ops = none) (h : E.drawS ops = some (ck, l)) : run E (.code (.region id ops true) st) = run E (.ops (some (ck, [])) ops l st) := by rw [run_eq]; unfold body; simp [h0, h]
theorem run_cond (c : Operand) (a : Code) : run E (.code (.cond c a b) st) = match st.val c with
      | .t (.bool x) => if x = true then run E (.code a st) else run E (.code b st)
      | _ => none := by rw [run_eq]; rfl
theorem run_ret : run E (.code .ret st) = some (.st .ret st) := by rw [run_eq]; rfl
theorem run_skip : run E (.code .skip st) = some (.st .normal st) := by rw [run_eq]; rfl
theorem run_exit (id : Nat) : run E (.code (.exit id) st) = some (.st (.exit id) st) := by rw [run_eq]; rfl
theorem run_block (id : Nat) : run E (.code (.block id c) st) = thenBlock id (run E (.code c st)) := by
  rw [run_eq]; unfold body
  dsimp only
  unfold thenBlock
  cases run E (.code c st) with
  | none => rfl
  | some o => cases o with
    | st e s => cases e <;> rfl
    | res rs bs => rfl
theorem run_loop : run E (.code (.loop c) st) = thenLoop E c (run E (.code c st)) := by
  conv => lhs; rw [run_eq]; unfold body
  dsimp only
  unfold thenLoop
  cases run E (.code c st) with
  | none => rfl
  | some o => cases o with
    | st e s => cases e <;> rfl
    | res rs bs => rfl
theorem run_nil : run E (.ops none all [] st) = some (.st .normal st) := by rw [run_eq]; rfl
theorem run_nilS (ck : List (Nat × Nat)) (ls : List Lab) : run E (.ops (some (ck, ls)) all [] st) = if ckOK ck ls = true then some (.st .normal st) else none := by rw [run_eq]; rfl
theorem run_ext {g : List X → Option (List X × List (Option X))} (hx : E.ext f = some g) : run E (.call f args) = (g args).map fun p => .res p.1 p.2 := by
  rw [run_eq]; unfold body; simp only [hx]
theorem run_cons (o : Oper) : run E (.ops none all (o :: r) st) = thenOps E all r (stepO E all st o) := by
  rw [run_eq]; unfold body
  unfold stepO thenOps
  simp only [pushM, Option.map_none]
  split
  · rfl
  · split
    · rename_i h; rw [h]
    · rename_i h; rw [h]
    · rename_i h0; rw [h0]
      split
      · rename_i f args _ h
        rw [h]
        simp only [thenGo]
        cases hp : callPrep E st (st.val f) (args.toList.map st.val) with
        | none => rfl
        | some p =>
          obtain ⟨g, xs⟩ := p
          simp only [thenBack]
          cases hc : run E (.call g xs) with
          | none => rfl
          | some out =>
            cases out with
            | st e s => rfl
            | res rs bs =>
              simp only [Option.bind_eq_bind, Option.bind_some, callBackM]
              cases callBack E st (st.val f) (args.toList.map st.val) rs bs with
              | none => rfl
              | some q => rfl
      · rename_i hne
        have key : ∀ c, o.op = .call c → ∀ f, c.callee ≠ .value f := by
          intro c hc f hf
          obtain ⟨ce, ar, at_⟩ := c
          simp only at hf
          subst hf
          exact hne _ _ _ hc
        have hq : (match o.op with
            | .call c => match c.callee with
              | .value f => thenGo E st (st.val f) (c.args.toList.map st.val) o.dst (callPrep E st (st.val f) (c.args.toList.map st.val))
              | .builtin b => thenPut o.dst (st.builtin E b c.argTypes.toList (c.args.toList.map st.val))
              | _ => none
            | op => thenPut o.dst (st.op E op)) = thenPut o.dst (st.op E o.op) := by
          cases hop : o.op with
          | call c =>
            cases hcc : c.callee with
            | value f => exact absurd hcc (key c hop f)
            | builtin b => simp only [St.op, hcc]
            | invoke _ _ => simp only [St.op, hcc]; rfl
          | _ => rfl
        dsimp only at hq ⊢
        rw [hq]
        unfold thenPut
        simp only [St.opM]
        cases St.op E st o.op <;> rfl
theorem run_consS (ck : List (Nat × Nat)) (ls : List Lab) (o : Oper) : run E (.ops (some (ck, ls)) all (o :: r) st) = thenOpsS E ck (ls ++ [labS E all st o]) all r (stepS E all st o) := by
  rw [run_eq]; unfold body
  unfold stepS thenOpsS labS
  simp only [pushM, Option.map_some]
  split
  · rfl
  · split
    · rename_i h; rw [h]
    · rename_i h; rw [h]
    · rename_i h0; rw [h0]
      split
      · rename_i f args _ h
        rw [h]
        simp only [thenGoS]
        cases hp : callPrep E st (st.val f) (args.toList.map st.val) with
        | none => rfl
        | some p =>
          obtain ⟨g, xs⟩ := p
          simp only [thenBackS]
          cases hc : run E (.call g xs) with
          | none => rfl
          | some out =>
            cases out with
            | st e s => rfl
            | res rs bs =>
              simp only [Option.bind_eq_bind, Option.bind_some, callBackM]
              cases callBackS E st (st.val f) (args.toList.map st.val) rs bs with
              | none => rfl
              | some q => rfl
      · rename_i hne
        have key : ∀ c, o.op = .call c → ∀ f, c.callee ≠ .value f := by
          intro c hc f hf
          obtain ⟨ce, ar, at_⟩ := c
          simp only at hf
          subst hf
          exact hne _ _ _ hc
        have hq : (match o.op with
            | .call c => match c.callee with
              | .value f => thenGoS E st (st.val f) (c.args.toList.map st.val) o.dst (callPrep E st (st.val f) (c.args.toList.map st.val))
              | .builtin b => thenPut o.dst (st.builtin E b c.argTypes.toList (c.args.toList.map st.val))
              | _ => none
            | op => thenPut o.dst (st.opS E op)) = thenPut o.dst (st.opS E o.op) := by
          cases hop : o.op with
          | call c =>
            cases hcc : c.callee with
            | value f => exact absurd hcc (key c hop f)
            | builtin b => simp only [St.opS, St.op, hcc]
            | invoke _ _ => simp only [St.opS, St.op, hcc]; rfl
          | _ => rfl
        try dsimp only at hq ⊢
        rw [hq]
        unfold thenPut
        simp only [St.opM]
        cases St.opS st E o.op <;> rfl
end
end Go.Ev
