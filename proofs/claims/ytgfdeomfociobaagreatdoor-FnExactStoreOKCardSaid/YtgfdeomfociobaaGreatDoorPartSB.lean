/- StoreOK: both sides, their loops. -/
import Derived.Test.YtgfdeomfociobaaGreatDoorPartSA
set_option linter.unusedSimpArgs false
set_option linter.unusedVariables false
namespace Go.Yd
open Go.Ev Go.Proofs Go.Pu
set_option maxRecDepth 100000
set_option maxHeartbeats 16000000
abbrev stoC (x : Sto) : List T := [.list (x.colls.map colT), .list (x.txns.map txnT), .list (x.done.map dnT), .int .i64 x.clock]
abbrev stoB (x : Sto) : Ob := .box 96 [.t (.list (x.colls.map colT)), .t (.list (x.txns.map txnT)), .t (.list (x.done.map dnT)), .t (.int .i64 x.clock)]
/-- The time of a document's last version. -/
def lastAt (ch : Chn) : Int := match ch.vs[ch.vs.length - 1]? with
  | some v => v.at_
  | none => 0
def lastOK (clock : Int) (ch : Chn) : Bool := decide (lastAt ch ≤ clock)
def colsFull (l : List Col) : Prop := ∀ c ∈ l, ∀ ch ∈ c.chains, 1 ≤ ch.vs.length
theorem chains_full : ∀ (l : List Chn) (p : Option Int), chainsGo p l = true → ∀ ch ∈ l, 1 ≤ ch.vs.length
  | [], _, _, ch, h => by cases h
  | c :: r, p, h, ch, hm => by
    unfold chainsGo at h
    simp only [Bool.and_eq_true] at h
    rcases List.mem_cons.1 hm with rfl | hm
    · have h1 := h.1.1
      unfold chainOK in1 at h1
      simp only [Bool.and_eq_true, decide_eq_true_eq] at h1
      omega
    · exact chains_full r _ h.2 ch hm
theorem collOK_full {c : Col} (h : collOK c = true) : ∀ ch ∈ c.chains, 1 ≤ ch.vs.length := by
  unfold collOK at h
  simp only [Bool.and_eq_true] at h
  exact chains_full _ _ h.2
theorem seq_each {α : Type} {ok : α → Bool} {ord : α → α → Bool} {l : List α} (h : seqOK ok ord l = true) : ∀ x ∈ l, ok x = true := by
  intro x hx
  obtain ⟨i, hi, rfl⟩ := List.getElem_of_mem hx
  have := steps_all.1 h i hi
  cases i with
  | zero => rw [seq_zero hi] at this; exact this
  | succ k => rw [seq_succ hi] at this; simp only [Bool.and_eq_true] at this; exact this.1
theorem seq_next {α : Type} {ok : α → Bool} {ord : α → α → Bool} {l : List α} (h : seqOK ok ord l = true) (k : Nat) (hk : k + 1 < l.length) : ord l[k] l[k + 1] = true := by
  have := steps_all.1 h (k + 1) hk
  rw [seq_succ hk] at this
  simp only [Bool.and_eq_true] at this
  exact this.2
theorem colls_full {l : List Col} (h : collsOK l = true) : colsFull l := by
  unfold collsOK at h
  simp only [Bool.and_eq_true] at h
  exact fun c hc => collOK_full (seq_each h.1 c hc)
theorem specDocs_in (x : Sto) (h : x.Sm) (hf : colsFull x.colls) (i : Nat) (hi : i < x.colls.length) (b : Bool) (hb : b = x.colls[i].chains.all (lastOK x.clock)) : ∀ s o q, (s 1 = .ptr 0 0 ∧ s 3 = .t (.int .i64 i) ∧ s 4 = .t (.int .i64 0) ∧ o 0 = stoB x) →
    ∃ e s' o' q', run E (.code (.loop (loopAt Tryz.f36 1)) ⟨s, o, q, 162⟩) = some (.st e ⟨s', o', q', 162⟩) ∧ e = (if b then .exit 2 else .ret) ∧ s' 1 = .ptr 0 0 ∧ s' 3 = .t (.int .i64 i) ∧ o' 0 = stoB x ∧ (b = false → s' 2 = .t (.bool false)) := by
  intro s o q hI
  have d10 := d36_10
  simp [regionOf, findR, pick, Tryz.f36] at d10
  have dd := fun st => run_region_draw E st 10 _ d10
  clear d10
  have hcs := h.colls.2 _ (List.getElem_mem hi)
  have hclen : x.colls[i].chains.length < 4294967296 := hcs.chains.1
  have hii : x.colls[i]? = some x.colls[i] := List.getElem?_eq_getElem hi
  have hi' : (i : Int) < (x.colls.length : Int) := by omega
  rw [← seq_plain] at hb
  refine loop_for (c := loopAt Tryz.f36 1) (N := 162)
    (fun j s o q => s 1 = .ptr 0 0 ∧ s 3 = .t (.int .i64 i) ∧ s 4 = .t (.int .i64 j) ∧ o 0 = stoB x ∧ b = stepsFrom x.colls[i].chains.length (seqStep (lastOK x.clock) (fun _ _ => true) x.colls[i].chains) j)
    (fun e s' o' q' => e = (if b then .exit 2 else .ret) ∧ s' 1 = .ptr 0 0 ∧ s' 3 = .t (.int .i64 i) ∧ o' 0 = stoB x ∧ (b = false → s' 2 = .t (.bool false))) x.colls[i].chains.length ?_ ?_
    x.colls[i].chains.length 0 s o q (by omega) ⟨hI.1, hI.2.1, hI.2.2.1, hI.2.2.2, hb⟩
  · rintro j s o q hj ⟨h1, h3, h4, ho, hp⟩
    have hj' : (j : Int) < (x.colls[i].chains.length : Int) := by omega
    have hwj := wrap_succ (n := j) (by omega)
    have hxj : x.colls[i].chains[j]? = some x.colls[i].chains[j] := List.getElem?_eq_getElem hj
    have hfull := hf _ (List.getElem_mem hi) _ (List.getElem_mem hj)
    have hvl : x.colls[i].chains[j].vs.length < 4294967296 := (hcs.chains.2 _ (List.getElem_mem hj)).1
    obtain ⟨n, hn⟩ : ∃ n, x.colls[i].chains[j].vs.length = n + 1 := ⟨x.colls[i].chains[j].vs.length - 1, by omega⟩
    have hxn : x.colls[i].chains[j].vs[n]? = some (x.colls[i].chains[j].vs[n]'(by omega)) := List.getElem?_eq_getElem (by omega)
    have hla : lastAt x.colls[i].chains[j] = (x.colls[i].chains[j].vs[n]'(by omega)).at_ := by
      unfold lastAt
      rw [show x.colls[i].chains[j].vs.length - 1 = n by omega, hxn]
    have hwn := wrap_nat (n := n) (by omega)
    have hlt : n < x.colls[i].chains[j].vs.length := by omega
    rw [stepsFrom_lt hj, plain_step hj, show lastOK x.clock x.colls[i].chains[j] = decide (lastAt x.colls[i].chains[j] ≤ x.clock) from rfl, hla] at hp
    by_cases hy : (x.colls[i].chains[j].vs[n]'(by omega)).at_ ≤ x.clock
    · have hy' : ¬ x.clock < (x.colls[i].chains[j].vs[n]'(by omega)).at_ := by omega
      simp [hy] at hp
      simp [loopAt, loopsOf, Tryz.f36, dd, h1, h3, h4, ho, hii, hi, hi', hj, hj', hwj, hxj, hn, hxn, hwn, hlt, hy, hy', hp]
    · have hy' : x.clock < (x.colls[i].chains[j].vs[n]'(by omega)).at_ := by omega
      simp [hy] at hp
      simp [loopAt, loopsOf, Tryz.f36, dd, h1, h3, h4, ho, hii, hi, hi', hj, hj', hwj, hxj, hn, hxn, hwn, hlt, hy, hy', hp]
  · rintro s o q ⟨h1, h3, h4, ho, hp⟩
    rw [stepsFrom_end] at hp
    simp [loopAt, loopsOf, Tryz.f36, h1, h3, h4, ho, hii, hi, hi', hp]
def docsOK (x : Sto) : Bool := x.colls.all (fun c => c.chains.all (lastOK x.clock))
theorem specDocs_loop (x : Sto) (h : x.Sm) (hf : colsFull x.colls) (b : Bool) (hb : b = docsOK x) : ∀ s o q, (s 1 = .ptr 0 0 ∧ s 3 = .t (.int .i64 0) ∧ o 0 = stoB x) →
    ∃ e s' o' q', run E (.code (.loop (loopAt Tryz.f36 0)) ⟨s, o, q, 162⟩) = some (.st e ⟨s', o', q', 162⟩) ∧ e = (if b then .exit 0 else .ret) ∧ s' 1 = .ptr 0 0 ∧ o' 0 = stoB x ∧ (b = false → s' 2 = .t (.bool false)) := by
  intro s o q hI
  have hlen := h.colls.1
  unfold docsOK at hb
  rw [← seq_plain] at hb
  refine loop_for (c := loopAt Tryz.f36 0) (N := 162)
    (fun i s o q => s 1 = .ptr 0 0 ∧ s 3 = .t (.int .i64 i) ∧ o 0 = stoB x ∧ b = stepsFrom x.colls.length (seqStep (fun c => c.chains.all (lastOK x.clock)) (fun _ _ => true) x.colls) i)
    (fun e s' o' q' => e = (if b then .exit 0 else .ret) ∧ s' 1 = .ptr 0 0 ∧ o' 0 = stoB x ∧ (b = false → s' 2 = .t (.bool false))) x.colls.length ?_ ?_
    x.colls.length 0 s o q (by omega) ⟨hI.1, hI.2.1, hI.2.2, hb⟩
  · rintro i s o q hi ⟨h1, h3, ho, hp⟩
    have hi' : (i : Int) < (x.colls.length : Int) := by omega
    have hwi := wrap_succ (n := i) (by omega)
    rw [stepsFrom_lt hi, plain_step hi] at hp
    obtain ⟨z, hz⟩ : ∃ z, z = x.colls[i].chains.all (lastOK x.clock) := ⟨_, rfl⟩
    obtain ⟨X, A, B, C, hx⟩ := sk (specDocs_in x h hf i hi z hz)
    simp only [loopAt, loopsOf, Tryz.f36] at hx
    rw [← hz] at hp
    cases z with
    | false =>
      simp at hp hx
      simp [loopAt, loopsOf, Tryz.f36, h1, h3, ho, hi', hwi, hx, hp]
    | true =>
      simp at hp hx
      simp [loopAt, loopsOf, Tryz.f36, h1, h3, ho, hi', hwi, hx, hp]
  · rintro s o q ⟨h1, h3, ho, hp⟩
    rw [stepsFrom_end] at hp
    simp [loopAt, loopsOf, Tryz.f36, h1, h3, ho, hp]
end Go.Yd
/- StoreOK: both sides, the transactions. -/
set_option linter.unusedSimpArgs false
set_option linter.unusedVariables false
namespace Go.Yd
open Go.Ev Go.Proofs Go.Pu
set_option maxRecDepth 100000
set_option maxHeartbeats 16000000
/-- Is a collection of this name there? -/
abbrev nmIs (nm : Bytes) (c : Col) : Bool := c.name == nm
def hasColl (l : List Col) (nm : Bytes) : Bool := l.any (nmIs nm)
theorem specCollAt (l : List Col) (nm : Bytes) (hl : l.length < 4294967296) : run E (.call 127 [.t (.list (l.map colT)), xS nm]) = some (.res [xI (idxP (nmIs nm) l)] []) := by
  rw [run_call E 127 _ rfl Tryz.func127 rfl rfl rfl (by simp)]
  have lp := fun (r : Int) (hr : r = idxP (nmIs nm) l) => sk (fun s o q hI => loop_for (c := loopAt Tryz.f127 0) (N := 20)
    (fun i s o q => s 0 = .t (.list (l.map colT)) ∧ s 1 = .t (.str nm) ∧ s 5 = .t (.int .i64 i) ∧ r = if idxP (nmIs nm) (l.drop i) < 0 then -1 else idxP (nmIs nm) (l.drop i) + i)
    (fun e s' o' q' => e = (if r < 0 then .exit 0 else .ret) ∧ (0 ≤ r → s' 4 = .t (.int .i64 r))) l.length
    (by
      rintro i s o q hi ⟨h0, h1, h5, hr⟩
      have hd : l.drop i = l[i] :: l.drop (i + 1) := by rw [List.drop_eq_getElem_cons hi]
      have hi' : (i : Int) < (l.length : Int) := by omega
      have hw := wrap_succ (n := i) (by omega)
      have hxi : l[i]? = some l[i] := List.getElem?_eq_getElem hi
      rw [hd, idxP] at hr
      cases hpx : l[i].name == nm with
      | true =>
        simp only [nmIs, hpx, if_true] at hr
        simp at hr
        have hr' : ¬ r < 0 := by omega
        simp [loopAt, loopsOf, Tryz.f127, h0, h1, h5, hi, hi', hxi, hpx, hw, hr', hr]
      | false =>
        simp only [nmIs, hpx] at hr
        have hr2 : r = if idxP (nmIs nm) (l.drop (i + 1)) < 0 then -1 else idxP (nmIs nm) (l.drop (i + 1)) + ((i : Int) + 1) := by
          rw [hr]
          by_cases hq : idxP (nmIs nm) (l.drop (i + 1)) < 0
          · simp [hq]
          · have : ¬ idxP (nmIs nm) (l.drop (i + 1)) + 1 < 0 := by omega
            simp [hq, this]; omega
        clear hr
        simp [loopAt, loopsOf, Tryz.f127, h0, h1, h5, hi, hi', hxi, hpx, hw]
        exact hr2)
    (by
      rintro s o q ⟨h0, h1, h5, hr⟩
      simp [idxP] at hr
      simp [loopAt, loopsOf, Tryz.f127, h0, h1, h5, hr])
    l.length 0 s o q (by omega) hI)
  simp only [loopAt, loopsOf, Tryz.f127] at lp
  obtain ⟨X, A, B, C, hx⟩ := lp _ rfl
  have hz : idxP (nmIs nm) l = if idxP (nmIs nm) l < 0 then -1 else idxP (nmIs nm) l := by
    cases l with
    | nil => simp [idxP]
    | cons x r =>
      unfold idxP
      split
      · simp
      · split
        · simp
        · have : ¬ idxP (nmIs nm) r + 1 < 0 := by omega
          simp [this]
  simp [← hz] at hx
  by_cases h : idxP (nmIs nm) l < 0
  · have h1 : idxP (nmIs nm) l = -1 := by rw [hz]; simp [h]
    simp [h] at hx
    simp [hx, h1]
  · have h2 : 0 ≤ idxP (nmIs nm) l := by omega
    simp [h, h2] at hx
    simp [hx]
theorem implCollAt (l : List Col) (nm : Bytes) (hl : l.length < 4294967296) : run E (.call 233 [.t (.list (l.map colT)), xS nm]) = some (.res [xI (idxP (nmIs nm) l)] []) := by
  rw [run_call E 233 _ rfl Tryz.func233 rfl rfl rfl (by simp)]
  have hc := indexFunc_316_1 l 317 [.str nm] (nmIs nm) (by omega) rfl (by simp) (fun c _ => by
    rw [run_call E 317 _ rfl Tryz.func317 rfl rfl rfl (by simp)]
    simp)
  simp [hc]
theorem idx_has (l : List Col) (nm : Bytes) : decide (idxP (nmIs nm) l < 0) = !hasColl l nm := by
  have h := idxP_neg (nmIs nm) l
  unfold hasColl
  by_cases hc : idxP (nmIs nm) l < 0
  · rw [h.1 hc]; simp [hc]
  · have : l.any (nmIs nm) = true := by
      cases hb : l.any (nmIs nm) with
      | true => rfl
      | false => exact absurd (h.2 hb) hc
    rw [this]; simp [hc]
theorem txnsClosure (x : Sto) (hx : x.Sm) (w : Wr) : run E (.call 232 [.t (wrT w), .dref (stoC x)]) = some (.res [xB (!hasColl x.colls w.coll)] []) := by
  rw [run_call E 232 _ rfl Tryz.func232 rfl rfl rfl (by simp)]
  have h1 := implCollAt x.colls w.coll hx.colls.1
  have h2 := idx_has x.colls w.coll
  rw [← h2]
  simp [h1]
theorem doneLate (x : Sto) (d : Dn) : run E (.call 134 [.t (dnT d), .dref (stoC x)]) = some (.res [xB (decide (x.clock < d.at_))] []) := by
  rw [run_call E 134 _ rfl Tryz.func134 rfl rfl rfl (by simp)]
  simp
def txnOrd (a b : Txn) : Bool := decide (a.session < b.session)
def wrsIn (x : Sto) (t : Txn) : Bool := t.writes.all (fun w => hasColl x.colls w.coll)
/-- A transaction of a store: T says if it is right by itself. -/
def txnIn (x : Sto) (T : Txn → Bool) (t : Txn) : Bool := T t && decide (t.snap ≤ x.clock) && wrsIn x t
theorem specTxns_in (x : Sto) (h : x.Sm) (i : Nat) (hi : i < x.txns.length) (b : Bool) (hb : b = wrsIn x x.txns[i]) : ∀ s o q, (s 1 = .ptr 0 0 ∧ s 6 = .t (.int .i64 i) ∧ s 7 = .t (.int .i64 0) ∧ o 0 = stoB x) →
    ∃ e s' o' q', run E (.code (.loop (loopAt Tryz.f36 3)) ⟨s, o, q, 162⟩) = some (.st e ⟨s', o', q', 162⟩) ∧ e = (if b then .exit 6 else .ret) ∧ s' 1 = .ptr 0 0 ∧ s' 6 = .t (.int .i64 i) ∧ o' 0 = stoB x ∧ (b = false → s' 2 = .t (.bool false)) := by
  intro s o q hI
  have d20 := d36_20
  simp [regionOf, findR, pick, Tryz.f36] at d20
  have dd := fun st => run_region_draw E st 20 _ d20
  clear d20
  have hcs := h.txns.2 _ (List.getElem_mem hi)
  have hclen : x.txns[i].writes.length < 4294967296 := hcs.writes.1
  have hii : x.txns[i]? = some x.txns[i] := List.getElem?_eq_getElem hi
  have hi' : (i : Int) < (x.txns.length : Int) := by omega
  unfold wrsIn at hb
  rw [← seq_plain] at hb
  refine loop_for (c := loopAt Tryz.f36 3) (N := 162)
    (fun j s o q => s 1 = .ptr 0 0 ∧ s 6 = .t (.int .i64 i) ∧ s 7 = .t (.int .i64 j) ∧ o 0 = stoB x ∧ b = stepsFrom x.txns[i].writes.length (seqStep (fun w => hasColl x.colls w.coll) (fun _ _ => true) x.txns[i].writes) j)
    (fun e s' o' q' => e = (if b then .exit 6 else .ret) ∧ s' 1 = .ptr 0 0 ∧ s' 6 = .t (.int .i64 i) ∧ o' 0 = stoB x ∧ (b = false → s' 2 = .t (.bool false))) x.txns[i].writes.length ?_ ?_
    x.txns[i].writes.length 0 s o q (by omega) ⟨hI.1, hI.2.1, hI.2.2.1, hI.2.2.2, hb⟩
  · rintro j s o q hj ⟨h1, h6, h7, ho, hp⟩
    have hj' : (j : Int) < (x.txns[i].writes.length : Int) := by omega
    have hwj := wrap_succ (n := j) (by omega)
    have hxj : x.txns[i].writes[j]? = some x.txns[i].writes[j] := List.getElem?_eq_getElem hj
    have hca := specCollAt x.colls x.txns[i].writes[j].coll h.colls.1
    have hih := idx_has x.colls x.txns[i].writes[j].coll
    rw [stepsFrom_lt hj, plain_step hj] at hp
    generalize idxP (nmIs x.txns[i].writes[j].coll) x.colls = n at *
    cases hy : hasColl x.colls x.txns[i].writes[j].coll with
    | true =>
      rw [hy] at hp hih
      simp at hp hih
      have hn : ¬ n < 0 := by omega
      simp [loopAt, loopsOf, Tryz.f36, dd, h1, h6, h7, ho, hii, hi, hi', hj, hj', hwj, hxj, hca, hn, hp]
    | false =>
      rw [hy] at hp hih
      simp at hp hih
      simp [loopAt, loopsOf, Tryz.f36, dd, h1, h6, h7, ho, hii, hi, hi', hj, hj', hwj, hxj, hca, hih, hp]
  · rintro s o q ⟨h1, h6, h7, ho, hp⟩
    rw [stepsFrom_end] at hp
    simp [loopAt, loopsOf, Tryz.f36, h1, h6, h7, ho, hii, hi, hi', hp]
theorem specTxns_loop (x : Sto) (h : x.Sm) (b : Bool) (hb : b = seqOK (txnIn x txnS) txnOrd x.txns) : ∀ s o q, (s 1 = .ptr 0 0 ∧ s 6 = .t (.int .i64 0) ∧ o 0 = stoB x) →
    ∃ e s' o' q', run E (.code (.loop (loopAt Tryz.f36 2)) ⟨s, o, q, 162⟩) = some (.st e ⟨s', o', q', 162⟩) ∧ e = (if b then .exit 4 else .ret) ∧ s' 1 = .ptr 0 0 ∧ o' 0 = stoB x ∧ (b = false → s' 2 = .t (.bool false)) := by
  intro s o q hI
  have d15 := d36_15
  simp [regionOf, findR, pick, Tryz.f36] at d15
  have dd := fun st => run_region_draw E st 15 _ d15
  clear d15
  have hlen := h.txns.1
  refine loop_for (c := loopAt Tryz.f36 2) (N := 162)
    (fun i s o q => s 1 = .ptr 0 0 ∧ s 6 = .t (.int .i64 i) ∧ o 0 = stoB x ∧ b = stepsFrom x.txns.length (seqStep (txnIn x txnS) txnOrd x.txns) i)
    (fun e s' o' q' => e = (if b then .exit 4 else .ret) ∧ s' 1 = .ptr 0 0 ∧ o' 0 = stoB x ∧ (b = false → s' 2 = .t (.bool false))) x.txns.length ?_ ?_
    x.txns.length 0 s o q (by omega) ⟨hI.1, hI.2.1, hI.2.2, hb⟩
  · rintro i s o q hi ⟨h1, h6, ho, hp⟩
    have hxi : x.txns[i]? = some x.txns[i] := List.getElem?_eq_getElem hi
    have hi' : (i : Int) < (x.txns.length : Int) := by omega
    have hw := wrap_succ (n := i) (by omega)
    have hc := specTxnOK x.txns[i] (h.txns.2 _ (List.getElem_mem hi))
    obtain ⟨z, hz⟩ : ∃ z, z = wrsIn x x.txns[i] := ⟨_, rfl⟩
    obtain ⟨X, A, B, C, hx⟩ := sk (specTxns_in x h i hi z hz)
    simp only [loopAt, loopsOf, Tryz.f36] at hx
    rw [stepsFrom_lt hi] at hp
    cases i with
    | zero =>
      rw [seq_zero hi, show txnIn x txnS x.txns[0] = (txnS x.txns[0] && decide (x.txns[0].snap ≤ x.clock) && wrsIn x x.txns[0]) from rfl, ← hz] at hp
      simp at h6 hw hxi hi'
      generalize txnS x.txns[0] = y at *
      by_cases hs : x.txns[0].snap ≤ x.clock
      · have hs' : ¬ x.clock < x.txns[0].snap := by omega
        cases y <;> cases z <;> simp [hs] at hp hx <;> simp [loopAt, loopsOf, Tryz.f36, dd, h1, h6, ho, hi, hi', hxi, hw, hc, hp, hx, hs, hs']
      · have hs' : x.clock < x.txns[0].snap := by omega
        cases y <;> cases z <;> simp [hs] at hp hx <;> simp [loopAt, loopsOf, Tryz.f36, dd, h1, h6, ho, hi, hi', hxi, hw, hc, hp, hx, hs, hs']
    | succ k =>
      rw [seq_succ hi, show txnIn x txnS x.txns[k + 1] = (txnS x.txns[k + 1] && decide (x.txns[k + 1].snap ≤ x.clock) && wrsIn x x.txns[k + 1]) from rfl, ← hz, show txnOrd x.txns[k] x.txns[k + 1] = decide (x.txns[k].session < x.txns[k + 1].session) from rfl] at hp
      have hk : k < x.txns.length := by omega
      have hxk : x.txns[k]? = some x.txns[k] := List.getElem?_eq_getElem hk
      have hwk := wrap_nat (n := k) (by omega)
      have hpos : (0 : Int) < (k : Int) + 1 := by omega
      have hge : (0 : Int) ≤ (k : Int) + 1 := by omega
      simp at h6 hw hi' hx
      generalize txnS x.txns[k + 1] = y at *
      by_cases hs : x.txns[k + 1].snap ≤ x.clock
      · have hs' : ¬ x.clock < x.txns[k + 1].snap := by omega
        by_cases hq : x.txns[k].session < x.txns[k + 1].session
        · have hq' : ¬ x.txns[k + 1].session ≤ x.txns[k].session := by omega
          cases y <;> cases z <;> simp [hs, hq] at hp hx <;> simp [loopAt, loopsOf, Tryz.f36, dd, h1, h6, ho, hi, hi', hxi, hw, hc, hp, hx, hs, hs', hq, hq', hk, hxk, hwk, hpos, hge]
        · have hq' : x.txns[k + 1].session ≤ x.txns[k].session := by omega
          cases y <;> cases z <;> simp [hs, hq] at hp hx <;> simp [loopAt, loopsOf, Tryz.f36, dd, h1, h6, ho, hi, hi', hxi, hw, hc, hp, hx, hs, hs', hq, hq', hk, hxk, hwk, hpos, hge]
      · have hs' : x.clock < x.txns[k + 1].snap := by omega
        cases y <;> cases z <;> simp [hs] at hp hx <;> simp [loopAt, loopsOf, Tryz.f36, dd, h1, h6, ho, hi, hi', hxi, hw, hc, hp, hx, hs, hs', hk, hxk, hwk, hpos, hge]
  · rintro s o q ⟨h1, h6, ho, hp⟩
    rw [stepsFrom_end] at hp
    simp [loopAt, loopsOf, Tryz.f36, h1, h6, ho, hp]
end Go.Yd
/- StoreOK: impl's side. -/
set_option linter.unusedSimpArgs false
set_option linter.unusedVariables false
namespace Go.Yd
open Go.Ev Go.Proofs Go.Pu
set_option maxRecDepth 100000
set_option maxHeartbeats 16000000
theorem implDocs_in (x : Sto) (cl : List Col) (c : Col) (hc : c.Sm) (hf : ∀ ch ∈ c.chains, 1 ≤ ch.vs.length) (i : Nat) (b : Bool) (hb : b = c.chains.all (lastOK x.clock)) : ∀ s o q, (s 1 = .ptr 0 0 ∧ s 35 = .t (.list (cl.map colT)) ∧ s 36 = .t (.int .i64 cl.length) ∧ s 37 = .t (.int .i64 i) ∧ s 42 = .t (.list (c.chains.map chnT)) ∧ s 43 = .t (.int .i64 c.chains.length) ∧ s 44 = .t (.int .i64 0) ∧ o 0 = stoB x ∧ 0 < q) →
    ∃ e s' o' q', run E (.code (.loop (loopAt Tryz.f38 1)) ⟨s, o, q, 67⟩) = some (.st e ⟨s', o', q', 67⟩) ∧ e = (if b then .exit 2 else .ret) ∧ s' 1 = .ptr 0 0 ∧ s' 35 = .t (.list (cl.map colT)) ∧ s' 36 = .t (.int .i64 cl.length) ∧ s' 37 = .t (.int .i64 i) ∧ o' 0 = stoB x ∧ 0 < q' ∧ (b = false → s' 2 = .t (.bool false)) := by
  intro s o q hI
  have d9 := d38_9
  simp [regionOf, findR, pick, Tryz.f38] at d9
  have dd := fun st => run_region_draw E st 9 _ d9
  clear d9
  have hclen : c.chains.length < 4294967296 := hc.chains.1
  rw [← seq_plain] at hb
  refine loop_for (c := loopAt Tryz.f38 1) (N := 67)
    (fun j s o q => s 1 = .ptr 0 0 ∧ s 35 = .t (.list (cl.map colT)) ∧ s 36 = .t (.int .i64 cl.length) ∧ s 37 = .t (.int .i64 i) ∧ s 42 = .t (.list (c.chains.map chnT)) ∧ s 43 = .t (.int .i64 c.chains.length) ∧ s 44 = .t (.int .i64 j) ∧ o 0 = stoB x ∧ 0 < q ∧ b = stepsFrom c.chains.length (seqStep (lastOK x.clock) (fun _ _ => true) c.chains) j)
    (fun e s' o' q' => e = (if b then .exit 2 else .ret) ∧ s' 1 = .ptr 0 0 ∧ s' 35 = .t (.list (cl.map colT)) ∧ s' 36 = .t (.int .i64 cl.length) ∧ s' 37 = .t (.int .i64 i) ∧ o' 0 = stoB x ∧ 0 < q' ∧ (b = false → s' 2 = .t (.bool false))) c.chains.length ?_ ?_
    c.chains.length 0 s o q (by omega) (by
      obtain ⟨h1, h35, h36, h37, h42, h43, h44, ho, hq⟩ := hI
      exact ⟨h1, h35, h36, h37, h42, h43, h44, ho, hq, hb⟩)
  · rintro j s o q hj ⟨h1, h35, h36, h37, h42, h43, h44, ho, hq, hp⟩
    have hq0 : q ≠ 0 := by omega
    have h0q : 0 ≠ q := by omega
    have hj' : (j : Int) < (c.chains.length : Int) := by omega
    have hwj := wrap_succ (n := j) (by omega)
    have hxj : c.chains[j]? = some c.chains[j] := List.getElem?_eq_getElem hj
    have hfull := hf _ (List.getElem_mem hj)
    have hvl : c.chains[j].vs.length < 4294967296 := (hc.chains.2 _ (List.getElem_mem hj)).1
    obtain ⟨n, hn⟩ : ∃ n, c.chains[j].vs.length = n + 1 := ⟨c.chains[j].vs.length - 1, by omega⟩
    have hxn : c.chains[j].vs[n]? = some (c.chains[j].vs[n]'(by omega)) := List.getElem?_eq_getElem (by omega)
    have hla : lastAt c.chains[j] = (c.chains[j].vs[n]'(by omega)).at_ := by
      unfold lastAt
      rw [show c.chains[j].vs.length - 1 = n by omega, hxn]
    have hwn := wrap_nat (n := n) (by omega)
    have hlt : n < c.chains[j].vs.length := by omega
    rw [stepsFrom_lt hj, plain_step hj, show lastOK x.clock c.chains[j] = decide (lastAt c.chains[j] ≤ x.clock) from rfl, hla] at hp
    by_cases hy : (c.chains[j].vs[n]'(by omega)).at_ ≤ x.clock
    · have hy' : ¬ x.clock < (c.chains[j].vs[n]'(by omega)).at_ := by omega
      simp [hy] at hp
      simp [loopAt, loopsOf, Tryz.f38, dd, h1, h35, h36, h37, h42, h43, h44, ho, hq, hq0, h0q, hj, hj', hwj, hxj, hn, hxn, hwn, hlt, hy, hy', hp]
    · have hy' : x.clock < (c.chains[j].vs[n]'(by omega)).at_ := by omega
      simp [hy] at hp
      simp [loopAt, loopsOf, Tryz.f38, dd, h1, h35, h36, h37, h42, h43, h44, ho, hq, hq0, h0q, hj, hj', hwj, hxj, hn, hxn, hwn, hlt, hy, hy', hp]
  · rintro s o q ⟨h1, h35, h36, h37, h42, h43, h44, ho, hq, hp⟩
    rw [stepsFrom_end] at hp
    simp [loopAt, loopsOf, Tryz.f38, h1, h35, h36, h37, h42, h43, h44, ho, hq, hp]
theorem implDocs_loop (x : Sto) (h : x.Sm) (hf : colsFull x.colls) (b : Bool) (hb : b = docsOK x) : ∀ s o q, (s 1 = .ptr 0 0 ∧ s 35 = .t (.list (x.colls.map colT)) ∧ s 36 = .t (.int .i64 x.colls.length) ∧ s 37 = .t (.int .i64 0) ∧ o 0 = stoB x ∧ 0 < q) →
    ∃ e s' o' q', run E (.code (.loop (loopAt Tryz.f38 0)) ⟨s, o, q, 67⟩) = some (.st e ⟨s', o', q', 67⟩) ∧ e = (if b then .exit 0 else .ret) ∧ s' 1 = .ptr 0 0 ∧ o' 0 = stoB x ∧ (b = false → s' 2 = .t (.bool false)) := by
  intro s o q hI
  have hlen := h.colls.1
  unfold docsOK at hb
  rw [← seq_plain] at hb
  refine loop_for (c := loopAt Tryz.f38 0) (N := 67)
    (fun i s o q => s 1 = .ptr 0 0 ∧ s 35 = .t (.list (x.colls.map colT)) ∧ s 36 = .t (.int .i64 x.colls.length) ∧ s 37 = .t (.int .i64 i) ∧ o 0 = stoB x ∧ 0 < q ∧ b = stepsFrom x.colls.length (seqStep (fun c => c.chains.all (lastOK x.clock)) (fun _ _ => true) x.colls) i)
    (fun e s' o' q' => e = (if b then .exit 0 else .ret) ∧ s' 1 = .ptr 0 0 ∧ o' 0 = stoB x ∧ (b = false → s' 2 = .t (.bool false))) x.colls.length ?_ ?_
    x.colls.length 0 s o q (by omega) (by
      obtain ⟨h1, h35, h36, h37, ho, hq⟩ := hI
      exact ⟨h1, h35, h36, h37, ho, hq, hb⟩)
  · rintro i s o q hi ⟨h1, h35, h36, h37, ho, hq, hp⟩
    have hq0 : q ≠ 0 := by omega
    have h0q : 0 ≠ q := by omega
    have hi' : (i : Int) < (x.colls.length : Int) := by omega
    have hwi := wrap_succ (n := i) (by omega)
    have hxi : x.colls[i]? = some x.colls[i] := List.getElem?_eq_getElem hi
    rw [stepsFrom_lt hi, plain_step hi] at hp
    obtain ⟨z, hz⟩ : ∃ z, z = x.colls[i].chains.all (lastOK x.clock) := ⟨_, rfl⟩
    obtain ⟨X, A, B, C, hx⟩ := sk (implDocs_in x x.colls x.colls[i] (h.colls.2 _ (List.getElem_mem hi)) (hf _ (List.getElem_mem hi)) i z hz)
    simp only [loopAt, loopsOf, Tryz.f38] at hx
    rw [← hz] at hp
    cases z with
    | false =>
      simp at hp hx
      simp [loopAt, loopsOf, Tryz.f38, h1, h35, h36, h37, ho, hq, hq0, h0q, hi, hi', hxi, hwi, hx, hp]
    | true =>
      simp at hp hx
      simp [loopAt, loopsOf, Tryz.f38, h1, h35, h36, h37, ho, hq, hq0, h0q, hi, hi', hxi, hwi, hx, hp]
  · rintro s o q ⟨h1, h35, h36, h37, ho, hq, hp⟩
    rw [stepsFrom_end] at hp
    simp [loopAt, loopsOf, Tryz.f38, h1, h35, h36, h37, ho, hp]
theorem any_not {α : Type} (p : α → Bool) (l : List α) : l.any (fun w => !p w) = !l.all p := by
  induction l with
  | nil => rfl
  | cons a r ih => simp only [List.any_cons, List.all_cons, ih]; cases p a <;> simp
theorem implTxns_loop (x : Sto) (h : x.Sm) (b : Bool) (hb : b = seqOK (txnIn x txnI) txnOrd x.txns) : ∀ s o q, (s 1 = .ptr 0 0 ∧ s 6 = .t (.list (x.txns.map txnT)) ∧ s 7 = .t (.int .i64 x.txns.length) ∧ s 8 = .t (.int .i64 0) ∧ o 0 = stoB x ∧ 0 < q) →
    ∃ e s' o' q', run E (.code (.loop (loopAt Tryz.f132 0)) ⟨s, o, q, 44⟩) = some (.st e ⟨s', o', q', 44⟩) ∧ e = (if b then .exit 0 else .ret) ∧ (b = false → s' 2 = .t (.bool false)) := by
  intro s o q hI
  have d4 := d132_4
  simp [regionOf, findR, pick, Tryz.f132] at d4
  have dd := fun st => run_region_draw E st 4 _ d4
  clear d4
  have hlen := h.txns.1
  refine loop_for (c := loopAt Tryz.f132 0) (N := 44)
    (fun i s o q => s 1 = .ptr 0 0 ∧ s 6 = .t (.list (x.txns.map txnT)) ∧ s 7 = .t (.int .i64 x.txns.length) ∧ s 8 = .t (.int .i64 i) ∧ o 0 = stoB x ∧ 0 < q ∧ b = stepsFrom x.txns.length (seqStep (txnIn x txnI) txnOrd x.txns) i)
    (fun e s' o' q' => e = (if b then .exit 0 else .ret) ∧ (b = false → s' 2 = .t (.bool false))) x.txns.length ?_ ?_
    x.txns.length 0 s o q (by omega) (by
      obtain ⟨h1, h6, h7, h8, ho, hq⟩ := hI
      exact ⟨h1, h6, h7, h8, ho, hq, hb⟩)
  · rintro i s o q hi ⟨h1, h6, h7, h8, ho, hq, hp⟩
    have hq0 : q ≠ 0 := by omega
    have h0q : 0 ≠ q := by omega
    have hxi : x.txns[i]? = some x.txns[i] := List.getElem?_eq_getElem hi
    have hi' : (i : Int) < (x.txns.length : Int) := by omega
    have hw := wrap_succ (n := i) (by omega)
    have hts := h.txns.2 _ (List.getElem_mem hi)
    have hc := implTxnOK x.txns[i] hts
    have hcf := containsFunc_231_1 x.txns[i].writes 232 (stoC x) (fun w => !hasColl x.colls w.coll) (by have := hts.writes.1; omega) rfl (by simp) (fun w _ => txnsClosure x h w)
    rw [any_not] at hcf
    obtain ⟨z, hz⟩ : ∃ z, z = wrsIn x x.txns[i] := ⟨_, rfl⟩
    rw [show x.txns[i].writes.all (fun w => hasColl x.colls w.coll) = wrsIn x x.txns[i] from rfl, ← hz] at hcf
    rw [stepsFrom_lt hi] at hp
    cases i with
    | zero =>
      rw [seq_zero hi, show txnIn x txnI x.txns[0] = (txnI x.txns[0] && decide (x.txns[0].snap ≤ x.clock) && wrsIn x x.txns[0]) from rfl, ← hz] at hp
      simp at h8 hw hxi hi'
      generalize txnI x.txns[0] = y at *
      by_cases hs : x.txns[0].snap ≤ x.clock
      · have hs' : ¬ x.clock < x.txns[0].snap := by omega
        cases y <;> cases z <;> simp [hs] at hp hcf <;> simp [loopAt, loopsOf, Tryz.f132, dd, h1, h6, h7, h8, ho, hq, hq0, h0q, hi, hi', hxi, hw, hc, hp, hcf, hs, hs']
      · have hs' : x.clock < x.txns[0].snap := by omega
        cases y <;> cases z <;> simp [hs] at hp hcf <;> simp [loopAt, loopsOf, Tryz.f132, dd, h1, h6, h7, h8, ho, hq, hq0, h0q, hi, hi', hxi, hw, hc, hp, hcf, hs, hs']
    | succ k =>
      rw [seq_succ hi, show txnIn x txnI x.txns[k + 1] = (txnI x.txns[k + 1] && decide (x.txns[k + 1].snap ≤ x.clock) && wrsIn x x.txns[k + 1]) from rfl, ← hz, show txnOrd x.txns[k] x.txns[k + 1] = decide (x.txns[k].session < x.txns[k + 1].session) from rfl] at hp
      have hk : k < x.txns.length := by omega
      have hxk : x.txns[k]? = some x.txns[k] := List.getElem?_eq_getElem hk
      have hwk := wrap_nat (n := k) (by omega)
      have hpos : (0 : Int) < (k : Int) + 1 := by omega
      have hge : (0 : Int) ≤ (k : Int) + 1 := by omega
      simp at h8 hw hi'
      generalize txnI x.txns[k + 1] = y at *
      by_cases hs : x.txns[k + 1].snap ≤ x.clock
      · have hs' : ¬ x.clock < x.txns[k + 1].snap := by omega
        by_cases hr : x.txns[k].session < x.txns[k + 1].session
        · have hr' : ¬ x.txns[k + 1].session ≤ x.txns[k].session := by omega
          cases y <;> cases z <;> simp [hs, hr] at hp hcf <;> simp [loopAt, loopsOf, Tryz.f132, dd, h1, h6, h7, h8, ho, hq, hq0, h0q, hi, hi', hxi, hw, hc, hp, hcf, hs, hs', hr, hr', hk, hxk, hwk, hpos, hge]
        · have hr' : x.txns[k + 1].session ≤ x.txns[k].session := by omega
          cases y <;> cases z <;> simp [hs, hr] at hp hcf <;> simp [loopAt, loopsOf, Tryz.f132, dd, h1, h6, h7, h8, ho, hq, hq0, h0q, hi, hi', hxi, hw, hc, hp, hcf, hs, hs', hr, hr', hk, hxk, hwk, hpos, hge]
      · have hs' : x.clock < x.txns[k + 1].snap := by omega
        by_cases hr : x.txns[k + 1].session ≤ x.txns[k].session
        · cases y <;> cases z <;> simp [hs] at hp hcf <;> simp [loopAt, loopsOf, Tryz.f132, dd, h1, h6, h7, h8, ho, hq, hq0, h0q, hi, hi', hxi, hw, hc, hp, hcf, hs, hs', hr, hk, hxk, hwk, hpos, hge]
        · cases y <;> cases z <;> simp [hs] at hp hcf <;> simp [loopAt, loopsOf, Tryz.f132, dd, h1, h6, h7, h8, ho, hq, hq0, h0q, hi, hi', hxi, hw, hc, hp, hcf, hs, hs', hr, hk, hxk, hwk, hpos, hge]
  · rintro s o q ⟨h1, h6, h7, h8, ho, hq, hp⟩
    rw [stepsFrom_end] at hp
    simp [loopAt, loopsOf, Tryz.f132, h1, h6, h7, h8, ho, hp]
theorem implTxns (x : Sto) (h : x.Sm) : run E (.call 132 [.t (stoT x)]) = some (.res [xB (seqOK (txnIn x txnI) txnOrd x.txns)] []) := by
  rw [run_call E 132 _ rfl Tryz.func132 rfl rfl rfl (by simp)]
  obtain ⟨b, hb⟩ : ∃ b, b = seqOK (txnIn x txnI) txnOrd x.txns := ⟨_, rfl⟩
  obtain ⟨X, A, B, C, hx⟩ := sk (implTxns_loop x h b hb)
  simp only [loopAt, loopsOf, Tryz.f132] at hx
  rw [← hb]
  cases b <;> simp at hx <;> simp [hx]
theorem len_zero {α : Type} (l : List α) : ((l.length : Int) == 0) = l.isEmpty := by
  cases l with
  | nil => rfl
  | cons a r => simp; omega
def storeI (x : Sto) : Bool := (!x.colls.isEmpty && collsOK x.colls && donesOK x.done && in1 0 10000 x.clock && seqOK (txnIn x txnI) txnOrd x.txns) && docsOK x && !x.done.any (fun d => decide (x.clock < d.at_))
theorem implStoreOK (x : Sto) (h : x.Sm) : run E (.call 38 [.t (stoT x)]) = some (.res [xB (storeI x)] []) := by
  rw [run_call E 38 _ rfl Tryz.func38 rfl rfl rfl (by simp)]
  have h1 := implColls x.colls h.colls.1 h.colls.2
  have h2 := implDones x.done h.done.1 h.done.2
  have h3 := inR x.clock 0 10000
  have h4 := implTxns x h
  have h5 := containsFunc_133_1 x.done 134 (stoC x) (fun d => decide (x.clock < d.at_)) (by have := h.done.1; omega) rfl (by simp) (fun d _ => doneLate x d)
  have e0 := len_zero x.colls
  unfold storeI
  cases c1 : collsOK x.colls with
  | false =>
    rw [c1] at h1
    cases c0 : x.colls.isEmpty <;> rw [c0] at e0 <;> simp [e0, h1]
  | true =>
    rw [c1] at h1
    cases c0 : x.colls.isEmpty with
    | true => rw [c0] at e0; simp [e0]
    | false =>
      rw [c0] at e0
      obtain ⟨b, hb⟩ : ∃ b, b = docsOK x := ⟨_, rfl⟩
      obtain ⟨X, A, B, C, hx⟩ := sk (implDocs_loop x h (colls_full c1) b hb)
      simp only [loopAt, loopsOf, Tryz.f38] at hx
      rw [← hb]
      generalize donesOK x.done = z2 at *
      generalize in1 0 10000 x.clock = z3 at *
      generalize seqOK (txnIn x txnI) txnOrd x.txns = z4 at *
      generalize x.done.any (fun d => decide (x.clock < d.at_)) = z5 at *
      cases z2 with
      | false => simp [e0, h1, h2]
      | true =>
        cases z3 with
        | false => simp [e0, h1, h2, h3]
        | true =>
          cases z4 with
          | false => simp [e0, h1, h2, h3, h4]
          | true => cases b <;> simp at hx <;> cases z5 <;> simp [e0, h1, h2, h3, h4, hx, h5]
end Go.Yd
/- StoreOK: spec's side, and the two are alike. -/
set_option linter.unusedSimpArgs false
set_option linter.unusedVariables false
namespace Go.Yd
open Go.Ev Go.Proofs Go.Pu
set_option maxRecDepth 100000
set_option maxHeartbeats 16000000
def lastDone (x : Sto) : Bool := match x.done[x.done.length - 1]? with
  | some d => decide (d.at_ ≤ x.clock)
  | none => true
def storeS (x : Sto) : Bool := (in1 0 10000 x.clock && !x.colls.isEmpty && collsOK x.colls && decide (x.txns.length ≤ 4) && donesOK x.done) && docsOK x && seqOK (txnIn x txnS) txnOrd x.txns && lastDone x
theorem specStoreOK (x : Sto) (h : x.Sm) : run E (.call 36 [.t (stoT x)]) = some (.res [xB (storeS x)] []) := by
  rw [run_call E 36 _ rfl Tryz.func36 rfl rfl rfl (by simp)]
  have h1 := specColls x.colls h.colls.1 h.colls.2
  have h2 := specDones x.done h.done.1 h.done.2
  have h3 := l01In1 x.clock 0 10000
  have e0 := len_zero x.colls
  have l4 : (4 < (x.txns.length : Int)) = (4 < x.txns.length) := by have := h.txns.1; simp; omega
  have hlt := h.txns.1
  have hld := h.done.1
  have d22 := d36_22
  simp [regionOf, findR, pick, Tryz.f36] at d22
  have dd := fun st => run_region_draw E st 22 _ d22
  clear d22
  unfold storeS
  cases c3 : in1 0 10000 x.clock with
  | false => rw [c3] at h3; simp [h3]
  | true =>
    rw [c3] at h3
    cases c0 : x.colls.isEmpty with
    | true => rw [c0] at e0; simp [h3, e0]
    | false =>
      rw [c0] at e0
      cases c1 : collsOK x.colls with
      | false => rw [c1] at h1; simp [h3, e0, h1]
      | true =>
        rw [c1] at h1
        by_cases c4 : 4 < x.txns.length
        · have c4' : ¬ x.txns.length ≤ 4 := by omega
          simp [h3, e0, h1, l4, c4, c4']
        · have c4' : x.txns.length ≤ 4 := by omega
          cases c2 : donesOK x.done with
          | false => rw [c2] at h2; simp [h3, e0, h1, l4, c4, c4', h2]
          | true =>
            rw [c2] at h2
            obtain ⟨b, hb⟩ : ∃ b, b = docsOK x := ⟨_, rfl⟩
            obtain ⟨X, A, B, C, hx⟩ := sk (specDocs_loop x h (colls_full c1) b hb)
            obtain ⟨b2, hb2⟩ : ∃ b, b = seqOK (txnIn x txnS) txnOrd x.txns := ⟨_, rfl⟩
            obtain ⟨X2, A2, B2, C2, hx2⟩ := sk (specTxns_loop x h b2 hb2)
            simp only [loopAt, loopsOf, Tryz.f36] at hx hx2
            rw [← hb, ← hb2]
            cases b with
            | false => simp at hx; simp [h3, e0, h1, l4, c4, c4', h2, hx]
            | true =>
              simp at hx
              cases b2 with
              | false => simp at hx2; simp [h3, e0, h1, l4, c4, c4', h2, hx, hx2]
              | true =>
                simp at hx2
                unfold lastDone
                cases hd : x.done.length with
                | zero =>
                  have hn : x.done = [] := List.length_eq_zero_iff.1 hd
                  have e9 : ((x.done.length : Int) == 0) = true := by rw [hd]; rfl
                  have h9 : x.done[0]? = none := by rw [hn]; rfl
                  simp [h3, e0, h1, l4, c4, c4', h2, hx, hx2, dd, e9, h9]
                | succ n =>
                  have hlt : n < x.done.length := by omega
                  have hxn : x.done[n]? = some x.done[n] := List.getElem?_eq_getElem hlt
                  have hwn := wrap_nat (n := n) (by omega)
                  have hz : ((n : Int) + 1 == 0) = false := by simp; omega
                  have hz2 : ¬ ((n : Int) + 1 = 0) := by omega
                  simp [h3, e0, h1, l4, c4, c4', h2, hx, hx2, dd, hd, hxn, hwn, hz, hz2, hlt]
/-! The two are alike. -/
theorem rank_few {α : Type} (r : α → Nat) (N : Nat) (l : List α) (hr : ∀ x ∈ l, r x < N) (hs : ∀ k (h : k + 1 < l.length), r l[k] < r l[k + 1]) : l.length ≤ N := by
  have key : ∀ k (h : k < l.length), k ≤ r l[k] := by
    intro k
    induction k with
    | zero => intro h; omega
    | succ k ih =>
      intro h
      have := ih (by omega)
      have := hs k h
      omega
  by_cases hl : l.length ≤ N
  · exact hl
  · have h1 := key N (by omega)
    have h2 := hr _ (List.getElem_mem (show N < l.length by omega))
    omega
theorem names_rise {l : List Col} (h : seqOK collOK collOrd l = true) : ∀ j i (hj : j < l.length) (hi : i < j), Op.bytesLess (l[i]'(by omega)).name l[j].name = true := by
  intro j
  induction j with
  | zero => intro i hj hi; omega
  | succ j ih =>
    intro i hj hi
    have hn := seq_next h j hj
    by_cases hij : i = j
    · subst hij; exact hn
    · exact bytesLess_trans (ih i (by omega) (by omega)) hn
theorem names_at {l : List Col} (h : seqOK collOK collOrd l = true) {i j : Nat} (hi : i < l.length) (hj : j < l.length) (hb : Op.bytesLess l[i].name l[j].name = true) : i < j := by
  rcases Nat.lt_trichotomy i j with hij | hij | hij
  · exact hij
  · subst hij; rw [bytesLess_irrefl] at hb; cases hb
  · have := names_rise h i j hi hij
    rw [bytesLess_asymm this] at hb; cases hb
theorem coll_at {l : List Col} {nm : Bytes} (h : hasColl l nm = true) : ∃ hi : l.findIdx (nmIs nm) < l.length, (l[l.findIdx (nmIs nm)]).name = nm := by
  unfold hasColl at h
  obtain ⟨c, hc, hn⟩ := List.any_eq_true.1 h
  have hi := List.findIdx_lt_length_of_exists ⟨c, hc, hn⟩
  refine ⟨hi, ?_⟩
  have := List.findIdx_getElem (w := hi)
  simpa using this
theorem writes_few {x : Sto} {t : Txn} (hc : collsOK x.colls = true) (h : txnI t = true) (hw : wrsIn x t = true) : t.writes.length ≤ 60 := by
  unfold collsOK at hc
  simp only [Bool.and_eq_true, decide_eq_true_eq] at hc
  unfold txnI at h
  simp only [Bool.and_eq_true] at h
  have hs := h.1
  unfold wrsIn at hw
  rw [List.all_eq_true] at hw
  have hr : ∀ w ∈ t.writes, 20 * x.colls.findIdx (nmIs w.coll) + w.id.toNat < 60 := by
    intro w hm
    obtain ⟨hi, _⟩ := coll_at (hw w hm)
    have := writeOK_id (seq_each hs w hm)
    omega
  refine rank_few (fun w : Wr => 20 * x.colls.findIdx (nmIs w.coll) + w.id.toNat) 60 t.writes hr ?_
  intro k hk
  have ho := seq_next hs k hk
  have m1 := List.getElem_mem (show k < t.writes.length by omega)
  have m2 := List.getElem_mem hk
  have i1 := writeOK_id (seq_each hs _ m1)
  have i2 := writeOK_id (seq_each hs _ m2)
  obtain ⟨g1, n1⟩ := coll_at (hw _ m1)
  obtain ⟨g2, n2⟩ := coll_at (hw _ m2)
  unfold wrOrd at ho
  simp only [Bool.or_eq_true, Bool.and_eq_true, decide_eq_true_eq, beq_iff_eq] at ho
  rcases ho with ho | ⟨he, hid⟩
  · rw [← n1, ← n2] at ho
    have := names_at hc.1 g1 g2 ho
    omega
  · rw [he]
    omega
theorem txnIn_eq {x : Sto} (hc : collsOK x.colls = true) (t : Txn) : txnIn x txnS t = txnIn x txnI t := by
  unfold txnIn txnS
  cases h1 : txnI t with
  | false => simp
  | true =>
    cases h2 : wrsIn x t with
    | false => simp
    | true => simp [writes_few hc h1 h2]
theorem seq_congr {α : Type} {A B : α → Bool} {ord : α → α → Bool} {l : List α} (h : ∀ t, A t = B t) : seqOK A ord l = seqOK B ord l := by
  have : A = B := funext h
  rw [this]
theorem txns_few {x : Sto} (h : seqOK (txnIn x txnI) txnOrd x.txns = true) : x.txns.length ≤ 4 := by
  have hin : ∀ t ∈ x.txns, 0 ≤ t.session ∧ t.session ≤ 3 := by
    intro t ht
    have := seq_each h t ht
    unfold txnIn txnI in1 at this
    simp only [Bool.and_eq_true, decide_eq_true_eq] at this
    exact this.1.1.2.1.1.1
  refine rank_few (fun t : Txn => t.session.toNat) 4 x.txns (fun t ht => ?_) ?_
  · have := hin t ht
    omega
  · intro k hk
    have ho := seq_next h k hk
    have i1 := hin _ (List.getElem_mem (show k < x.txns.length by omega))
    unfold txnOrd at ho
    simp only [decide_eq_true_eq] at ho
    omega
theorem dones_rise {l : List Dn} (h : seqOK dnFine dnOrd l = true) : ∀ j i (hj : j < l.length) (hi : i ≤ j), (l[i]'(by omega)).at_ ≤ l[j].at_ := by
  intro j
  induction j with
  | zero => intro i hj hi; obtain rfl : i = 0 := by omega
            exact Int.le_refl _
  | succ j ih =>
    intro i hj hi
    by_cases hij : i = j + 1
    · subst hij; exact Int.le_refl _
    · have hn := seq_next h j hj
      unfold dnOrd at hn
      simp only [decide_eq_true_eq] at hn
      have := ih i (by omega) (by omega)
      omega
theorem last_all {x : Sto} (h : donesOK x.done = true) : lastDone x = !x.done.any (fun d => decide (x.clock < d.at_)) := by
  unfold donesOK at h
  simp only [Bool.and_eq_true] at h
  unfold lastDone
  cases hd : x.done.length with
  | zero =>
    have hn : x.done = [] := List.length_eq_zero_iff.1 hd
    simp [hn]
  | succ n =>
    have hlt : n < x.done.length := by omega
    have hxn : x.done[n]? = some x.done[n] := List.getElem?_eq_getElem hlt
    rw [show n + 1 - 1 = n by omega, hxn]
    simp only
    by_cases hl : x.done[n].at_ ≤ x.clock
    · have : x.done.any (fun d => decide (x.clock < d.at_)) = false := by
        rw [List.any_eq_false]
        intro d hm
        obtain ⟨i, hi, rfl⟩ := List.getElem_of_mem hm
        have := dones_rise h.1 n i hlt (by omega)
        simp only [decide_eq_true_eq]
        omega
      rw [this]; simp [hl]
    · have : x.done.any (fun d => decide (x.clock < d.at_)) = true := by
        rw [List.any_eq_true]
        exact ⟨_, List.getElem_mem hlt, by simp only [decide_eq_true_eq]; omega⟩
      rw [this]; simp [hl]
theorem store_eq (x : Sto) : storeS x = storeI x := by
  unfold storeS storeI
  cases hc : collsOK x.colls with
  | false => simp
  | true =>
    rw [seq_congr (txnIn_eq hc)]
    cases hd : donesOK x.done with
    | false => simp
    | true =>
      rw [last_all hd]
      cases ht : seqOK (txnIn x txnI) txnOrd x.txns with
      | false => simp
      | true =>
        have := txns_few ht
        cases in1 0 10000 x.clock <;> cases x.colls.isEmpty <;> cases docsOK x <;> simp [this]
end Go.Yd
/- The law FnExactStoreOK over plain data. -/
set_option linter.unusedSimpArgs false
set_option linter.unusedVariables false
namespace Go.Yd
open Go.Ev Go.Proofs Go.Pu
set_option maxRecDepth 100000
set_option maxHeartbeats 16000000
theorem lawStoreOK (x : Sto) (h : x.Wd) : run E (.call 7 [.t (stoT x)]) = some (.res [xB true] []) := by
  rw [run_call E 7 _ rfl Tryz.func7 rfl rfl rfl (by simp)]
  have h1 := szLSto x h 1048576 (by omega) (by omega)
  by_cases hn : szSto x 1048576 < 0
  · simp [h1, hn]
  · have hs := szSto_sm (by omega) (by omega) hn
    have h2 := toSto x hs
    have h3 := specStoreOK x hs
    rw [store_eq] at h3
    have h4 := implStoreOK x hs
    have h5 := eqSto x hs
    have d10 := d7_10
    simp [regionOf, findR, pick, Tryz.f7] at d10
    have dd := fun st => run_region_draw E st 10 _ d10
    clear d10
    simp [h1, hn, h2, h3, h4, h5, dd]
end Go.Yd
