/- What the evaluator computes is what the program does. -/
import Derived.Test.YtdpkfljiipkhfaaGreatDoorPartRD
import Derived.SizedLaws
import Derived.ChangeArms
import Derived.Below
import Derived.Carry
import Derived.Laws.StructEq
import Derived.Orders
namespace Go.Ev
set_option linter.unusedSimpArgs false
set_option linter.unusedVariables false

structure SOK (E : Env) (P : Program) : Prop where
  pok : POK E P
  name : ∀ (f : Nat) (fn : Func), P.funcs[f]? = some fn → fn.body.isSome = true → (fn.name == "runtime.NumGoroutine") = false
  ext : ∀ f g args rs bs, E.ext f = some g → g args = some (rs, bs) → CallOK E P f args rs bs
  draw : ∀ ops l, E.draw ops = some l → ∀ t, Swaps (mayPassG E false ops) l ((Region.schedule (P.follows .mixedOrders) ops t).filterMap (ops[·]?))
  drawS : ∀ ops p, E.drawS ops = some p → ∀ ls : List Lab, ls.length = p.2.length → ckOK p.1 ls = true → ∀ t, ∃ lab : Nat → Lab, Swaps (passL E ops) (p.2.zip ls) ((Region.schedule (P.follows .mixedOrders) ops t).filterMap (fun i => (ops[i]?).map fun o => (o, lab i)))

def LoopWp (P : Program) (c : Code) (Q : Exit → Act → World → Prop) (a : Act) (w : World) : Prop :=
  ∀ (b : Frame) (k : List Item) (cs : List Frame), ∃ e a' w', Q e a' w' ∧ Arrives P (lone (b.at a (.code c :: .inLoop c :: k)) cs w) b k cs e a' w'
theorem LoopWp.wp {P : Program} {c : Code} {Q : Exit → Act → World → Prop} {a : Act} {w : World} (h : LoopWp P c Q a w) : (Code.loop c).wp P Q a w :=
  fun b k cs => let ⟨e, a', w', q, r⟩ := h b k cs; ⟨e, a', w', q, .of_steps (.one step_loop) r⟩
theorem LoopWp.round {P : Program} {c : Code} {Q : Exit → Act → World → Prop} {a : Act} {w : World} (h : c.wp P (Exit.then (LoopWp P c Q) Q) a w) : LoopWp P c Q a w := by
  intro b k cs
  obtain ⟨e, a₁, w₁, hq, harr⟩ := h b (.inLoop c :: k) cs
  cases e with
  | normal =>
    obtain ⟨e₂, a₂, w₂, hq₂, harr₂⟩ := hq b k cs
    exact ⟨e₂, a₂, w₂, hq₂, .of_steps (Steps.trans harr (.one step_inLoop)) harr₂⟩
  | exit id => exact ⟨_, a₁, w₁, hq, .pass (x := .inLoop c) rfl (fun _ _ => .inl (by simp)) harr⟩
  | goto l => exact ⟨_, a₁, w₁, hq, .pass (x := .inLoop c) rfl (fun _ _ => .inl (by simp)) harr⟩
  | ret => exact ⟨_, a₁, w₁, hq, .pass (x := .inLoop c) rfl (fun _ _ => .inl (by simp)) harr⟩
  | panic ch => exact ⟨_, a₁, w₁, hq, .pass (x := .inLoop c) rfl (fun _ _ => .inl (by simp)) harr⟩
  | outgrown => exact ⟨_, a₁, w₁, hq, .pass (x := .inLoop c) rfl (fun _ _ => .inl (by simp)) harr⟩
def CodeWp (P : Program) : Code → (Exit → Act → World → Prop) → Act → World → Prop
  | .loop c => LoopWp P c
  | c => c.wp P
theorem CodeWp.wp {P : Program} {c : Code} {Q : Exit → Act → World → Prop} {a : Act} {w : World} (h : CodeWp P c Q a w) : c.wp P Q a w := by
  cases c <;> first | exact h | exact LoopWp.wp h

def ExOf : Ex → Exit
  | .normal => .normal
  | .exit id => .exit id
  | .ret => .ret
def Fine (E : Env) (M0 : Nat → Prop) (w0 : World) (c : Ctx) (e : Ex) (st' : St) : Exit → Act → World → Prop := fun x a' w' => x = ExOf e ∧ ∃ c', c.Le c' ∧ Inv E M0 w0 c' st' w' ∧ InvA c' st' a' w'
theorem Fine.mono {E : Env} {M0 : Nat → Prop} {w0 : World} {c c1 : Ctx} {e : Ex} {st' : St} {x : Exit} {a : Act} {w : World} (h : Fine E M0 w0 c1 e st' x a w) (hc : c.Le c1) : Fine E M0 w0 c e st' x a w := by
  obtain ⟨h1, c', h2, h3⟩ := h
  exact ⟨h1, c', hc.trans h2, h3⟩

inductive OpsG (E : Env) (C : Nat → List X → List X → List (Option X) → Prop) (all : Array Oper) : List Oper → St → St → Prop
  | nil (st : St) : OpsG E C all [] st st
  | skip {o : Oper} {r : List Oper} {st st2 : St} (hd : dstOk st o = true) (hg : guardOf all st o = some false) (k : OpsG E C all r (st.put o.dst (.tup [])) st2) : OpsG E C all (o :: r) st st2
  | cons {o : Oper} {r : List Oper} {st st1 st2 : St} {v : SV} (hd : dstOk st o = true) (hg : guardOf all st o = some true) (h : Eff E false C o st v st1) (k : OpsG E C all r (st1.put o.dst v) st2) : OpsG E C all (o :: r) st st2
theorem OpsG.toR {E : Env} {C : Nat → List X → List X → List (Option X) → Prop} {all : Array Oper} {l : List Oper} {st st' : St} (h : OpsG E C all l st st') : OpsR E false C all l st st' := by
  induction h with
  | nil st => exact .nil st
  | skip hd hg k ih => exact .cons (.inr ⟨hg, hd, rfl⟩) ih
  | cons hd hg h k ih => exact .cons (.inl ⟨hg, hd, _, _, h, rfl⟩) ih
def Sound (E : Env) (P : Program) : Task → Out → Prop
  | .code c st, .st e st' => ∀ M0 w0 ctx a w, Laid0 E M0 ctx.F w0 → Inv E M0 w0 ctx st w → InvA ctx st a w → CodeWp P c (Fine E M0 w0 ctx e st') a w
  | .ops none all rest st, .st e st' => e = .normal ∧ OpsG E (CallOK E P) all rest st st'
  | .ops (some p) all rest st, .st e st' => e = .normal ∧ ∃ ls : List Lab, ls.length = rest.length ∧ OpsL E (CallOK E P) all (rest.zip ls) st st' ∧ ckOK p.1 (p.2 ++ ls) = true
  | .call f xs, .res rs bs => CallOK E P f xs rs bs
  | _, _ => True

section
variable {E : Env} {P : Program} {M0 : Nat → Prop} {w0 : World} {c : Ctx} {st st' : St} {a : Act} {w w' : World}

theorem Inv.slots (hI : Inv E M0 w0 c st w) (s : Nat → SV) (N : Nat) : Inv E M0 w0 c { st with s := s, N := N } w := ⟨hI.n, hI.obs, hI.dead, hI.inj, hI.own, hI.F, hI.one, hI.same, hI.bnd⟩
theorem Inv.put (hI : Inv E M0 w0 c st w) (d : Option Nat) (v : SV) : Inv E M0 w0 c (st.put d v) w := by
  cases d with
  | none => exact hI
  | some d => exact ⟨hI.n, hI.obs, hI.dead, hI.inj, hI.own, hI.F, hI.one, hI.same, hI.bnd⟩
theorem Inv.drawn (hI : Inv E M0 w0 c st w) (d : Nat) : Inv E M0 w0 c st { w with drawn := d } := by
  refine hI.world (S := fun _ => False) ⟨Nat.le_refl _, fun _ _ _ => rfl, rfl, rfl, rfl⟩ (fun _ h => h.elim) (fun _ _ _ h => h)
theorem InvA.drawn (hA : InvA c st a w) (d : Nat) : InvA c st a { w with drawn := d } := hA.mono (Ctx.Le.refl c) (fun _ _ => rfl) rfl rfl

theorem rel_skip : Rel c w (.tup []) undef := .tup [] #[] rfl (fun i s v hs _ => by simp at hs)
theorem wanted_of (hA : InvA c st a w) {all : Array Oper} {o : Oper} {b : Bool} (h : guardOf all st o = some b) : Region.wanted o (yielded all a.tmps) = b := by
  unfold guardOf at h
  unfold Region.wanted
  split at h
  · rename_i hg
    obtain rfl := Option.some.inj h
    rw [hg]
  · rename_i j want hg
    rw [hg]
    split at h
    · cases h
    · rename_i d hd
      split at h
      · rename_i x hx
        obtain rfl := Option.some.inj h
        have hlt : d < st.N := by
          by_cases hlt : d < st.N
          · exact hlt
          · simp [St.val, hlt] at hx
        have hr := val_rel hA (.tmp d)
        rw [hx] at hr
        have he := hr.bool
        have hsz : d < a.tmps.size := by rw [hA.size]; exact hlt
        have hg : a.tmps[d]? = some (.bool x) := by
          simp only [Act.eval, Array.getD, hsz, dif_pos] at he
          rw [Array.getElem?_eq_getElem hsz]
          exact congrArg some he
        simp only [yielded, hd, Option.bind_some, hg]
        cases x <;> cases want <;> rfl
      · rename_i hx
        obtain rfl := Option.some.inj h
        have hr := val_rel hA (.tmp d)
        rw [hx] at hr
        have he : a.eval (.tmp d) = .tuple #[] := by
          generalize a.eval (.tmp d) = v at hr
          cases hr with
          | tup cs vs hl hh =>
            have : vs = #[] := by
              cases vs with
              | mk l => cases l with
                | nil => rfl
                | cons x l => simp at hl
            rw [this]
        have hg : ((all[j]?).bind (·.dst)).bind (a.tmps[·]?) = none ∨ ((all[j]?).bind (·.dst)).bind (a.tmps[·]?) = some (.tuple #[]) := by
          rw [hd, Option.bind_some]
          by_cases hsz : d < a.tmps.size
          · right
            simp only [Act.eval, Array.getD, hsz, dif_pos] at he
            rw [Array.getElem?_eq_getElem hsz]
            exact congrArg some he
          · left
            exact Array.getElem?_eq_none (Nat.le_of_not_lt hsz)
        rcases hg with hg | hg <;> simp [yielded, hg]
      · cases h

theorem resVals_ok (hP : POK E P) (hI : Inv E M0 w0 c st w) (hA : InvA c st a w) : ∀ {rvs : List ResultVar} {ss : List SV}, st.resVals E rvs = some ss → ∃ us : List Value, us.length = ss.length ∧ (∀ (i : Nat) s v, ss[i]? = some s → us[i]? = some v → Rel c w s v) ∧
    (rvs.mapM (fun | .tmp t => pure (a.tmps.getD t undef) | .cell x t => do loadVar t (← asAddr (a.tmps.getD x undef)) : ResultVar → Sem Value)).run P w = .ok us w
  | [], ss, h => by
    simp only [St.resVals, Option.some.injEq] at h
    subst h
    exact ⟨[], rfl, fun i s v hs => by simp at hs, rfl⟩
  | .tmp t :: r, ss, h => by
    simp only [St.resVals, Option.map_eq_some_iff] at h
    obtain ⟨ss', h1, rfl⟩ := h
    obtain ⟨us, g1, g2, g3⟩ := resVals_ok hP hI hA h1
    refine ⟨a.tmps.getD t undef :: us, by simp [g1], fun i s v hs hv => ?_, ?_⟩
    · cases i with
      | zero => simp at hs hv; subst hs; subst hv; simpa [Act.eval] using val_rel hA (.tmp t)
      | succ i => exact g2 i s v (by simpa using hs) (by simpa using hv)
    · simp only [List.mapM_cons, Sem.run_bind, Sem.run_pure, Result.andThen_ok, g3]
  | .cell x t :: r, ss, h => by
    simp only [St.resVals] at h
    split at h
    · rename_i s ss' h1 h2
      obtain rfl := Option.some.inj h
      obtain ⟨us, g1, g2, g3⟩ := resVals_ok hP hI hA h2
      have hr := val_rel hA (.tmp x)
      obtain ⟨u, u1, u2⟩ := load_run (P := P) hP hI hr h1
      have hu : (do loadVar t (← asAddr (a.tmps.getD x undef)) : Sem Value).run P w = .ok u w := by
        have : a.eval (.tmp x) = a.tmps.getD x undef := rfl
        rw [this] at u1
        unfold Instr.loadAt at u1
        generalize a.tmps.getD x undef = p at u1
        cases p with
        | pointer p =>
          cases p with
          | some A => exact u1
          | none => simp [Instr.sureAddr, stuck] at u1
        | _ => simp [Instr.sureAddr, stuck] at u1
      refine ⟨u :: us, by simp [g1], fun i s v hs hv => ?_, ?_⟩
      · cases i with
        | zero => simp at hs hv; subst hs; subst hv; exact u2
        | succ i => exact g2 i s v (by simpa using hs) (by simpa using hv)
      · simp only [List.mapM_cons, Sem.run_bind] at hu ⊢
        rw [hu]
        simp only [Result.andThen_ok, g3, Sem.run_pure]
    · cases h
theorem results_ok (hP : POK E P) (hI : Inv E M0 w0 c st w) (hA : InvA c st a w) {fn : Func} {ss : List SV} (h : st.resVals E fn.results.toList = some ss) : ∃ us : List Value, us.length = ss.length ∧ (∀ (i : Nat) s v, ss[i]? = some s → us[i]? = some v → Rel c w s v) ∧ (results fn a.tmps).run P w = .ok (resV us) w := by
  obtain ⟨us, g1, g2, g3⟩ := resVals_ok hP hI hA h
  refine ⟨us, g1, g2, ?_⟩
  unfold results
  rw [Array.mapM_eq_mapM_toList]
  simp only [Sem.run_bind]
  have : (List.toArray <$> (fn.results.toList.mapM (fun | .tmp t => pure (a.tmps.getD t undef) | .cell x t => do loadVar t (← asAddr (a.tmps.getD x undef)) : ResultVar → Sem Value))).run P w = .ok us.toArray w := by
    simp only [map_eq_pure_bind, Sem.run_bind, g3, Result.andThen_ok, Sem.run_pure]
  erw [this]
  simp only [Result.andThen_ok, Sem.run_pure]
  match us with
  | [u] => rfl
  | [] => rfl
  | u :: u' :: r => simp [resV]

theorem bindAll_length : ∀ (l : List X) (st : St), (st.bindAll l).1.length = l.length
  | [], st => rfl
  | x :: r, st => by simp [St.bindAll, bindAll_length r]
/-- A function's body gives the call. -/
theorem body_ok (hE : SOK E P) {f : Nat} {fn : Func} {cd : Code} {args rs : List X} {bs : List (Option X)} {e : Ex} {st : St} (hf : P.funcs[f]? = some fn) (hb : fn.body = some cd)
    (hw : Sound E P (.code cd (initSt fn.ntmps (emptySt.bindAll args).1 (emptySt.bindAll args).2)) (.st e st)) (he : (e = .normal ∨ e = .ret) ∧ args.length ≤ fn.ntmps)
    (hfin : st.finish E (E.flat f) fn.results.toList (muts (E.md f) (emptySt.bindAll args).1) = some (rs, bs)) : CallOK E P f args rs bs := by
  unfold St.finish at hfin
  split at hfin
  · cases hfin
  · rename_i ss hss
    split at hfin
    · cases hfin
    · rename_i rs' st2 htake
      simp only at hfin
      split at hfin
      · rename_i hflat
        simp only [Option.some.injEq, Prod.mk.injEq] at hfin
        obtain ⟨rfl, rfl⟩ := hfin
        refine ⟨fun h => by simpa [h] using hflat, fun F w vals bl hx hn hfr hF hLd => .inl ⟨?_, ?_⟩⟩
        · have hnm := hE.name f fn hf (by rw [hb]; rfl)
          have hnm' : ¬ fn.name = "runtime.NumGoroutine" := by simpa using hnm
          simp [callFunc, hf, hnm', hb]
        · have h0 : Inv E (fun k => k ∈ bl) w ⟨0, fun _ => 0, fun _ => undef, fun _ => 0, F, F⟩ emptySt w :=
            ⟨rfl, fun i hi => (by cases hi), fun _ _ => rfl, fun i j hi => (by cases hi), fun i hi => (by cases hi), hF, fun i hi => (by cases hi), Same.refl _ _, fun k hk => .inl hk⟩
          obtain ⟨c1, b1, l1, r1⟩ := bindAll_ok h0 hx hn (fun k hk => ⟨(hfr k hk).1, (hfr k hk).2, .inl hk, fun i hi => by cases hi⟩)
          have hF1 : c1.F = F := b1.F
          have hsz : vals.size = (emptySt.bindAll args).1.length := by rw [l1]; simp
          have hal : (emptySt.bindAll args).1.length = args.length := bindAll_length args emptySt
          have hA1 : InvA c1 (initSt fn.ntmps (emptySt.bindAll args).1 (emptySt.bindAll args).2) { tmps := vals ++ Array.replicate (fn.ntmps - vals.size) undef, defers := [] } w := by
            refine ⟨?_, rfl, fun i hi => ?_⟩
            · show (vals ++ Array.replicate (fn.ntmps - vals.size) undef).size = fn.ntmps
              simp only [Array.size_append, Array.size_replicate]
              omega
            · show Rel c1 w ((emptySt.bindAll args).1.getD i .undef) _
              by_cases hlt : i < (emptySt.bindAll args).1.length
              · have hlt2 : i < vals.size := by omega
                have := r1 i _ vals[i] (List.getElem?_eq_getElem hlt) (by simp [hlt2])
                simp only [List.getD_eq_getElem?_getD, List.getElem?_eq_getElem hlt, Option.getD_some]
                have hg : (vals ++ Array.replicate (fn.ntmps - vals.size) undef).getD i undef = vals[i] := by
                  rw [Array.getD_eq_getD_getElem?, Array.getElem?_append, if_pos hlt2, Array.getElem?_eq_getElem hlt2]
                  rfl
                rw [hg]
                exact this
              · simp only [List.getD_eq_getElem?_getD, List.getElem?_eq_none (Nat.le_of_not_lt hlt), Option.getD_none]
                exact .undef _
          have hL0 : Laid0 E (fun k => k ∈ bl) c1.F w := fun g hg => ⟨by rw [hF1]; exact (hLd g hg).1, fun hm => (hfr g hm).2 (hLd g hg).1, (hLd g hg).2⟩
          have hcode := (hw _ _ _ _ _ hL0 (b1.inv.slots _ _) hA1).wp
          refine calls_of_wp hf hb (wp_mono hcode ?_)
          rintro x a' w' ⟨rfl, c2, hle, hI2, hA2⟩
          obtain ⟨us, u1, u2, u3⟩ := results_ok hE.pok hI2 hA2 hss
          obtain ⟨br, t1, t2⟩ := takeAll_ok (vs := us) hI2 u1 u2 htake
          have hkeep : ∀ k, c1.F k → w'.heap[k]? = w.heap[k]? := fun k hk => hI2.same.blk k (hF k (hF1 ▸ hk)) (fun hm => (hfr k hm).2 (hF1 ▸ hk))
          have hms := muts_rel (c := c1) (w := w) (md := E.md f) (ss := (emptySt.bindAll args).1) (vs := vals.toList) (by rw [l1]) r1
          obtain ⟨bb, k1, k2⟩ := backAll_ok (vs := muts (E.md f) vals.toList) t2.inv hms.1 (fun i s v hs hv => (hms.2 i s v hs hv).mono hle hkeep)
          have htk := t2.trans k2
          have hpost : ∃ us', Ending.returned (resV us) = .returned (resV us') ∧ Leaves E F w bl (muts (E.md f) vals.toList) rs' (st2.backAll (muts (E.md f) (emptySt.bindAll args).1)).1 us' w' := by
            refine ⟨us, rfl, c2.F, br, bb, hI2.same, fun k hk => hle.F k (by rw [hF1]; exact hk), fun k hk => ?_, hI2.F, t1, k1, htk.nodup, fun k hk => ?_⟩
            · rcases hI2.bnd k hk with h | h
              · exact .inl (b1.le.F0 k (hle.F0 k h))
              · exact .inr h
            · exact htk.free hI2 hk
          rcases he.1 with rfl | rfl
          · exact ⟨hA2.dfr, _, u3, hpost⟩
          · exact ⟨hA2.dfr, _, u3, hpost⟩
      · cases hfin

/-- One operation. -/
theorem op_wp (hE : SOK E P) (hL : Laid0 E M0 c.F w0) (hI : Inv E M0 w0 c st w) (hA : InvA c st a w) {b : Bool} {o : Oper} {r : SV} {st1 : St} (h : st.opB E b o.op = some (r, st1)) {K : Act → World → Prop} {Q : Exit → Act → World → Prop}
    (hK : ∀ c' a' w', c.Le c' → Inv E M0 w0 c' (st1.put o.dst r) w' → InvA c' (st1.put o.dst r) a' w' → K a' w') : o.wp P a w K Q := by
  obtain ⟨n, w', h1, c', x, hx, hs⟩ : Answers E P M0 w0 c st w (execOp a.eval o) r st1 := by
    cases b with
    | false => exact op_sound (P := P) hE.pok hI (hI.laid hL) hA h
    | true => exact opS_sound (P := P) hE.pok hI (hI.laid hL) hA h
  have hA' := (hA.mono hs.le hs.keep hs.hs hs.hN)
  unfold Oper.wp
  rw [h1]
  rcases hx with rfl | ⟨rfl, rfl⟩
  · exact hK c' _ w' hs.le (hs.inv.put _ _) (hA'.put hs.rel)
  · exact hK c' _ w' hs.le (hs.inv.put _ _) (hA'.put hs.rel)
/-- One call. -/
theorem call_wp (hL : Laid0 E M0 c.F w0) (hI : Inv E M0 w0 c st w) (hA : InvA c st a w) {b : Bool} {o : Oper} {cl : Call} {f : Operand} {g : Nat} {xs rs : List X} {bs : List (Option X)} {r : SV} {st1 : St} (ho : o.op = .call cl) (hcl : cl.callee = .value f)
    (hp : callPrep E st (st.val f) (cl.args.toList.map st.val) = some (g, xs)) (hc : CallOK E P g xs rs bs) (hb : callBackB E b st (st.val f) (cl.args.toList.map st.val) rs bs = some (r, st1)) {K : Act → World → Prop} {Q : Exit → Act → World → Prop}
    (hK : ∀ c' a' w', c.Le c' → Inv E M0 w0 c' (st1.put o.dst r) w' → InvA c' (st1.put o.dst r) a' w' → K a' w') : o.wp P a w K Q := by
  have hrel : ∀ (i : Nat) s v, (cl.args.toList.map st.val)[i]? = some s → (cl.args.toList.map a.eval)[i]? = some v → Rel c w s v := (fun i s v hs hv => by
    rw [List.getElem?_map, Option.map_eq_some_iff] at hs hv
    obtain ⟨p, hp, rfl⟩ := hs
    obtain ⟨p', hp', rfl⟩ := hv
    rw [hp] at hp'
    obtain rfl := Option.some.inj hp'
    exact val_rel hA _)
  obtain ⟨first, caps, hfv, hgo⟩ : ∃ first caps : Array Value, a.eval f = .func (.func g) first caps ∧ Goes P g (first ++ (cl.args.toList.map a.eval).toArray ++ caps) w (fun e w' => ∃ u, e = .returned u ∧ ∃ c', Step E M0 w0 c st w r st1 c' u w') := by
    cases b with
    | false => exact call_ok (us := cl.args.toList.map a.eval) hI (hI.laid hL) (val_rel hA f) (by simp) hrel hp hc hb
    | true => exact callS_ok (us := cl.args.toList.map a.eval) hI (hI.laid hL) (val_rel hA f) (by simp) hrel hp hc hb
  have hargs : (cl.args.toList.map a.eval).toArray = cl.args.map a.eval := by apply Array.ext'; simp
  rw [hargs] at hgo
  have hrun : (execOp a.eval o).run P w = (callFunc g (first ++ cl.args.map a.eval ++ caps)).run P w := by
    unfold execOp
    simp only [ho, resolve, hcl, hfv, Deferred.ofValue, Sem.run_bind, Sem.run_pure, Result.andThen_ok, invoke]
  have hnext : ∀ e w', (∃ u, e = Ending.returned u ∧ ∃ c', Step E M0 w0 c st w r st1 c' u w') → ∃ u, e = .returned u ∧ K (a.put o.dst u) w' := by
    rintro e w' ⟨u, rfl, c', hs⟩
    exact ⟨u, rfl, hK c' _ w' hs.le (hs.inv.put _ _) ((hA.mono hs.le hs.keep hs.hs hs.hN).put hs.rel)⟩
  unfold Oper.wp
  rw [hrun]
  rcases hgo with ⟨h1, h2⟩ | ⟨v, w', h1, h2⟩
  · rw [h1, Oper.upon_enter]
    refine h2.mono (fun e w' he => ?_)
    obtain ⟨u, rfl, h⟩ := hnext e w' he
    exact h
  · rw [h1, Oper.upon_value]
    obtain ⟨u, he, h⟩ := hnext _ w' h2
    injection he with he
    subst he
    exact h
theorem wpList_cons {all : Array Oper} {o : Oper} {rest : List Oper} {Q : Exit → Act → World → Prop} (hA : InvA c st a w) (hg : guardOf all st o = some true) (h : o.wp P a w (wpList P all Q rest) Q) : wpList P all Q (o :: rest) a w := by
  simp only [wpList, wanted_of hA hg, if_true]
  exact .inl h
theorem wpList_skip {all : Array Oper} {o : Oper} {rest : List Oper} {Q : Exit → Act → World → Prop} (hA : InvA c st a w) (hg : guardOf all st o = some false) (h : wpList P all Q rest (a.put o.dst undef) w) : wpList P all Q (o :: rest) a w := by
  simp only [wpList, wanted_of hA hg, Bool.false_eq_true, if_false]
  exact h
theorem wpList_mono {all : Array Oper} {Q Q' : Exit → Act → World → Prop} (hq : ∀ e a w, Q e a w → Q' e a w) : ∀ {rest : List Oper} {a : Act} {w : World}, wpList P all Q rest a w → wpList P all Q' rest a w
  | [], a, w, h => hq _ _ _ h
  | o :: rest, a, w, h => by
    simp only [wpList] at h ⊢
    split at h
    · rename_i hw
      simp only [hw, if_true]
      rcases h with h | ⟨h, a0, w0, h0⟩
      · refine .inl ?_
        unfold Oper.wp at h ⊢
        cases hr : (execOp a.eval o).run P w with
        | ok n w' =>
          rw [hr] at h
          cases n with
          | value v => exact wpList_mono hq h
          | skip => exact wpList_mono hq h
          | defer d => exact wpList_mono hq h
          | enter f args =>
            refine Calls.mono h (fun e w'' he => ?_)
            cases e with
            | returned v => exact wpList_mono hq he
            | panicked ch => exact hq _ _ _ he
            | outgrown =>
              obtain ⟨a1, w1, h1⟩ := he
              exact ⟨a1, w1, hq _ _ _ h1⟩
          | row row args => exact Rows.mono h (fun v w'' he => wpList_mono hq he)
          | _ => exact h
        | halt hh w' =>
          rw [hr] at h
          cases hh with
          | panic v => exact hq _ _ _ h
          | _ => exact h
      · exact .inr ⟨h, a0, w0, hq _ _ _ h0⟩
    · rename_i hw
      simp only [hw, Bool.false_eq_true, if_false]
      exact wpList_mono hq h

theorem eff_wp (hE : SOK E P) (hL : Laid0 E M0 c.F w0) (hI : Inv E M0 w0 c st w) (hA : InvA c st a w) {b : Bool} {o : Oper} {r : SV} {st1 : St} (h : Eff E b (CallOK E P) o st r st1) {K : Act → World → Prop} {Q : Exit → Act → World → Prop}
    (hK : ∀ c' a' w', c.Le c' → Inv E M0 w0 c' (st1.put o.dst r) w' → InvA c' (st1.put o.dst r) a' w' → K a' w') : o.wp P a w K Q := by
  cases h with
  | op h => exact op_wp hE hL hI hA h hK
  | call ho hc hp hC hb => exact call_wp hL hI hA ho hc hp hC hb hK
theorem opsG_wp (hE : SOK E P) {all : Array Oper} {l : List Oper} {st st' : St} (h : OpsG E (CallOK E P) all l st st') : ∀ {c : Ctx} {a : Act} {w : World}, Laid0 E M0 c.F w0 → Inv E M0 w0 c st w → InvA c st a w → wpList P all (Fine E M0 w0 c .normal st') l a w := by
  induction h with
  | nil st => exact fun _ hI hA => wpList_nil ⟨rfl, _, Ctx.Le.refl _, hI, hA⟩
  | skip hd hg k ih => exact fun hL hI hA => wpList_skip hA hg (ih hL (hI.put _ _) (hA.put rel_skip))
  | cons hd hg h k ih =>
    intro c a w hL hI hA
    refine wpList_cons hA hg (eff_wp hE hL hI hA h (fun c' a' w' hle hI' hA' => ?_))
    exact wpList_mono (fun e a w h => h.mono hle) (ih (hL.mono hle.F) hI' hA')
theorem wpOps_mono {ops : Array Oper} {Q Q' : Exit → Act → World → Prop} (hq : ∀ e a w, Q e a w → Q' e a w) : ∀ {l : List Nat} {a : Act} {w : World}, wpOps P ops Q l a w → wpOps P ops Q' l a w
  | [], a, w, h => hq _ _ _ h
  | i :: rest, a, w, h => by
    simp only [wpOps] at h ⊢
    split at h
    · exact wpOps_mono hq h
    · rename_i o ho
      split at h
      · rename_i hw
        simp only [hw, if_true]
        rcases h with h | ⟨h, a0, w0, h0⟩
        · refine .inl ?_
          unfold Oper.wp at h ⊢
          cases hr : (execOp a.eval o).run P w with
          | ok n w' =>
            rw [hr] at h
            cases n with
            | value v => exact wpOps_mono hq h
            | skip => exact wpOps_mono hq h
            | defer d => exact wpOps_mono hq h
            | enter f args =>
              refine Calls.mono h (fun e w'' he => ?_)
              cases e with
              | returned v => exact wpOps_mono hq he
              | panicked ch => exact hq _ _ _ he
              | outgrown =>
                obtain ⟨a1, w1, h1⟩ := he
                exact ⟨a1, w1, hq _ _ _ h1⟩
            | row row args => exact Rows.mono h (fun v w'' he => wpOps_mono hq he)
            | _ => exact h
          | halt hh w' =>
            rw [hr] at h
            cases hh with
            | panic v => exact hq _ _ _ h
            | _ => exact h
        · exact .inr ⟨h, a0, w0, hq _ _ _ h0⟩
      · rename_i hw
        simp only [hw, Bool.false_eq_true, if_false]
        exact wpOps_mono hq h
theorem opsR_wp (hE : SOK E P) {b : Bool} {ops : Array Oper} : ∀ (is : List Nat) {st st' : St} {c : Ctx} {a : Act} {w : World}, OpsR E b (CallOK E P) ops (is.filterMap (ops[·]?)) st st' → Laid0 E M0 c.F w0 → Inv E M0 w0 c st w → InvA c st a w → wpOps P ops (Fine E M0 w0 c .normal st') is a w
  | [], st, st', c, a, w, h, hL, hI, hA => by
    cases h
    exact ⟨rfl, c, Ctx.Le.refl c, hI, hA⟩
  | i :: is, st, st', c, a, w, h, hL, hI, hA => by
    simp only [wpOps]
    cases ho : ops[i]? with
    | none =>
      simp only
      have : (i :: is).filterMap (ops[·]?) = is.filterMap (ops[·]?) := by simp [List.filterMap_cons, ho]
      rw [this] at h
      exact opsR_wp hE is h hL hI hA
    | some o =>
      simp only
      have : (i :: is).filterMap (ops[·]?) = o :: is.filterMap (ops[·]?) := by simp [List.filterMap_cons, ho]
      rw [this] at h
      cases h with
      | cons h1 h2 =>
        rcases h1 with ⟨hg, hd, v, st1, he, rfl⟩ | ⟨hg, hd, rfl⟩
        · have hw := wanted_of hA hg
          simp only [hw, if_true]
          refine .inl (eff_wp hE hL hI hA he (fun c' a' w' hle hI' hA' => ?_))
          exact wpOps_mono (fun e a w h => h.mono hle) (opsR_wp hE is h2 (hL.mono hle.F) hI' hA')
        · have hw := wanted_of hA hg
          simp only [hw, Bool.false_eq_true, if_false]
          exact opsR_wp hE is h2 hL (hI.put _ _) (hA.put rel_skip)

theorem sound (hE : SOK E P) : ∀ t out, run E t = some out → Sound E P t out := by
  refine run.partial_correctness E (Sound E P) ?_
  intro rn IH t out h
  unfold body at h
  split at h
  · -- code
    rename_i cd st
    split at h
    · obtain rfl := Option.some.inj h
      exact fun M0 w0 ctx a w hL hI hA => wp_skip ⟨rfl, ctx, Ctx.Le.refl ctx, hI, hA⟩
    · rename_i id ops draw
      cases draw with
      | false =>
        simp only at h
        have ih := IH _ _ h
        cases out with
        | res rs bs => trivial
        | st e st' =>
          obtain ⟨rfl, ih⟩ := ih
          intro M0 w0 ctx a w hL hI hA
          exact wp_region_list (opsG_wp hE ih hL hI hA)
      | true =>
        simp only at h
        split at h
        · split at h
          · cases h
          · rename_i p hl
            have ih := IH _ _ h
            cases out with
            | res rs bs => trivial
            | st e st' =>
              obtain ⟨rfl, ls, hlen, hO, hck⟩ := ih
              intro M0 w0 ctx a w hL hI hA
              have hr := hE.drawS ops p hl ls hlen (by simpa using hck)
              refine wp_region_draw (fun t => ?_)
              obtain ⟨lab, hsw⟩ := hr t
              have hL2 := (hO.swaps (fun g xs rs bs hc hf => (hc.1 hf).2.2) hsw hI.dead).toR
              have hmap : ∀ is : List Nat, (is.filterMap (fun i => (ops[i]?).map fun o => (o, lab i))).map (·.1) = is.filterMap (ops[·]?) := by
                intro is
                rw [List.map_filterMap]
                congr 1
                funext i
                cases ops[i]? <;> rfl
              rw [hmap] at hL2
              exact opsR_wp hE _ hL2 hL (hI.drawn _) (hA.drawn _)
        · rename_i l hl
          have ih := IH _ _ h
          cases out with
          | res rs bs => trivial
          | st e st' =>
            obtain ⟨rfl, ih⟩ := ih
            intro M0 w0 ctx a w hL hI hA
            have hr := hE.draw ops l hl
            have hR := ih.toR
            exact wp_region_draw (fun t => opsR_wp hE _ (hR.swaps (fun g xs rs bs hc hf => (hc.1 hf).2.2) (hr t) hI.dead) hL (hI.drawn _) (hA.drawn _))
    · -- seq
      rename_i x y
      cases h1 : rn (.code x st) with
      | none => simp [h1] at h
      | some o1 =>
        rw [h1] at h
        have ih1 := IH _ _ h1
        simp only [Option.bind_eq_bind, Option.bind_some] at h
        split at h
        · rename_i st1
          have ih2 := IH _ _ h
          cases out with
          | res rs bs => trivial
          | st e st' =>
            intro M0 w0 ctx a w hL hI hA
            refine wp_seq (wp_mono (CodeWp.wp (ih1 M0 w0 ctx a w hL hI hA)) ?_)
            rintro x a' w' ⟨rfl, c', hle, hI', hA'⟩
            exact wp_mono (CodeWp.wp (ih2 M0 w0 c' a' w' (hL.mono hle.F) hI' hA')) (fun e a w h => h.mono hle)
        · rename_i hne
          obtain rfl := Option.some.inj h
          cases o1 with
          | res rs bs => trivial
          | st e st' =>
            intro M0 w0 ctx a w hL hI hA
            refine wp_seq (wp_mono (CodeWp.wp (ih1 M0 w0 ctx a w hL hI hA)) ?_)
            intro x a' w' hf
            cases e with
            | normal => exact absurd rfl (hne st')
            | exit id => obtain ⟨rfl, hf⟩ := hf; exact ⟨rfl, hf⟩
            | ret => obtain ⟨rfl, hf⟩ := hf; exact ⟨rfl, hf⟩
    · -- cond
      rename_i cnd x y
      split at h
      · rename_i b hb
        have hx : ∀ ctx a w, InvA ctx st a w → a.eval cnd = .bool b := by
          intro ctx a w hA
          have := val_rel hA cnd
          rw [hb] at this
          exact this.bool
        cases out with
        | res rs bs => trivial
        | st e st' =>
          intro M0 w0 ctx a w hL hI hA
          cases b with
          | true =>
            simp only [if_true] at h
            exact wp_cond_true (hx ctx a w hA) (CodeWp.wp (IH _ _ h M0 w0 ctx a w hL hI hA))
          | false =>
            simp only [Bool.false_eq_true, if_false] at h
            exact wp_cond_false (hx ctx a w hA) (CodeWp.wp (IH _ _ h M0 w0 ctx a w hL hI hA))
      · cases h
    · -- block
      rename_i id x
      cases h1 : rn (.code x st) with
      | none => simp [h1] at h
      | some o1 =>
        rw [h1] at h
        have ih1 := IH _ _ h1
        simp only [Option.bind_eq_bind, Option.bind_some] at h
        cases o1 with
        | res rs bs =>
          simp only [Option.some.injEq] at h
          subst h
          trivial
        | st e1 st1 =>
          cases out with
          | res rs bs => trivial
          | st e st' =>
            intro M0 w0 ctx a w hL hI hA
            refine wp_block (wp_mono (CodeWp.wp (ih1 M0 w0 ctx a w hL hI hA)) ?_)
            rintro x a' w' ⟨rfl, hf⟩
            cases e1 with
            | normal =>
              simp only [Option.some.injEq, Out.st.injEq] at h
              obtain ⟨rfl, rfl⟩ := h
              exact ⟨rfl, hf⟩
            | ret =>
              simp only [Option.some.injEq, Out.st.injEq] at h
              obtain ⟨rfl, rfl⟩ := h
              exact ⟨rfl, hf⟩
            | exit j =>
              simp only at h
              by_cases hj : j = id
              · rw [if_pos hj] at h
                simp only [Option.some.injEq, Out.st.injEq] at h
                obtain ⟨rfl, rfl⟩ := h
                simp only [ExOf, Exit.inBlock, hj, if_true]
                exact ⟨rfl, hf⟩
              · rw [if_neg hj] at h
                simp only [Option.some.injEq, Out.st.injEq] at h
                obtain ⟨rfl, rfl⟩ := h
                simp only [ExOf, Exit.inBlock, hj, if_false]
                exact ⟨rfl, hf⟩
    · -- loop
      rename_i x
      cases h1 : rn (.code x st) with
      | none => simp [h1] at h
      | some o1 =>
        rw [h1] at h
        have ih1 := IH _ _ h1
        simp only [Option.bind_eq_bind, Option.bind_some] at h
        split at h
        · rename_i st1
          have ih2 := IH _ _ h
          cases out with
          | res rs bs => trivial
          | st e st' =>
            intro M0 w0 ctx a w hL hI hA
            refine LoopWp.round (wp_mono (CodeWp.wp (ih1 M0 w0 ctx a w hL hI hA)) ?_)
            rintro y a' w' ⟨rfl, c', hle, hI', hA'⟩
            have := ih2 M0 w0 c' a' w' (hL.mono hle.F) hI' hA'
            intro b k cs
            obtain ⟨e2, a2, w2, q, r⟩ := this b k cs
            exact ⟨e2, a2, w2, q.mono hle, r⟩
        · rename_i hne
          obtain rfl := Option.some.inj h
          cases o1 with
          | res rs bs => trivial
          | st e st' =>
            intro M0 w0 ctx a w hL hI hA
            refine LoopWp.round (wp_mono (CodeWp.wp (ih1 M0 w0 ctx a w hL hI hA)) ?_)
            intro y a' w' hf
            cases e with
            | normal => exact absurd rfl (hne st')
            | exit id => obtain ⟨rfl, hf⟩ := hf; exact ⟨rfl, hf⟩
            | ret => obtain ⟨rfl, hf⟩ := hf; exact ⟨rfl, hf⟩
    · obtain rfl := Option.some.inj h
      exact fun M0 w0 ctx a w hL hI hA => wp_exit ⟨rfl, ctx, Ctx.Le.refl ctx, hI, hA⟩
    · obtain rfl := Option.some.inj h
      exact fun M0 w0 ctx a w hL hI hA => wp_ret ⟨rfl, ctx, Ctx.Le.refl ctx, hI, hA⟩
    · cases h
  · -- ops
    rename_i m all l st
    cases m with
    | none =>
      split at h
      · obtain rfl := Option.some.inj h
        exact ⟨rfl, .nil _⟩
      · rename_i o rest
        split at h
        · cases h
        · rename_i hd
          have hd' : dstOk st o = true := by simpa using hd
          split at h
          · cases h
          · rename_i hg
            have ih := IH _ _ h
            cases out with
            | res rs bs => trivial
            | st e st' =>
              obtain ⟨rfl, ih⟩ := ih
              exact ⟨rfl, .skip hd' hg ih⟩
          · rename_i hg
            split at h
            · rename_i f args at' hop
              split at h
              · cases h
              · rename_i g xs hp
                cases h1 : rn (.call g xs) with
                | none => simp [h1] at h
                | some o1 =>
                  rw [h1] at h
                  have ih1 := IH _ _ h1
                  simp only [Option.bind_eq_bind, Option.bind_some] at h
                  split at h
                  · rename_i rs bs
                    split at h
                    · cases h
                    · rename_i v st1 hb
                      have ih := IH _ _ h
                      cases out with
                      | res rs bs => trivial
                      | st e st' =>
                        obtain ⟨rfl, ih⟩ := ih
                        exact ⟨rfl, .cons hd' hg (.call hop rfl hp ih1 hb) ih⟩
                  · cases h
            · split at h
              · cases h
              · rename_i v st1 hop
                have ih := IH _ _ h
                cases out with
                | res rs bs => trivial
                | st e st' =>
                  obtain ⟨rfl, ih⟩ := ih
                  exact ⟨rfl, .cons hd' hg (.op hop) ih⟩
    | some p =>
      have app : ∀ (l0 : List Lab) (x : Lab) (ls : List Lab), l0 ++ [x] ++ ls = l0 ++ (x :: ls) := fun l0 x ls => by simp
      split at h
      · dsimp only at h
        by_cases hck : ckOK p.1 p.2 = true
        · rw [if_pos hck] at h
          obtain rfl := Option.some.inj h
          exact ⟨rfl, [], rfl, .nil _, by rw [List.append_nil]; exact hck⟩
        · rw [if_neg hck] at h
          cases h
      · rename_i o rest
        split at h
        · cases h
        · rename_i hd
          have hd' : dstOk st o = true := by simpa using hd
          split at h
          · cases h
          · rename_i hg
            have ih := IH _ _ h
            cases out with
            | res rs bs => trivial
            | st e st' =>
              obtain ⟨rfl, ls, h1, h2, h3⟩ := ih
              exact ⟨rfl, .skip :: ls, by simp [h1], .cons (.inr ⟨hg, rfl, hd', rfl⟩) h2, by rw [← app]; exact h3⟩
          · rename_i hg
            split at h
            · rename_i f args at' hop
              split at h
              · cases h
              · rename_i g xs hp
                cases h1 : rn (.call g xs) with
                | none => simp [h1] at h
                | some o1 =>
                  rw [h1] at h
                  have ih1 := IH _ _ h1
                  simp only [Option.bind_eq_bind, Option.bind_some] at h
                  split at h
                  · rename_i rs bs
                    split at h
                    · cases h
                    · rename_i v st1 hb
                      have ih := IH _ _ h
                      cases out with
                      | res rs bs => trivial
                      | st e st' =>
                        obtain ⟨rfl, ls, h1, h2, h3⟩ := ih
                        exact ⟨rfl, labOf E st o :: ls, by simp [h1], .cons (.inl ⟨hg, rfl, hd', _, _, .call hop rfl hp ih1 hb, rfl⟩) h2, by rw [← app]; exact h3⟩
                  · cases h
            · split at h
              · cases h
              · rename_i v st1 hop
                have ih := IH _ _ h
                cases out with
                | res rs bs => trivial
                | st e st' =>
                  obtain ⟨rfl, ls, h1, h2, h3⟩ := ih
                  exact ⟨rfl, labOf E st o :: ls, by simp [h1], .cons (.inl ⟨hg, rfl, hd', _, _, .op hop, rfl⟩) h2, by rw [← app]; exact h3⟩
  · -- call
    rename_i f args
    split at h
    · rename_i g hg
      simp only [Option.map_eq_some_iff] at h
      obtain ⟨⟨rs, bs⟩, hp, rfl⟩ := h
      exact hE.ext f g args rs bs hg hp
    · split at h
      · cases h
      · rename_i fn hf
        rw [hE.pok.fn] at hf
        split at h
        · cases h
        · rename_i cd hb
          simp only at h
          cases h1 : rn (.code cd (initSt fn.ntmps (emptySt.bindAll args).1 (emptySt.bindAll args).2)) with
          | none => simp [h1] at h
          | some o1 =>
            rw [h1] at h
            have ih := IH _ _ h1
            simp only [Option.bind_eq_bind, Option.bind_some] at h
            split at h
            · rename_i e st1
              split at h
              · rename_i he
                simp only [Option.map_eq_some_iff] at h
                obtain ⟨⟨rs, bs⟩, hfin, rfl⟩ := h
                exact body_ok hE hf hb ih he hfin
              · cases h
            · cases h
end
end Go.Ev
namespace Go.Ev
open Go.RowKit
set_option linter.unusedSimpArgs false
set_option linter.unusedVariables false

def contig (E : Env) (size : Nat) : Nat → List (Nat × Nat) → Bool
  | o, [] => o == size
  | o, p :: r => p.1 == o && contig E size (o + (E.ty p.2).size) r
def plainTy (E : Env) : Nat → Nat → Bool
  | 0, _ => false
  | n + 1, t => match (E.ty t).k with
    | .int _ | .bool | .str => true
    | .slice => plainTy E n (E.ty t).elem
    | .struct => contig E (E.ty t).size 0 (E.ty t).fields && (E.ty t).fields.all fun p => plainTy E n p.2
    | _ => false
def typed (E : Env) : Nat → Nat → List T → Prop
  | 0, _, _ => False
  | n + 1, t, ts => match (E.ty t).k, ts with
    | .int k, [.int k' m] => k' = k ∧ (Lit.int k m).wf = true
    | .bool, [.bool _] => True
    | .str, [.str s] => s.length ≤ 140737488351232
    | .slice, [.list xs] => xs.length * (E.ty (E.ty t).elem).bytes ≤ 140737488351232 ∧ ∀ x ∈ xs, ∃ cs, x = (if (E.ty (E.ty t).elem).agg then T.agg cs else (cs.headD (.bool false))) ∧ cs.length = (E.ty (E.ty t).elem).size ∧ typed E n (E.ty t).elem cs
    | .struct, cs => cs.length = (E.ty t).size ∧ ∀ p ∈ (E.ty t).fields, typed E n p.2 ((cs.drop p.1).take (E.ty p.2).size)
    | _, _ => False

section
variable {H : Type} {enc : TypeId × Value → H} {E : Env} {P : Program} {w : World} {base : Nat} {spare : Nat → Bool} {held : Bool}

theorem weights_all {e : TypeId} {d : DataW H} {x : Nat} : ∀ {l : List (DataW H)}, d ∈ l → x ∈ d.weights P e → x ∈ DataW.weightsAll P e l
  | y :: r, hd, hx => by
    simp only [DataW.weightsAll, List.mem_append]
    rcases List.mem_cons.1 hd with rfl | hd
    · exact .inl hx
    · exact .inr (weights_all hd hx)

/-- Read trees, cell by cell. -/
def Reads (w : World) (ts : List T) (cs : List Value) : Prop :=
  ts.length = cs.length ∧ (∀ y ∈ ts, y.one = true) ∧ ∀ (i : Nat) y v, ts[i]? = some y → cs[i]? = some v → RD (fun k => k < w.heap.size) w y v
theorem Reads.append {ts ts' : List T} {cs cs' : List Value} (h : Reads w ts cs) (h' : Reads w ts' cs') : Reads w (ts ++ ts') (cs ++ cs') := by
  obtain ⟨h1, h2, h3⟩ := h
  obtain ⟨k1, k2, k3⟩ := h'
  refine ⟨by simp [h1, k1], fun y hy => (List.mem_append.1 hy).elim (h2 y) (k2 y), fun i y v hy hv => ?_⟩
  rw [List.getElem?_append] at hy hv
  rw [← h1] at hv
  split at hy
  · rename_i hi; rw [if_pos hi] at hv; exact h3 i y v hy hv
  · rename_i hi; rw [if_neg hi] at hv; exact k3 _ y v hy hv
theorem reads_one {t : T} {v : Value} (h1 : t.one = true) (h : RD (fun k => k < w.heap.size) w t v) : Reads w [t] [v] := by
  refine ⟨rfl, by simpa using h1, fun i y u hy hu => ?_⟩
  cases i with
  | zero => simp at hy hu; subst hy; subst hu; exact h
  | succ i => simp at hy
theorem struct_reads {n : Nat} {cs : List Value} : ∀ (l : List (Nat × Nat)) (o : Nat), contig E cs.length o l = true → (∀ p ∈ l, ∃ ts, ts.length = (E.ty p.2).size ∧ typed E n p.2 ts ∧ Reads w ts ((cs.drop p.1).take (E.ty p.2).size)) →
    ∃ ts, Reads w ts (cs.drop o) ∧ ∀ p ∈ l, o ≤ p.1 ∧ typed E n p.2 ((ts.drop (p.1 - o)).take (E.ty p.2).size)
  | [], o, h, _ => by
    have : o = cs.length := by simpa [contig] using h
    subst this
    exact ⟨[], by simp [Reads], by simp⟩
  | p :: r, o, h, hp => by
    simp only [contig, Bool.and_eq_true, beq_iff_eq] at h
    obtain ⟨rfl, h⟩ := h
    obtain ⟨ts, h1, h2, h3⟩ := hp p (by simp)
    obtain ⟨ts', k1, k2⟩ := struct_reads r (p.1 + (E.ty p.2).size) h (fun p hp' => hp p (List.mem_cons_of_mem _ hp'))
    refine ⟨ts ++ ts', ?_, fun q hq => ?_⟩
    · have : cs.drop p.1 = (cs.drop p.1).take (E.ty p.2).size ++ cs.drop (p.1 + (E.ty p.2).size) := by
        rw [← List.drop_drop, List.take_append_drop]
      rw [this]
      exact h3.append k1
    · rcases List.mem_cons.1 hq with rfl | hq
      · refine ⟨Nat.le_refl _, ?_⟩
        rw [Nat.sub_self, List.drop_zero, ← h1, List.take_left]
        exact h2
      · obtain ⟨g1, g2⟩ := k2 q hq
        refine ⟨by omega, ?_⟩
        have : q.1 - p.1 = ts.length + (q.1 - (p.1 + (E.ty p.2).size)) := by omega
        rw [this, List.drop_append]
        have hz : ts.drop (ts.length + (q.1 - (p.1 + (E.ty p.2).size))) = [] := by simp
        rw [hz, List.nil_append, Nat.add_sub_cancel_left]
        exact g2

theorem cellsOf_ok (hP : POK E P) {t : Nat} (hk : (E.ty t).k ≠ .other) : P.cellsOf t = (E.ty t).size ∧ P.bytesOf t = (E.ty t).bytes := by
  obtain ⟨q, z, h1, h2, h3, _⟩ := (hP.ty t).info hk
  simp [Program.cellsOf, Program.bytesOf, h1, h2, h3]
theorem plain_known {n t : Nat} (h : plainTy E n t = true) : (E.ty t).k ≠ .other := by
  cases n with
  | zero => cases h
  | succ n =>
    intro e
    simp [plainTy, e] at h

theorem trod_typed (hP : POK E P) : ∀ (n t fuel : Nat) (cs : List Value) (d : DataW H) (ps : List MemPlace), plainTy E n t = true → DataW.trod enc P w base spare held fuel t cs = some (d, ps) → (∀ x ∈ d.weights P t, x ≤ reachBytes) →
    ∃ ts, ts.length = (E.ty t).size ∧ typed E n t ts ∧ Reads w ts cs
  | 0, t, fuel, cs, d, ps, hp, h, hw => by cases hp
  | n + 1, t, fuel, cs, d, ps, hp, h, hw => by
    have hne := plain_known hp
    obtain ⟨q, z, i1, i2, i3, i4, i5, i6, i7, i8, i9, i10⟩ := (hP.ty t).info hne
    have hu := (hP.ty t).und
    have hone : (E.ty t).k ≠ .struct → (E.ty t).size = 1 := fun h => i10 (by unfold TI.agg; split <;> first | contradiction | rfl)
    cases hk : (E.ty t).k with
    | int k =>
      rw [hk] at hu
      obtain ⟨m, rfl, _, hwf⟩ := DataW.trod_int hu h
      exact ⟨[.int k m], by rw [hone (by simp [hk])]; rfl, by simp [typed, hk, hwf], reads_one rfl (.int _ _)⟩
    | bool =>
      rw [hk] at hu
      obtain ⟨b, rfl, _⟩ := DataW.trod_bool hu h
      exact ⟨[.bool b], by rw [hone (by simp [hk])]; rfl, by simp [typed, hk], reads_one rfl (.bool _)⟩
    | str =>
      rw [hk] at hu
      obtain ⟨s, rfl, hx, hs⟩ := DataW.trod_string hu h
      obtain ⟨⟨l⟩⟩ := s
      simp only [Prod.mk.injEq] at hx
      obtain ⟨rfl, rfl⟩ := hx
      have := hw l.length (by simp [DataW.weights])
      exact ⟨[.str l], by rw [hone (by simp [hk])]; rfl, by simp only [typed, hk]; exact this, reads_one rfl (.str _)⟩
    | slice =>
      rw [hk] at hu
      simp only at hu
      simp only [plainTy, hk] at hp
      have hke := plain_known hp
      obtain ⟨ce, be⟩ := cellsOf_ok hP hke
      obtain ⟨q', z', j1, j2, j3, j4, j5, j6, j7, j8, j9, j10⟩ := (hP.ty (E.ty t).elem).info hke
      rcases DataW.trod_slice hu h with ⟨rfl, _⟩ | ⟨a, len, cap, elems, rest, m, _, rfl, hx, hb, hl, hm, hlen, hel, _, _⟩
      · refine ⟨[.list []], by rw [hone (by simp [hk])]; rfl, by simp [typed, hk], reads_one rfl ?_⟩
        exact .list [] none 0 1 (fun _ _ => undef) (Nat.le_refl _) (by decide) (by omega) (by simp) (by simp) (fun h => absurd rfl h) (fun j x i y hx => by simp at hx)
      · simp only [Prod.mk.injEq] at hx
        obtain ⟨rfl, rfl⟩ := hx
        -- each element
        have each : ∀ i, i < len → ∃ (cs' : List Value) (ts : List T), w.cells? base (a.add (i * (E.ty (E.ty t).elem).size)) (E.ty (E.ty t).elem).size = some cs' ∧ ts.length = (E.ty (E.ty t).elem).size ∧ typed E n (E.ty t).elem ts ∧ Reads w ts cs' := by
          intro i hi
          have h1 := hel i hi
          rw [ce] at h1
          have hil : i < elems.length := by omega
          rw [List.getElem?_eq_getElem hil, Option.bind_eq_some_iff] at h1
          obtain ⟨cs', g1, g2⟩ := h1
          obtain ⟨ts, k1, k2, k3⟩ := trod_typed hP n (E.ty t).elem m cs' elems[i].1 elems[i].2 hp g2 (fun x hx => hw x (by
            simp only [DataW.weights, hu]
            refine List.mem_cons_of_mem _ (List.mem_append_left _ (weights_all (d := elems[i].1) (List.mem_map.2 ⟨_, List.getElem_mem hil, rfl⟩) hx))))
          exact ⟨cs', ts, g1, k1, k2, k3⟩
        have hbw : len * (E.ty (E.ty t).elem).bytes ≤ 140737488351232 := by
          have := hw ((elems.length + rest.length) * P.bytesOf (E.ty t).elem) (by simp [DataW.weights, hu])
          rw [be, hlen] at this
          have h2 := Nat.mul_le_mul_right (E.ty (E.ty t).elem).bytes (Nat.le_add_right len rest.length)
          exact Nat.le_trans h2 this
        -- the trees
        have hch : ∃ f : Nat → List T, ∀ i, i < len → ∃ cs', w.cells? base (a.add (i * (E.ty (E.ty t).elem).size)) (E.ty (E.ty t).elem).size = some cs' ∧ (f i).length = (E.ty (E.ty t).elem).size ∧ typed E n (E.ty t).elem (f i) ∧ Reads w (f i) cs' := by
          refine ⟨fun i => if h : i < len then (each i h).choose_spec.choose else [], fun i hi => ⟨(each i hi).choose, ?_⟩⟩
          simp only [dif_pos hi]
          exact (each i hi).choose_spec.choose_spec
        obtain ⟨f, hf⟩ := hch
        let el : List T → T := fun cs => if (E.ty (E.ty t).elem).agg then T.agg cs else cs.headD (.bool false)
        have hcells : ∀ i, i < len → (el (f i)).cells = f i := by
          intro i hi
          obtain ⟨cs', g1, g2, g3, g4⟩ := hf i hi
          simp only [el]
          split
          · rfl
          · rename_i hag
            have : (E.ty (E.ty t).elem).size = 1 := j10 (by simpa using hag)
            rw [this] at g2
            match hfi : f i, g2 with
            | [y], _ => exact one_cells (g4.2.1 y (by rw [hfi]; simp))
        refine ⟨[.list ((List.range len).map fun i => el (f i))], by rw [hone (by simp [hk])]; rfl, ?_, reads_one rfl ?_⟩
        · simp only [typed, hk]
          refine ⟨by simpa using hbw, fun x hx => ?_⟩
          obtain ⟨i, hi, rfl⟩ := List.mem_map.1 hx
          obtain ⟨cs', g1, g2, g3, g4⟩ := hf i (by simpa using hi)
          exact ⟨f i, rfl, g2, g3⟩
        · have hlen2 : ((List.range len).map fun i => el (f i)).length = len := by simp
          have hget : ∀ (j : Nat) x, ((List.range len).map fun i => el (f i))[j]? = some x → j < len ∧ x = el (f j) := by
            intro j x hx
            have hj := (List.getElem?_eq_some_iff.1 hx).1
            rw [hlen2] at hj
            rw [List.getElem?_map, List.getElem?_range hj] at hx
            exact ⟨hj, by simpa using hx.symm⟩
          have hmem : ∀ x ∈ ((List.range len).map fun i => el (f i)), ∃ j, j < len ∧ x = el (f j) := by
            intro x hx
            obtain ⟨j, hj⟩ := List.mem_iff_getElem?.1 hx
            exact ⟨j, hget j x hj⟩
          have hcell : ∀ j i, j < len → i < (E.ty (E.ty t).elem).size → ∃ v, w.cell? (a.add (j * (E.ty (E.ty t).elem).size + i)) = some v ∧ ∀ y, (f j)[i]? = some y → RD (fun k => k < w.heap.size) w y v := by
            intro j i hj hi
            obtain ⟨cs', g1, g2, g3, g4⟩ := hf j hj
            have hlen3 : cs'.length = (E.ty (E.ty t).elem).size := by rw [← g4.1, g2]
            have hcv := (World.cells?_some g1).2.2 i hi
            rw [add_add] at hcv
            have hi3 : i < cs'.length := by omega
            rw [List.getElem?_eq_getElem hi3] at hcv
            exact ⟨_, hcv, fun y hy => g4.2.2 i y _ hy (List.getElem?_eq_getElem hi3)⟩
          have hval := RD.list (F := fun k => k < w.heap.size) (w := w) ((List.range len).map fun i => el (f i)) (some a) cap (E.ty (E.ty t).elem).size (fun j i => (w.cell? (a.add (j * (E.ty (E.ty t).elem).size + i))).getD undef) (by rw [hlen2]; exact hl) hm j7
            (fun x hx => by
              obtain ⟨j, hj, rfl⟩ := hmem x hx
              obtain ⟨cs', g1, g2, g3, g4⟩ := hf j hj
              rw [hcells j hj, g2])
            (fun x hx y hy => by
              obtain ⟨j, hj, rfl⟩ := hmem x hx
              obtain ⟨cs', g1, g2, g3, g4⟩ := hf j hj
              rw [hcells j hj] at hy
              exact g4.2.1 y hy)
            (fun hne => by
              have hpos : 0 < len := by
                rw [← hlen2]; exact List.length_pos_iff.2 hne
              obtain ⟨v, hv, _⟩ := hcell 0 0 hpos j7
              obtain ⟨g, o, sp⟩ := a
              cases sp with
              | some sp =>
                exfalso
                have ha : (⟨g, o, some sp⟩ : Addr).add (0 * (E.ty (E.ty t).elem).size + 0) = ⟨g, o, some sp⟩ := by simp [Addr.add]
                rw [ha] at hv
                simp only [World.cell?] at hv
                split at hv <;> simp at hv
              | none =>
                refine ⟨g, o, rfl, ?_, fun j i hj hi => ?_⟩
                · rw [add_at] at hv
                  simp only [World.cell?] at hv
                  by_cases hg : g < w.heap.size
                  · exact hg
                  · rw [Array.getElem?_eq_none (Nat.le_of_not_lt hg)] at hv
                    simp at hv
                · rw [hlen2] at hj
                  obtain ⟨v, hv, _⟩ := hcell j i hj hi
                  have hv' := hv
                  rw [add_at] at hv'
                  rw [hv', hv]
                  rfl)
            (fun j x i y hx hy => by
              obtain ⟨hj, rfl⟩ := hget j x hx
              rw [hcells j hj] at hy
              have hi := (List.getElem?_eq_some_iff.1 hy).1
              obtain ⟨cs', g1, g2, g3, g4⟩ := hf j hj
              rw [g2] at hi
              obtain ⟨v, hv, hr⟩ := hcell j i hj hi
              rw [hv]
              exact hr y hy)
          rw [hlen2] at hval
          exact hval
    | struct =>
      rw [hk] at hu
      obtain ⟨fs, hu, hsz, hfs⟩ := hu
      simp only [plainTy, hk, Bool.and_eq_true] at hp
      obtain ⟨hp1, hp2⟩ := hp
      have hp2' := List.all_eq_true.1 hp2
      obtain ⟨xs, m, _, hx, hcl, hxl, hxs⟩ := DataW.trod_struct hu h
      simp only [Prod.mk.injEq] at hx
      obtain ⟨rfl, rfl⟩ := hx
      rw [(cellsOf_ok hP hne).1] at hcl
      rw [← hcl] at hp1
      obtain ⟨ts, k1, k2⟩ := struct_reads (E := E) (w := w) (n := n) (cs := cs) (E.ty t).fields 0 hp1 (fun p hp => by
        obtain ⟨j, hj⟩ := List.mem_iff_getElem?.1 hp
        obtain ⟨f, e1, e2, e3⟩ := hfs j p.1 p.2 hj
        have hpl := hp2' p hp
        have h1 := hxs j f e1
        rw [e2, e3, (cellsOf_ok hP (plain_known hpl)).1] at h1
        have hjf := (Array.getElem?_eq_some_iff.1 e1).1
        have hjx : j < xs.length := by omega
        rw [List.getElem?_eq_getElem hjx] at h1
        obtain ⟨ts, k1, k2, k3⟩ := trod_typed hP n p.2 m _ xs[j].1 xs[j].2 hpl h1 (fun x hx => hw x (by
          simp only [DataW.weights, hu]
          refine DataW.weights_mem_each (j := j) (t := p.2) (d := xs[j].1) ?_ ?_ x hx
          · rw [List.getElem?_map, Array.getElem?_toList, e1]; simp [e3]
          · rw [List.getElem?_map, List.getElem?_eq_getElem hjx]; rfl))
        exact ⟨ts, k1, k2, k3⟩)
      rw [List.drop_zero] at k1
      have hl : ts.length = (E.ty t).size := by rw [k1.1, hcl]
      refine ⟨ts, hl, ?_, k1⟩
      simp only [typed, hk]
      exact ⟨hl, fun p hp => by simpa using (k2 p hp).2⟩
    | flat => simp [plainTy, hk] at hp
    | other => simp [plainTy, hk] at hp

theorem run_callsL (hE : SOK E P) (hL : Laid E (fun k => k < w.heap.size) w) {f : Nat} {fn : Func} {xs : List X} {vals : Array Value} {bs : List (Option X)} (hf : P.funcs[f]? = some fn) (hb : fn.body.isSome = true) (hx : XVs E (fun k => k < w.heap.size) w xs vals.toList []) (h : run E (.call f xs) = some (.res [.t (.bool true)] bs)) :
    Calls P f vals w (fun e w' => e = .returned (.bool true) ∧ Below w.heap.size w w') := by
  obtain ⟨_, hc⟩ := sound hE _ _ h
  have := hc (fun k => k < w.heap.size) w vals [] hx (by simp) (by simp) (fun _ h => h) hL
  have hnm := hE.name f fn hf hb
  have hnm' : ¬ fn.name = "runtime.NumGoroutine" := by simpa using hnm
  have hbn : fn.body.isNone = false := by
    cases hbb : fn.body with
    | none => rw [hbb] at hb; simp at hb
    | some c => rfl
  have hrun : (callFunc f vals).run P w = .ok (.enter f vals) w := by
    cases hbb : fn.body with
    | none => rw [hbb] at hb; simp at hb
    | some c => simp [callFunc, hf, hnm', hbb]
  rcases this with ⟨_, h2⟩ | ⟨v, w', h1, _⟩
  · refine h2.mono ?_
    rintro e w' ⟨us, rfl, F', br, bb, s1, _, _, _, s5, _⟩
    cases s5 with
    | cons h r =>
      cases r
      cases h with
      | t h =>
        cases h
        exact ⟨rfl, s1.os, s1.tape, s1.out, s1.size, fun k hk => s1.blk k hk (by simp)⟩
  · rw [hrun] at h1
    simp at h1
theorem run_calls (hE : SOK E P) (hg : ∀ g, E.glob g = []) {f : Nat} {fn : Func} {xs : List X} {vals : Array Value} {bs : List (Option X)} (hf : P.funcs[f]? = some fn) (hb : fn.body.isSome = true) (hx : XVs E (fun k => k < w.heap.size) w xs vals.toList []) (h : run E (.call f xs) = some (.res [.t (.bool true)] bs)) :
    Calls P f vals w (fun e w' => e = .returned (.bool true) ∧ Below w.heap.size w w') :=
  run_callsL hE (fun g h => absurd (hg g) h) hf hb hx h
theorem one_of_okWide (hP : POK E P) {n t b0 : Nat} {r : Reach} {v : Value} (hp : plainTy E n t = true) (ha : (E.ty t).agg = false) (hv : Value.okWide P w r b0 t v) : oneV v = true := by
  have hu := (hP.ty t).und
  cases n with
  | zero => cases hp
  | succ n =>
    cases hk : (E.ty t).k <;> rw [hk] at hu <;> simp only at hu
    all_goals first
      | (simp [plainTy, hk] at hp; done)
      | (simp [TI.agg, hk] at ha; done)
      | (simp only [Value.okWide, hu, Cell.okWide] at hv
         cases v <;> first | rfl | (simp [Cell.ok, hu] at hv; done))
def pack (E : Env) (t : Nat) (ts : List T) : T := if (E.ty t).agg then .agg ts else ts.headD (.bool false)
theorem reads_value (hP : POK E P) {n t b0 : Nat} {r : Reach} {v : Value} {ts : List T} (hp : plainTy E n t = true) (hv : Value.okWide P w r b0 t v) (hl : ts.length = (E.ty t).size) (h : Reads w ts v.cells.toList) : RD (fun k => k < w.heap.size) w (pack E t ts) v := by
  obtain ⟨q, z, i1, i2, i3, i4, i5, i6, i7, i8, i9, i10⟩ := (hP.ty t).info (plain_known hp)
  unfold pack
  cases ha : (E.ty t).agg with
  | true =>
    have hk : (E.ty t).k = .struct := by
      unfold TI.agg at ha
      split at ha
      · assumption
      · cases ha
    have hu := (hP.ty t).und
    rw [hk] at hu
    obtain ⟨fs, hu, _⟩ := hu
    simp only [Value.okWide, hu] at hv
    obtain ⟨cs, rfl, _, _⟩ := hv
    obtain ⟨h1, h2, h3⟩ := h
    simp only [if_true]
    exact .agg ts cs (by simpa [Value.cells] using h1) h2 (fun i c v hc hv => h3 i c v hc (by simpa [Value.cells] using hv))
  | false =>
    have h1 := oneV_cells (one_of_okWide hP hp ha hv)
    rw [i10 ha] at hl
    rw [h1] at h
    simp only [Bool.false_eq_true, if_false]
    match ts, hl with
    | [y], _ => exact h.2.2 0 y v rfl rfl
def TypedAll (E : Env) (n : Nat) : List Nat → List (List T) → Prop
  | [], [] => True
  | t :: ts, y :: ys => typed E n t y ∧ TypedAll E n ts ys
  | _, _ => False
def packs (E : Env) : List Nat → List (List T) → List X
  | t :: ts, y :: ys => .t (pack E t y) :: packs E ts ys
  | _, _ => []
theorem args_ok (hP : POK E P) {n b0 : Nat} {r : Reach} : ∀ {ts : List Nat} {vs : List Value} {ds : List (DataW H)} {ps : List MemPlace}, (∀ t ∈ ts, plainTy E n t = true) → DataW.TrodAll enc P w base spare held ts vs ds ps → (∀ (j : Nat) t v, ts[j]? = some t → vs[j]? = some v → Value.okWide P w r b0 t v) →
    (∀ x ∈ DataW.weightsEach P ts ds, x ≤ reachBytes) → ∃ tss, TypedAll E n ts tss ∧ XVs E (fun k => k < w.heap.size) w (packs E ts tss) vs []
  | [], vs, ds, ps, hp, h, hv, hw => by
    cases vs <;> cases ds <;> simp [DataW.TrodAll] at h
    exact ⟨[], trivial, .nil⟩
  | t :: ts, vs, ds, ps, hp, h, hv, hw => by
    cases vs <;> cases ds <;> simp [DataW.TrodAll] at h
    rename_i v vs d ds
    obtain ⟨p, ⟨fuel, hf⟩, q, hq, _⟩ := h
    simp only [DataW.weightsEach, List.mem_append] at hw
    obtain ⟨y, y1, y2, y3⟩ := trod_typed hP n t fuel _ d p (hp t (by simp)) hf (fun x hx => hw x (.inl hx))
    obtain ⟨ys, k1, k2⟩ := args_ok hP (fun t ht => hp t (List.mem_cons_of_mem _ ht)) hq (fun j t v ht hv' => hv (j + 1) t v (by simpa using ht) (by simpa using hv')) (fun x hx => hw x (.inr hx))
    exact ⟨y :: ys, ⟨y2, k1⟩, .cons (b := []) (.t (reads_value hP (hp t (by simp)) (hv 0 t v rfl rfl) y1 y3)) k2⟩
theorem trodAll_back {w' : World} (hl : laidOutB P = true) : ∀ {ts : List Nat} {vs : List Value} {ds : List (DataW H)} {ps : List MemPlace}, (∀ t ∈ ts, P.readableRec t = true ∧ t < P.types.size) → DataW.TrodAll enc P w 0 (fun _ => true) true ts vs ds ps → Below w.heap.size w w' →
    DataW.TrodAll enc P w' 0 (fun b => decide (b < w.heap.size)) true ts vs ds ps
  | [], vs, ds, ps, hr, h, hb => by
    cases vs <;> cases ds <;> simp [DataW.TrodAll] at h ⊢
    exact h
  | t :: ts, vs, ds, ps, hr, h, hb => by
    cases vs <;> cases ds <;> simp [DataW.TrodAll] at h ⊢
    obtain ⟨p, hp, q, hq, e⟩ := h
    refine ⟨p, Below.trod hl (hr t (by simp)).1 (hr t (by simp)).2 hp hb ?_, q, trodAll_back hl (fun t ht => hr t (List.mem_cons_of_mem _ ht)) hq hb, e⟩
    obtain ⟨m, hm⟩ := hp
    exact DataW.trod_lt m _ _ _ hm
end
end Go.Ev
namespace Go.Ev
set_option linter.unusedSimpArgs false
set_option linter.unusedVariables false

def TI.none : TI := { k := .other, size := 0, bytes := 0, zero := [], elem := 0, fields := [] }
def kindOf : TypeDesc → TK
  | .int k => .int k
  | .bool => .bool
  | .string => .str
  | .slice _ => .slice
  | .struct _ => .struct
  | .array _ _ => .other
  | _ => .flat
def elemOf : TypeDesc → Nat
  | .slice e => e
  | _ => 0
def fieldsOf : TypeDesc → List (Nat × Nat)
  | .struct fs => fs.toList.map fun f => (f.offset, f.type)
  | _ => []
def isAggV : Value → Bool
  | .agg _ => true
  | _ => false
def tyMk (d : TypeDesc) (q : TypeInfo) (z : Value) : TI := { k := kindOf d, size := q.size, bytes := q.bytes, zero := z.cells.toList.map ofConst, elem := elemOf d, fields := fieldsOf d }
def tyGood (i : TI) (z : Value) : Bool := (z.cells.size == i.size) && decide (0 < i.size) && i.zero.all SV.one && (isAggV z == i.agg) && (i.agg || i.size == 1)
def tyOf (P : Program) (t : Nat) : TI :=
  match P.underlying t, P.info? t with
  | some d, some q => match q.zero with
    | some z => if tyGood (tyMk d q z) z = true then tyMk d q z else .none
    | none => .none
  | _, _ => .none

theorem tyOK_none (P : Program) (t : Nat) : TyOK P t .none := ⟨trivial, fun h => absurd rfl h⟩
theorem tyOf_ok (P : Program) (t : Nat) : TyOK P t (tyOf P t) := by
  unfold tyOf
  split
  · rename_i d q hd hq
    split
    · rename_i z hz
      split
      · rename_i hg
        simp only [tyGood, Bool.and_eq_true, beq_iff_eq, decide_eq_true_eq, Bool.or_eq_true] at hg
        obtain ⟨⟨⟨⟨g1, g2⟩, g3⟩, g4⟩, g5⟩ := hg
        refine ⟨?_, fun _ => ⟨q, z, hq, rfl, rfl, hz, by simp [tyMk], by simpa [tyMk] using g1, g2, fun j s v hs hv => ?_, ?_, fun ha => ?_⟩⟩
        · cases d <;> simp only [tyMk, kindOf, elemOf, fieldsOf] <;> first
            | exact hd
            | exact ⟨_, hd, trivial⟩
            | exact trivial
            | (refine ⟨_, hd, by simp, fun j o ft hj => ?_⟩
               rw [List.getElem?_map, Option.map_eq_some_iff] at hj
               obtain ⟨f, hf, e⟩ := hj
               simp only [Prod.mk.injEq] at e
               exact ⟨f, by simpa using hf, e.1, e.2⟩)
        · simp only [tyMk, List.getElem?_map, Option.map_eq_some_iff] at hs
          obtain ⟨u, hu, rfl⟩ := hs
          rw [Array.getElem?_toList, hv] at hu
          obtain rfl := Option.some.inj hu
          refine ⟨rfl, List.all_eq_true.1 g3 _ ?_⟩
          simp only [tyMk, List.mem_map]
          exact ⟨v, by simpa using Array.mem_of_getElem? hv, rfl⟩
        · cases z <;> simp only [isAggV] at g4 ⊢ <;> exact g4.symm
        · rcases g5 with g5 | g5
          · rw [ha] at g5; cases g5
          · exact g5
      · exact tyOK_none P t
    · exact tyOK_none P t
  · exact tyOK_none P t

def kindAt (P : Program) (t : Nat) : TK := match P.underlying t with
  | some d => kindOf d
  | none => .other
def flatKind : TK → Bool
  | .int _ | .bool | .str => true
  | _ => false
def eqGood (P : Program) : Nat → List Field → Bool
  | _, [] => true
  | i, f :: r => f.offset == i && f.name != "_" && flatKind (kindAt P f.type) && eqGood P (i + 1) r
def eqKinds (P : Program) (t : Nat) : List TK := match P.underlying t with
  | some (.struct fs) => if !P.stoodInHeld t && !P.eqGuardType P.depth t && eqGood P 0 fs.toList then fs.toList.map fun f => kindAt P f.type else []
  | _ => []
theorem kindAt_und {P : Program} {t : Nat} (h : flatKind (kindAt P t) = true) : (∃ k, kindAt P t = .int k ∧ P.underlying t = some (.int k)) ∨ (kindAt P t = .bool ∧ P.underlying t = some .bool) ∨ (kindAt P t = .str ∧ P.underlying t = some .string) := by
  unfold kindAt at *
  cases hd : P.underlying t with
  | none => simp [hd, flatKind] at h
  | some d =>
    cases d <;> simp [hd, kindOf, flatKind] at h ⊢

section
variable {P : Program} {w : World}
theorem eqOne {d t : Nat} {F : Nat → Prop} {x y : T} {u v : Value} {r q : List T} {b : Bool} (hf : flatKind (kindAt P t) = true) (hx : RD F w x u) (hy : RD F w y v) (ks : List TK) (hk : kindsOK (kindAt P t :: ks) (x :: r) = true) (hk' : kindsOK (kindAt P t :: ks) (y :: q) = true) (h : eqCells (x :: r) (y :: q) = some b) :
    ∃ b1 b2, (Op.equalIn (d + 1) t u v).run P w = .ok b1 w ∧ eqCells r q = some b2 ∧ b = (b1 && b2) ∧ kindsOK ks r = true ∧ kindsOK ks q = true ∧ (isAgg t).run P w = .ok false w := by
  rcases kindAt_und hf with ⟨k, h1, h2⟩ | ⟨h1, h2⟩ | ⟨h1, h2⟩ <;> rw [h1] at hk hk'
  · cases x <;> simp only [kindsOK] at hk <;> first | contradiction | skip
    cases y <;> simp only [kindsOK] at hk' <;> first | contradiction | skip
    cases hx; cases hy
    simp only [eqCells] at h
    split at h
    · rename_i hkk
      subst hkk
      rw [Option.map_eq_some_iff] at h
      obtain ⟨b2, e1, e2⟩ := h
      exact ⟨_, b2, by simp [Op.equalIn, und_run h2], e1, e2.symm, hk, hk', by simp [isAgg, und_run h2]⟩
    · cases h
  · cases x <;> simp only [kindsOK] at hk <;> first | contradiction | skip
    cases y <;> simp only [kindsOK] at hk' <;> first | contradiction | skip
    cases hx; cases hy
    simp only [eqCells] at h
    rw [Option.map_eq_some_iff] at h
    obtain ⟨b2, e1, e2⟩ := h
    exact ⟨_, b2, by simp [Op.equalIn, und_run h2], e1, e2.symm, hk, hk', by simp [isAgg, und_run h2]⟩
  · cases x <;> simp only [kindsOK] at hk <;> first | contradiction | skip
    cases y <;> simp only [kindsOK] at hk' <;> first | contradiction | skip
    cases hx; cases hy
    simp only [eqCells] at h
    rw [Option.map_eq_some_iff] at h
    obtain ⟨b2, e1, e2⟩ := h
    rename_i s1 s2
    refine ⟨s1 == s2, b2, ?_, e1, e2.symm, hk, hk', by simp [isAgg, und_run h2]⟩
    have := run_equalIn_string (P := P) w d t ⟨⟨s1⟩⟩ ⟨⟨s2⟩⟩ h2
    rwa [toList_mk, toList_mk] at this

end

/-- An array type, of elements of one cell. -/
def arrOf (P : Program) (t : Nat) : Option (Nat × Nat) := match P.underlying t with
  | some (.array n e) => match P.info? e with
    | some q => if q.size = 1 then some (n, e) else none
    | none => none
  | _ => none
theorem arrOf_ok {P : Program} {t n e : Nat} (h : arrOf P t = some (n, e)) : P.underlying t = some (.array n e) ∧ ∃ q, P.info? e = some q ∧ q.size = 1 := by
  unfold arrOf at h
  split at h
  · rename_i n' e' hu
    split at h
    · rename_i q hq
      split at h
      · rename_i h1
        simp only [Option.some.injEq, Prod.mk.injEq] at h
        obtain ⟨rfl, rfl⟩ := h
        exact ⟨hu, q, hq, h1⟩
      · cases h
    · cases h
  · cases h
/-- The surroundings of a program. -/
def envOf (P : Program) (md : Nat → List Bool) (flat : Nat → Bool) (ext : Nat → Option (List X → Option (List X × List (Option X)))) (draw : Array Oper → Option (List Oper)) (drawS : Array Oper → Option (List (Nat × Nat) × List Oper)) (glob : Nat → List T := fun _ => []) : Env :=
  { glob := glob, arr := arrOf P, ty := tyOf P, eqT := eqKinds P, fn := fun f => P.funcs[f]?, md := md, flat := flat, ext := ext, draw := draw, drawS := drawS }
def namesOK (P : Program) : Bool := P.funcs.all fun fn => !(fn.body.isSome && fn.name == "runtime.NumGoroutine")
theorem namesOK_name {P : Program} (h : namesOK P = true) (f : Nat) (fn : Func) (hf : P.funcs[f]? = some fn) (hb : fn.body.isSome = true) : (fn.name == "runtime.NumGoroutine") = false := by
  unfold namesOK at h
  rw [Array.all_eq_true'] at h
  have := h fn (Array.mem_of_getElem? hf)
  simpa [hb] using this

noncomputable def thenOps (E : Env) (all : Array Oper) (r : List Oper) (o : Option St) : Option Out := match o with
  | none => none
  | some st => run E (.ops none all r st)
noncomputable def thenOpsS (E : Env) (ck : List (Nat × Nat)) (ls : List Lab) (all : Array Oper) (r : List Oper) (o : Option St) : Option Out := match o with
  | none => none
  | some st => run E (.ops (some (ck, ls)) all r st)
noncomputable def thenBackS (E : Env) (st : St) (f : SV) (vs : List SV) (dst : Option Nat) (o : Option Out) : Option St := match o with
  | some (.res rs bs) => match callBackS E st f vs rs bs with
    | none => none
    | some q => some (q.2.put dst q.1)
  | _ => none
noncomputable def thenGoS (E : Env) (st : St) (f : SV) (vs : List SV) (dst : Option Nat) (o : Option (Nat × List X)) : Option St := match o with
  | none => none
  | some p => thenBackS E st f vs dst (run E (.call p.1 p.2))
noncomputable def thenSeq (E : Env) (b : Code) (o : Option Out) : Option Out := match o with
  | none => none
  | some (.st .normal st) => run E (.code b st)
  | some o => some o
def thenBlock (id : Nat) (o : Option Out) : Option Out := match o with
  | none => none
  | some (.st (.exit j) st) => if j = id then some (.st .normal st) else some (.st (.exit j) st)
  | some o => some o
noncomputable def thenLoop (E : Env) (c : Code) (o : Option Out) : Option Out := match o with
  | none => none
  | some (.st .normal st) => run E (.code (.loop c) st)
  | some o => some o
noncomputable def thenCall (E : Env) (fl : Bool) (rvs : List ResultVar) (ms : List SV) (o : Option Out) : Option Out := match o with
  | some (.st e st) => if e = .normal ∨ e = .ret then (st.finish E fl rvs ms).map fun p => .res p.1 p.2 else none
  | _ => none
noncomputable def thenBack (E : Env) (st : St) (f : SV) (vs : List SV) (dst : Option Nat) (o : Option Out) : Option St := match o with
  | some (.res rs bs) => match callBack E st f vs rs bs with
    | none => none
    | some q => some (q.2.put dst q.1)
  | _ => none
noncomputable def thenGo (E : Env) (st : St) (f : SV) (vs : List SV) (dst : Option Nat) (o : Option (Nat × List X)) : Option St := match o with
  | none => none
  | some p => thenBack E st f vs dst (run E (.call p.1 p.2))
def thenPut (dst : Option Nat) (o : Option (SV × St)) : Option St := match o with
  | none => none
  | some q => some (q.2.put dst q.1)

section
variable (E : Env) (all : Array Oper) (r : List Oper) (b c : Code) (st : St) (id j f : Nat) (fn : Func) (args : List X) (sv : SV) (vs : List SV) (dst : Option Nat) (p : Prop) [Decidable p]
theorem thenOps_some : thenOps E all r (some st) = run E (.ops none all r st) := rfl
theorem thenOpsS_some (ck : List (Nat × Nat)) (ls : List Lab) : thenOpsS E ck ls all r (some st) = run E (.ops (some (ck, ls)) all r st) := rfl
theorem thenOpsS_ite (ck : List (Nat × Nat)) (ls : List Lab) (x y : Option St) : thenOpsS E ck ls all r (if p then x else y) = if p then thenOpsS E ck ls all r x else thenOpsS E ck ls all r y := by split <;> rfl
theorem thenBackS_res (rs : List X) (bs : List (Option X)) : thenBackS E st sv vs dst (some (.res rs bs)) = thenPut dst (callBackS E st sv vs rs bs) := by
  simp only [thenBackS, thenPut]
theorem thenBackS_ite (x y : Option Out) : thenBackS E st sv vs dst (if p then x else y) = if p then thenBackS E st sv vs dst x else thenBackS E st sv vs dst y := by split <;> rfl
theorem thenGoS_some (q : Nat × List X) : thenGoS E st sv vs dst (some q) = thenBackS E st sv vs dst (run E (.call q.1 q.2)) := rfl
theorem thenOps_ite (x y : Option St) : thenOps E all r (if p then x else y) = if p then thenOps E all r x else thenOps E all r y := by split <;> rfl
theorem thenSeq_normal : thenSeq E b (some (.st .normal st)) = run E (.code b st) := rfl
theorem thenSeq_exit : thenSeq E b (some (.st (.exit j) st)) = some (.st (.exit j) st) := rfl
theorem thenSeq_ret : thenSeq E b (some (.st .ret st)) = some (.st .ret st) := rfl
theorem thenSeq_ite (x y : Option Out) : thenSeq E b (if p then x else y) = if p then thenSeq E b x else thenSeq E b y := by split <;> rfl
theorem thenBlock_normal : thenBlock id (some (.st .normal st)) = some (.st .normal st) := rfl
theorem thenBlock_exit : thenBlock id (some (.st (.exit j) st)) = if j = id then some (.st .normal st) else some (.st (.exit j) st) := rfl
theorem thenBlock_ret : thenBlock id (some (.st .ret st)) = some (.st .ret st) := rfl
theorem thenBlock_ite (x y : Option Out) : thenBlock id (if p then x else y) = if p then thenBlock id x else thenBlock id y := by split <;> rfl
theorem thenLoop_normal : thenLoop E c (some (.st .normal st)) = run E (.code (.loop c) st) := rfl
theorem thenLoop_exit : thenLoop E c (some (.st (.exit j) st)) = some (.st (.exit j) st) := rfl
theorem thenLoop_ret : thenLoop E c (some (.st .ret st)) = some (.st .ret st) := rfl
theorem thenLoop_ite (x y : Option Out) : thenLoop E c (if p then x else y) = if p then thenLoop E c x else thenLoop E c y := by split <;> rfl
theorem thenCall_normal (fl : Bool) (rvs : List ResultVar) (ms : List SV) : thenCall E fl rvs ms (some (.st .normal st)) = (st.finish E fl rvs ms).map fun p => .res p.1 p.2 := by simp [thenCall]
theorem thenCall_ret (fl : Bool) (rvs : List ResultVar) (ms : List SV) : thenCall E fl rvs ms (some (.st .ret st)) = (st.finish E fl rvs ms).map fun p => .res p.1 p.2 := by simp [thenCall]
theorem thenCall_ite (fl : Bool) (rvs : List ResultVar) (ms : List SV) (x y : Option Out) : thenCall E fl rvs ms (if p then x else y) = if p then thenCall E fl rvs ms x else thenCall E fl rvs ms y := by split <;> rfl
theorem thenBack_res (rs : List X) (bs : List (Option X)) : thenBack E st sv vs dst (some (.res rs bs)) = thenPut dst (callBack E st sv vs rs bs) := by
  simp only [thenBack, thenPut]
theorem thenBack_ite (x y : Option Out) : thenBack E st sv vs dst (if p then x else y) = if p then thenBack E st sv vs dst x else thenBack E st sv vs dst y := by split <;> rfl
theorem thenGo_some (q : Nat × List X) : thenGo E st sv vs dst (some q) = thenBack E st sv vs dst (run E (.call q.1 q.2)) := rfl
theorem thenPut_some (q : SV × St) : thenPut dst (some q) = some (q.2.put dst q.1) := rfl
theorem thenPut_ite (x y : Option (SV × St)) : thenPut dst (if p then x else y) = if p then thenPut dst x else thenPut dst y := by split <;> rfl

noncomputable def stepO (o : Oper) : Option St :=
  if dstOk st o = false then none else match guardOf all st o with
          | none => none
          | some false => some (st.put o.dst (.tup []))
          | some true => match o.op with
            | .call c => match c.callee with
              | .value f => thenGo E st (st.val f) (c.args.toList.map st.val) o.dst (callPrep E st (st.val f) (c.args.toList.map st.val))
              | .builtin b => thenPut o.dst (st.builtin E b c.argTypes.toList (c.args.toList.map st.val))
              | _ => none
            | op => thenPut o.dst (st.op E op)
noncomputable def stepS (o : Oper) : Option St :=
  if dstOk st o = false then none else match guardOf all st o with
          | none => none
          | some false => some (st.put o.dst (.tup []))
          | some true => match o.op with
            | .call c => match c.callee with
              | .value f => thenGoS E st (st.val f) (c.args.toList.map st.val) o.dst (callPrep E st (st.val f) (c.args.toList.map st.val))
              | .builtin b => thenPut o.dst (st.builtin E b c.argTypes.toList (c.args.toList.map st.val))
              | _ => none
            | op => thenPut o.dst (st.opS E op)
def labS (o : Oper) : Lab := match guardOf all st o with
  | some false => .skip
  | _ => labOf E st o
theorem run_call {fn : Func} {c : Code} {n : Nat} {rvs : List ResultVar} (hx : E.ext f = none) (hf : E.fn f = some fn) (hb : fn.body = some c) (hn : fn.ntmps = n) (hr : fn.results.toList = rvs) (hl : args.length ≤ n) :
    run E (.call f args) = thenCall E (E.flat f) rvs (muts (E.md f) (emptySt.bindAll args).1) (run E (.code c (initSt n (emptySt.bindAll args).1 (emptySt.bindAll args).2))) := by
  rw [run_eq]; unfold body; simp only [hx, hf, hb]
  subst hn; subst hr
  unfold thenCall
  cases run E (.code c (initSt fn.ntmps (emptySt.bindAll args).1 (emptySt.bindAll args).2)) with
  | none => rfl
  | some o => cases o with
    | st e s => simp [hl]
    | res rs bs => rfl
theorem run_seq (a : Code) : run E (.code (.seq a b) st) = thenSeq E b (run E (.code a st)) := by
  rw [run_eq]; unfold body
  dsimp only
  unfold thenSeq
  cases run E (.code a st) with
  | none => rfl
  | some o => cases o with
    | st e s => cases e <;> rfl
    | res rs bs => rfl
theorem run_region (id : Nat) (ops : Array Oper) : run E (.code (.region id ops false) st) = run E (.ops none ops ops.toList st) := by rw [run_eq]; rfl
theorem run_region_draw (id : Nat) (ops : Array Oper) {l : List Oper} (h : E.draw ops = some l) : run E (.code (.region id ops true) st) = run E (.ops none ops l st) := by rw [run_eq]; unfold body; simp [h]
theorem run_region_drawS (id : Nat) (ops : Array Oper) {ck : List (Nat × Nat)} {l : List Oper} (h0 : E.draw ops = none) (h : E.drawS ops = some (ck, l)) : run E (.code (.region id ops true) st) = run E (.ops (some (ck, [])) ops l st) := by rw [run_eq]; unfold body; simp [h0, h]
theorem run_cond (c : Operand) (a : Code) : run E (.code (.cond c a b) st) = match st.val c with
      | .t (.bool x) => if x = true then run E (.code a st) else run E (.code b st)
      | _ => none := by rw [run_eq]; rfl
theorem run_ret : run E (.code .ret st) = some (.st .ret st) := by rw [run_eq]; rfl
theorem run_skip : run E (.code .skip st) = some (.st .normal st) := by rw [run_eq]; rfl
theorem run_exit (id : Nat) : run E (.code (.exit id) st) = some (.st (.exit id) st) := by rw [run_eq]; rfl
theorem run_block (id : Nat) : run E (.code (.block id c) st) = thenBlock id (run E (.code c st)) := by
  rw [run_eq]; unfold body
  dsimp only
  unfold thenBlock
  cases run E (.code c st) with
  | none => rfl
  | some o => cases o with
    | st e s => cases e <;> rfl
    | res rs bs => rfl
theorem run_loop : run E (.code (.loop c) st) = thenLoop E c (run E (.code c st)) := by
  conv => lhs; rw [run_eq]; unfold body
  dsimp only
  unfold thenLoop
  cases run E (.code c st) with
  | none => rfl
  | some o => cases o with
    | st e s => cases e <;> rfl
    | res rs bs => rfl
theorem run_nil : run E (.ops none all [] st) = some (.st .normal st) := by rw [run_eq]; rfl
theorem run_nilS (ck : List (Nat × Nat)) (ls : List Lab) : run E (.ops (some (ck, ls)) all [] st) = if ckOK ck ls = true then some (.st .normal st) else none := by rw [run_eq]; rfl
theorem run_ext {g : List X → Option (List X × List (Option X))} (hx : E.ext f = some g) : run E (.call f args) = (g args).map fun p => .res p.1 p.2 := by
  rw [run_eq]; unfold body; simp only [hx]
theorem run_cons (o : Oper) : run E (.ops none all (o :: r) st) = thenOps E all r (stepO E all st o) := by
  rw [run_eq]; unfold body
  unfold stepO thenOps
  simp only [pushM, Option.map_none]
  split
  · rfl
  · split
    · rename_i h; rw [h]
    · rename_i h; rw [h]
    · rename_i h0; rw [h0]
      split
      · rename_i f args _ h
        rw [h]
        simp only [thenGo]
        cases hp : callPrep E st (st.val f) (args.toList.map st.val) with
        | none => rfl
        | some p =>
          obtain ⟨g, xs⟩ := p
          simp only [thenBack]
          cases hc : run E (.call g xs) with
          | none => rfl
          | some out =>
            cases out with
            | st e s => rfl
            | res rs bs =>
              simp only [Option.bind_eq_bind, Option.bind_some, callBackM]
              cases callBack E st (st.val f) (args.toList.map st.val) rs bs with
              | none => rfl
              | some q => rfl
      · rename_i hne
        have key : ∀ c, o.op = .call c → ∀ f, c.callee ≠ .value f := by
          intro c hc f hf
          obtain ⟨ce, ar, at_⟩ := c
          simp only at hf
          subst hf
          exact hne _ _ _ hc
        have hq : (match o.op with
            | .call c => match c.callee with
              | .value f => thenGo E st (st.val f) (c.args.toList.map st.val) o.dst (callPrep E st (st.val f) (c.args.toList.map st.val))
              | .builtin b => thenPut o.dst (st.builtin E b c.argTypes.toList (c.args.toList.map st.val))
              | _ => none
            | op => thenPut o.dst (st.op E op)) = thenPut o.dst (st.op E o.op) := by
          cases hop : o.op with
          | call c =>
            cases hcc : c.callee with
            | value f => exact absurd hcc (key c hop f)
            | builtin b => simp only [St.op, hcc]
            | invoke _ _ => simp only [St.op, hcc]; rfl
          | _ => rfl
        dsimp only at hq ⊢
        rw [hq]
        unfold thenPut
        simp only [St.opM]
        cases St.op E st o.op <;> rfl
theorem run_consS (ck : List (Nat × Nat)) (ls : List Lab) (o : Oper) : run E (.ops (some (ck, ls)) all (o :: r) st) = thenOpsS E ck (ls ++ [labS E all st o]) all r (stepS E all st o) := by
  rw [run_eq]; unfold body
  unfold stepS thenOpsS labS
  simp only [pushM, Option.map_some]
  split
  · rfl
  · split
    · rename_i h; rw [h]
    · rename_i h; rw [h]
    · rename_i h0; rw [h0]
      split
      · rename_i f args _ h
        rw [h]
        simp only [thenGoS]
        cases hp : callPrep E st (st.val f) (args.toList.map st.val) with
        | none => rfl
        | some p =>
          obtain ⟨g, xs⟩ := p
          simp only [thenBackS]
          cases hc : run E (.call g xs) with
          | none => rfl
          | some out =>
            cases out with
            | st e s => rfl
            | res rs bs =>
              simp only [Option.bind_eq_bind, Option.bind_some, callBackM]
              cases callBackS E st (st.val f) (args.toList.map st.val) rs bs with
              | none => rfl
              | some q => rfl
      · rename_i hne
        have key : ∀ c, o.op = .call c → ∀ f, c.callee ≠ .value f := by
          intro c hc f hf
          obtain ⟨ce, ar, at_⟩ := c
          simp only at hf
          subst hf
          exact hne _ _ _ hc
        have hq : (match o.op with
            | .call c => match c.callee with
              | .value f => thenGoS E st (st.val f) (c.args.toList.map st.val) o.dst (callPrep E st (st.val f) (c.args.toList.map st.val))
              | .builtin b => thenPut o.dst (st.builtin E b c.argTypes.toList (c.args.toList.map st.val))
              | _ => none
            | op => thenPut o.dst (st.opS E op)) = thenPut o.dst (st.opS E o.op) := by
          cases hop : o.op with
          | call c =>
            cases hcc : c.callee with
            | value f => exact absurd hcc (key c hop f)
            | builtin b => simp only [St.opS, St.op, hcc]
            | invoke _ _ => simp only [St.opS, St.op, hcc]; rfl
          | _ => rfl
        try dsimp only at hq ⊢
        rw [hq]
        unfold thenPut
        simp only [St.opM]
        cases St.opS st E o.op <;> rfl
end

def predsOf (m : Region.Mode) (ops : Array Oper) (i : Nat) : List Nat := match ops[i]? with
  | some o => (o.after.toList.filter (Region.binds m)).map (·.on)
  | none => []
def anc (m : Region.Mode) (ops : Array Oper) : Nat → Nat → Nat → Bool
  | 0, _, _ => false
  | f + 1, i, j => (predsOf m ops i).any fun k => k == j || anc m ops f k j
def passIx {α : Type} (it : Nat → Option α) (p : α → α → Bool) (j i : Nat) : Bool := match it j, it i with
  | some x, some y => p x y
  | _, _ => false
def pairsOK {α : Type} (it : Nat → Option α) (p : α → α → Bool) (m : Region.Mode) (ops : Array Oper) : List Nat → Bool
  | [] => true
  | j :: r => (r.all fun i => passIx it p j i || anc m ops ops.size i j) && pairsOK it p m ops r
def backOK (m : Region.Mode) (ops : Array Oper) : Bool := (List.range ops.size).all fun i => (predsOf m ops i).all fun k => decide (k < i)

section
variable {α : Type} {it : Nat → Option α} {p : α → α → Bool} {ops : Array Oper} {m : Region.Mode}
theorem pairs_at {pre post : List Nat} {i : Nat} : ∀ {l : List Nat}, pairsOK it p m ops l = true → l = pre ++ i :: post → ∀ j ∈ pre, passIx it p j i = true ∨ anc m ops ops.size i j = true := by
  induction pre with
  | nil => intro l _ _ j hj; cases hj
  | cons p ps ih =>
    intro l h e j hj
    subst e
    simp only [List.cons_append, pairsOK, Bool.and_eq_true] at h
    rcases List.mem_cons.1 hj with rfl | hj
    · have := List.all_eq_true.1 h.1 i (by simp)
      simpa using this
    · exact ih h.2 rfl j hj
theorem pairs_drop {pre post : List Nat} {i : Nat} (h : pairsOK it p m ops (pre ++ i :: post) = true) : pairsOK it p m ops (pre ++ post) = true := by
  induction pre with
  | nil => simp only [List.nil_append, pairsOK, Bool.and_eq_true] at h ⊢; exact h.2
  | cons p ps ih =>
    simp only [List.cons_append, pairsOK, Bool.and_eq_true] at h ⊢
    refine ⟨?_, ih h.2⟩
    rw [List.all_eq_true] at h ⊢
    intro x hx
    refine h.1 x ?_
    rcases List.mem_append.1 hx with hx | hx
    · exact List.mem_append_left _ hx
    · exact List.mem_append_right _ (List.mem_cons_of_mem _ hx)
theorem swaps_front {i : Nat} {o : α} (ho : it i = some o) : ∀ {pre post : List Nat}, (∀ j ∈ pre, passIx it p j i = true) → Swaps p ((pre ++ i :: post).filterMap it) (o :: (pre ++ post).filterMap it)
  | [], post, _ => by
    have : (i :: post).filterMap it = o :: post.filterMap it := by simp [List.filterMap_cons, ho]
    simp only [List.nil_append, this]
    exact .refl _
  | q :: ps, post, h => by
    have hp := h q (by simp)
    unfold passIx at hp
    split at hp
    · rename_i x y hx hy
      rw [ho] at hy
      obtain rfl := Option.some.inj hy
      have h1 := swaps_front (post := post) ho (fun j hj => h j (List.mem_cons_of_mem _ hj))
      have e1 : (q :: ps ++ i :: post).filterMap it = x :: (ps ++ i :: post).filterMap it := by simp [List.filterMap_cons, hx]
      have e2 : (q :: ps ++ post).filterMap it = x :: (ps ++ post).filterMap it := by simp [List.filterMap_cons, hx]
      rw [e1, e2]
      exact (Swaps.cons h1).trans (.swap hp (.refl _))
    · cases hp
/-- What is listed has all that it stands behind listed. -/
def Closed (m : Region.Mode) (ops : Array Oper) (listed : Array Bool) : Prop := ∀ i, listed.getD i true = true → i < ops.size → ∀ k ∈ predsOf m ops i, k < ops.size → listed.getD k true = true
theorem anc_listed {listed : Array Bool} (hc : Closed m ops listed) (hb : backOK m ops = true) : ∀ (f i j : Nat), i < ops.size → (∀ k ∈ predsOf m ops i, listed.getD k true = true) → anc m ops f i j = true → listed.getD j true = true
  | 0, i, j, hi, hp, h => by cases h
  | f + 1, i, j, hi, hp, h => by
    simp only [anc, List.any_eq_true, Bool.or_eq_true, beq_iff_eq] at h
    obtain ⟨k, hk, h⟩ := h
    rcases h with rfl | h
    · exact hp k hk
    · have hlt : k < i := by
        have := List.all_eq_true.1 hb i (by simpa using hi)
        have := List.all_eq_true.1 this k hk
        simpa using this
      exact anc_listed hc hb f k j (by omega) (fun q hq => hc k (hp k hk) (by omega) q hq (by
        have := List.all_eq_true.1 hb k (by simp; omega)
        have := List.all_eq_true.1 this q hq
        simp at this
        omega)) h
theorem ready_iff {listed : Array Bool} {i : Nat} : i ∈ Region.ready m ops listed ↔ i < ops.size ∧ listed.getD i true = false ∧ ∃ o, ops[i]? = some o ∧ o.after.all (fun e => !Region.binds m e || listed.getD e.on false) = true := by
  unfold Region.ready
  rw [List.mem_filter, List.mem_range]
  constructor
  · rintro ⟨h1, h2⟩
    simp only [Bool.and_eq_true, Bool.not_eq_true'] at h2
    refine ⟨h1, h2.1, ops[i], Array.getElem?_eq_getElem h1, ?_⟩
    have := h2.2
    rw [Array.getElem?_eq_getElem h1] at this
    simpa using this
  · rintro ⟨h1, h2, o, ho, h3⟩
    refine ⟨h1, ?_⟩
    simp only [Bool.and_eq_true, Bool.not_eq_true']
    refine ⟨h2, ?_⟩
    rw [ho]
    simpa using h3
theorem preds_listed {listed : Array Bool} {o : Oper} {i : Nat} (hsz : listed.size = ops.size) (ho : ops[i]? = some o) (h : o.after.all (fun e => !Region.binds m e || listed.getD e.on false) = true) : ∀ k ∈ predsOf m ops i, listed.getD k true = true := by
  intro k hk
  simp only [predsOf, ho, List.mem_map, List.mem_filter] at hk
  obtain ⟨e, ⟨he, hb⟩, rfl⟩ := hk
  rw [Array.all_eq_true'] at h
  have := h e (by simpa using he)
  simp only [hb, Bool.not_true, Bool.false_or] at this
  simp only [Array.getD_eq_getD_getElem?] at this ⊢
  cases hg : listed[e.on]? with
  | none => rfl
  | some b => rw [hg] at this; simpa using this
theorem getD_set_true' {listed : Array Bool} {i j : Nat} (h : listed.getD j true = true) : (listed.setIfInBounds i true).getD j true = true := by
  simp only [Array.getD_eq_getD_getElem?, Array.getElem?_setIfInBounds] at h ⊢
  split
  · split <;> rfl
  · exact h
theorem least_of : ∀ {l : List Nat}, l ≠ [] → ∃ i ∈ l, ∀ j ∈ l, i ≤ j
  | [], h => absurd rfl h
  | [x], _ => ⟨x, by simp, by simp⟩
  | x :: y :: r, _ => by
    obtain ⟨i, hi, hj⟩ := least_of (l := y :: r) (by simp)
    by_cases hxi : x ≤ i
    · refine ⟨x, by simp, fun j hj' => ?_⟩
      rcases List.mem_cons.1 hj' with rfl | h
      · exact Nat.le_refl _
      · exact Nat.le_trans hxi (hj j h)
    · refine ⟨i, List.mem_cons_of_mem _ hi, fun j hj' => ?_⟩
      rcases List.mem_cons.1 hj' with rfl | h
      · omega
      · exact hj j h
theorem go_swaps (hit : ∀ i o, ops[i]? = some o → ∃ x, it i = some x) (hb : backOK m ops = true) : ∀ (fuel t : Nat) (listed : Array Bool) (l : List Nat), listed.size = ops.size → l.Nodup → (∀ i, i ∈ l ↔ i < ops.size ∧ listed.getD i true = false) → l.length ≤ fuel → Closed m ops listed → pairsOK it p m ops l = true →
    Swaps p (l.filterMap it) ((Region.linearise.go m ops fuel t listed []).filterMap it)
  | 0, t, listed, l, hsz, hn, hl, hf, hc, hp => by
    have : l = [] := List.eq_nil_of_length_eq_zero (by omega)
    subst this
    exact .refl _
  | fuel + 1, t, listed, l, hsz, hn, hl, hf, hc, hp => by
    simp only [Region.linearise.go]
    have hrs : ((List.range ops.size).filter fun i => !listed.getD i true && ((ops[i]?).map (·.after.all fun e => !Region.binds m e || listed.getD e.on false)).getD false) = Region.ready m ops listed := rfl
    rw [hrs]
    split
    · rename_i i hi
      have him := List.mem_of_getElem? hi
      obtain ⟨h1, h2, o, ho, h3⟩ := ready_iff.1 him
      have hil := (hl i).2 ⟨h1, h2⟩
      obtain ⟨pre, post, rfl⟩ := List.append_of_mem hil
      have hpl := preds_listed hsz ho h3
      have hpass : ∀ j ∈ pre, passIx it p j i = true := by
        intro j hj
        rcases pairs_at hp rfl j hj with h | h
        · exact h
        · have := anc_listed hc hb _ i j h1 hpl h
          have hj' := ((hl j).1 (List.mem_append_left _ hj)).2
          rw [hj'] at this; cases this
      obtain ⟨ox, hox⟩ := hit i o ho
      have hsw := swaps_front (post := post) hox hpass
      rw [linearise_go_acc]
      have e1 : ([i].reverse ++ Region.linearise.go m ops fuel (t / (Region.ready m ops listed).length) (listed.setIfInBounds i true) []).filterMap it = ox :: (Region.linearise.go m ops fuel (t / (Region.ready m ops listed).length) (listed.setIfInBounds i true) []).filterMap it := by
        simp [List.filterMap_cons, hox]
      rw [e1]
      refine hsw.trans (.cons (go_swaps hit hb fuel _ (listed.setIfInBounds i true) (pre ++ post) (by simp [hsz]) ?_ (fun k => ?_) ?_ ?_ (pairs_drop hp)))
      · rw [List.nodup_append] at hn ⊢
        obtain ⟨n1, n2, n3⟩ := hn
        exact ⟨n1, (List.nodup_cons.1 n2).2, fun a ha b hb => n3 a ha b (List.mem_cons_of_mem _ hb)⟩
      · have hni : i ∉ pre ++ post := by
          rw [List.nodup_append] at hn
          obtain ⟨n1, n2, n3⟩ := hn
          intro h
          rcases List.mem_append.1 h with h | h
          · exact n3 i h i (by simp) rfl
          · exact (List.nodup_cons.1 n2).1 h
        have hk := hl k
        have hiff : k ∈ pre ++ i :: post ↔ k = i ∨ k ∈ pre ++ post := by simp; constructor <;> (intro h; rcases h with h | h | h <;> simp [h])
        by_cases hki : k = i
        · subst hki
          constructor
          · intro h; exact absurd h hni
          · rintro ⟨_, h⟩
            have : (listed.setIfInBounds k true).getD k true = true := by
              simp [Array.getD_eq_getD_getElem?, Array.getElem?_setIfInBounds, hsz, h1]
            rw [this] at h; cases h
        · rw [getD_set_ne true (fun e => hki e.symm)]
          rw [← hk, hiff]
          constructor
          · intro h; exact .inr h
          · rintro (h | h)
            · exact absurd h hki
            · exact h
      · simp at hf ⊢; omega
      · intro q hq hqs k hk hks
        by_cases hqi : q = i
        · subst hqi
          exact getD_set_true' (hpl k hk)
        · rw [getD_set_ne true (fun e => hqi e.symm)] at hq
          exact getD_set_true' (hc q hq hqs k hk hks)
    · rename_i hnone
      -- nothing is ready: nothing is left
      have hr0 : Region.ready m ops listed = [] := by
        cases hr : Region.ready m ops listed with
        | nil => rfl
        | cons x xs =>
          exfalso
          rw [hr] at hnone
          have : t % (x :: xs).length < (x :: xs).length := Nat.mod_lt _ (by simp)
          rw [List.getElem?_eq_getElem this] at hnone
          cases hnone
      have : l = [] := by
        by_cases hl0 : l = []
        · exact hl0
        · exfalso
          have hmin := least_of hl0
          obtain ⟨i, hi, hj⟩ := hmin
          obtain ⟨h1, h2⟩ := (hl i).1 hi
          have : i ∈ Region.ready m ops listed := by
            refine ready_iff.2 ⟨h1, h2, ops[i], Array.getElem?_eq_getElem h1, ?_⟩
            rw [Array.all_eq_true']
            intro e he
            cases hbe : Region.binds m e with
            | false => rfl
            | true =>
              have hpm : e.on ∈ predsOf m ops i := by
                simp only [predsOf, Array.getElem?_eq_getElem h1, List.mem_map, List.mem_filter]
                exact ⟨e, ⟨by simpa using he, hbe⟩, rfl⟩
              have hlt : e.on < i := by
                have := List.all_eq_true.1 hb i (by simpa using h1)
                have := List.all_eq_true.1 this e.on hpm
                simpa using this
              have hnl : e.on ∉ l := fun h => by have := hj e.on h; omega
              have hon : e.on < ops.size := by omega
              have : listed.getD e.on true = true := by
                cases hg : listed.getD e.on true with
                | true => rfl
                | false => exact absurd ((hl e.on).2 ⟨hon, hg⟩) hnl
              simp only [Bool.not_true, Bool.false_or]
              rw [Array.getD_eq_getD_getElem?] at this ⊢
              rw [Array.getElem?_eq_getElem (by omega)] at this ⊢
              exact this
          rw [hr0] at this
          cases this
      subst this
      exact .refl _
end

/-- Readers as early as they may stand, what is allocated as late. -/
def canon (E : Env) (ops : Array Oper) : Nat → Array Bool → List Nat
  | 0, _ => []
  | f + 1, listed =>
    let rs := Region.ready .any ops listed
    match rs.find? (fun i => match ops[i]? with
      | some o => isReader E o.op
      | none => false) with
    | some i => i :: canon E ops f (listed.setIfInBounds i true)
    | none => match rs.find? (fun i => match ops[i]? with
      | some o => !isAlloc o.op
      | none => false) with
      | some i => i :: canon E ops f (listed.setIfInBounds i true)
      | none => match rs with
        | [] => []
        | i :: _ => i :: canon E ops f (listed.setIfInBounds i true)
def canon0 (E : Env) (ops : Array Oper) : List Nat := canon E ops ops.size (Array.replicate ops.size false)
def nodupB : List Nat → Bool
  | [] => true
  | x :: r => !r.contains x && nodupB r
theorem nodupB_ok : ∀ {l : List Nat}, nodupB l = true → l.Nodup
  | [], _ => by simp
  | x :: r, h => by
    simp only [nodupB, Bool.and_eq_true, Bool.not_eq_true'] at h
    exact List.nodup_cons.2 ⟨by simpa using h.1, nodupB_ok h.2⟩
def shapeOK (ops : Array Oper) (l : List Nat) : Bool :=
  backOK .any ops && (nodupB l && (l.all (fun i => decide (i < ops.size)) && (List.range ops.size).all (fun i => l.contains i)))
def drawGood (E : Env) (ops : Array Oper) (l : List Nat) : Bool :=
  shapeOK ops l && pairsOK (ops[·]?) (mayPassG E false ops) .any ops l
def drawOf (E : Env) (ops : Array Oper) : Option (List Oper) :=
  if drawGood E ops (canon0 E ops) = true then some ((canon0 E ops).filterMap (ops[·]?)) else none
/-- May the two stand either way by rule? -/
def statOK (E : Env) (ops : Array Oper) (j i : Nat) : Bool := passIx (ops[·]?) (mayPassG E true ops) j i || anc .any ops ops.size i j
def candOK (ops : Array Oper) (j i : Nat) : Bool := passIx (ops[·]?) (fun x y => disjointS x y && guardsApart ops x y) j i
/-- What is to be asked of the labels: places in the order. -/
def ckRow (E : Env) (ops : Array Oper) (j p : Nat) : Nat → List Nat → List (Nat × Nat)
  | _, [] => []
  | q, i :: r => if statOK E ops j i = true then ckRow E ops j p (q + 1) r else (p, q) :: ckRow E ops j p (q + 1) r
def ckOf (E : Env) (ops : Array Oper) : Nat → List Nat → List (Nat × Nat)
  | _, [] => []
  | p, j :: r => ckRow E ops j p (p + 1) r ++ ckOf E ops (p + 1) r
def candsOK (E : Env) (ops : Array Oper) : List Nat → Bool
  | [] => true
  | j :: r => (r.all fun i => statOK E ops j i || candOK ops j i) && candsOK E ops r
def drawSOf (E : Env) (ops : Array Oper) : Option (List (Nat × Nat) × List Oper) :=
  if (shapeOK ops (canon0 E ops) && candsOK E ops (canon0 E ops)) = true then some (ckOf E ops 0 (canon0 E ops), (canon0 E ops).filterMap (ops[·]?)) else none

section
variable {E : Env} {ops : Array Oper}
theorem sched_swaps {α : Type} {it : Nat → Option α} {p : α → α → Bool} {P : Program} (hm : P.follows .mixedOrders = true) {l : List Nat} (hs : shapeOK ops l = true) (hp : pairsOK it p .any ops l = true) (hit : ∀ i o, ops[i]? = some o → ∃ x, it i = some x) (t : Nat) :
    Swaps p (l.filterMap it) ((Region.schedule (P.follows .mixedOrders) ops t).filterMap it) := by
  unfold shapeOK at hs
  simp only [Bool.and_eq_true] at hs
  obtain ⟨g2, g4, g5, g6⟩ := hs
  have hnd := nodupB_ok g4
  rw [hm]
  have hs : Region.schedule true ops t = Region.linearise.go .any ops ops.size t (Array.replicate ops.size false) [] := by
    simp [Region.schedule, Region.linearise]
  rw [hs]
  have hmem : ∀ i, i ∈ l ↔ i < ops.size := by
    intro i
    constructor
    · intro hi
      have := List.all_eq_true.1 g5 i hi
      simpa using this
    · intro hi
      have := List.all_eq_true.1 g6 i (by simpa using hi)
      simpa using this
  refine go_swaps hit g2 ops.size t _ _ (by simp) hnd (fun i => ?_) ?_ ?_ hp
  · rw [hmem]
    constructor
    · intro hi
      refine ⟨hi, ?_⟩
      simp [Array.getD_eq_getD_getElem?, hi]
    · exact fun h => h.1
  · have hsub : l ⊆ List.range ops.size := fun i hi => by simpa using (hmem i).1 hi
    have := hnd.length_le_of_subset hsub
    simpa using this
  · intro i hi his
    have : (Array.replicate ops.size false).getD i true = false := by simp [Array.getD_eq_getD_getElem?, his]
    rw [this] at hi; cases hi
theorem drawOf_ok {P : Program} (hm : P.follows .mixedOrders = true) {l : List Oper} (h : drawOf E ops = some l) : ∀ t, Swaps (mayPassG E false ops) l ((Region.schedule (P.follows .mixedOrders) ops t).filterMap (ops[·]?)) := by
  unfold drawOf at h
  split at h
  · rename_i hg
    obtain rfl := Option.some.inj h
    unfold drawGood at hg
    rw [Bool.and_eq_true] at hg
    exact fun t => sched_swaps hm hg.1 hg.2 (fun i o ho => ⟨o, ho⟩) t
  · cases h
theorem ckRow_ok {j p : Nat} {ls : List Lab} : ∀ {r : List Nat} {q : Nat}, ckOK (ckRow E ops j p q r) ls = true → ∀ (k i : Nat), r[k]? = some i → statOK E ops j i = true ∨ dynOK (ls.getD p .no) (ls.getD (q + k) .no) = true
  | [], q, h, k, i, hk => by simp at hk
  | x :: r, q, h, k, i, hk => by
    unfold ckRow at h
    cases k with
    | zero =>
      simp at hk
      subst hk
      split at h
      · rename_i hs; exact .inl hs
      · unfold ckOK at h
        rw [List.all_cons, Bool.and_eq_true] at h
        exact .inr h.1
    | succ k =>
      have hk' : r[k]? = some i := by simpa using hk
      have e : q + (k + 1) = q + 1 + k := by omega
      rw [e]
      split at h
      · exact ckRow_ok h k i hk'
      · unfold ckOK at h
        rw [List.all_cons, Bool.and_eq_true] at h
        exact ckRow_ok h.2 k i hk'
theorem passIx_lab {lab : Nat → Lab} {j i : Nat} : passIx (ops[·]?) (mayPassG E true ops) j i = true ∨ (passIx (ops[·]?) (fun x y => disjointS x y && guardsApart ops x y) j i = true ∧ dynOK (lab j) (lab i) = true) → passIx (fun i => (ops[i]?).map fun o => (o, lab i)) (passL E ops) j i = true := by
  unfold passIx
  cases hj : ops[j]? <;> cases hi : ops[i]? <;> simp [hj, hi]
  · rename_i x y
    intro h
    unfold passL passD
    rcases h with h | ⟨⟨h1, h2⟩, h3⟩
    · simp [h]
    · simp [h1, h2, h3]
theorem pairs_lab {lab : Nat → Lab} {ls : List Lab} : ∀ {suf : List Nat} {p : Nat}, candsOK E ops suf = true → ckOK (ckOf E ops p suf) ls = true → (∀ k i, suf[k]? = some i → lab i = ls.getD (p + k) .no) → pairsOK (fun i => (ops[i]?).map fun o => (o, lab i)) (passL E ops) .any ops suf = true
  | [], p, hc, hk, hl => rfl
  | j :: r, p, hc, hk, hl => by
    unfold candsOK at hc
    rw [Bool.and_eq_true] at hc
    obtain ⟨hc1, hc2⟩ := hc
    unfold ckOf ckOK at hk
    rw [List.all_append, Bool.and_eq_true] at hk
    obtain ⟨hk1, hk2⟩ := hk
    unfold pairsOK
    rw [Bool.and_eq_true]
    refine ⟨?_, pairs_lab hc2 hk2 (fun k i hi => ?_)⟩
    · rw [List.all_eq_true]
      intro i hi
      obtain ⟨k, hki⟩ := List.mem_iff_getElem?.1 hi
      have hcand := List.all_eq_true.1 hc1 i hi
      rw [Bool.or_eq_true] at hcand ⊢
      have hj := hl 0 j rfl
      have hi2 := hl (k + 1) i (by simpa using hki)
      rw [Nat.add_zero] at hj
      have e : p + (k + 1) = p + 1 + k := by omega
      rw [e] at hi2
      have stat : statOK E ops j i = true → passIx (fun i => (ops[i]?).map fun o => (o, lab i)) (passL E ops) j i = true ∨ anc .any ops ops.size i j = true := by
        intro h
        unfold statOK at h
        rw [Bool.or_eq_true] at h
        rcases h with h | h
        · exact .inl (passIx_lab (.inl h))
        · exact .inr h
      rcases ckRow_ok hk1 k i hki with h | h
      · exact stat h
      · rcases hcand with hs | hcand
        · exact stat hs
        · exact .inl (passIx_lab (.inr ⟨hcand, by rw [hj, hi2]; exact h⟩))
    · have := hl (k + 1) i (by simpa using hi)
      rw [this]
      congr 1
      omega
theorem idxOf_nodup : ∀ {l : List Nat} {k i : Nat}, l.Nodup → l[k]? = some i → l.idxOf i = k
  | [], k, i, _, h => by simp at h
  | x :: r, k, i, hn, h => by
    obtain ⟨hn1, hn2⟩ := List.nodup_cons.1 hn
    cases k with
    | zero => simp at h; subst h; simp
    | succ k =>
      have h' : r[k]? = some i := by simpa using h
      have hne : x ≠ i := fun e => hn1 (e ▸ List.mem_of_getElem? h')
      rw [List.idxOf_cons]
      have hb : (x == i) = false := by simpa using hne
      rw [hb, idxOf_nodup hn2 h']
      rfl
theorem zip_lab : ∀ {l : List Nat} {ls : List Lab}, (∀ i ∈ l, i < ops.size) → ∀ {lab : Nat → Lab}, (∀ k i, l[k]? = some i → lab i = ls.getD k .no) → l.length ≤ ls.length → (l.filterMap (ops[·]?)).zip ls = l.filterMap (fun i => (ops[i]?).map fun o => (o, lab i))
  | [], ls, h, lab, hl, hlen => by simp
  | j :: r, [], h, lab, hl, hlen => by simp at hlen
  | j :: r, x :: ls, h, lab, hl, hlen => by
    have hj : j < ops.size := h j (by simp)
    have ho : ops[j]? = some ops[j] := Array.getElem?_eq_getElem hj
    have hlj : lab j = x := by simpa using hl 0 j rfl
    have ih := zip_lab (l := r) (ls := ls) (fun i hi => h i (by simp [hi])) (lab := lab) (fun k i hi => by simpa using hl (k + 1) i (by simpa using hi)) (by simpa using hlen)
    simp only [List.filterMap_cons, ho, Option.map_some, List.zip_cons_cons, ih, hlj]
theorem drawSOf_ok {P : Program} (hm : P.follows .mixedOrders = true) {p : List (Nat × Nat) × List Oper} (h : drawSOf E ops = some p) (ls : List Lab) (hlen : ls.length = p.2.length) (hck : ckOK p.1 ls = true) : ∀ t, ∃ lab : Nat → Lab, Swaps (passL E ops) (p.2.zip ls) ((Region.schedule (P.follows .mixedOrders) ops t).filterMap (fun i => (ops[i]?).map fun o => (o, lab i))) := by
  unfold drawSOf at h
  split at h
  · rename_i hg
    obtain rfl := Option.some.inj h
    rw [Bool.and_eq_true] at hg
    obtain ⟨hs, hc⟩ := hg
    have hs0 := hs
    unfold shapeOK at hs
    simp only [Bool.and_eq_true] at hs
    obtain ⟨g2, g4, g5, g6⟩ := hs
    have hnd := nodupB_ok g4
    have hlt : ∀ i ∈ canon0 E ops, i < ops.size := fun i hi => by simpa using List.all_eq_true.1 g5 i hi
    have hfl : ∀ {l : List Nat}, (∀ i ∈ l, i < ops.size) → (l.filterMap (ops[·]?)).length = l.length := by
      intro l
      induction l with
      | nil => intro _; rfl
      | cons j r ih =>
        intro h
        have hj : j < ops.size := h j (by simp)
        have ho : ops[j]? = some ops[j] := Array.getElem?_eq_getElem hj
        simp only [List.filterMap_cons, ho, List.length_cons, ih (fun i hi => h i (by simp [hi]))]
    simp only at hlen hck
    rw [hfl hlt] at hlen
    intro t
    refine ⟨fun i => ls.getD ((canon0 E ops).idxOf i) .no, ?_⟩
    have hlab : ∀ k i, (canon0 E ops)[k]? = some i → (fun i => ls.getD ((canon0 E ops).idxOf i) Lab.no) i = ls.getD (0 + k) .no := by
      intro k i hk
      simp only [idxOf_nodup hnd hk, Nat.zero_add]
    have hz := zip_lab (ops := ops) (ls := ls) (l := canon0 E ops) hlt (lab := fun i => ls.getD ((canon0 E ops).idxOf i) Lab.no) (fun k i hk => by
      have := hlab k i hk
      rwa [Nat.zero_add] at this) (by rw [hlen]; exact Nat.le_refl _)
    simp only
    rw [hz]
    exact sched_swaps hm hs0 (pairs_lab hc hck hlab) (fun i o ho => ⟨_, by simp [ho]; rfl⟩) t
  · cases h
end

/-- The surroundings of a program, whole. -/
def envG (P : Program) (md : Nat → List Bool) (flat : Nat → Bool) (ext : Nat → Option (List X → Option (List X × List (Option X)))) (glob : Nat → List T) : Env :=
  envOf P md flat ext (drawOf (envOf P md flat ext (fun _ => none) (fun _ => none))) (drawSOf (envOf P md flat ext (fun _ => none) (fun _ => none))) glob
theorem Swaps.of {α : Type} {p q : α → α → Bool} (h : ∀ x y, p x y = q x y) {l l' : List α} (k : Swaps p l l') : Swaps q l l' := by
  have : p = q := funext fun x => funext fun y => h x y
  rwa [this] at k
abbrev envD (P : Program) (md : Nat → List Bool) (flat : Nat → Bool) (ext : Nat → Option (List X → Option (List X × List (Option X)))) : Env := envG P md flat ext (fun _ => [])

/-- The kinds of a struct's cells, field by field. -/
def eqFs (g : Nat → Option (List TK)) : Nat → List Field → Option (List TK)
  | _, [] => some []
  | i, f :: r => if (f.offset == i && f.name != "_") = true then
      match g f.type with
      | some ks => match eqFs g (i + ks.length) r with
        | some l => some (ks ++ l)
        | none => none
      | none => none
    else none
def eqKN (P : Program) : Nat → Nat → Option (List TK)
  | 0, _ => none
  | n + 1, t => if flatKind (kindAt P t) = true then some [kindAt P t] else
      match P.underlying t, P.info? t with
      | some (.struct fs), some q => if P.stoodInHeld t = false then
          match eqFs (eqKN P n) 0 fs.toList with
          | some ks => if q.size = ks.length then some ks else none
          | none => none
        else none
      | _, _ => none
def eqKinds2 (P : Program) (t : Nat) : List TK := match P.underlying t with
  | some (.struct fs) => if !P.stoodInHeld t && !P.eqGuardType P.depth t then (eqFs (eqKN P 8) 0 fs.toList).getD [] else []
  | _ => []
theorem kinds_len : ∀ {ks : List TK} {xs : List T}, kindsOK ks xs = true → xs.length = ks.length
  | [], [], _ => rfl
  | [], _ :: _, h => by simp [kindsOK] at h
  | k :: ks, [], h => by cases k <;> simp [kindsOK] at h
  | k :: ks, x :: xs, h => by
    have : kindsOK ks xs = true := by cases k <;> cases x <;> simp [kindsOK] at h <;> exact h
    simp [kinds_len this]
theorem kinds_split : ∀ {ks l : List TK} {xs : List T}, kindsOK (ks ++ l) xs = true → ∃ x1 x2, xs = x1 ++ x2 ∧ kindsOK ks x1 = true ∧ kindsOK l x2 = true
  | [], l, xs, h => ⟨[], xs, rfl, rfl, h⟩
  | k :: ks, l, [], h => by cases k <;> simp [kindsOK] at h
  | k :: ks, l, x :: xs, h => by
    have h' : kindsOK (ks ++ l) xs = true ∧ ∀ ys, kindsOK ks ys = true → kindsOK (k :: ks) (x :: ys) = true := by
      cases k <;> cases x <;> simp [kindsOK] at h ⊢ <;> exact h
    obtain ⟨x1, x2, rfl, h1, h2⟩ := kinds_split h'.1
    exact ⟨x :: x1, x2, rfl, h'.2 _ h1, h2⟩
theorem eqCells_split : ∀ {x1 y1 x2 y2 : List T} {b : Bool}, x1.length = y1.length → eqCells (x1 ++ x2) (y1 ++ y2) = some b → ∃ b1 b2, eqCells x1 y1 = some b1 ∧ eqCells x2 y2 = some b2 ∧ b = (b1 && b2)
  | [], [], x2, y2, b, _, h => ⟨true, b, rfl, h, by simp⟩
  | [], _ :: _, _, _, _, h, _ => by simp at h
  | _ :: _, [], _, _, _, h, _ => by simp at h
  | x :: x1, y :: y1, x2, y2, b, hl, h => by
    have hl' : x1.length = y1.length := by simpa using hl
    cases x <;> cases y <;> simp only [List.cons_append, eqCells] at h <;> first | contradiction | skip
    · split at h
      · rename_i hk
        rw [Option.map_eq_some_iff] at h
        obtain ⟨c, hc, rfl⟩ := h
        obtain ⟨b1, b2, e1, e2, rfl⟩ := eqCells_split hl' hc
        exact ⟨_, b2, (by simp only [eqCells, if_pos hk, e1, Option.map_some]; rfl), e2, by rw [Bool.and_assoc]⟩
      · cases h
    · rw [Option.map_eq_some_iff] at h
      obtain ⟨c, hc, rfl⟩ := h
      obtain ⟨b1, b2, e1, e2, rfl⟩ := eqCells_split hl' hc
      exact ⟨_, b2, (by simp only [eqCells, e1, Option.map_some]; rfl), e2, by rw [Bool.and_assoc]⟩
    · rw [Option.map_eq_some_iff] at h
      obtain ⟨c, hc, rfl⟩ := h
      obtain ⟨b1, b2, e1, e2, rfl⟩ := eqCells_split hl' hc
      exact ⟨_, b2, (by simp only [eqCells, e1, Option.map_some]; rfl), e2, by rw [Bool.and_assoc]⟩
section
variable {P : Program} {w : World}
/-- Cells of an array, from a place on, hold data. -/
def CellsAt (F : Nat → Prop) (w : World) (vs : Array Value) (i : Nat) (xs : List T) : Prop := ∀ (j : Nat) x, xs[j]? = some x → ∃ v, vs[i + j]? = some v ∧ RD F w x v
theorem CellsAt.left {F : Nat → Prop} {vs : Array Value} {i : Nat} {x1 x2 : List T} (h : CellsAt F w vs i (x1 ++ x2)) : CellsAt F w vs i x1 := fun j x hj => h j x (by
  have := (List.getElem?_eq_some_iff.1 hj).1
  rw [List.getElem?_append_left this]; exact hj)
theorem CellsAt.right {F : Nat → Prop} {vs : Array Value} {i : Nat} {x1 x2 : List T} (h : CellsAt F w vs i (x1 ++ x2)) : CellsAt F w vs (i + x1.length) x2 := fun j x hj => by
  obtain ⟨v, h1, h2⟩ := h (x1.length + j) x (by rw [List.getElem?_append_right (by omega)]; simpa using hj)
  exact ⟨v, by rw [← h1]; congr 1; omega, h2⟩
theorem CellsAt.cut {F : Nat → Prop} {vs : Array Value} {i n : Nat} {xs : List T} (h : CellsAt F w vs i xs) (hn : xs.length = n) : CellsAt F w (vs.extract i (i + n)) 0 xs := fun j x hj => by
  obtain ⟨v, h1, h2⟩ := h j x hj
  have hlt := (List.getElem?_eq_some_iff.1 hj).1
  refine ⟨v, ?_, h2⟩
  rw [Array.getElem?_extract, Nat.zero_add]
  have hlt2 := (Array.getElem?_eq_some_iff.1 h1).1
  rw [if_pos (by omega)]
  exact h1
theorem eqFs_run {F : Nat → Prop} {d n : Nat} {vs us : Array Value}
    (ih : ∀ t ks, eqKN P n t = some ks → ∀ xs ys b i, kindsOK ks xs = true → kindsOK ks ys = true → eqCells xs ys = some b → CellsAt F w vs i xs → CellsAt F w us i ys → ∃ v u, (part t vs i).run P w = .ok v w ∧ (part t us i).run P w = .ok u w ∧ (Op.equalIn d t v u).run P w = .ok b w) :
    ∀ (fs : List Field) (i : Nat) (l : List TK) (xs ys : List T) (b : Bool), eqFs (eqKN P n) i fs = some l → kindsOK l xs = true → kindsOK l ys = true → eqCells xs ys = some b → CellsAt F w vs i xs → CellsAt F w us i ys → (Op.eqFields d vs us fs).run P w = .ok b w
  | [], i, l, xs, ys, b, hg, hk, hk', h, hx, hy => by
    simp [eqFs] at hg
    subst hg
    cases xs <;> simp [kindsOK] at hk
    cases ys <;> simp [kindsOK] at hk'
    simp [eqCells] at h
    subst h
    simp [Op.eqFields]
  | f :: fs, i, l, xs, ys, b, hg, hk, hk', h, hx, hy => by
    unfold eqFs at hg
    split at hg
    · rename_i hc
      simp only [Bool.and_eq_true, beq_iff_eq, bne_iff_ne] at hc
      cases hks : eqKN P n f.type with
      | none => rw [hks] at hg; simp at hg
      | some ks =>
        rw [hks] at hg
        simp only at hg
        cases hr : eqFs (eqKN P n) (i + ks.length) fs with
        | none => rw [hr] at hg; simp at hg
        | some l' =>
          rw [hr] at hg
          simp only [Option.some.injEq] at hg
          subst hg
          obtain ⟨x1, x2, rfl, k1, k2⟩ := kinds_split hk
          obtain ⟨y1, y2, rfl, k1', k2'⟩ := kinds_split hk'
          obtain ⟨b1, b2, e1, e2, rfl⟩ := eqCells_split (by rw [kinds_len k1, kinds_len k1']) h
          obtain ⟨v, u, p1, p2, q⟩ := ih f.type ks hks x1 y1 b1 i k1 k1' e1 hx.left hy.left
          have hrest := eqFs_run ih fs (i + ks.length) l' x2 y2 b2 hr k2 k2' e2 (by rw [← kinds_len k1]; exact hx.right) (by rw [← kinds_len k1']; exact hy.right)
          rw [Op.eqFields]
          rw [hc.1]
          simp only [if_pos hc.2, Sem.run_bind, p1, p2, q, Result.andThen_ok]
          cases b1
          · simp
          · simpa using hrest
    · simp at hg
theorem eqN_run {F : Nat → Prop} : ∀ (n d : Nat), n ≤ d → ∀ (vs us : Array Value) t ks, eqKN P n t = some ks → ∀ xs ys b i, kindsOK ks xs = true → kindsOK ks ys = true → eqCells xs ys = some b → CellsAt F w vs i xs → CellsAt F w us i ys → ∃ v u, (part t vs i).run P w = .ok v w ∧ (part t us i).run P w = .ok u w ∧ (Op.equalIn d t v u).run P w = .ok b w
  | 0, _, _, _, _, t, ks, h, _, _, _, _, _, _, _, _, _ => by simp [eqKN] at h
  | n + 1, 0, hd, _, _, _, _, _, _, _, _, _, _, _, _, _, _ => by omega
  | n + 1, d + 1, hd, vs, us, t, ks, h, xs, ys, b, i, hk, hk', he, hx, hy => by
    unfold eqKN at h
    split at h
    · rename_i hf
      simp only [Option.some.injEq] at h
      subst h
      have hxl := kinds_len hk
      have hyl := kinds_len hk'
      match xs, hxl, ys, hyl with
      | [x], _, [y], _ =>
        obtain ⟨v, hv, rv⟩ := hx 0 x rfl
        obtain ⟨u, hu, ru⟩ := hy 0 y rfl
        rw [Nat.add_zero] at hv hu
        obtain ⟨b1, b2, e1, e2, rfl, _, _, hag⟩ := eqOne (d := d) (b := b) (r := []) (q := []) hf rv ru [] hk hk' he
        simp [eqCells] at e2
        subst e2
        exact ⟨v, u, by simp [part, hag, hv], by simp [part, hag, hu], by simpa using e1⟩
    · split at h
      · rename_i fs q hu hq
        split at h
        · rename_i hst
          cases hfs : eqFs (eqKN P n) 0 fs.toList with
          | none => rw [hfs] at h; simp at h
          | some l =>
            rw [hfs] at h
            simp only at h
            split at h
            · rename_i hsz
              simp only [Option.some.injEq] at h
              subst h
              have hag : (isAgg t).run P w = .ok true w := by simp [isAgg, und_run hu]
              have hso : (sizeOf t).run P w = .ok q.size w := by simp [sizeOf, typeInfo, hq]
              refine ⟨.agg (vs.extract i (i + q.size)), .agg (us.extract i (i + q.size)), by simp [part, hag, hso], by simp [part, hag, hso], ?_⟩
              have hfo : P.fieldsOf t = fs := by simp [Program.fieldsOf, hu]
              rw [run_equalIn_struct (P := P) w d t _ _ (by rw [hfo]; exact hu) hst, hfo]
              exact eqFs_run (fun t ks ht xs ys b i => eqN_run n d (by omega) _ _ t ks ht xs ys b i) fs.toList 0 l xs ys b hfs hk hk' he (hx.cut (by rw [kinds_len hk, hsz])) (hy.cut (by rw [kinds_len hk', hsz]))
            · simp at h
        · simp at h
      · simp at h
theorem eqT2_ok (t : Nat) (hne : eqKinds2 P t ≠ []) (x y : Operand) (F : Nat → Prop) (xs ys : List T) (vs us : Array Value) (b : Bool) (hx : RD F w (.agg xs) (.agg vs)) (hy : RD F w (.agg ys) (.agg us)) (hk : kindsOK (eqKinds2 P t) xs = true) (hk' : kindsOK (eqKinds2 P t) ys = true) (h : eqCells xs ys = some b) :
    ((do eqGuard .eql t x y (.agg vs) (.agg us); binOp .eql t (.agg vs) (.agg us)) : Sem Value).run P w = .ok (.bool b) w ∧ ((do eqGuard .neq t x y (.agg vs) (.agg us); binOp .neq t (.agg vs) (.agg us)) : Sem Value).run P w = .ok (.bool (!b)) w := by
  unfold eqKinds2 at hne hk hk'
  split at hne
  · rename_i fs hu
    split at hne
    · rename_i hc
      rw [hu] at hk hk'
      simp only at hk hk'
      rw [if_pos hc] at hk hk'
      simp only [Bool.and_eq_true, Bool.not_eq_true'] at hc
      obtain ⟨c1, c2⟩ := hc
      have hrel : ∀ {zs : List T} {ws : Array Value}, RD F w (.agg zs) (.agg ws) → CellsAt F w ws 0 zs := by
        intro zs ws hz j z hj
        cases hz with
        | agg _ _ hl h1 hr =>
          have hlt := (List.getElem?_eq_some_iff.1 hj).1
          have hlt2 : j < ws.size := by omega
          exact ⟨ws[j], by simp [hlt2], hr j z _ hj (Array.getElem?_eq_getElem hlt2)⟩
      cases hfs : eqFs (eqKN P 8) 0 fs.toList with
      | none => rw [hfs] at hne; simp at hne
      | some l =>
        rw [hfs] at hk hk'
        simp only [Option.getD_some] at hk hk'
        have hrun := eqFs_run (P := P) (w := w) (d := 9999) (fun t ks ht xs ys b i => eqN_run 8 9999 (by omega) _ _ t ks ht xs ys b i) fs.toList 0 l xs ys b hfs hk hk' h (hrel hx) (hrel hy)
        have heq : (Op.equal t (.agg vs) (.agg us)).run P w = .ok b w := by
          show (Op.equalIn (9999 + 1) t (.agg vs) (.agg us)).run P w = _
          have hf : P.fieldsOf t = fs := by simp [Program.fieldsOf, hu]
          rw [run_equalIn_struct (P := P) w 9999 t vs us (by rw [hf]; exact hu) c1, hf]
          exact hrun
        have hg : ∀ op, (eqGuard op t x y (.agg vs) (.agg us)).run P w = .ok () w := by
          intro op
          unfold eqGuard
          cases op <;> simp [c2]
        have e1 : (binOp .eql t (.agg vs) (.agg us)).run P w = .ok (.bool b) w := by
          show ((do pure (.bool (← Op.equal t (.agg vs) (.agg us)))) : Sem Value).run P w = _
          simp only [Sem.run_bind, heq, Result.andThen_ok, Sem.run_pure]
        have e2 : (binOp .neq t (.agg vs) (.agg us)).run P w = .ok (.bool (!b)) w := by
          show ((do pure (.bool (!(← Op.equal t (.agg vs) (.agg us))))) : Sem Value).run P w = _
          simp only [Sem.run_bind, heq, Result.andThen_ok, Sem.run_pure]
        exact ⟨by simp only [Sem.run_bind, hg, Result.andThen_ok, e1], by simp only [Sem.run_bind, hg, Result.andThen_ok, e2]⟩
    · exact absurd rfl hne
  · exact absurd rfl hne
end
/-- The surroundings of a program, with equality of structs that hold structs. -/
def envH (P : Program) (md : Nat → List Bool) (flat : Nat → Bool) (ext : Nat → Option (List X → Option (List X × List (Option X)))) (glob : Nat → List T) : Env :=
  { envG P md flat ext glob with eqT := eqKinds2 P }
theorem envH_pok (P : Program) (md : Nat → List Bool) (flat : Nat → Bool) (ext : Nat → Option (List X → Option (List X × List (Option X)))) (glob : Nat → List T) : POK (envH P md flat ext glob) P :=
  ⟨tyOf_ok P, fun _ => rfl, fun t hne x y F w xs ys vs us b hx hy hk hk' h => eqT2_ok t hne x y F xs ys vs us b hx hy hk hk' h, fun _ _ _ h => arrOf_ok h⟩
theorem envH_sok {P : Program} {md : Nat → List Bool} {flat : Nat → Bool} {ext : Nat → Option (List X → Option (List X × List (Option X)))} {glob : Nat → List T} (hm : P.follows .mixedOrders = true) (hn : namesOK P = true)
    (hx : ∀ f g args rs bs, ext f = some g → g args = some (rs, bs) → CallOK (envH P md flat ext glob) P f args rs bs) : SOK (envH P md flat ext glob) P :=
  ⟨envH_pok P md flat ext _, namesOK_name hn, hx, fun ops l h => by
    have h2 := drawOf_ok hm (show drawOf (envOf P md flat ext (fun _ => none) (fun _ => none)) ops = some l from h)
    exact fun t => Swaps.of (fun x y => rfl) (h2 t), fun ops p h ls hlen hck t => by
    obtain ⟨lab, h2⟩ := drawSOf_ok hm (show drawSOf (envOf P md flat ext (fun _ => none) (fun _ => none)) ops = some p from h) ls hlen hck t
    exact ⟨lab, Swaps.of (fun x y => rfl) h2⟩⟩
abbrev envE (P : Program) (md : Nat → List Bool) (flat : Nat → Bool) (ext : Nat → Option (List X → Option (List X × List (Option X)))) : Env := envH P md flat ext (fun _ => [])
theorem envE_sok {P : Program} {md : Nat → List Bool} {flat : Nat → Bool} {ext : Nat → Option (List X → Option (List X × List (Option X)))} (hm : P.follows .mixedOrders = true) (hn : namesOK P = true)
    (hx : ∀ f g args rs bs, ext f = some g → g args = some (rs, bs) → CallOK (envE P md flat ext) P f args rs bs) : SOK (envE P md flat ext) P := envH_sok hm hn hx
end Go.Ev
