/- Draws are never taken back. -/
import Derived.Test.YtdpkfljiipkhfaaGreatDoorPartRE
import Derived.Below
import Derived.Maps.AppendAt
import Derived.Test.YtdpkfljiipkhfaaGreatDoorPartRG
import Derived.Shelf.SlSortCmp.NoneTotal
namespace Go.Ev
set_option linter.unusedSimpArgs false
set_option linter.unusedVariables false
theorem except_bind {ε α β : Type} {x : Except ε α} {f : α → Except ε β} {b : β} (h : (x >>= f) = .ok b) : ∃ a, x = .ok a ∧ f a = .ok b := by
  cases x with
  | error e => cases h
  | ok a => exact ⟨a, rfl, h⟩
theorem view_drawn {P : Program} {w : World} {at_ : Addr} {u : TypeId} {k : Addr} {v : Value} {b : Bool} {r : World × List Addr} (h : w.viewStore P at_ u k v b = .ok r) : r.1.drawn = w.drawn := by
  unfold World.viewStore at h
  dsimp only at h
  split at h
  · cases h
  · obtain ⟨x, _, h⟩ := except_bind h
    split at h
    · split at h
      · cases h
      · obtain ⟨y, _, h⟩ := except_bind h
        cases h; rfl
    · cases h
theorem far_drawn {P : Program} {w : World} {a : Addr} {v : Value} {b : Bool} {r : World × List Addr} (h : w.farStore P a v b = .ok r) : r.1.drawn = w.drawn := by
  unfold World.farStore at h
  split at h
  · split at h
    · rename_i hv
      obtain rfl := Except.ok.inj h
      exact view_drawn hv
    · cases h
  · cases h
theorem ask_drawn {α : Type} : ∀ (m : Ask α) (w : World), w.drawn ≤ (w.ask m).2.drawn
  | .done a, w => Nat.le_refl _
  | .ask what range k, w => by
    unfold World.ask
    dsimp only
    split
    · exact ask_drawn _ w
    · exact Nat.le_trans (Nat.le_succ _) (ask_drawn (k _) { w with drawn := w.drawn + 1 })
theorem sys_drawn (w : World) (c : Sys) : w.drawn ≤ (w.sys c).2.drawn := by
  unfold World.sys
  have h := ask_drawn (Kernel.perform c w.os) w
  split
  · exact Nat.le_refl _
  · rename_i he
    rw [he] at h
    exact h
def Rw {α : Type} : Result α → World
  | .ok _ w => w
  | .halt _ w => w
theorem run_world {P : Program} {α : Type} : ∀ (m : Sem α) (w : World), w.drawn ≤ (Rw (m.run P w)).drawn := by
  intro m
  induction m with
  | pure a => intro w; exact Nat.le_refl _
  | load m a k ih =>
    intro w
    simp only [Sem.run]
    split
    · exact ih _ _
    · split
      · exact ih _ _
      · exact Nat.le_refl _
  | store m a v k ih =>
    intro w
    have key : w.drawn ≤ (Rw ((match w.cell? a with
        | some _ => if w.frozen? a then .halt (.unsupported (.unsafePointer "a write to bytes that a string shares")) w else k.run P (w.setCell a v)
        | none => match w.farStore P a v (m == .atomic) with
          | .ok (w, _) => k.run P w
          | .error h => .halt h w) : Result _)).drawn := by
      split
      · split
        · exact Nat.le_refl _
        · have q := ih (w.setCell a v); exact q
      · split
        · rename_i hf
          have := far_drawn hf
          rw [← this]; exact ih _
        · exact Nat.le_refl _
    cases v <;> first
      | exact key
      | exact Nat.le_refl _
  | new o k ih => intro w; exact ih _ { w with heap := w.heap.push o }
  | shape r k ih => intro w; exact ih _ _
  | freeze a n k ih =>
    intro w
    refine Nat.le_trans ?_ (ih (w.freeze a n))
    unfold World.freeze
    split <;> exact Nat.le_refl _
  | frozen a k ih => intro w; exact ih _ _
  | getObj r k ih =>
    intro w
    simp only [Sem.run]
    split
    · exact Nat.le_refl _
    · exact ih _ _
    · exact Nat.le_refl _
  | setObj r o k ih =>
    intro w
    simp only [Sem.run]
    split
    · exact Nat.le_refl _
    · exact ih { w with heap := w.heap.setIfInBounds r o }
    · exact Nat.le_refl _
  | choose q k ih =>
    intro w
    simp only [Sem.run]
    split
    · exact ih _ _
    · exact Nat.le_trans (Nat.le_succ _) (ih _ { w with drawn := w.drawn + 1 })
  | sys c k ih => intro w; exact Nat.le_trans (sys_drawn w c) (ih _ _)
  | program k ih => intro w; exact ih _ _
  | mark m k ih => intro w; exact ih _
  | halt h => intro w; exact Nat.le_refl _
theorem runT_world {P : Program} {α : Type} : ∀ (m : Sem α) (w : World) (es : Array Event), w.drawn ≤ (Rw (m.runT P w es).1).drawn := by
  intro m
  induction m with
  | pure a => intro w es; exact Nat.le_refl _
  | load m a k ih =>
    intro w es
    simp only [Sem.runT]
    split
    · exact ih _ _ _
    · split
      · exact ih _ _ _
      · exact Nat.le_refl _
  | store m a v k ih =>
    intro w es
    have key : w.drawn ≤ (Rw ((match w.cell? a with
        | some _ =>
          if w.frozen? a then (.halt (.unsupported (.unsafePointer "a write to bytes that a string shares")) w, es)
          else k.runT P (w.setCell a v) (es.push ⟨.cell a, true, m == .atomic⟩)
        | none => match w.farStore P a v (m == .atomic) with
          | .ok (w, touched) => k.runT P w (es ++ touched.toArray.map (⟨.cell ·, true, m == .atomic⟩))
          | .error h => (.halt h w, es)) : Result _ × Array Event).1).drawn := by
      split
      · split
        · exact Nat.le_refl _
        · have q := ih (w.setCell a v) (es.push ⟨.cell a, true, m == .atomic⟩); exact q
      · split
        · rename_i hf
          have := far_drawn hf
          rw [← this]; exact ih _ _
        · exact Nat.le_refl _
    cases v <;> first
      | exact key
      | exact Nat.le_refl _
  | new o k ih => intro w es; exact ih _ { w with heap := w.heap.push o } _
  | shape r k ih => intro w es; exact ih _ _ _
  | freeze a n k ih =>
    intro w es
    refine Nat.le_trans ?_ (ih (w.freeze a n) es)
    unfold World.freeze
    split <;> exact Nat.le_refl _
  | frozen a k ih => intro w es; exact ih _ _ _
  | getObj r k ih =>
    intro w es
    simp only [Sem.runT]
    split
    · exact Nat.le_refl _
    · exact ih _ _ _
    · exact Nat.le_refl _
  | setObj r o k ih =>
    intro w es
    simp only [Sem.runT]
    split
    · exact Nat.le_refl _
    · exact ih { w with heap := w.heap.setIfInBounds r o } _
    · exact Nat.le_refl _
  | choose q k ih =>
    intro w es
    simp only [Sem.runT]
    split
    · exact ih _ _ _
    · exact Nat.le_trans (Nat.le_succ _) (ih _ { w with drawn := w.drawn + 1 } _)
  | sys c k ih => intro w es; exact Nat.le_trans (sys_drawn w c) (ih _ _ _)
  | program k ih => intro w es; exact ih _ _ _
  | mark m k ih => intro w es; exact ih _ _
  | halt h => intro w es; exact Nat.le_refl _
section
variable {P : Program} {α : Type} {m : Sem α} {w w' : World} {a : α} {h : Halt} {es es' : Array Event} {d : Nat}
theorem dOk (hw : d ≤ w.drawn) (e : m.run P w = .ok a w') : d ≤ w'.drawn := by have := run_world (P := P) m w; rw [e] at this; exact Nat.le_trans hw this
theorem dHalt (hw : d ≤ w.drawn) (e : m.run P w = .halt h w') : d ≤ w'.drawn := by have := run_world (P := P) m w; rw [e] at this; exact Nat.le_trans hw this
theorem dOkT (hw : d ≤ w.drawn) (e : (m.runT P w es).1 = .ok a w') : d ≤ w'.drawn := by have := runT_world (P := P) m w es; rw [e] at this; exact Nat.le_trans hw this
theorem dHaltT (hw : d ≤ w.drawn) (e : (m.runT P w es).1 = .halt h w') : d ≤ w'.drawn := by have := runT_world (P := P) m w es; rw [e] at this; exact Nat.le_trans hw this
theorem dOkT' (hw : d ≤ w.drawn) (e : m.runT P w es = (.ok a w', es')) : d ≤ w'.drawn := dOkT hw (by rw [e])
theorem dHaltT' (hw : d ≤ w.drawn) (e : m.runT P w es = (.halt h w', es')) : d ≤ w'.drawn := dHaltT hw (by rw [e])
end
/-- So many draws at least, where it goes on. -/
def GG (d : Nat) : GStep → Prop
  | .ended _ _ _ => True
  | .go _ w _ | .comm _ _ _ _ w _ | .spawn _ _ w _ | .count _ w _ | .timer _ _ w _ | .alone _ _ w _ | .newcoro _ _ _ w _ | .coroswitch _ _ _ w _ | .collect _ w _ | .watch _ w _ => d ≤ w.drawn
theorem GG.ite {d : Nat} {c : Prop} [Decidable c] {a b : GStep} (h1 : GG d a) (h2 : GG d b) : GG d (if c then a else b) := by
  split <;> assumption
theorem GG.after {d : Nat} {g : GStep} (es : Array Event) (h : GG d g) : GG d (g.after es) := by cases g <;> exact h
section
variable {p : Program} {main : Bool} {fr : Frame} {callers : List Frame} {dying : Option Dying} {w : World} {d : Nat}
theorem dieOf_GG (hw : d ≤ w.drawn) (l : List ByteArray) (m : String) (b : Bool) : GG d (dieOf fr l m b w) := hw
theorem endThrow_GG (hw : d ≤ w.drawn) (m : String) : GG d (endThrow fr m w) := hw
theorem endWith_GG (n : Nat) (t : ByteArray) (o : Outcome) : GG d (endWith w n t o) := by
  unfold endWith
  dsimp only
  repeat' split
  all_goals trivial
theorem endPrinting_GG (hw : d ≤ w.drawn) (v : Value) : GG d (endPrinting p fr v w) := by
  unfold endPrinting
  dsimp only
  split
  · exact endThrow_GG hw _
  · trivial
theorem endFatal_GG (hw : d ≤ w.drawn) (m : String) : GG d (endFatal p fr callers dying m w) := by
  unfold endFatal
  dsimp only
  split
  · rename_i e; exact dieOf_GG (dOk hw e) _ _ _
  · trivial
  · trivial
theorem writeOn_GG (hw : d ≤ w.drawn) (dy : Dying) (f : Fatal) : GG d (writeOn p fr dy f w) := by
  unfold writeOn
  dsimp only
  split
  · trivial
  · split
    · rename_i e; exact dOkT' hw e
    · rename_i e; exact dHaltT' hw e
    · trivial
    · trivial
theorem die_GG (hw : d ≤ w.drawn) (dy : Dying) : GG d (die p fr dy w) := by
  unfold die
  split
  · exact writeOn_GG hw _ _
  · split
    · split
      · exact hw
      · exact endWith_GG _ _ _
    · dsimp only
      split
      · exact hw
      · split
        · rename_i e; exact dOk hw e
        · trivial
      · refine GG.after _ ?_
        split
        · rename_i e; exact dOkT hw e
        · rename_i e; exact dOkT hw e
        · trivial
        · rename_i e; exact endPrinting_GG (dHaltT hw e) _
        · trivial
      · trivial
theorem doReturn_GG (hw : d ≤ w.drawn) (v : Value) : GG d (doReturn p main fr callers dying v w) := by
  unfold doReturn
  repeat' split
  all_goals first
    | exact hw
    | trivial
theorem early_GG (hw : d ≤ w.drawn) (g : Nat) : GG d (early p fr callers dying g w) := by
  have nn : ∀ w : World, d ≤ w.drawn → GG d (match w.heap[g]? with
    | some (.pending c elem) =>
      .go { frame := fr, callers, status := .running, dying } { w with heap := w.heap.setIfInBounds g (.cells c elem) }
    | _ => .ended (.stuck "early: the variable does not wait" (fr.pos p)) w) := by
    intro w hw
    split
    · exact hw
    · trivial
  unfold early
  dsimp only
  repeat' split
  all_goals first
    | trivial
    | exact nn _ hw
    | exact hw
    | (rename_i e; exact nn _ (dOk hw e))
    | (rename_i e; exact dOk hw e)
    | skip
  rename_i e _ _ _ _
  have q := dOk hw e
  exact q
theorem callDeferred_GG (hw : d ≤ w.drawn) (de : Deferred) : GG d (callDeferred p fr callers dying de w) := by
  unfold callDeferred
  refine GG.ite ?_ ?_
  · trivial
  · dsimp only
    refine GG.after _ ?_
    repeat' split
    all_goals first
      | trivial
      | (rename_i e; exact dOkT hw e)
      | (rename_i e; exact dHaltT hw e)
      | (rename_i e _; exact dOkT hw e)
      | (rename_i e; exact endFatal_GG (dHaltT hw e) _)
      | (rename_i e; exact endThrow_GG (dHaltT hw e) _)
      | skip
    all_goals first
      | (rename_i e _; have q := dOkT hw e; exact q)
      | (rename_i e _ _; have q := dOkT hw e; exact q)
      | (rename_i e _ _ _; have q := dOkT hw e; exact q)
      | (rename_i e _ _ _ _; have q := dOkT hw e; exact q)
      | (rename_i e _ _ _ _ _; have q := dOkT hw e; exact q)
      | (rename_i e _ _ _ _ _ _; have q := dOkT hw e; exact q)
      | (rename_i e _ _ _ _ _ _ _; have q := dOkT hw e; exact q)
      | (rename_i e _ _ _ _ _ _ _ _; have q := dOkT hw e; exact q)
theorem unwind_GG (hw : d ≤ w.drawn) : GG d (unwind p main fr callers dying w) := by
  unfold unwind
  split
  · dsimp only
    refine GG.after _ ?_
    split
    · rename_i e; have q := dOkT hw e; exact q
    · trivial
  · exact callDeferred_GG hw _
  · split
    · trivial
    · split
      · trivial
      · split
        · exact hw
        · split
          · split
            · exact hw
            · split
              · rename_i e; have q := dOk hw e; exact q
              · trivial
              · trivial
          · split
            · exact endPrinting_GG hw _
            · trivial
    · split
      · exact doReturn_GG hw _
      · dsimp only
        refine GG.after _ ?_
        split
        · rename_i e; exact doReturn_GG (dOkT hw e) _
        · trivial
        · trivial
end
section
variable {p : Program} {main listen : Bool} {fr : Frame} {callers : List Frame} {dying : Option Dying} {w : World} {d : Nat}
theorem apply_GG (hw : d ≤ w.drawn) (s : Sem Next) : GG d (stepG.apply p listen fr callers dying s w) := by
  unfold stepG.apply
  have h1 : ∃ r es, (if listen then s.runT p w #[] else (s.run p w, #[])) = (r, es) ∧ w.drawn ≤ (Rw r).drawn := by
    cases listen
    · exact ⟨_, _, rfl, run_world s w⟩
    · exact ⟨_, _, rfl, runT_world s w #[]⟩
  obtain ⟨r, es, hr, hd⟩ := h1
  rw [hr]
  dsimp only
  refine GG.after _ ?_
  have hd' : d ≤ (Rw r).drawn := Nat.le_trans hw hd
  clear hr hd
  split <;> (try dsimp only [Rw] at hd')
  all_goals (try dsimp only)
  all_goals first
    | trivial
    | exact hd'
    | exact endFatal_GG hd' _
    | exact endThrow_GG hd' _
    | exact early_GG hd' _
    | exact GG.ite (endThrow_GG hd' _) hd'
    | (split <;> exact hd')
theorem oper_GG (hw : d ≤ w.drawn) : GG d (stepG.oper p listen fr callers dying w) := by
  unfold stepG.oper
  split
  · trivial
  · split <;> exact apply_GG hw _
theorem exec_GG (hw : d ≤ w.drawn) : GG d (stepG.exec p main listen fr callers dying w) := by
  have lv : ∀ (b : Bool) (jump : Option Code), GG d (match fr.roundOf with
      | none => if b = true then (.go { frame := { fr with mode := .returning }, callers, status := .running, dying } w : GStep) else .ended (.stuck "exit, goto: no such block or label" (fr.pos p)) w
      | some l =>
        GStep.after (seen p fr.fn ((Instr.endRound l jump).runT p w #[]).snd) <| match ((Instr.endRound l jump).runT p w #[]).fst with
        | .ok v w => doReturn p main fr callers dying v w
        | .halt _ w => .ended (.stuck "range over a function: no such loop" (fr.pos p)) w) := by
    intro b jump
    split
    · exact GG.ite hw trivial
    · refine GG.after _ ?_
      split
      · rename_i e; exact doReturn_GG (dOkT hw e) _
      · trivial
  unfold stepG.exec
  dsimp only
  split
  all_goals first
    | exact lv _ _
    | (rename_i id k _; cases exitTo id k with | none => exact lv _ _ | some t => exact hw)
    | (rename_i id k _; cases gotoIn id k with | none => exact lv _ _ | some t => exact hw)
    | exact hw
    | trivial
    | exact apply_GG hw _
    | exact GG.ite hw trivial
    | (split <;> first | exact hw | trivial)
    | (refine GG.after _ ?_; split <;> first | trivial | (rename_i e; exact apply_GG (dOkT hw e) _) | (rename_i e; have q := dOkT hw e; exact q) | (rename_i e; have q := dHaltT hw e; exact q))
    | (refine GG.ite hw ?_; split <;> first | trivial | (rename_i e; have q := dOk hw e; exact q))
    | (cases (Extern.next _) with | none => trivial | some e => exact apply_GG hw _)
    | (refine GG.ite ?_ hw; exact oper_GG hw)
    | skip
theorem stepG_GG (hw : d ≤ w.drawn) (g : Goroutine) : GG d (stepG p main g w listen) := by
  unfold stepG
  dsimp only
  split
  · exact die_GG hw _
  · exact exec_GG hw
  · exact unwind_GG hw
end
def GE (d : Nat) : Stepped → Prop
  | .next m => d ≤ m.world.drawn
  | .ended _ _ => True
def GM (d : Nat) : Move → Prop
  | .goroutine m _ => d ≤ m.world.drawn
  | .machine s _ => GE d s
section
variable {p : Program} {listen : Bool} {w : World} {d : Nat}
theorem GE.ite {c : Prop} [Decidable c] {a b : Stepped × Array MemOp} (h1 : GE d a.1) (h2 : GE d b.1) : GE d (if c then a else b).1 := by split <;> assumption
theorem waiting_d {rest : Rest} {cases : Array CommCase} {w' : World} (hw : d ≤ w.drawn) (h : waitingAt rest cases w = some w') : d ≤ w'.drawn := by
  unfold waitingAt at h
  split at h
  · split at h
    · cases h; exact hw
    · cases h
  · cases h; exact hw
theorem communicate_GE (hw : d ≤ w.drawn) (rest : Rest) (gs : Array Goroutine) (i : Nat) (g : Goroutine) (cases : Array CommCase) (b : Bool) (shape : CommShape) : GE d (communicate p rest gs i g cases b shape w).1 := by
  unfold communicate
  dsimp only
  refine GE.ite trivial ?_
  refine GE.ite ?_ ?_
  · refine GE.ite ?_ hw
    split
    · rename_i e; exact waiting_d hw e
    · trivial
  · split
    · trivial
    · rename_i e
      have hw' := dOk hw e
      repeat' split
      all_goals first
        | trivial
        | exact hw'
        | (rename_i e; have q := dOk hw' e; exact q)
        | (rename_i e; have q := dHalt hw' e; exact q)
        | (rename_i e _; have q := dOk hw' e; exact q)
        | (rename_i e _ _; have q := dOk hw' e; exact q)
        | (rename_i e _ _ _; have q := dOk hw' e; exact q)
        | (rename_i e _ _ _ _; have q := dOk hw' e; exact q)
        | (rename_i e _ _ _ _ _; have q := dOk hw' e; exact q)
        | (rename_i e _ _ _ _ _ _; have q := dOk hw' e; exact q)
        | (rename_i e _ _ _ _ _ _ _; have q := dOk hw' e; exact q)
theorem look_GE (hw : d ≤ w.drawn) (gs : Array Goroutine) (rest : Rest) : GE d (look p gs rest w) := by
  unfold look
  split
  · dsimp only
    split
    · trivial
    · split
      · trivial
      · split
        · rename_i e; have q := dOk hw e; exact q
        · trivial
        · trivial
  · trivial
theorem drain_d (w : World) (c : Nat) : (drain w c).2.drawn = w.drawn := by
  unfold drain
  split <;> rfl
theorem retime_d (m : Machine) (k : Nat) (t : Timer) (a b : Nat) : (retime m k t a b).2.world.drawn = m.world.drawn := by
  unfold retime
  split
  · rename_i e
    split at e
    · rename_i c _
      have := drain_d m.world c
      rw [e] at this
      exact this
    · cases e; rfl
theorem timerOp_d {m m' : Machine} {op : TimerOp} {v : Value} (h : timerOp m op = .ok (v, m')) : m'.world.drawn = m.world.drawn := by
  have nm : ∀ (n : Machine) (var : Addr) (f : Nat → Timer → Value × Machine), n.world.drawn = m.world.drawn → (∀ k t, (f k t).2.world.drawn = m.world.drawn) → timerOp.named m var f = .ok (v, m') → m'.world.drawn = m.world.drawn := by
    intro n var f _ hf h
    unfold timerOp.named at h
    split at h
    · rename_i k _; have := hf k (m.rest.timers.getD k default)
      rw [Except.ok.inj h] at this
      exact this
    · cases h
  unfold timerOp at h
  split at h
  · split at h
    · cases h; rfl
    · split at h
      · split at h
        · cases h
        · cases h; rfl
      · cases h
  · exact nm m _ _ rfl (fun k t => retime_d m k t _ _) h
  · split at h
    · rename_i m1 hop
      have h1 : m1.world.drawn = m.world.drawn := by
        unfold timerOp.opened at hop
        split at hop
        · split at hop
          · cases hop; rfl
          · cases hop
        · cases hop; rfl
      exact nm m _ _ rfl (fun k t => (retime_d m1 k t _ _).trans h1) h
    · cases h
  · cases h; rfl
theorem serve_GE {m : Machine} (hw : d ≤ m.world.drawn) (k : Nat) : GE d (serve p m k) := by
  unfold serve
  split
  · trivial
  · exact hw
  · dsimp only
    split
    · trivial
    · exact hw
theorem GG.endThrow_next {fr : Frame} {msg : String} {g : Goroutine} {w1 : World} {es : Array Event} (hw : d ≤ w.drawn) (h : endThrow fr msg w = .go g w1 es) : d ≤ w1.drawn := by
  have := endThrow_GG (fr := fr) hw msg
  rw [h] at this
  exact this
theorem runT_GE {m : Machine} (hw : d ≤ m.world.drawn) (i : Nat) : GE d (Go.runT p m i listen).1 := by
  unfold Go.runT
  dsimp only
  generalize hs : stepG p (i == 0) _ m.world listen = s
  have hg := stepG_GG (p := p) (main := i == 0) (listen := listen) hw (m.gs.swapAt! i { (default : Goroutine) with status := .finished }).1
  rw [hs] at hg
  cases s with
  | ended o w es => trivial
  | comm g cases b shape w es => exact communicate_GE hg _ _ _ _ _ _ _
  | go g w es => exact hg
  | spawn g c w es => exact hg
  | count g w es =>
    dsimp only
    split
    · trivial
    · exact hg
  | timer g op w es =>
    dsimp only
    split
    · rename_i e
      have := timerOp_d e
      show d ≤ _
      simp only at this ⊢
      rw [this]; exact hg
    · split
      · rename_i e; exact GG.endThrow_next hg e
      · trivial
    · trivial
    · trivial
  | alone g on w es => exact hg
  | newcoro g c dd w es => exact hg
  | coroswitch g c ex w es =>
    dsimp only
    split
    · exact hg
    · split
      · rename_i e; exact GG.endThrow_next hg e
      · trivial
    · trivial
  | collect g w es => exact look_GE hg _ _
  | watch g w es => exact hg
theorem askOn_GM {m : Machine} (hw : d ≤ m.world.drawn) : GM d (askOn p m) := by
  have pk : ∀ m : Machine, d ≤ m.world.drawn → ∀ rs : List Nat, GM d (match (choose (.sched rs.length)).run p m.world with
      | .halt _ w => .machine (.ended (.stuck "sched" "") w)
      | .ok k world =>
        if rs.length ≤ 1 then .goroutine { m with world } (rs.getD k 0) else
        match (choose (.extern "sched.slice" 65536)).run p world with
        | .halt _ w => .machine (.ended (.stuck "sched.slice" "") w)
        | .ok n world => .goroutine { m with world, rest := { m.rest with slice := if n = 0 then none else some (rs.getD k 0, n) } } (rs.getD k 0)) := by
    intro m hm rs
    split
    · trivial
    · rename_i e
      have h1 := dOk hm e
      split
      · exact h1
      · split
        · trivial
        · rename_i e2; have q := dOk h1 e2; exact q
  unfold askOn
  dsimp only
  split
  · trivial
  · rename_i e
    have h1 := dOk hw e
    split
    · exact serve_GE h1 _
    · split
      · split
        · exact h1
        · split
          · exact h1
          · split <;> trivial
      · split
        · exact pk { m with world := _ } h1 _
        · split
          · trivial
          · rename_i e2; exact pk { m with world := _ } (dOk h1 e2) _
          · rename_i e2; have q := dOk h1 e2; exact q
          · rename_i e2
            have q := dOk h1 e2
            exact pk (Machine.advanceTo { m with world := _ } _) q _
theorem ask_GM {m : Machine} (hw : d ≤ m.world.drawn) : GM d (ask p m) := by
  unfold ask
  split
  · split
    · trivial
    · rename_i e
      have h1 := dOk hw e
      have h2 := look_GE (p := p) h1 m.gs m.rest
      split
      · rename_i e2
        rw [e2] at h2
        exact askOn_GM h2
      · exact h2
    · rename_i e
      exact askOn_GM (m := { m with world := _ }) (dOk hw e)
  · exact askOn_GM hw
theorem move_GM {m : Machine} (hw : d ≤ m.world.drawn) : GM d (move p m) := by
  unfold move
  split
  · split
    · exact hw
    · trivial
  · split
    · split
      · exact hw
      · exact ask_GM (m := { m with rest := _ }) hw
    · exact ask_GM hw
theorem step_drawn {m m' : Machine} (h : step p m = .next m') : m.world.drawn ≤ m'.world.drawn := by
  unfold step stepT at h
  have hm := move_GM (p := p) (Nat.le_refl m.world.drawn)
  split at h
  · rename_i e
    rw [e] at hm
    rename_i m1 i1
    have := runT_GE (p := p) (listen := true) hm i1
    rw [h] at this
    exact this
  · rename_i e
    rw [e] at hm
    simp only at h
    subst h
    exact hm
theorem steps_drawn : ∀ (n : Nat) {m m' : Machine}, Go.runN p n m = .next m' → m.world.drawn ≤ m'.world.drawn
  | 0, m, m', h => by cases h; exact Nat.le_refl _
  | n + 1, m, m', h => by
    unfold Go.runN at h
    split at h
    · rename_i e
      exact Nat.le_trans (step_drawn e) (steps_drawn n h)
    · rename_i hne
      exact absurd h (fun e => hne _ e)
theorem calls_drawn {f : FuncId} {args : Array Value} {w : World} {R : Ending → World → Prop} (h : Calls p f args w R) : Calls p f args w (fun e w' => R e w' ∧ (e ≠ .outgrown → w.drawn ≤ w'.drawn)) := by
  intro cs
  obtain ⟨e, w', fr, hr, hc, h1, h2⟩ := h cs
  refine ⟨e, w', fr, ⟨hr, fun hne => ?_⟩, hc, h1, h2⟩
  cases e with
  | outgrown => exact absurd rfl hne
  | returned v =>
    obtain ⟨n, hn⟩ := hc
    exact steps_drawn n hn
  | panicked c =>
    obtain ⟨n, hn⟩ := hc
    exact steps_drawn n hn
end
end Go.Ev
namespace Go.Ev
open Go.Proofs Go.RowKit Go.Lib Go.Shelf Go.Sort
set_option linter.unusedSimpArgs false
set_option linter.unusedVariables false
theorem RD.vOf {F : Nat → Prop} {w : World} {y : T} {v : Value} (h : RD F w y v) (h1 : y.one = true) (h2 : y.flat = true) : v = vOf y := by
  cases h <;> first | rfl | (simp [T.one] at h1; done) | (simp [T.flat] at h2; done)
theorem vOf_cell {y : T} (h1 : y.one = true) (h2 : y.flat = true) : (vOf y).oneCell' = true := by
  cases y <;> first | rfl | (simp [T.one] at h1; done) | (simp [T.flat] at h2; done)
/-- The cells of a flat struct as values. -/
def encT (x : T) : List Value := x.cells.map vOf
theorem grown_world {w w' : World} (h : Same w w' (fun _ => False)) (hd : w.drawn ≤ w'.drawn) : ∃ q os', w' = grow (w.drewN q) os' := by
  refine ⟨w'.drawn - w.drawn, w'.heap.extract w.heap.size w'.heap.size, ?_⟩
  have hs := h.size
  have hh : w'.heap = w.heap ++ w'.heap.extract w.heap.size w'.heap.size := by
    apply Array.ext_getElem?
    intro i
    rw [Array.getElem?_append]
    split
    · rename_i hi
      exact h.blk i hi (fun e => e)
    · rename_i hi
      rw [Array.getElem?_extract]
      split
      · congr 1; omega
      · rw [Array.getElem?_eq_none (by omega)]
  cases w' with
  | mk heap tape drawn os output =>
    have e1 := h.tape
    have e2 := h.os
    have e3 := h.out
    simp only at hh e1 e2 e3 hd
    unfold grow World.drewN
    simp only
    rw [← hh, e1, e2, e3]
    congr 1
    omega
section
variable {α : Type} [Inhabited α]
theorem sortWorld_other (enc : α → List Value) (k : Nat) (w : World) (blk off m : Nat) (dk : Array α) (os : Array Obj) (j : Nat) (hj : j < w.heap.size) (hne : j ≠ blk) : (sortWorldK enc k w blk off m dk os).heap[j]? = w.heap[j]? := by
  unfold sortWorldK grow putRowK putRow mapBlock Sort.ahead
  simp only
  rw [Array.getElem?_append, if_pos (by simpa using hj), Array.getElem?_modify, if_neg (fun e => hne e.symm)]
theorem sortWorld_at (enc : α → List Value) (k : Nat) (w : World) (blk off m : Nat) (dk : Array α) (os : Array Obj) {vs : Array Value} {e : TypeId} {fr : Nat × Nat} (h : w.heap[blk]? = some (.cells vs e fr)) : (sortWorldK enc k w blk off m dk os).heap[blk]? = some (.cells (putCells id off (flatK enc k dk) vs) e fr) := by
  have hlt : blk < w.heap.size := (Array.getElem?_eq_some_iff.1 h).1
  unfold sortWorldK grow putRowK putRow mapBlock Sort.ahead
  simp only
  rw [Array.getElem?_append, if_pos (by simpa using hlt), Array.getElem?_modify, if_pos rfl, h]
  rfl
theorem sortWorld_size (enc : α → List Value) (k : Nat) (w : World) (blk off m : Nat) (dk : Array α) (os : Array Obj) : w.heap.size ≤ (sortWorldK enc k w blk off m dk os).heap.size := by
  unfold sortWorldK grow putRowK putRow mapBlock Sort.ahead
  simp
theorem putCells_get (off : Nat) (d c : Array Value) (t : Nat) (ht : t < d.size) (hc : off + t < c.size) : (putCells id off d c)[off + t]? = some d[t]! := by
  unfold putCells
  rw [Array.getElem?_mapIdx, Array.getElem?_eq_getElem hc]
  simp only [Option.map_some]
  rw [if_pos ⟨by omega, by omega⟩]
  have : off + t - off = t := by omega
  rw [this]; rfl
end
/-- What is said of an order. -/
structure Orders (xs : List T) (cf : T → T → Int) : Prop where
  irrefl : ∀ x ∈ xs, ¬ cf x x < 0
  trans : ∀ x ∈ xs, ∀ y ∈ xs, ∀ z ∈ xs, cf x y < 0 → cf y z < 0 → cf x z < 0
  ntrans : ∀ x ∈ xs, ∀ y ∈ xs, ∀ z ∈ xs, ¬ cf x y < 0 → ¬ cf y z < 0 → ¬ cf x z < 0
  total : ∀ x ∈ xs, ∀ y ∈ xs, ¬ cf x y < 0 → ¬ cf y x < 0 → x = y
abbrev El (xs : List T) : Type := {x : T // x ∈ xs}
def attE (xs : List T) : Array (El xs) := xs.attach.toArray
theorem attE_size (xs : List T) : (attE xs).size = xs.length := by simp [attE]
theorem attE_get (xs : List T) [Inhabited (El xs)] (i : Nat) (hi : i < xs.length) : ((attE xs)[i]!).1 = xs[i] := by
  have : i < (attE xs).size := by rw [attE_size]; exact hi
  rw [getElem!_pos (attE xs) i this]
  simp [attE]
def encE (xs : List T) (x : El xs) : List Value := encT x.1
def cmpE (xs : List T) (cf : T → T → Int) (x y : El xs) : Int := cf x.1 y.1
def sortT (cf : T → T → Int) (xs : List T) : List T := xs.mergeSort fun x y => !decide (cf y x < 0)
theorem attE_sort (xs : List T) (cf : T → T → Int) : (((attE xs).toList.mergeSort fun x y => !(ltOf (cmpE xs cf)) y x).toArray).toList.map Subtype.val = sortT cf xs := by
  unfold sortT
  show List.map Subtype.val ((attE xs).toList.mergeSort _) = _
  have h := List.map_mergeSort (f := (Subtype.val : El xs → T)) (r := fun x y => !(ltOf (cmpE xs cf)) y x) (s := fun x y => !decide (cf y x < 0)) (l := (attE xs).toList) (fun a _ b _ => rfl)
  rw [h]
  simp [attE]
theorem sort_ok {E E0 : Env} {P : Program} {ρ : Ren} (hE0 : SOK E0 P) (L : SlLaysF0.n6 P ρ) (he : Enters P (ρ.f 6)) (hm : E.md (ρ.f 6) = [true]) (hfl : E.flat (ρ.f 6) = false)
    (hagg : ∀ w, (isAgg (ρ.t 24)).run P w = .ok true w) (hsz : ∀ w, (Go.sizeOf (ρ.t 24)).run P w = .ok (E.ty (ρ.t 24)).size w) (hgl : E0.glob = E.glob)
    {g : Nat} (hg : Enters P g) (caps : List (List T)) (xs : List T) (hfx : T.flats xs = true) (hax : ∀ x ∈ xs, ∃ cs, x = .agg cs) (cf : T → T → Int) (ho : Orders xs cf) (hlen0 : xs.length < 4611686018427387904)
    (hcf : ∀ x ∈ xs, ∀ y ∈ xs, run E0 (.call g (.t x :: .t y :: caps.map X.dref)) = some (.res [.t (.int .i64 (cf x y))] [])) :
    CallOK E P (ρ.f 6) [.row (ρ.t 24) xs, .fn g caps] [] [some (.row (ρ.t 24) (sortT cf xs))] := by
  refine ⟨fun h => (by rw [hfl] at h; cases h), fun F w vals bl hx hnd hb hF hL => ?_⟩
  obtain ⟨v, cb, l, hvs, hv, rfl, hcl, hc⟩ : ∃ v cb l, vals.toList = [v, .func (.func g) #[] cb] ∧ RowV E F w (ρ.t 24) xs v l ∧ bl = ownL v l ∧ caps.length = cb.size ∧ ∀ (i : Nat) cs u, caps[i]? = some cs → cb[i]? = some u → ∀ c : Ctx, c.F = F → Rel c w (.dptr cs) u := by
    generalize vals.toList = ls at hx
    cases hx with
    | cons h r =>
      cases r with
      | cons h2 r2 =>
        cases r2 with
        | nil =>
          cases h with
          | row h =>
            cases h2 with
            | fn hl h2 => exact ⟨_, _, _, rfl, h, by simp, hl, h2⟩
  have hva : vals = #[v, .func (.func g) #[] cb] := by cases vals; simpa using hvs
  subst hva
  rw [hm]
  have hmu : muts [true] (#[v, Value.func (.func g) #[] cb] : Array Value).toList = [v] := rfl
  rw [hmu]
  obtain ⟨r1, ⟨A, k, hvv, r2, r3⟩, r4, r5, r6⟩ := hv
  subst hvv
  by_cases hxs : xs = []
  · subst hxs
    refine Goes.of_calls he ((AnyF.slices_SortFunc_none L A k (.func (.func g) #[] cb) w).mono ?_)
    rintro e w' ⟨rfl, rfl⟩
    refine ⟨[], rfl, F, [], ownL (.slice A 0 k) l, Same.refl _ _, fun _ h => h, fun _ h => .inl h, hF, .nil, ?_, by simpa using hnd, fun q hq => ?_⟩
    · have hs : sortT cf [] = [] := by simp [sortT]
      rw [hs]
      have := XOs.some (xs := []) (vs := []) (bs := []) (XV.row (E := E) (F := F) (w := w') (e := ρ.t 24) (xs := ([] : List T)) (l := l) ⟨r1, ⟨A, k, rfl, r2, r3⟩, r4, r5, r6⟩) .nil
      simpa using this
    · have := hb q (by simpa using hq)
      exact ⟨this.1, this.2, .inl (by simpa using hq)⟩
  · have hk0 : k ≠ 0 := by
      intro e; subst e
      exact hxs (List.length_eq_zero_iff.1 (by omega))
    obtain ⟨o, vs, lo, hi, rfl, hblk, hfit, hfrz, hcell⟩ := r6 _ _ _ rfl hk0
    have hol : ownL (.slice (some ⟨l, o, none⟩) xs.length k) l = [l] := by simp [ownL, capV, hk0]
    rw [hol] at hb hnd ⊢
    have hl : l < w.heap.size ∧ ¬ F l := hb l (by simp)
    obtain ⟨x0, hx0⟩ := List.exists_mem_of_ne_nil xs hxs
    letI : Inhabited (El xs) := ⟨⟨x0, hx0⟩⟩
    obtain ⟨K, hK⟩ : ∃ K, K = (E.ty (ρ.t 24)).size := ⟨_, rfl⟩
    rw [← hK] at r1 hfit hfrz hcell
    simp only [← hK] at r4 hsz
    obtain ⟨d, hd⟩ : ∃ d, d = attE xs := ⟨_, rfl⟩
    have hds : d.size = xs.length := by rw [hd]; exact attE_size xs
    have hdget : ∀ i (hi : i < xs.length), (d[i]!).1 = xs[i] := fun i hi => by rw [hd]; exact attE_get xs i hi
    have hflx : ∀ x ∈ xs, ∀ y ∈ x.cells, y.flat = true := fun x hx => flat_cells (flats_mem hfx x hx)
    have hk : ∀ x : El xs, (encE xs x).length = K := fun x => by unfold encE encT; rw [List.length_map]; exact r4 x.1 x.2
    have h1 : ∀ x : El xs, ∀ v ∈ encE xs x, v.oneCell' = true := by
      intro x v hv
      simp only [encE, encT, List.mem_map] at hv
      obtain ⟨y, hy, rfl⟩ := hv
      exact vOf_cell (r5 _ x.2 y hy) (hflx _ x.2 y hy)
    have hO : SWO (ltOf (cmpE xs cf)) := ⟨fun x => decide_eq_false (ho.irrefl _ x.2),
      fun x y z h1 h2 => decide_eq_true (ho.trans _ x.2 _ y.2 _ z.2 (of_decide_eq_true h1) (of_decide_eq_true h2)),
      fun x y z h1 h2 => decide_eq_false (ho.ntrans _ x.2 _ y.2 _ z.2 (of_decide_eq_false h1) (of_decide_eq_false h2))⟩
    have hT : ∀ x y, (ltOf (cmpE xs cf)) x y = false → (ltOf (cmpE xs cf)) y x = false → x = y := fun x y h1 h2 => Subtype.ext (ho.total _ x.2 _ y.2 (of_decide_eq_false h1) (of_decide_eq_false h2))
    have hjk : ∀ j t, j < xs.length → t < K → j * K + t < xs.length * K := by
      intro j t hj ht
      have := Nat.mul_le_mul_right K (show j + 1 ≤ xs.length from hj)
      rw [Nat.add_mul, Nat.one_mul] at this
      omega
    have hle : xs.length * K ≤ k * K := Nat.mul_le_mul_right K r2
    have hH : HoldsK (encE xs) K w l o d := by
      intro j hj
      rw [size_flatK, hds] at hj
      have hj' : j < d.size * K := by rw [hds]; exact hj
      have hq : j / K < xs.length := Nat.div_lt_of_lt_mul (by rw [Nat.mul_comm]; exact hj)
      have ht : j % K < K := Nat.mod_lt _ r1
      have hlt2 : j % K < (xs[j / K]).cells.length := by rw [r4 _ (List.getElem_mem hq)]; exact ht
      obtain ⟨u, u1, u2⟩ := hcell (j / K) _ (j % K) _ (List.getElem?_eq_getElem hq) (List.getElem?_eq_getElem hlt2)
      have hjj : j / K * K + j % K = j := Nat.div_add_mod' j K
      have hue := u2.vOf (r5 _ (List.getElem_mem hq) _ (List.getElem_mem hlt2)) (hflx _ (List.getElem_mem hq) _ (List.getElem_mem hlt2))
      have u1' : vs[o + j]? = some u := by rw [← hjj]; exact u1
      have hjl : o + j < vs.size := (Array.getElem?_eq_some_iff.1 u1').1
      refine ⟨?_, ?_⟩
      · rw [get_flatK (encE xs) K d j hj']
        simp only [World.cell?, hblk]
        simp only [Option.isSome_none, Bool.false_eq_true, if_false, id]
        rw [u1', hue]
        congr 1
        have e1 : (d[j / K]!).1 = xs[j / K] := hdget _ hq
        show _ = (encT (d[j / K]!).1)[j % K]!
        rw [e1]
        unfold encT
        rw [getElem!_pos _ _ (by simpa using hlt2)]
        simp
      · have := hfrz (o + j) (by omega) (by omega)
        simp only [World.frozen?, hblk]
        simp at this ⊢
        omega
    have hcmp : CmpLays P g cb (encE xs) K (cmpE xs cf) l o d.size w := by
      intro m os dk hdk x y
      have hW := sortWorld_size (encE xs) K w l o m dk os
      have hFW : ∀ q, F q → (sortWorldK (encE xs) K w l o m dk os).heap[q]? = w.heap[q]? := fun q hq => sortWorld_other (encE xs) K w l o m dk os q (hF q hq) (fun e => hl.2 (e ▸ hq))
      generalize hWW : sortWorldK (encE xs) K w l o m dk os = W at *
      have hs := sound hE0 _ _ (hcf x.1 x.2 y.1 y.2)
      have hs' : CallOK E0 P g (.t x.1 :: .t y.1 :: caps.map X.dref) [.t (.int .i64 (cf x.1 y.1))] [] := hs
      have agg : ∀ z : El xs, XV E0 F W (.t z.1) (.agg (encE xs z).toArray) [] := by
        intro z
        obtain ⟨cs, hcs⟩ := hax z.1 z.2
        have hz5 := r5 z.1 z.2
        have hzf := hflx z.1 z.2
        have hez : encE xs z = cs.map vOf := by simp [encE, encT, hcs, T.cells]
        rw [hez, hcs]
        rw [hcs] at hz5 hzf
        refine .t (.agg cs _ (by simp) hz5 (fun i c v hc hv => ?_))
        simp only [List.getElem?_toArray, List.getElem?_map, hc, Option.map_some, Option.some.injEq] at hv
        subst hv
        exact vOf_RD (hz5 c (List.mem_of_getElem? hc)) (hzf c (List.mem_of_getElem? hc))
      have hcaps : XVs E0 F W (caps.map X.dref) cb.toList [] := by
        have gen : ∀ (cs : List (List T)) (us : List Value), cs.length = us.length → (∀ (i : Nat) c u, cs[i]? = some c → us[i]? = some u → ∀ ct : Ctx, ct.F = F → Rel ct w (.dptr c) u) → XVs E0 F W (cs.map X.dref) us [] := by
          intro cs
          induction cs with
          | nil =>
            intro us hl _
            cases us with
            | nil => exact .nil
            | cons u r => simp at hl
          | cons c r ih =>
            intro us hl h
            cases us with
            | nil => simp at hl
            | cons u us =>
              have := XVs.cons (bs := []) (XV.dref (E := E0) (F := F) (w := W) (fun ct hct => (h 0 c u rfl rfl ct hct).mono (Ctx.Le.refl ct) (fun q hq => hFW q (hct ▸ hq)))) (ih us (by simpa using hl) (fun i c u hc hu => h (i + 1) c u (by simpa using hc) (by simpa using hu)))
              simpa using this
        exact gen caps cb.toList (by simpa using hcl) (fun i c u hc' hu => hc i c u hc' (by simpa using hu))
      have hXV : XVs E0 F W (.t x.1 :: .t y.1 :: caps.map X.dref) (#[Value.agg (encE xs x).toArray, .agg (encE xs y).toArray] ++ cb).toList [] := by
        have := XVs.cons (agg x) (XVs.cons (agg y) hcaps)
        simpa using this
      have hLW : Laid E0 F W := by
        intro q hq
        rw [hgl] at hq ⊢
        obtain ⟨h1, a, b, h2⟩ := hL q hq
        exact ⟨h1, a, b, by rw [hFW q h1]; exact h2⟩
      have hg2 := hs'.2 F W _ [] hXV (by simp) (by simp) (fun q hq => Nat.lt_of_lt_of_le (hF q hq) hW) hLW
      rcases hg2 with ⟨_, hc2⟩ | ⟨v, w', h1, _⟩
      · refine (calls_drawn hc2).mono ?_
        rintro e w' ⟨⟨us, rfl, F', br, bb, hsm, _, _, _, hus, _, _, _⟩, hdr⟩
        refine ⟨?_, grown_world (hsm.mono (fun i _ h => by simp at h)) (hdr (fun h => by cases h))⟩
        cases hus with
        | cons h r =>
          cases r with
          | nil =>
            cases h with
            | t h =>
              cases h
              rfl
      · rw [hg _ W] at h1
        cases h1
    have hsz2 : d.size < 4611686018427387904 := by rw [hds]; exact hlen0
    refine Goes.of_calls he ?_
    have hcall := AnyQ.slices_SortFunc_total L K hagg hsz (encE xs) hk h1 (cmpE xs cf) hO g cb l o k d w (fun args w => hg args w) hcmp hH hl.1 hsz2 hT
    rw [hds] at hcall
    refine hcall.mono ?_
    rintro e w' ⟨rfl, n, os, rfl⟩
    obtain ⟨D, hD⟩ : ∃ D : Array (El xs), D = (d.toList.mergeSort fun x y => !(ltOf (cmpE xs cf)) y x).toArray := ⟨_, rfl⟩
    rw [← hD]
    have hDl : D.toList.map Subtype.val = sortT cf xs := by
      rw [hD, hd]
      exact attE_sort xs cf
    have hDs : D.size = xs.length := by
      have := congrArg List.length hDl
      simpa [sortT] using this
    have hlen : (sortT cf xs).length = xs.length := by simp [sortT]
    have hmem : ∀ x ∈ sortT cf xs, x ∈ xs := fun x hx => by simpa [sortT] using hx
    have hDget : ∀ j (hj : j < xs.length), (sortT cf xs)[j]? = some (D[j]!).1 := by
      intro j hj
      rw [← hDl]
      have : j < D.size := by omega
      rw [getElem!_pos D j this]
      simp [this]
    refine ⟨[], rfl, F, [], [l], ⟨sortWorld_size (encE xs) K w l o n D os, fun q hq hne => sortWorld_other (encE xs) K w l o n D os q hq (fun e => hne (by simp [e])), rfl, rfl, rfl⟩, fun _ h => h, fun _ h => .inl h, fun q hq => Nat.lt_of_lt_of_le (hF q hq) (sortWorld_size (encE xs) K w l o n D os), .nil, ?_, by simp, fun q hq => ?_⟩
    · have hrow : RowV E F (sortWorldK (encE xs) K w l o n D os) (ρ.t 24) (sortT cf xs) (.slice (some ⟨l, o, none⟩) xs.length k) l := by
        unfold RowV
        rw [← hK]
        refine ⟨r1, ⟨_, k, by rw [hlen], by rw [hlen]; exact r2, r3⟩, fun x hx => r4 x (hmem x hx), fun x hx => r5 x (hmem x hx), fun A n' k' e hk' => ?_⟩
        cases e
        have hps : (putCells id o (flatK (encE xs) K D) vs).size = vs.size := by simp [putCells]
        refine ⟨o, _, lo, hi, rfl, sortWorld_at (encE xs) K w l o n D os hblk, by rw [hps]; exact hfit, hfrz, fun j x t y hx hy => ?_⟩
        have hj : j < xs.length := by have := (List.getElem?_eq_some_iff.1 hx).1; omega
        rw [hDget j hj] at hx
        obtain rfl := Option.some.inj hx
        have hDm := (D[j]!).2
        have ht : t < K := by have := (List.getElem?_eq_some_iff.1 hy).1; rw [r4 _ hDm] at this; exact this
        have hjt := hjk j t hj ht
        refine ⟨vOf y, ?_, vOf_RD (r5 _ hDm y (List.mem_of_getElem? hy)) (hflx _ hDm y (List.mem_of_getElem? hy))⟩
        have hfs : j * K + t < (flatK (encE xs) K D).size := by rw [size_flatK, hDs]; exact hjt
        rw [putCells_get o _ vs (j * K + t) hfs (by have : o + k * K ≤ vs.size := hfit; omega), get_flatK (encE xs) K D _ (by rw [hDs]; exact hjt)]
        have q1 : (j * K + t) / K = j := by
          rw [Nat.mul_comm, Nat.mul_add_div r1, Nat.div_eq_of_lt ht, Nat.add_zero]
        have q2 : (j * K + t) % K = t := by
          rw [Nat.mul_comm, Nat.mul_add_mod, Nat.mod_eq_of_lt ht]
        rw [q1, q2]
        show some ((encT (D[j]!).1)[t]!) = some (vOf y)
        congr 1
        unfold encT
        have hlt3 : t < ((D[j]!).1.cells.map vOf).length := by rw [List.length_map, r4 _ hDm]; exact ht
        rw [getElem!_pos ((D[j]!).1.cells.map Ev.vOf) t hlt3, List.getElem_map]
        have : (D[j]!).1.cells[t]? = some y := hy
        rw [List.getElem?_eq_some_iff] at this
        obtain ⟨_, e⟩ := this
        rw [e]
      have hown : ownL (.slice (some ⟨l, o, none⟩) xs.length k) l = [l] := hol
      have := XOs.some (xs := []) (vs := []) (bs := []) (XV.row hrow) .nil
      rw [hown] at this
      simpa using this
    · simp at hq
      subst hq
      exact ⟨Nat.lt_of_lt_of_le hl.1 (sortWorld_size (encE xs) K w q o n D os), hl.2, .inl (by simp)⟩
end Go.Ev
namespace Go.Ev
set_option linter.unusedVariables false
set_option maxRecDepth 10000
abbrev Ext := Nat → Option (List X → Option (List X × List (Option X)))
abbrev Env.withExt (E : Env) (x : Ext) : Env := { E with ext := x }
theorem resVals_up (E : Env) (x : Ext) (st : St) : ∀ rs : List ResultVar, st.resVals (E.withExt x) rs = st.resVals E rs
  | [] => rfl
  | .tmp t :: r => by simp only [St.resVals, resVals_up E x st r]
  | .cell a t :: r => by
    simp only [St.resVals, resVals_up E x st r]
    rfl
theorem finish_up (E : Env) (x : Ext) (st : St) (b : Bool) (rs : List ResultVar) (m : List SV) : st.finish (E.withExt x) b rs m = st.finish E b rs m := by
  unfold St.finish
  rw [resVals_up]
theorem body_code_up (E : Env) (x : Ext) (rn : Task → Option Out) (c : Code) (st : St) : body (E.withExt x) rn (.code c st) = body E rn (.code c st) := rfl
theorem body_ops_up (E : Env) (x : Ext) (rn : Task → Option Out) (m a l st) : body (E.withExt x) rn (.ops m a l st) = body E rn (.ops m a l st) := rfl
theorem run_up (E : Env) (x : Ext) (hn : ∀ f, E.ext f = none → x f = none) (hs : ∀ f g, E.ext f = some g → ∃ g', x f = some g' ∧ ∀ a r, g a = some r → g' a = some r) : ∀ t o, run E t = some o → run (E.withExt x) t = some o := by
  refine run.partial_correctness E (fun t o => run (E.withExt x) t = some o) (fun rn ih t r h => ?_)
  have h2 := body_mono (rn' := run (E.withExt x)) ih h
  rw [run_eq]
  cases t with
  | code c st => rw [body_code_up]; exact h2
  | ops m a l st => rw [body_ops_up]; exact h2
  | call f args =>
    unfold body at h2 ⊢
    dsimp only at h2 ⊢
    cases hx : E.ext f with
    | none =>
      rw [hx] at h2
      rw [hn f hx]
      dsimp only at h2 ⊢
      simp only [finish_up]
      exact h2
    | some g =>
      rw [hx] at h2
      obtain ⟨g', e1, e2⟩ := hs f g hx
      rw [e1]
      dsimp only at h2 ⊢
      cases hg : g args with
      | none => rw [hg] at h2; cases h2
      | some q => rw [hg] at h2; rw [e2 _ _ hg]; exact h2
end Go.Ev
