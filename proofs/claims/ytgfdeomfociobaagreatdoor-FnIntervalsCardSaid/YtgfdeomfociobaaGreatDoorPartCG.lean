/-
  DERIVED: THE SHELF's CONTRACTS AT THIS DUMP, IN PLAIN WORDS (tools/lay-plain.mjs out of 'TryzShelf.lean', which tools/lay-shelf.mjs wrote): THE SAME DECLARATIONS UNDER THE SAME NAMES: 'import', 'namespace', 'open', 'def', 'theorem' AND NOTHING ELSE: no command of the shelf's: FOR A HAND-IN. Each laying: the table of numbers ('.._ren') and one theorem, a field a fact of the dump's own or the kernel's comparison; each contract: ONE APPLICATION.
-/
import Derived.Shelf.Small.Strs
import Derived.Shelf.Strings.Repeat
import Derived.Test.YtgfdeomfociobaaGreatDoorProg
import Derived.Test.YtgfdeomfociobaaGreatDoorPartCE
import Derived.Below
import Derived.Test.YtgfdeomfociobaaGreatDoorPartCF
namespace Go.Proofs
open Go.Shelf
def Tryz.lays213_ren : Go.Shelf.Ren := ⟨fun | 213 => 296 | 265 => 361 | n => n, fun | 9 => 9 | 3 => 3 | n => n, fun | n => n⟩
theorem Tryz.lays213 : Go.Proofs.Lays.n213 Tryz.prog Tryz.lays213_ren := {
  mixed := by kernel_rfl
  f213 := Tryz.func296.trans (congrArg some (by kernel_rfl))
  f265 := Tryz.func361.trans (congrArg some (by kernel_rfl))
  t3 := Tryz.underlying3
  a3 := Tryz.isAgg3
  z3 := Tryz.sizeOf3
  v3 := Tryz.zeroValue3
  t9 := Tryz.underlying9
  a9 := Tryz.isAgg9
  z9 := Tryz.sizeOf9
  v9 := Tryz.zeroValue9 }
open Go.RowKit in
/-- internal/bytealg.CompareString (what strings.Compare calls): IT RETURNS 'Lib.compareBytes a b'; the world is as it was. (LAID: no walk: one application.) -/
theorem Tryz.bytealg_CompareString (a b : ByteArray) (w : World) :
    Calls Tryz.prog 296 #[.string a, .string b] w fun e w' => e = .returned (.int .i64 (Lib.compareBytes a.data.toList b.data.toList)) ∧ w' = w := Any.bytealg_CompareString Tryz.lays213 a b w
def Tryz.lays105_ren : Go.Shelf.Ren := ⟨fun | 105 => 378 | 212 => 396 | 99 => 397 | 165 => 285 | 166 => 286 | 170 => 398 | 169 => 287 | 263 => 412 | 264 => 413 | 206 => 414 | 240 => 352 | 241 => 353 | 276 => 380 | 277 => 381 | n => n, fun | 9 => 9 | 3 => 3 | 4 => 4 | 20 => 20 | 0 => 0 | 46 => 375 | 109 => 428 | 5 => 5 | 72 => 336 | 76 => 340 | 51 => 441 | 146 => 444 | 53 => 423 | 148 => 446 | 70 => 334 | 37 => 110 | 75 => 339 | 127 => 390 | 164 => 415 | 80 => 305 | n => n, fun | n => n⟩
theorem Tryz.lays105 : Go.Proofs.Lays.n105 Tryz.prog Tryz.lays105_ren := {
  mixed := by kernel_rfl
  f99 := Tryz.func397.trans (congrArg some (by kernel_rfl))
  f105 := Tryz.func378.trans (congrArg some (by kernel_rfl))
  f165 := Tryz.func285.trans (congrArg some (by kernel_rfl))
  f166 := Tryz.func286.trans (congrArg some (by kernel_rfl))
  f169 := Tryz.func287.trans (congrArg some (by kernel_rfl))
  f170 := Tryz.func398.trans (congrArg some (by kernel_rfl))
  f206 := Tryz.func414.trans (congrArg some (by kernel_rfl))
  f212 := Tryz.func396.trans (congrArg some (by kernel_rfl))
  f240 := Tryz.func352.trans (congrArg some (by kernel_rfl))
  f241 := Tryz.func353.trans (congrArg some (by kernel_rfl))
  f263 := Tryz.func412.trans (congrArg some (by kernel_rfl))
  f264 := Tryz.func413.trans (congrArg some (by kernel_rfl))
  f276 := Tryz.func380.trans (congrArg some (by kernel_rfl))
  f277 := Tryz.func381.trans (congrArg some (by kernel_rfl))
  t0 := Tryz.underlying0
  a0 := Tryz.isAgg0
  z0 := Tryz.sizeOf0
  v0 := Tryz.zeroValue0
  t3 := Tryz.underlying3
  a3 := Tryz.isAgg3
  z3 := Tryz.sizeOf3
  v3 := Tryz.zeroValue3
  t4 := Tryz.underlying4
  a4 := Tryz.isAgg4
  z4 := Tryz.sizeOf4
  v4 := Tryz.zeroValue4
  t5 := Tryz.underlying5
  a5 := Tryz.isAgg5
  z5 := Tryz.sizeOf5
  v5 := Tryz.zeroValue5
  t9 := Tryz.underlying9
  a9 := Tryz.isAgg9
  z9 := Tryz.sizeOf9
  v9 := Tryz.zeroValue9
  t20 := Tryz.underlying20
  a20 := Tryz.isAgg20
  z20 := Tryz.sizeOf20
  v20 := Tryz.zeroValue20
  t37 := Tryz.underlying110
  a37 := Tryz.isAgg110
  z37 := Tryz.sizeOf110
  v37 := Tryz.zeroValue110
  t46 := Tryz.underlying375
  a46 := Tryz.isAgg375
  z46 := Tryz.sizeOf375
  v46 := Tryz.zeroValue375
  t51 := Tryz.underlying441
  a51 := Tryz.isAgg441
  z51 := Tryz.sizeOf441
  v51 := Tryz.zeroValue441
  t53 := Tryz.underlying423
  a53 := Tryz.isAgg423
  z53 := Tryz.sizeOf423
  v53 := Tryz.zeroValue423
  t70 := Tryz.underlying334
  a70 := Tryz.isAgg334
  z70 := Tryz.sizeOf334
  v70 := Tryz.zeroValue334
  t72 := Tryz.underlying336
  a72 := Tryz.isAgg336
  z72 := Tryz.sizeOf336
  v72 := Tryz.zeroValue336
  t75 := Tryz.underlying339
  a75 := Tryz.isAgg339
  z75 := Tryz.sizeOf339
  v75 := Tryz.zeroValue339
  t76 := Tryz.underlying340
  a76 := Tryz.isAgg340
  z76 := Tryz.sizeOf340
  v76 := Tryz.zeroValue340
  t109 := Tryz.underlying428
  a109 := Tryz.isAgg428
  z109 := Tryz.sizeOf428
  v109 := Tryz.zeroValue428
  t127 := Tryz.underlying390
  a127 := Tryz.isAgg390
  z127 := Tryz.sizeOf390
  v127 := Tryz.zeroValue390
  t146 := Tryz.underlying444
  a146 := Tryz.isAgg444
  z146 := Tryz.sizeOf444
  v146 := Tryz.zeroValue444
  t148 := Tryz.underlying446
  a148 := Tryz.isAgg446
  z148 := Tryz.sizeOf446
  v148 := Tryz.zeroValue446
  t164 := Tryz.underlying415
  a164 := Tryz.isAgg415
  z164 := Tryz.sizeOf415
  v164 := Tryz.zeroValue415 }
theorem Tryz.Builder_Extra_105 : Builder.Extra Tryz.prog Tryz.lays105_ren := {
  sizeBuilder := by kernel_rfl
  liesBuilder := by kernel_rfl
  t5 := Tryz.underlying5
  a5 := Tryz.isAgg5
  z5 := Tryz.sizeOf5
  v5 := Tryz.zeroValue5
  infoByte := by kernel_rfl
  cellsByte := by kernel_rfl
  sizeByte := by kernel_rfl
  neB5 := by decide }
open Go.RowKit Go.Lib in
/-- **strings.Repeat: count ≥ 0, the result within one allocation: count copies of s.** (LAID: no walk: one application.) -/
theorem Tryz.strings_Repeat (s : ByteArray) (c : Nat) (w : World) (hc : c ≤ 9223372036854775807) (hlen : s.size * c ≤ 140737488355328) :
    Calls Tryz.prog 378 #[.string s, .int .i64 c] w fun e w' => e = .returned (.string ⟨(Lib.repeatL s.data.toList c).toArray⟩) ∧ Below w.heap.size w w' := Any.strings_Repeat Tryz.lays105 Tryz.Builder_Extra_105 s c w hc hlen
end Go.Proofs
/- The library's functions that are met by their contracts. -/
set_option linter.unusedSimpArgs false
set_option linter.unusedVariables false
namespace Go.Yd
open Go.Ev Go.Proofs Go.RowKit
theorem same_of_below {w w' : World} (h : Below w.heap.size w w') : Same w w' (fun _ => False) := ⟨h.size, fun k hk _ => h.block k hk, h.tape, h.os, h.output⟩
theorem callOK_flat {E : Env} {P : Program} {f : Nat} {args : List X} {r : T} (hr : r.flat = true) (h1 : r.one = true) (hm : E.md f = [])
    (h : ∀ (F : Nat → Prop) (w : World) (vals : Array Value) (bl : List Nat), XVs E F w args vals.toList bl → (∀ k, F k → k < w.heap.size) → Laid E F w → ∃ v, RD F w r v ∧ ((callFunc f vals).run P w = .ok (.value v) w ∨ ((callFunc f vals).run P w = .ok (.enter f vals) w ∧ Calls P f vals w (fun e w' => e = .returned v ∧ Below w.heap.size w w')))) :
    CallOK E P f args [.t r] [] := by
  refine ⟨fun _ => ⟨by simp [X.flats, X.flat, hr], rfl, rfl⟩, fun F w vals bl hx hn hb hF hL => ?_⟩
  obtain ⟨v, hv, hc⟩ := h F w vals bl hx hF hL
  have key : ∀ w', Below w.heap.size w w' → Go.Ev.Leaves E F w bl (muts (E.md f) vals.toList) [.t r] [] [v] w' := by
    intro w' hw
    refine ⟨F, [], [], (same_of_below hw).mono (fun _ _ h => h.elim), fun _ h => h, fun _ h => .inl h, fun k hk => Nat.lt_of_lt_of_le (hF k hk) hw.size, .cons (b := []) (.t (hv.flat hr)) .nil, ?_, by simp, by simp⟩
    rw [hm, show muts [] vals.toList = [] from muts_nil _]
    exact .nil
  rcases hc with hc | ⟨hc, hC⟩
  · exact .inr ⟨v, w, hc, [v], rfl, key w (Below.refl _ _)⟩
  · refine .inl ⟨hc, hC.mono ?_⟩
    rintro e w' ⟨rfl, hw⟩
    exact ⟨[v], rfl, key w' hw⟩
theorem xvs_two {E : Env} {F : Nat → Prop} {w : World} {a b : T} {vs : List Value} {bl : List Nat} (h : XVs E F w [.t a, .t b] vs bl) : ∃ u v, vs = [u, v] ∧ RD F w a u ∧ RD F w b v := by
  cases h with
  | cons h r =>
    cases r with
    | cons h' r' =>
      cases r' with
      | nil =>
        cases h with
        | t h => cases h' with
          | t h' => exact ⟨_, _, rfl, h, h'⟩
theorem arr_two {vals : Array Value} {u v : Value} (h : vals.toList = [u, v]) : vals = #[u, v] := by
  cases vals; simpa using h
theorem ext_ok : ∀ f g args rs bs, extOf f = some g → g args = some (rs, bs) → CallOK E Tryz.prog f args rs bs := by
  intro f g args rs bs hx hg
  unfold extOf at hx
  split at hx
  · obtain rfl := Option.some.inj hx
    dsimp only at hg
    split at hg
    · rename_i a b
      obtain ⟨rfl, rfl⟩ := Prod.mk.inj (Option.some.inj hg)
      refine callOK_flat rfl rfl rfl (fun F w vals bl h _ _ => ?_)
      obtain ⟨u, v, hv, hu, hv'⟩ := xvs_two h
      obtain rfl := arr_two hv
      cases hu; cases hv'
      refine ⟨_, .int _ _, .inr ⟨Go.Proofs.enters_of Tryz.func296 (by kernel_rfl) rfl _ _, (Tryz.bytealg_CompareString ⟨⟨a⟩⟩ ⟨⟨b⟩⟩ w).mono ?_⟩⟩
      rintro e w' ⟨rfl, rfl⟩
      exact ⟨rfl, Below.refl _ _⟩
    · cases hg
  · obtain rfl := Option.some.inj hx
    dsimp only at hg
    split at hg
    · rename_i a n
      split at hg
      · rename_i hn
        obtain ⟨rfl, rfl⟩ := Prod.mk.inj (Option.some.inj hg)
        refine callOK_flat rfl rfl rfl (fun F w vals bl h _ _ => ?_)
        obtain ⟨u, v, hv, hu, hv'⟩ := xvs_two h
        obtain rfl := arr_two hv
        cases hu; cases hv'
        obtain ⟨h0, h1, h2⟩ := hn
        have hc := Tryz.strings_Repeat ⟨⟨a⟩⟩ n.toNat w (by omega) (by simpa [ByteArray.size] using h2)
        rw [Int.toNat_of_nonneg h0] at hc
        refine ⟨_, .str _, .inr ⟨Go.Proofs.enters_of Tryz.func378 (by kernel_rfl) rfl _ _, hc⟩⟩
      · cases hg
    · cases hg
  · obtain rfl := Option.some.inj hx
    dsimp only at hg
    split at hg
    · rename_i a c
      obtain ⟨rfl, rfl⟩ := Prod.mk.inj (Option.some.inj hg)
      refine callOK_flat rfl rfl rfl (fun F w vals bl h _ _ => ?_)
      obtain ⟨u, v, hv, hu, hv'⟩ := xvs_two h
      obtain rfl := arr_two hv
      cases hu; cases hv'
      refine ⟨_, .int _ _, .inl ?_⟩
      rw [run_callFunc_extern Tryz.func405 (by kernel_rfl) (by kernel_rfl) (by kernel_rfl) (e := Extern.BytealgCount.count) (by kernel_rfl), Lib.run_countString]
      rfl
    · cases hg
  · obtain rfl := Option.some.inj hx
    dsimp only at hg
    split at hg
    · rename_i a c
      obtain ⟨rfl, rfl⟩ := Prod.mk.inj (Option.some.inj hg)
      refine callOK_flat rfl rfl rfl (fun F w vals bl h _ _ => ?_)
      obtain ⟨u, v, hv, hu, hv'⟩ := xvs_two h
      obtain rfl := arr_two hv
      cases hu; cases hv'
      refine ⟨_, .int _ _, .inl ?_⟩
      rw [run_callFunc_extern Tryz.func422 (by kernel_rfl) (by kernel_rfl) (by kernel_rfl) (e := Extern.BytealgIndexByte.indexByte) (by kernel_rfl), Lib.run_indexByteString]
      rfl
    · cases hg
  · cases hx
theorem E_sok : SOK E Tryz.prog := envD_sok mixed names_ok ext_ok
end Go.Yd
/- What comes in, as plain data: the parameters' types read off. -/
set_option linter.unusedSimpArgs false
set_option linter.unusedVariables false
namespace Go.Yd
open Go.Ev Go.Proofs Go.Pu
set_option maxRecDepth 100000
set_option maxHeartbeats 4000000
theorem list_choose {α β : Type} {enc : α → β} {P : α → Prop} : ∀ {xs : List β}, (∀ x ∈ xs, ∃ a, x = enc a ∧ P a) → ∃ l : List α, xs = l.map enc ∧ ∀ a ∈ l, P a
  | [], _ => ⟨[], rfl, by simp⟩
  | x :: xs, h => by
    obtain ⟨a, h1, h2⟩ := h x (by simp)
    obtain ⟨l, h3, h4⟩ := list_choose (fun y hy => h y (List.mem_cons_of_mem _ hy))
    refine ⟨a :: l, by simp [h1, h3], fun b hb => ?_⟩
    rcases List.mem_cons.1 hb with rfl | hb
    · exact h2
    · exact h4 b hb
theorem typed_int {n : Nat} {ts : List T} (h : typed E (n + 1) 3 ts) : ∃ m, ts = [.int .i64 m] := by
  unfold typed at h
  rw [E_ty3] at h
  simp only at h
  split at h <;> first | exact h.elim | skip
  all_goals rename_i hk
  all_goals first | cases hk | skip
  all_goals first | (obtain ⟨rfl, _⟩ := h; exact ⟨_, rfl⟩) | skip
theorem typed_str {n : Nat} {ts : List T} (h : typed E (n + 1) 9 ts) : ∃ s, ts = [.str s] ∧ W s.length := by
  unfold typed at h
  rw [E_ty9] at h
  simp only at h
  split at h <;> first | exact h.elim | skip
  all_goals rename_i hk
  all_goals first | cases hk | skip
  all_goals first | exact ⟨_, rfl, by unfold W; omega⟩ | skip
theorem typed_bool {n : Nat} {ts : List T} (h : typed E (n + 1) 4 ts) : ∃ b, ts = [.bool b] := by
  unfold typed at h
  rw [E_ty4] at h
  simp only at h
  split at h <;> first | exact h.elim | skip
  all_goals rename_i hk
  all_goals first | cases hk | skip
  all_goals first | exact ⟨_, rfl⟩ | skip
theorem typed_slice {n t : Nat} {ts : List T} (hk : (E.ty t).k = .slice) (hb : 1 ≤ (E.ty (E.ty t).elem).bytes) (h : typed E (n + 1) t ts) : ∃ xs, ts = [.list xs] ∧ W xs.length ∧ ∀ x ∈ xs, ∃ cs, x = (if (E.ty (E.ty t).elem).agg then T.agg cs else (cs.headD (.bool false))) ∧ cs.length = (E.ty (E.ty t).elem).size ∧ typed E n (E.ty t).elem cs := by
  unfold typed at h
  rw [hk] at h
  try simp only at h
  split at h <;> first | exact h.elim | skip
  all_goals rename_i hk'
  all_goals first | cases hk' | skip
  rename_i xs
  refine ⟨xs, rfl, ?_, h.2⟩
  have := Nat.le_mul_of_pos_right xs.length hb
  unfold W
  have := h.1
  omega
theorem typed_struct {n t : Nat} {ts : List T} (hk : (E.ty t).k = .struct) (h : typed E (n + 1) t ts) : ts.length = (E.ty t).size ∧ ∀ p ∈ (E.ty t).fields, typed E n p.2 ((ts.drop p.1).take (E.ty p.2).size) := by
  unfold typed at h
  rw [hk] at h
  exact h
theorem dec26 {n : Nat} {ts : List T} (h : typed E (n + 2) 26 ts) : ∃ v : Val, ts = [.int .i64 v.k, .int .i64 v.n, .str v.t] ∧ W v.t.length := by
  obtain ⟨h1, h2⟩ := typed_struct (by simp) h
  simp at h1 h2
  obtain ⟨g1, g2, g3⟩ := h2
  match ts, h1 with
  | [a, b, c], _ =>
    obtain ⟨x, hx⟩ := typed_int g1
    obtain ⟨y, hy⟩ := typed_int g2
    obtain ⟨z, hz, hz2⟩ := typed_str g3
    simp at hx hy hz
    exact ⟨⟨x, y, z⟩, by simp [hx, hy, hz], hz2⟩
theorem dec392 {n : Nat} {ts : List T} (h : typed E (n + 3) 392 ts) : ∃ t : Trm, T.agg ts = trmT t ∧ t.wd := by
  obtain ⟨h1, h2⟩ := typed_struct (by simp) h
  simp at h1 h2
  obtain ⟨g1, g2, g3⟩ := h2
  match ts, h1 with
  | [a, b, c, d, e], _ =>
    obtain ⟨x, hx⟩ := typed_int g1
    obtain ⟨y, hy, hy2⟩ := typed_str g2
    obtain ⟨v, hv, hv2⟩ := dec26 g3
    simp at hx hy hv
    exact ⟨⟨x, y, v⟩, by simp [hx, hy, hv], hy2, hv2⟩
theorem dec241 {n : Nat} {ts : List T} (h : typed E (n + 4) 241 ts) : ∃ c : List Trm, ts = [.list (c.map trmT)] ∧ clsWd c := by
  obtain ⟨xs, rfl, h1, h2⟩ := typed_slice (by simp) (by simp) h
  obtain ⟨l, rfl, h4⟩ := list_choose (enc := trmT) (P := Trm.wd) (fun x hx => by
    obtain ⟨cs, e, _, h⟩ := h2 x hx
    simp at e h
    obtain ⟨t, h3, h4⟩ := dec392 h
    exact ⟨t, e.trans h3, h4⟩)
  exact ⟨l, rfl, by simpa using h1, h4⟩
theorem dec243 {n : Nat} {ts : List T} (h : typed E (n + 5) 243 ts) : ∃ c : List Trm, T.agg ts = clsT c ∧ clsWd c := by
  obtain ⟨h1, h2⟩ := typed_struct (by simp) h
  simp at h1 h2
  match ts, h1 with
  | [a], _ =>
    obtain ⟨c, hc, hw⟩ := dec241 h2
    simp at hc
    exact ⟨c, by simp [hc], hw⟩
theorem dec22 {n : Nat} {ts : List T} (h : typed E (n + 6) 22 ts) : ∃ f : List (List Trm), ts = [.list (f.map clsT)] ∧ filWd f := by
  obtain ⟨xs, rfl, h1, h2⟩ := typed_slice (by simp) (by simp) h
  obtain ⟨l, rfl, h4⟩ := list_choose (enc := clsT) (P := clsWd) (fun x hx => by
    obtain ⟨cs, e, _, h⟩ := h2 x hx
    simp at e h
    obtain ⟨t, h3, h4⟩ := dec243 h
    exact ⟨t, e.trans h3, h4⟩)
  exact ⟨l, rfl, by simpa using h1, h4⟩
theorem dec24 {n : Nat} {ts : List T} (h : typed E (n + 7) 24 ts) : ∃ f : List (List Trm), ts = [.list (f.map clsT)] ∧ filWd f := by
  obtain ⟨h1, h2⟩ := typed_struct (by simp) h
  simp at h1 h2
  match ts, h1 with
  | [a], _ => simpa using dec22 h2
theorem dec351 {n : Nat} {ts : List T} (h : typed E (n + 2) 351 ts) : ∃ p : Prt, T.agg ts = prtT p ∧ W p.path.length := by
  obtain ⟨h1, h2⟩ := typed_struct (by simp) h
  simp at h1 h2
  obtain ⟨g1, g2⟩ := h2
  match ts, h1 with
  | [a, b], _ =>
    obtain ⟨x, hx, hx2⟩ := typed_str g1
    obtain ⟨y, hy⟩ := typed_bool g2
    simp at hx hy
    exact ⟨⟨x, y⟩, by simp [hx, hy], hx2⟩
theorem dec63 {n : Nat} {ts : List T} (h : typed E (n + 3) 63 ts) : ∃ c : List Prt, ts = [.list (c.map prtT)] ∧ prtsWd c := by
  obtain ⟨xs, rfl, h1, h2⟩ := typed_slice (by simp) (by simp) h
  obtain ⟨l, rfl, h4⟩ := list_choose (enc := prtT) (P := fun p => W p.path.length) (fun x hx => by
    obtain ⟨cs, e, _, h⟩ := h2 x hx
    simp at e h
    obtain ⟨t, h3, h4⟩ := dec351 h
    exact ⟨t, e.trans h3, h4⟩)
  exact ⟨l, rfl, by simpa using h1, h4⟩
end Go.Yd
/- Fields by name: spec's l02Field; impl's findField, field; ids. -/
set_option linter.unusedSimpArgs false
set_option linter.unusedVariables false
namespace Go.Yd
open Go.Ev Go.Proofs Go.Pu
set_option maxRecDepth 100000
set_option maxHeartbeats 16000000
theorem compareBytes_lt : ∀ (a b : Bytes), (Lib.compareBytes a b < 0) = (Op.bytesLess a b = true)
  | [], [] => by simp [Lib.compareBytes, Op.bytesLess]
  | [], _ :: _ => by simp [Lib.compareBytes, Op.bytesLess]
  | _ :: _, [] => by simp [Lib.compareBytes, Op.bytesLess]
  | x :: a, y :: b => by
    have ih := compareBytes_lt a b
    unfold Lib.compareBytes Op.bytesLess
    by_cases h1 : x < y
    · simp [h1]
    · by_cases h2 : y < x
      · have : ¬ x = y := fun e => by subst e; exact h1 h2
        simp [h1, h2, this]
      · have e : x = y := UInt8.le_antisymm (UInt8.not_lt.1 h2) (UInt8.not_lt.1 h1)
        subst e
        simp [h1, ih]
theorem compareBytes_eq : ∀ (a b : Bytes), (Lib.compareBytes a b = 0) = (a = b)
  | [], [] => by simp [Lib.compareBytes]
  | [], _ :: _ => by simp [Lib.compareBytes]
  | _ :: _, [] => by simp [Lib.compareBytes]
  | x :: a, y :: b => by
    have ih := compareBytes_eq a b
    unfold Lib.compareBytes
    by_cases h1 : x < y
    · have : ¬ x = y := fun e => by subst e; exact absurd h1 (UInt8.lt_irrefl x)
      simp [h1, this]
    · by_cases h2 : y < x
      · have : ¬ x = y := fun e => by subst e; exact h1 h2
        simp [h1, h2, this]
      · have e : x = y := UInt8.le_antisymm (UInt8.not_lt.1 h2) (UInt8.not_lt.1 h1)
        subst e
        simp [h1, ih]
theorem compare (a b : Bytes) : run E (.call 194 [xS a, xS b]) = some (.res [xI (Lib.compareBytes a b)] []) := by
  have h : run E (.call 296 [xS a, xS b]) = some (.res [xI (Lib.compareBytes a b)] []) := by
    rw [run_ext E 296 _ (g := _) rfl]
    simp
  rw [run_call E 194 _ rfl Tryz.func194 rfl rfl rfl (by simp)]
  simp [h]
theorem findClosure (f : Fld) (name : Bytes) : run E (.call 261 [.t (fldT f), xS name]) = some (.res [xI (Lib.compareBytes f.name name)] []) := by
  rw [run_call E 261 _ rfl Tryz.func261 rfl rfl rfl (by simp)]
  simp [compare f.name name]
/-- Where a search by halves ends. -/
def seekI (fs : List Fld) (name : Bytes) : Nat := halves (fun k => match fs[k]? with
  | some f => Op.bytesLess f.name name
  | none => false) (fs.length + 1) 0 fs.length
def thereI (fs : List Fld) (name : Bytes) : Bool := match fs[seekI fs name]? with
  | some f => f.name == name
  | none => false
theorem wrap_u64 {n : Nat} (h : n < 18446744073709551616) : IntKind.u64.wrap (n : Int) = n := by
  simp [IntKind.wrap, IntKind.bits, IntKind.signed]
  omega
theorem pow_u64 : (2 : Int) ^ min 1 IntKind.u64.bits = 2 := by rfl
theorem binarySearch (fs : List Fld) (name : Bytes) (hl : fs.length < 4294967296) : run E (.call 260 [.t (.list (fs.map fldT)), xS name, .fn 261 []]) = some (.res [xI (seekI fs name : Nat), xB (thereI fs name)] []) := by
  rw [run_call E 260 _ rfl Tryz.func260 rfl rfl rfl (by simp)]
  have lp := sk (fun s o q hI => loop_wf (c := loopAt Tryz.f260 0) (N := 49)
    (fun k s o q => ∃ i j : Nat, s 0 = .t (.list (fs.map fldT)) ∧ s 1 = .t (.str name) ∧ s 2 = .fn 261 [] ∧ s 8 = .t (.int .i64 fs.length) ∧ s 9 = .t (.int .i64 i) ∧ s 10 = .t (.int .i64 j) ∧ j ≤ fs.length ∧ i ≤ j ∧ k = j - i ∧ ∃ n, k < n ∧ halves (fun k => match fs[k]? with
        | some f => Op.bytesLess f.name name
        | none => false) n i j = seekI fs name)
    (fun e s' o' q' => e = .exit 0 ∧ s' 0 = .t (.list (fs.map fldT)) ∧ s' 1 = .t (.str name) ∧ s' 2 = .fn 261 [] ∧ s' 8 = .t (.int .i64 fs.length) ∧ s' 9 = .t (.int .i64 (seekI fs name : Nat)))
    (by
      rintro k s o q ⟨i, j, h0, h1, h2, h8, h9, h10, hj, hij, hk, n, hn, hh⟩
      cases n with
      | zero => omega
      | succ n =>
        unfold halves at hh
        by_cases hlt : i < j
        · have hlt' : (i : Int) < (j : Int) := by omega
          have hw1 : IntKind.i64.wrap ((i : Int) + (j : Int)) = ((i + j : Nat) : Int) := by rw [wrap_of (by omega) (by omega)]; omega
          have hw2 := wrap_u64 (n := i + j) (by omega)
          obtain ⟨m, hme⟩ : ∃ m, m = (i + j) / 2 := ⟨_, rfl⟩
          have hm : m < fs.length := by omega
          have hw3 := wrap_nat (n := m) (by omega)
          have hw4 := wrap_succ (n := m) (by omega)
          have hfd : ((i : Int) + (j : Int)).fdiv 2 = (m : Int) := by rw [Int.fdiv_eq_ediv_of_nonneg _ (by omega)]; omega
          have hed : ((i : Int) + (j : Int)) / 2 = (m : Int) := by omega
          have hx : fs[m]? = some fs[m] := List.getElem?_eq_getElem hm
          have hc := findClosure fs[m] name
          rw [if_pos hlt, ← hme] at hh
          simp only [hx] at hh
          simp only [Int.natCast_add] at hw1 hw2
          cases hb : Op.bytesLess fs[m].name name with
          | true =>
            have hcl : Lib.compareBytes fs[m].name name < 0 := by rw [compareBytes_lt]; exact hb
            simp [hb] at hh
            simp [loopAt, loopsOf, Tryz.f260, h0, h1, h2, h8, h9, h10, hlt', pow_u64, hw1, hw2, hfd, hed, hw3, hw4, hx, hc, hcl, hm]
            exact ⟨j - (m + 1), by omega, m + 1, by simp, j, rfl, hj, by omega, rfl, n, by omega, hh⟩
          | false =>
            have hcl : ¬ Lib.compareBytes fs[m].name name < 0 := by rw [compareBytes_lt]; simp [hb]
            simp [hb] at hh
            simp [loopAt, loopsOf, Tryz.f260, h0, h1, h2, h8, h9, h10, hlt', pow_u64, hw1, hw2, hfd, hed, hw3, hw4, hx, hc, hcl, hm]
            exact ⟨m - i, by omega, i, rfl, m, rfl, by omega, by omega, rfl, n, by omega, hh⟩
        · have hlt' : ¬ (i : Int) < (j : Int) := by omega
          rw [if_neg hlt] at hh
          simp [loopAt, loopsOf, Tryz.f260, h0, h1, h2, h8, h9, h10, hlt', ← hh])
    fs.length s o q hI)
  simp only [loopAt, loopsOf, Tryz.f260] at lp
  obtain ⟨X, A, B, C, hx⟩ := lp
  have hx' := fun s o q a0 a1 a2 a8 a9 a10 => hx s o q ⟨0, fs.length, a0, a1, a2, a8, a9, a10, Nat.le_refl _, Nat.zero_le _, by omega, fs.length + 1, by omega, rfl⟩
  clear hx
  simp at hx'
  unfold thereI
  by_cases hs : seekI fs name < fs.length
  · have hs' : (seekI fs name : Int) < (fs.length : Int) := by omega
    have hg : fs[seekI fs name]? = some fs[seekI fs name] := List.getElem?_eq_getElem hs
    have hc := findClosure fs[seekI fs name] name
    have heq : (Lib.compareBytes fs[seekI fs name].name name == 0) = (fs[seekI fs name].name == name) := by
      rw [Bool.eq_iff_iff]; simp [compareBytes_eq]
    simp [hx', hs, hs', hg, hc, heq]
  · have hs' : ¬ (seekI fs name : Int) < (fs.length : Int) := by omega
    have hg : fs[seekI fs name]? = none := List.getElem?_eq_none (by omega)
    simp [hx', hs, hs', hg]
theorem findField (fs : List Fld) (name : Bytes) (hl : fs.length < 4294967296) : run E (.call 157 [.t (.list (fs.map fldT)), xS name]) = some (.res [xI (seekI fs name : Nat), xB (thereI fs name)] []) := by
  rw [run_call E 157 _ rfl Tryz.func157 rfl rfl rfl (by simp)]
  simp [binarySearch fs name hl]
def fieldI (v : Val) (name : Bytes) : Option Val := match (fieldsI v.t).1[seekI (fieldsI v.t).1 name]? with
  | some f => if f.name == name then some f.v else none
  | none => none
def optX : Option Val → List X
  | some v => [valX v, xB true]
  | none => [valX ⟨0, 0, []⟩, xB false]
theorem implField (v : Val) (name : Bytes) (hv : v.t.length < 4294967296) : run E (.call 360 [xV v, xS name]) = some (.res (optX (fieldI v name)) []) := by
  rw [run_call E 360 _ rfl Tryz.func360 rfl rfl rfl (by simp)]
  have h1 := implFields v hv
  obtain ⟨hs1, hs2⟩ := fieldsI_small v.t
  have h2 := findField (fieldsI v.t).1 name (by omega)
  unfold fieldI
  generalize (fieldsI v.t).1 = fs at *
  unfold thereI at h2
  cases hg : fs[seekI fs name]? with
  | none => simp [hg] at h2; simp [h1, h2, optX]
  | some f =>
    cases hn : f.name == name with
    | false => simp [hg, hn] at h2; simp [h1, h2, hn, optX]
    | true => simp [hg, hn] at h2; simp [h1, h2, hn, hg, optX]
theorem specField (v : Val) (name : Bytes) (hv : v.t.length < 4294967296) : run E (.call 359 [xV v, xS name]) = some (.res (optX (fieldP v name)) []) := by
  rw [run_call E 359 _ rfl Tryz.func359 rfl rfl rfl (by simp)]
  have h1 := l01Fields v.t hv
  have hfx : ∃ b, fieldsX (fieldsP v.t) = [.row 125 ((fieldsL v.t).map fldT), xB b] ∧ (fieldsL v.t).length ≤ v.t.length := by
    unfold fieldsL
    cases h : fieldsP v.t with
    | none => exact ⟨false, rfl, by simp⟩
    | some fs => exact ⟨true, rfl, by have := (fields_small h).1; simpa using this⟩
  obtain ⟨b, hfx, hl⟩ := hfx
  rw [hfx] at h1
  unfold fieldP
  generalize fieldsL v.t = fs at *
  have lp := fun (r : Option Fld) (hr : fs.find? (fun f => f.name == name) = r) => sk (fun s o q hI => loop_for (c := loopAt Tryz.f359 0) (N := 34)
    (fun i s o q => s 1 = .t (.str name) ∧ s 6 = .row 2 ∧ s 8 = .t (.int .i64 i) ∧ s 4 = .ptr 1 0 ∧ o 1 = .box 35 [.t (.int .i64 0), .t (.int .i64 0), .t (.str [])] ∧ o 2 = .row 125 (fs.map fldT) true ∧ (fs.drop i).find? (fun f => f.name == name) = r)
    (fun e s' o' q' => match (generalizing := false) r with
      | some f => e = .ret ∧ s' 4 = .ptr 1 0 ∧ s' 5 = .t (.bool true) ∧ o' 1 = .box 35 [.t (.int .i64 f.v.k), .t (.int .i64 f.v.n), .t (.str f.v.t)]
      | none => e = .exit 0 ∧ s' 4 = .ptr 1 0 ∧ o' 1 = .box 35 [.t (.int .i64 0), .t (.int .i64 0), .t (.str [])]) fs.length
    (by
      rintro i s o q hi ⟨g1, g6, g8, g4, ho1, ho2, hp⟩
      have hi' : (i : Int) < (fs.length : Int) := by omega
      have hw := wrap_succ (n := i) (by omega)
      have hxi : fs[i]? = some fs[i] := List.getElem?_eq_getElem hi
      rw [List.drop_eq_getElem_cons hi, List.find?_cons] at hp
      cases hn : fs[i].name == name with
      | true =>
        simp only [hn] at hp
        subst hp
        simp [loopAt, loopsOf, Tryz.f359, g1, g6, g8, g4, ho1, ho2, hi', hxi, hw, hn]
      | false =>
        simp only [hn] at hp
        simp [loopAt, loopsOf, Tryz.f359, g1, g6, g8, g4, ho1, ho2, hi', hxi, hw, hn, hp])
    (by
      rintro s o q ⟨g1, g6, g8, g4, ho1, ho2, hp⟩
      simp at hp
      subst hp
      simp [loopAt, loopsOf, Tryz.f359, g1, g6, g8, g4, ho1, ho2])
    fs.length 0 s o q (by omega) hI)
  simp only [loopAt, loopsOf, Tryz.f359] at lp
  cases hr : fs.find? (fun f => f.name == name) with
  | some f =>
    obtain ⟨X, A, B, C, hx⟩ := lp _ hr
    simp [hr, -List.find?_eq_none] at hx
    simp [h1, hx, optX]
  | none =>
    obtain ⟨X, A, B, C, hx⟩ := lp _ hr
    simp [hr, -List.find?_eq_none] at hx
    simp [h1, hx, optX]
end Go.Yd
/- Ids of documents; versions' documents. -/
set_option linter.unusedSimpArgs false
set_option linter.unusedVariables false
namespace Go.Yd
open Go.Ev Go.Proofs Go.Pu
set_option maxRecDepth 100000
set_option maxHeartbeats 16000000
abbrev idB : Bytes := [105, 100]
theorem fieldI_eq {v : Val} {fs : List Fld} (name : Bytes) (hf : fieldsP v.t = some fs) (hr : rising fs = true) : fieldI v name = fieldP v name := by
  have hs : seekI fs name = placeP fs name := by
    unfold seekI
    refine halves_ok (p := placeP fs name) (m := fs.length) ?_ ?_ _ _ _ (Nat.zero_le _) (place_le fs name) (Nat.le_refl _) (by omega)
    · intro k hk
      have hlt : k < fs.length := Nat.lt_of_lt_of_le hk (place_le fs name)
      have hg : fs[k]? = some fs[k] := List.getElem?_eq_getElem hlt
      simp only [hg]
      exact (rising_place name hr k _ hg).2 hk
    · intro k hk hkl
      have hg : fs[k]? = some fs[k] := List.getElem?_eq_getElem hkl
      simp only [hg]
      cases hb : Op.bytesLess fs[k].name name with
      | false => rfl
      | true =>
        have := (rising_place name hr k _ hg).1 hb
        omega
  unfold fieldI
  rw [fieldsI_some hf]
  simp only [hs]
  rw [field_place name hf hr]
  cases fs[placeP fs name]? with
  | none => rfl
  | some f => simp
def okId (x : Val) : Bool := decide (x.k = 2) && (decide (0 ≤ x.n) && decide (x.n ≤ 99))
def idI (v : Val) : Int × Bool := match fieldI v idB with
  | some x => (x.n, okId x)
  | none => (0, false)
def specId (v : Val) : Int := match fieldP v idB with
  | some x => if okId x then x.n else -1
  | none => -1
def isDocP (v : Val) : Bool := valueOK v && decide (v.k = 5)
def nullB (v : Val) : Bool := (v.k == 0) && ((v.n == 0) && (v.t == []))
theorem implIdOf (v : Val) (hv : v.t.length < 4294967296) : run E (.call 295 [xV v]) = some (.res [xI (idI v).1, xB (idI v).2] []) := by
  rw [run_call E 295 _ rfl Tryz.func295 rfl rfl rfl (by simp)]
  have h := implField v idB hv
  have d2 := d295_2
  simp [regionOf, findR, pick, Tryz.f295] at d2
  have dd := fun st => run_region_draw E st 2 _ d2
  clear d2
  unfold idI
  cases hf : fieldI v idB with
  | none => rw [hf] at h; simp only [optX] at h; simp [h, dd]
  | some x =>
    rw [hf] at h
    simp only [optX] at h
    have hr := inRange x.n 0 99
    obtain ⟨z, z1, z2, z3⟩ := zcase x.k 2
    unfold okId
    cases z <;> simp [h, dd, z1, z2, z3, hr]
theorem specIdOf (v : Val) (hv : v.t.length < 4294967296) : run E (.call 294 [xV v]) = some (.res [xI (specId v)] []) := by
  rw [run_call E 294 _ rfl Tryz.func294 rfl rfl rfl (by simp)]
  have h := specField v idB hv
  unfold specId
  cases hf : fieldP v idB with
  | none => rw [hf] at h; simp only [optX] at h; simp [h]
  | some x =>
    rw [hf] at h
    simp only [optX] at h
    have hr := l01In x.n 0 99
    obtain ⟨z, z1, z2, z3⟩ := zcase x.k 2
    unfold okId
    cases z with
    | false => simp [h, z1, z2, z3]
    | true =>
      cases hb : (decide (0 ≤ x.n) && decide (x.n ≤ 99)) with
      | false => rw [hb] at hr; simp at hb; simp [h, z1, z2, z3, hr]; intro a b; have := hb a; omega
      | true => rw [hb] at hr; simp at hb; simp [h, z1, z2, z3, hr]; intro a; have := a hb.1; omega
theorem isDoc (v : Val) (hv : v.t.length < 4294967296) : run E (.call 78 [xV v]) = some (.res [xB (isDocP v)] []) := by
  rw [run_call E 78 _ rfl Tryz.func78 rfl rfl rfl (by simp)]
  have h := implValueOK v hv
  obtain ⟨z, z1, z2, z3⟩ := zcase v.k 5
  unfold isDocP
  cases z <;> simp [h, z1, z2, z3]
theorem l03Doc (v : Val) (hv : v.t.length < 4294967296) : run E (.call 74 [xV v]) = some (.res [xB (isDocP v)] []) := by
  rw [run_call E 74 _ rfl Tryz.func74 rfl rfl rfl (by simp)]
  have h := specValueOK v hv
  unfold isDocP
  cases hb : valueOK v with
  | false => rw [hb] at h; simp [h]
  | true => rw [hb] at h; simp [h, beqd]
def verDoc (id : Int) (gone : Bool) (v : Val) : Bool := if gone then nullB v else isDocP v && (specId v == id)
def verDocI (gone : Bool) (v : Val) (id : Int) : Bool := if gone then nullB v else isDocP v && (idI v).2 && ((idI v).1 == id)
theorem verDocI_eq (gone : Bool) (v : Val) (id : Int) (h0 : 0 ≤ id) : verDocI gone v id = verDoc id gone v := by
  unfold verDocI verDoc
  cases gone with
  | true => rfl
  | false =>
    simp only [Bool.false_eq_true, if_false]
    cases hd : isDocP v with
    | false => rfl
    | true =>
      have hok : okP 5 v = true ∧ v.k = 5 := by simpa [isDocP, valueOK] using hd
      obtain ⟨e, fs, _, _, hf, hr, _⟩ := okP_doc hok.1 hok.2
      simp only [Bool.true_and]
      unfold idI specId
      rw [fieldI_eq idB hf hr]
      cases fieldP v idB with
      | none =>
        have : ((-1 : Int) == id) = false := by simp; omega
        simp [this]
      | some x =>
        cases hx : okId x with
        | false =>
          have : ((-1 : Int) == id) = false := by simp; omega
          simp [hx, this]
        | true => simp [hx]
theorem implDocOK (gone : Bool) (v : Val) (id : Int) (hv : v.t.length < 4294967296) : run E (.call 192 [xB gone, xV v, xI id]) = some (.res [xB (verDocI gone v id)] []) := by
  rw [run_call E 192 _ rfl Tryz.func192 rfl rfl rfl (by simp)]
  have h1 := implIdOf v hv
  have h2 := isDoc v hv
  unfold verDocI nullB
  cases gone with
  | true => simp
  | false =>
    cases hd : isDocP v with
    | false => rw [hd] at h2; simp [h1, h2]
    | true =>
      rw [hd] at h2
      cases hi : (idI v).2 with
      | false => rw [hi] at h1; simp [h1, h2]
      | true => rw [hi] at h1; simp [h1, h2]
theorem specDocOK (id : Int) (gone : Bool) (v : Val) (hv : v.t.length < 4294967296) : run E (.call 189 [xI id, xB gone, xV v]) = some (.res [xB (verDoc id gone v)] []) := by
  rw [run_call E 189 _ rfl Tryz.func189 rfl rfl rfl (by simp)]
  have h1 := specIdOf v hv
  have h2 := l03Doc v hv
  unfold verDoc nullB
  cases gone with
  | true => simp
  | false =>
    cases hd : isDocP v with
    | false => rw [hd] at h2; simp [h1, h2]
    | true => rw [hd] at h2; simp [h1, h2]
end Go.Yd
/- Definitions of indexes: both. -/
set_option linter.unusedSimpArgs false
set_option linter.unusedVariables false
namespace Go.Yd
open Go.Ev Go.Proofs Go.Pu
set_option maxRecDepth 100000
set_option maxHeartbeats 16000000
structure Dfn where
  name : Bytes
  parts : List Prt
abbrev dfnT (d : Dfn) : T := .agg [.str d.name, .list (d.parts.map prtT)]
structure Ver where
  at_ : Int
  gone : Bool
  v : Val
abbrev verT (x : Ver) : T := .agg [.int .i64 x.at_, .bool x.gone, .int .i64 x.v.k, .int .i64 x.v.n, .str x.v.t]
abbrev verX (x : Ver) : X := .agg [.t (.int .i64 x.at_), .t (.bool x.gone), .t (.int .i64 x.v.k), .t (.int .i64 x.v.n), .t (.str x.v.t)]
structure Chn where
  id : Int
  vs : List Ver
abbrev chnT (c : Chn) : T := .agg [.int .i64 c.id, .list (c.vs.map verT)]
structure Col where
  name : Bytes
  chains : List Chn
  defs : List Dfn
abbrev colT (c : Col) : T := .agg [.str c.name, .list (c.chains.map chnT), .list (c.defs.map dfnT)]
def Dfn.Sm (d : Dfn) : Prop := d.name.length < 4294967296 ∧ partsSm d.parts
def Ver.Sm (x : Ver) : Prop := x.v.t.length < 4294967296
def Chn.Sm (c : Chn) : Prop := c.vs.length < 4294967296 ∧ ∀ x ∈ c.vs, x.Sm
structure Col.Sm (c : Col) : Prop where
  name : c.name.length < 4294967296
  chains : c.chains.length < 4294967296 ∧ ∀ x ∈ c.chains, x.Sm
  defs : c.defs.length < 4294967296 ∧ ∀ x ∈ c.defs, x.Sm
def twoOK : List Prt → Bool
  | [p, q] => !(p.path == q.path)
  | _ => true
def in12 (n : Nat) : Bool := decide (1 ≤ n) && decide (n ≤ 2)
def defOK (d : Dfn) : Bool := nameP d.name && in12 d.parts.length && d.parts.all (fun p => pathOK p.path) && twoOK d.parts
theorem in12_cast (n : Nat) : (decide ((1 : Int) ≤ (n : Int)) && decide ((n : Int) ≤ 2)) = in12 n := by
  unfold in12
  congr 1 <;> (congr 1; simp; omega)
theorem in12_cases {α : Type} {l : List α} (h : in12 l.length = true) : (∃ p, l = [p]) ∨ ∃ p q, l = [p, q] := by
  simp [in12] at h
  match l, h with
  | [p], _ => exact .inl ⟨p, rfl⟩
  | [p, q], _ => exact .inr ⟨p, q, rfl⟩
  | [], h => simp at h
  | _ :: _ :: _ :: _, h => simp at h
theorem defClosure (p : Prt) (h : p.path.length < 4294967296) : run E (.call 223 [.t (prtT p)]) = some (.res [xB (!pathOK p.path)] []) := by
  rw [run_call E 223 _ rfl Tryz.func223 rfl rfl rfl (by simp)]
  simp [partOK p h]
theorem implDefOK (d : Dfn) (h : d.Sm) : run E (.call 118 [.t (dfnT d)]) = some (.res [xB (defOK d)] []) := by
  rw [run_call E 118 _ rfl Tryz.func118 rfl rfl rfl (by simp)]
  have h1 := isShort d.name (by have := h.1; omega)
  have h2 := inRange (d.parts.length : Int) 1 2
  rw [in12_cast] at h2
  have hc := containsFunc_136_0 d.parts 223 (fun p => !pathOK p.path) (by have := h.2.1; omega) rfl (by simp) (fun p hp => defClosure p (h.2.2 p hp))
  rw [any_not_all] at hc
  have d3 := d118_3
  simp [regionOf, findR, pick, Tryz.f118] at d3
  have dd := fun st => run_region_draw E st 3 _ d3
  clear d3
  unfold defOK
  cases hn : nameP d.name with
  | false => rw [hn] at h1; simp [h1]
  | true =>
    rw [hn] at h1
    cases hi : in12 d.parts.length with
    | false => rw [hi] at h2; simp [h1, h2]
    | true =>
      rw [hi] at h2
      cases ha : d.parts.all (fun p => pathOK p.path) with
      | false => rw [ha] at hc; simp [h1, h2, hc]
      | true =>
        rw [ha] at hc
        obtain ⟨nm, ps⟩ := d
        simp only at *
        rcases in12_cases hi with ⟨p, rfl⟩ | ⟨p, q, rfl⟩
        · simp at h2 hc
          simp [h1, h2, hc, dd, twoOK]
        · simp at h2 hc
          simp [h1, h2, hc, dd, twoOK]
theorem specDef_loop (d : Dfn) (h : d.Sm) (b : Bool) (hb : b = d.parts.all (fun p => pathOK p.path)) : ∀ s o n, (s 1 = .ptr 0 0 ∧ s 3 = .t (.int .i64 0) ∧ o 0 = .box 79 [.t (.str d.name), .t (.list (d.parts.map prtT))]) →
    ∃ e s' o' n', run E (.code (.loop (loopAt Tryz.f111 0)) ⟨s, o, n, 47⟩) = some (.st e ⟨s', o', n', 47⟩) ∧ e = (if b then .exit 0 else .ret) ∧ s' 1 = .ptr 0 0 ∧ o' 0 = .box 79 [.t (.str d.name), .t (.list (d.parts.map prtT))] ∧ (b = false → s' 2 = .t (.bool false)) := by
  intro s o n hI
  refine loop_for (c := loopAt Tryz.f111 0) (N := 47)
    (fun i s o n => s 1 = .ptr 0 0 ∧ s 3 = .t (.int .i64 i) ∧ o 0 = .box 79 [.t (.str d.name), .t (.list (d.parts.map prtT))] ∧ b = (d.parts.drop i).all (fun p => pathOK p.path))
    (fun e s' o' n' => e = (if b then .exit 0 else .ret) ∧ s' 1 = .ptr 0 0 ∧ o' 0 = .box 79 [.t (.str d.name), .t (.list (d.parts.map prtT))] ∧ (b = false → s' 2 = .t (.bool false))) d.parts.length ?_ ?_
    d.parts.length 0 s o n (by omega) ⟨hI.1, hI.2.1, hI.2.2, by simpa using hb⟩
  · rintro i s o n hi ⟨h1, h3, ho, hp⟩
    have hfi : d.parts[i]? = some d.parts[i] := List.getElem?_eq_getElem hi
    have hi' : (i : Int) < (d.parts.length : Int) := by omega
    have hw := wrap_succ (n := i) (by have := h.2.1; omega)
    have ht := specPathOK d.parts[i].path (h.2.2 _ (List.getElem_mem hi))
    rw [List.drop_eq_getElem_cons hi, List.all_cons] at hp
    cases hok : pathOK d.parts[i].path <;> simp [hok] at hp ht <;> simp [loopAt, loopsOf, Tryz.f111, h1, h3, ho, hi', hfi, hw, ht, hp]
  · rintro s o n ⟨h1, h3, ho, hp⟩
    simp at hp
    simp [loopAt, loopsOf, Tryz.f111, h1, h3, ho, hp]
theorem specDefOK (d : Dfn) (h : d.Sm) : run E (.call 111 [.t (dfnT d)]) = some (.res [xB (defOK d)] []) := by
  rw [run_call E 111 _ rfl Tryz.func111 rfl rfl rfl (by simp)]
  have h1 := l01Name d.name (by have := h.1; omega)
  have h2 := l01In (d.parts.length : Int) 1 2
  rw [in12_cast] at h2
  have d8 := d111_8
  simp [regionOf, findR, pick, Tryz.f111] at d8
  have dd := fun st => run_region_draw E st 8 _ d8
  clear d8
  have lp := specDef_loop d h
  unfold defOK
  cases hn : nameP d.name with
  | false => rw [hn] at h1; simp [h1]
  | true =>
    rw [hn] at h1
    cases hi : in12 d.parts.length with
    | false => rw [hi] at h2; simp [h1, h2]
    | true =>
      rw [hi] at h2
      cases ha : d.parts.all (fun p => pathOK p.path) with
      | false =>
        obtain ⟨X, A, B, C, hx⟩ := sk (lp false ha.symm)
        simp [loopAt, loopsOf, Tryz.f111] at hx
        simp [h1, h2, hx]
      | true =>
        obtain ⟨X, A, B, C, hx⟩ := sk (lp true ha.symm)
        simp [loopAt, loopsOf, Tryz.f111] at hx
        obtain ⟨nm, ps⟩ := d
        simp only at *
        rcases in12_cases hi with ⟨p, rfl⟩ | ⟨p, q, rfl⟩
        · simp at h2 hx
          simp [h1, h2, hx, dd, twoOK]
        · simp at h2 hx
          simp [h1, h2, hx, dd, twoOK]
theorem indexFunc_149_1 (xs : List Dfn) (g : Nat) (c : List T) (p : Dfn → Bool) (hl : xs.length < 9223372036854775807) (hm : E.md g = []) (hf : E.flat g = true) (hp : ∀ x ∈ xs, run E (.call g [.t (dfnT x), .dref c]) = some (.res [xB (p x)] [])) :
    run E (.call 366 [.t (.list (xs.map dfnT)), .fn g [c]]) = some (.res [xI (idxP p xs)] []) := by
  rw [run_call E 366 _ rfl Tryz.func366 rfl rfl rfl (by simp)]
  rw [E_md] at hm
  have lp := fun (r : Int) (hr : r = idxP p xs) => sk (fun s o q hI => loop_for (c := loopAt Tryz.f366 0) (N := 19)
    (fun i s o q => s 0 = .t (.list (xs.map dfnT)) ∧ s 1 = .fn g [.dptr c] ∧ s 7 = .t (.int .i64 xs.length) ∧ s 8 = .t (.int .i64 i) ∧ r = if idxP p (xs.drop i) < 0 then -1 else idxP p (xs.drop i) + i)
    (fun e s' o' q' => e = (if r < 0 then .exit 0 else .ret) ∧ (0 ≤ r → s' 4 = .t (.int .i64 r))) xs.length
    (by
      rintro i s o q hi ⟨h0, h1, h7, h8, hr⟩
      have hd : xs.drop i = xs[i] :: xs.drop (i + 1) := by rw [List.drop_eq_getElem_cons hi]
      have hi' : (i : Int) < (xs.length : Int) := by omega
      have hw := wrap_succ (n := i) (by omega)
      have hx := hp xs[i] (List.getElem_mem hi)
      rw [hd, idxP] at hr
      cases hpx : p xs[i] with
      | true =>
        simp [hpx] at hr hx
        have hr' : ¬ r < 0 := by omega
        simp [-mdOf, loopAt, loopsOf, Tryz.f366, h0, h1, h7, h8, hi, hi', hx, hw, hm, hf, hr', hr]
      | false =>
        simp [hpx] at hr hx
        have hr2 : r = if idxP p (xs.drop (i + 1)) < 0 then -1 else idxP p (xs.drop (i + 1)) + ((i : Int) + 1) := by
          rw [hr]
          by_cases hq : idxP p (xs.drop (i + 1)) < 0
          · simp [hq]
          · have : ¬ idxP p (xs.drop (i + 1)) + 1 < 0 := by omega
            simp [hq, this]; omega
        clear hr
        simp [-mdOf, loopAt, loopsOf, Tryz.f366, h0, h1, h7, h8, hi, hi', hx, hw, hm, hf]
        exact hr2)
    (by
      rintro s o q ⟨h0, h1, h7, h8, hr⟩
      simp [idxP] at hr
      simp [loopAt, loopsOf, Tryz.f366, h0, h1, h7, h8, hr])
    xs.length 0 s o q (by omega) hI)
  simp only [loopAt, loopsOf, Tryz.f366] at lp
  obtain ⟨X, A, B, C, hx⟩ := lp _ rfl
  have hz : idxP p xs = if idxP p xs < 0 then -1 else idxP p xs := by
    cases xs with
    | nil => simp [idxP]
    | cons x r =>
      unfold idxP
      split
      · simp
      · split
        · simp
        · have : ¬ idxP p r + 1 < 0 := by omega
          simp [this]
  simp [← hz] at hx
  by_cases h : idxP p xs < 0
  · have h1 : idxP p xs = -1 := by rw [hz]; simp [h]
    simp [h] at hx
    simp [hx, h1]
  · have h2 : 0 ≤ idxP p xs := by omega
    simp [h, h2] at hx
    simp [hx]
theorem defAtClosure (d : Dfn) (name : Bytes) : run E (.call 367 [.t (dfnT d), .dref [.str name]]) = some (.res [xB (d.name == name)] []) := by
  rw [run_call E 367 _ rfl Tryz.func367 rfl rfl rfl (by simp)]
  simp
theorem defAt (c : Col) (name : Bytes) (h : c.defs.length < 4294967296) : run E (.call 313 [.t (colT c), xS name]) = some (.res [xI (idxP (fun d => d.name == name) c.defs)] []) := by
  rw [run_call E 313 _ rfl Tryz.func313 rfl rfl rfl (by simp)]
  have hi := indexFunc_149_1 c.defs 367 [.str name] (fun d => d.name == name) (by omega) rfl (by simp) (fun d _ => defAtClosure d name)
  simp [hi]
end Go.Yd
/- Chains of versions: impl's chainOK, CollOK. -/
set_option linter.unusedSimpArgs false
set_option linter.unusedVariables false
namespace Go.Yd
open Go.Ev Go.Proofs Go.Pu
set_option maxRecDepth 100000
set_option maxHeartbeats 16000000
def in1 (lo hi n : Int) : Bool := decide (lo ≤ n) && decide (n ≤ hi)
def versGo (D : Bool → Val → Bool) : Option Int → List Ver → Bool
  | _, [] => true
  | p, x :: r => in1 1 10000 x.at_ && (match p with
      | none => true
      | some q => !decide (x.at_ ≤ q)) && D x.gone x.v && versGo D (some x.at_) r
def chainOK (c : Chn) : Bool := in1 0 19 c.id && in1 1 12 c.vs.length && versGo (fun g v => verDoc c.id g v) none c.vs
def chainsGo : Option Int → List Chn → Bool
  | _, [] => true
  | p, c :: r => chainOK c && (match p with
      | none => true
      | some q => !decide (c.id ≤ q)) && chainsGo (some c.id) r
def defsGo : List Dfn → List Dfn → Bool
  | _, [] => true
  | pre, d :: r => defOK d && !(pre.any (fun x => x.name == d.name)) && defsGo (pre ++ [d]) r
def collOK (c : Col) : Bool := nameP c.name && decide (c.chains.length ≤ 20) && decide (c.defs.length ≤ 3) && defsGo [] c.defs && chainsGo none c.chains
theorem isTime (n : Int) : run E (.call 102 [xI n]) = some (.res [xB (in1 1 10000 n)] []) := by
  rw [run_call E 102 _ rfl Tryz.func102 rfl rfl rfl (by simp)]
  simp [inRange, in1]
theorem chainOK_eq (c : Chn) : (versGo (fun g v => verDocI g v c.id) none c.vs && (in1 0 19 c.id && in1 1 12 c.vs.length)) = chainOK c := by
  unfold chainOK
  cases h : in1 0 19 c.id with
  | false => simp
  | true =>
    have h0 : 0 ≤ c.id := by simp [in1] at h; exact h.1
    have e : (fun g v => verDocI g v c.id) = (fun g v => verDoc c.id g v) := by
      funext g v; exact verDocI_eq g v c.id h0
    rw [e]
    cases in1 1 12 (c.vs.length : Int) <;> cases versGo (fun g v => verDoc c.id g v) none c.vs <;> rfl
theorem implChain_loop (c : Chn) (h : c.Sm) (b : Bool) (hb : b = versGo (fun g v => verDocI g v c.id) none c.vs) : ∀ s o q, (s 1 = .ptr 0 0 ∧ s 6 = .t (.list (c.vs.map verT)) ∧ s 7 = .t (.int .i64 c.vs.length) ∧ s 8 = .t (.int .i64 0) ∧ o 0 = .box 198 [.t (.int .i64 c.id), .t (.list (c.vs.map verT))] ∧ 0 < q) →
    ∃ e s' o' q', run E (.code (.loop (loopAt Tryz.f314 0)) ⟨s, o, q, 53⟩) = some (.st e ⟨s', o', q', 53⟩) ∧ e = (if b then .exit 0 else .ret) ∧ s' 1 = .ptr 0 0 ∧ o' 0 = .box 198 [.t (.int .i64 c.id), .t (.list (c.vs.map verT))] ∧ (b = false → s' 2 = .t (.bool false)) := by
  intro s o q hI
  have d4 := d314_4
  simp [regionOf, findR, pick, Tryz.f314] at d4
  have dd := fun st => run_region_draw E st 4 _ d4
  clear d4
  refine loop_for (c := loopAt Tryz.f314 0) (N := 53)
    (fun i s o q => s 1 = .ptr 0 0 ∧ s 6 = .t (.list (c.vs.map verT)) ∧ s 7 = .t (.int .i64 c.vs.length) ∧ s 8 = .t (.int .i64 i) ∧ o 0 = .box 198 [.t (.int .i64 c.id), .t (.list (c.vs.map verT))] ∧ 0 < q ∧ b = versGo (fun g v => verDocI g v c.id) (match i with | 0 => none | j + 1 => (c.vs[j]?).map (·.at_)) (c.vs.drop i))
    (fun e s' o' q' => e = (if b then .exit 0 else .ret) ∧ s' 1 = .ptr 0 0 ∧ o' 0 = .box 198 [.t (.int .i64 c.id), .t (.list (c.vs.map verT))] ∧ (b = false → s' 2 = .t (.bool false))) c.vs.length ?_ ?_
    c.vs.length 0 s o q (by omega) ⟨hI.1, hI.2.1, hI.2.2.1, hI.2.2.2.1, hI.2.2.2.2.1, hI.2.2.2.2.2, by simpa using hb⟩
  · rintro i s o q hi ⟨h1, h6, h7, h8, ho, hq, hp⟩
    have hq0 : q ≠ 0 := by omega
    have h0q : 0 ≠ q := by omega
    have hxi : c.vs[i]? = some c.vs[i] := List.getElem?_eq_getElem hi
    have hi' : (i : Int) < (c.vs.length : Int) := by omega
    have hw := wrap_succ (n := i) (by have := h.1; omega)
    have ht := isTime c.vs[i].at_
    have hdoc := implDocOK c.vs[i].gone c.vs[i].v c.id (h.2 _ (List.getElem_mem hi))
    rw [List.drop_eq_getElem_cons hi] at hp
    cases i with
    | zero =>
      simp only [versGo] at hp
      cases hT : in1 1 10000 c.vs[0].at_ <;> cases hD : verDocI c.vs[0].gone c.vs[0].v c.id <;> simp [hT, hD] at hp ht hdoc <;> simp [loopAt, loopsOf, Tryz.f314, dd, h1, h6, h7, h8, ho, hq0, h0q, hi, hi', hw, ht, hdoc, hp, hxi]
    | succ j =>
      have hj : j < c.vs.length := by omega
      have hxj : c.vs[j]? = some c.vs[j] := List.getElem?_eq_getElem hj
      have hpos : (0 : Int) < (j : Int) + 1 := by omega
      have hnn : (0 : Int) ≤ (j : Int) + 1 := by omega
      have hwj2 := wrap_nat (n := j) (by have := h.1; omega)
      simp only [hxj, Option.map_some, versGo] at hp
      simp at h8 hi' hw
      by_cases hge : c.vs[j + 1].at_ ≤ c.vs[j].at_ <;> cases hT : in1 1 10000 c.vs[j + 1].at_ <;> cases hD : verDocI c.vs[j + 1].gone c.vs[j + 1].v c.id <;> simp [hT, hD, hge] at hp ht hdoc <;> simp [loopAt, loopsOf, Tryz.f314, dd, h1, h6, h7, h8, ho, hq0, h0q, hi, hi', hw, ht, hdoc, hp, hxi, hxj, hj, hpos, hnn, hwj2, hge]
  · rintro s o q ⟨h1, h6, h7, h8, ho, hq, hp⟩
    simp [versGo] at hp
    simp [loopAt, loopsOf, Tryz.f314, h1, h6, h7, h8, ho, hp]
theorem implChainOK (c : Chn) (h : c.Sm) : run E (.call 314 [.t (chnT c)]) = some (.res [xB (chainOK c)] []) := by
  rw [run_call E 314 _ rfl Tryz.func314 rfl rfl rfl (by simp)]
  rw [← chainOK_eq]
  have lp := implChain_loop c h
  have h1 := inRange c.id 0 19
  have h2 := inRange (c.vs.length : Int) 1 12
  rw [show (decide (0 ≤ c.id) && decide (c.id ≤ 19)) = in1 0 19 c.id from rfl] at h1
  rw [show (decide ((1 : Int) ≤ (c.vs.length : Int)) && decide ((c.vs.length : Int) ≤ 12)) = in1 1 12 c.vs.length from rfl] at h2
  cases hb : versGo (fun g v => verDocI g v c.id) none c.vs with
  | false =>
    obtain ⟨X, A, B, C, hx⟩ := sk (lp false hb.symm)
    simp [loopAt, loopsOf, Tryz.f314] at hx
    simp [hx]
  | true =>
    obtain ⟨X, A, B, C, hx⟩ := sk (lp true hb.symm)
    simp [loopAt, loopsOf, Tryz.f314] at hx
    cases hi : in1 0 19 c.id with
    | false => rw [hi] at h1; simp [hx, h1]
    | true => rw [hi] at h1; simp [hx, h1, h2]
end Go.Yd
/- impl's CollOK. -/
set_option linter.unusedSimpArgs false
set_option linter.unusedVariables false
namespace Go.Yd
open Go.Ev Go.Proofs Go.Pu
set_option maxRecDepth 100000
set_option maxHeartbeats 16000000
abbrev colBox (c : Col) : Ob := .box 195 [.t (.str c.name), .t (.list (c.chains.map chnT)), .t (.list (c.defs.map dfnT))]
/-- Where the first one stands, ahead of a place that fits. -/
theorem idxP_take {α : Type} (p : α → Bool) : ∀ (l : List α) (i : Nat) (hi : i < l.length), p l[i] = true → ((idxP p l < (i : Int)) = ((l.take i).any p = true))
  | [], i, hi, _ => by simp at hi
  | x :: r, 0, hi, h => by
    simp at h
    simp [idxP, h]
  | x :: r, i + 1, hi, h => by
    have ih := idxP_take p r i (by simpa using hi) (by simpa using h)
    have hne : ¬ idxP p r < 0 := by
      rw [idxP_neg]
      have : r.any p = true := List.any_eq_true.2 ⟨r[i]'(by simpa using hi), List.getElem_mem _, by simpa using h⟩
      simp [this]
    unfold idxP
    cases hx : p x with
    | true => simp [hx]
    | false =>
      simp only [hx, Bool.false_eq_true, if_false, hne, List.take_succ_cons, List.any_cons, Bool.false_or]
      rw [← ih]
      simp
theorem implColl_defs (c : Col) (h : c.Sm) (b : Bool) (hb : b = defsGo [] c.defs) : ∀ s o q, (s 1 = .ptr 0 0 ∧ s 8 = .t (.list (c.defs.map dfnT)) ∧ s 9 = .t (.int .i64 c.defs.length) ∧ s 10 = .t (.int .i64 0) ∧ o 0 = colBox c ∧ 0 < q) →
    ∃ e s' o' q', run E (.code (.loop (loopAt Tryz.f230 0)) ⟨s, o, q, 64⟩) = some (.st e ⟨s', o', q', 64⟩) ∧ e = (if b then .exit 0 else .ret) ∧ s' 1 = .ptr 0 0 ∧ o' 0 = colBox c ∧ 0 < q' ∧ (b = false → s' 2 = .t (.bool false)) := by
  intro s o q hI
  refine loop_for (c := loopAt Tryz.f230 0) (N := 64)
    (fun i s o q => s 1 = .ptr 0 0 ∧ s 8 = .t (.list (c.defs.map dfnT)) ∧ s 9 = .t (.int .i64 c.defs.length) ∧ s 10 = .t (.int .i64 i) ∧ o 0 = colBox c ∧ 0 < q ∧ b = defsGo (c.defs.take i) (c.defs.drop i))
    (fun e s' o' q' => e = (if b then .exit 0 else .ret) ∧ s' 1 = .ptr 0 0 ∧ o' 0 = colBox c ∧ 0 < q' ∧ (b = false → s' 2 = .t (.bool false))) c.defs.length ?_ ?_
    c.defs.length 0 s o q (by omega) ⟨hI.1, hI.2.1, hI.2.2.1, hI.2.2.2.1, hI.2.2.2.2.1, hI.2.2.2.2.2, by simpa using hb⟩
  · rintro i s o q hi ⟨h1, h8, h9, h10, ho, hq, hp⟩
    have hq0 : q ≠ 0 := by omega
    have h0q : 0 ≠ q := by omega
    have hxi : c.defs[i]? = some c.defs[i] := List.getElem?_eq_getElem hi
    have hi' : (i : Int) < (c.defs.length : Int) := by omega
    have hw := wrap_succ (n := i) (by have := h.defs.1; omega)
    have hd := implDefOK c.defs[i] (h.defs.2 _ (List.getElem_mem hi))
    have ha := defAt c c.defs[i].name h.defs.1
    have hlt := idxP_take (fun d => d.name == c.defs[i].name) c.defs i hi (by simp)
    have htk : c.defs.take (i + 1) = c.defs.take i ++ [c.defs[i]] := by rw [List.take_add_one, hxi]; rfl
    rw [List.drop_eq_getElem_cons hi, defsGo, ← htk] at hp
    generalize hz : (c.defs.take i).any (fun d => d.name == c.defs[i].name) = z at *
    generalize hk : idxP (fun d => d.name == c.defs[i].name) c.defs = k at *
    cases hO : defOK c.defs[i] with
    | false =>
      simp [hO] at hp hd
      simp [loopAt, loopsOf, Tryz.f230, h1, h8, h9, h10, ho, hq0, h0q, hi', hxi, hw, hd, hp]
    | true =>
      cases z with
      | true =>
        have hk2 : k < (i : Int) := by rw [hlt]
        simp [hO] at hp hd
        simp [loopAt, loopsOf, Tryz.f230, h1, h8, h9, h10, ho, hq0, h0q, hi', hxi, hw, hd, hp, ha, hk2]
      | false =>
        have hk2 : ¬ k < (i : Int) := by rw [hlt]; simp
        simp [hO] at hp hd
        simp [loopAt, loopsOf, Tryz.f230, h1, h8, h9, h10, ho, hq0, h0q, hi', hxi, hw, hd, ha, hk2]
        rw [hp, htk]
  · rintro s o q ⟨h1, h8, h9, h10, ho, hq, hp⟩
    simp [defsGo] at hp
    simp [loopAt, loopsOf, Tryz.f230, h1, h8, h9, h10, ho, hp, hq]
theorem implColl_chains (c : Col) (h : c.Sm) (b : Bool) (hb : b = chainsGo none c.chains) : ∀ s o q, (s 1 = .ptr 0 0 ∧ s 28 = .t (.list (c.chains.map chnT)) ∧ s 29 = .t (.int .i64 c.chains.length) ∧ s 30 = .t (.int .i64 0) ∧ o 0 = colBox c ∧ 0 < q) →
    ∃ e s' o' q', run E (.code (.loop (loopAt Tryz.f230 1)) ⟨s, o, q, 64⟩) = some (.st e ⟨s', o', q', 64⟩) ∧ e = (if b then .exit 2 else .ret) ∧ s' 1 = .ptr 0 0 ∧ o' 0 = colBox c ∧ (b = false → s' 2 = .t (.bool false)) := by
  intro s o q hI
  have d10 := d230_10
  simp [regionOf, findR, pick, Tryz.f230] at d10
  have dd := fun st => run_region_draw E st 10 _ d10
  clear d10
  refine loop_for (c := loopAt Tryz.f230 1) (N := 64)
    (fun i s o q => s 1 = .ptr 0 0 ∧ s 28 = .t (.list (c.chains.map chnT)) ∧ s 29 = .t (.int .i64 c.chains.length) ∧ s 30 = .t (.int .i64 i) ∧ o 0 = colBox c ∧ 0 < q ∧ b = chainsGo (match i with | 0 => none | j + 1 => (c.chains[j]?).map (·.id)) (c.chains.drop i))
    (fun e s' o' q' => e = (if b then .exit 2 else .ret) ∧ s' 1 = .ptr 0 0 ∧ o' 0 = colBox c ∧ (b = false → s' 2 = .t (.bool false))) c.chains.length ?_ ?_
    c.chains.length 0 s o q (by omega) ⟨hI.1, hI.2.1, hI.2.2.1, hI.2.2.2.1, hI.2.2.2.2.1, hI.2.2.2.2.2, by simpa using hb⟩
  · rintro i s o q hi ⟨h1, h28, h29, h30, ho, hq, hp⟩
    have hq0 : q ≠ 0 := by omega
    have h0q : 0 ≠ q := by omega
    have hxi : c.chains[i]? = some c.chains[i] := List.getElem?_eq_getElem hi
    have hi' : (i : Int) < (c.chains.length : Int) := by omega
    have hw := wrap_succ (n := i) (by have := h.chains.1; omega)
    have hc := implChainOK c.chains[i] (h.chains.2 _ (List.getElem_mem hi))
    rw [List.drop_eq_getElem_cons hi] at hp
    cases i with
    | zero =>
      simp only [chainsGo] at hp
      cases hT : chainOK c.chains[0] <;> simp [hT] at hp hc <;> simp [loopAt, loopsOf, Tryz.f230, dd, h1, h28, h29, h30, ho, hq0, h0q, hi, hi', hw, hc, hp, hxi]
    | succ j =>
      have hj : j < c.chains.length := by omega
      have hxj : c.chains[j]? = some c.chains[j] := List.getElem?_eq_getElem hj
      have hpos : (0 : Int) < (j : Int) + 1 := by omega
      have hnn : (0 : Int) ≤ (j : Int) + 1 := by omega
      have hwj2 := wrap_nat (n := j) (by have := h.chains.1; omega)
      simp only [hxj, Option.map_some, chainsGo] at hp
      simp at h30 hi' hw
      by_cases hge : c.chains[j + 1].id ≤ c.chains[j].id <;> cases hT : chainOK c.chains[j + 1] <;> simp [hT, hge] at hp hc <;> simp [loopAt, loopsOf, Tryz.f230, dd, h1, h28, h29, h30, ho, hq0, h0q, hi, hi', hw, hc, hp, hxi, hxj, hj, hpos, hnn, hwj2, hge]
  · rintro s o q ⟨h1, h28, h29, h30, ho, hq, hp⟩
    simp [chainsGo] at hp
    simp [loopAt, loopsOf, Tryz.f230, h1, h28, h29, h30, ho, hp]
/-- Ids that rise are few. -/
theorem chains_few : ∀ (l : List Chn) (p : Option Int), chainsGo p l = true → (match p with
    | none => (l.length : Int) ≤ 20
    | some q => l ≠ [] → -1 ≤ q → (l.length : Int) ≤ 19 - q)
  | [], p, _ => by cases p <;> simp
  | c :: r, p, h => by
    simp only [chainsGo, Bool.and_eq_true] at h
    obtain ⟨⟨h1, h2⟩, h3⟩ := h
    have ih := chains_few r (some c.id) h3
    have hid : 0 ≤ c.id ∧ c.id ≤ 19 := by
      unfold chainOK in1 at h1
      simp at h1
      omega
    simp only at ih
    cases p with
    | none =>
      simp only
      by_cases hr : r = []
      · subst hr; simp
      · have := ih hr (by omega); simp; omega
    | some q =>
      simp at h2
      intro _ hq
      by_cases hr : r = []
      · subst hr; simp; omega
      · have := ih hr (by omega); simp; omega
theorem implCollOK (c : Col) (h : c.Sm) : run E (.call 230 [.t (colT c)]) = some (.res [xB (collOK c)] []) := by
  rw [run_call E 230 _ rfl Tryz.func230 rfl rfl rfl (by simp)]
  have h1 := isShort c.name (by have := h.name; omega)
  have h3 : ((c.defs.length : Int) ≤ 3) = (c.defs.length ≤ 3) := by simp; omega
  unfold collOK
  cases hD : defsGo [] c.defs with
  | false =>
    obtain ⟨X, A, B, C, hx⟩ := sk (implColl_defs c h false hD.symm)
    simp [loopAt, loopsOf, Tryz.f230] at hx
    simp [hx]
  | true =>
    obtain ⟨X, A, B, C, hx⟩ := sk (implColl_defs c h true hD.symm)
    simp [loopAt, loopsOf, Tryz.f230] at hx
    cases hC : chainsGo none c.chains with
    | false =>
      obtain ⟨X2, A2, B2, C2, hx2⟩ := sk (implColl_chains c h false hC.symm)
      simp [loopAt, loopsOf, Tryz.f230] at hx2
      simp [hx, hx2]
    | true =>
      obtain ⟨X2, A2, B2, C2, hx2⟩ := sk (implColl_chains c h true hC.symm)
      simp [loopAt, loopsOf, Tryz.f230] at hx2
      have hfew := chains_few c.chains none hC
      simp only at hfew
      have hfew' : c.chains.length ≤ 20 := by omega
      cases hN : nameP c.name with
      | false => rw [hN] at h1; simp [hx, hx2, h1]
      | true => rw [hN] at h1; simp [hx, hx2, h1, hfew', h3]
end Go.Yd
/- spec's CollOK. -/
set_option linter.unusedSimpArgs false
set_option linter.unusedVariables false
namespace Go.Yd
open Go.Ev Go.Proofs Go.Pu
set_option maxRecDepth 100000
set_option maxHeartbeats 16000000
theorem l01In1 (a b c : Int) : run E (.call 83 [xI a, xI b, xI c]) = some (.res [xB (in1 b c a)] []) := l01In a b c
theorem specColl_inner (c : Col) (h : c.Sm) (i : Nat) (hi : i < c.defs.length) (z : Bool) (hz : z = (c.defs.take i).any (fun d => d.name == c.defs[i].name)) : ∀ s o q, (s 1 = .ptr 0 0 ∧ s 3 = .t (.int .i64 i) ∧ s 4 = .t (.int .i64 0) ∧ o 0 = colBox c ∧ 0 < q) →
    ∃ e s' o' q', run E (.code (.loop (loopAt Tryz.f228 1)) ⟨s, o, q, 138⟩) = some (.st e ⟨s', o', q', 138⟩) ∧ e = (if z then .ret else .exit 2) ∧ s' 1 = .ptr 0 0 ∧ s' 3 = .t (.int .i64 i) ∧ o' 0 = colBox c ∧ 0 < q' ∧ (z = true → s' 2 = .t (.bool false)) := by
  intro s o q hI
  have d11 := d228_11
  simp [regionOf, findR, pick, Tryz.f228] at d11
  have dd := fun st => run_region_draw E st 11 _ d11
  clear d11
  refine loop_for (c := loopAt Tryz.f228 1) (N := 138)
    (fun j s o q => s 1 = .ptr 0 0 ∧ s 3 = .t (.int .i64 i) ∧ s 4 = .t (.int .i64 j) ∧ o 0 = colBox c ∧ 0 < q ∧ z = ((c.defs.take i).drop j).any (fun d => d.name == c.defs[i].name))
    (fun e s' o' q' => e = (if z then .ret else .exit 2) ∧ s' 1 = .ptr 0 0 ∧ s' 3 = .t (.int .i64 i) ∧ o' 0 = colBox c ∧ 0 < q' ∧ (z = true → s' 2 = .t (.bool false))) i ?_ ?_
    i 0 s o q (by omega) ⟨hI.1, hI.2.1, hI.2.2.1, hI.2.2.2.1, hI.2.2.2.2, by simpa using hz⟩
  · rintro j s o q hj ⟨h1, h3, h4, ho, hq, hp⟩
    have hjd : j < c.defs.length := by omega
    have hxi : c.defs[i]? = some c.defs[i] := List.getElem?_eq_getElem hi
    have hxj : c.defs[j]? = some c.defs[j] := List.getElem?_eq_getElem hjd
    have hi' : (i : Int) < (c.defs.length : Int) := by omega
    have hj' : (j : Int) < (c.defs.length : Int) := by omega
    have hji : (j : Int) < (i : Int) := by omega
    have hw := wrap_succ (n := j) (by have := h.defs.1; omega)
    rw [List.drop_eq_getElem_cons (by simp; omega), List.any_cons, List.getElem_take] at hp
    by_cases he : c.defs[j].name = c.defs[i].name
    · simp [he] at hp
      simp [loopAt, loopsOf, Tryz.f228, dd, h1, h3, h4, ho, hxi, hxj, hi', hj', hji, hw, he, hp, hq, -List.any_eq_true, -List.any_eq_false]
    · rw [show (c.defs[j].name == c.defs[i].name) = false from by simp [he], Bool.false_or] at hp
      simp [loopAt, loopsOf, Tryz.f228, dd, h1, h3, h4, ho, hxi, hxj, hi', hj', hji, hw, he, hq, -List.any_eq_true, -List.any_eq_false]
      exact hp
  · rintro s o q ⟨h1, h3, h4, ho, hq, hp⟩
    simp at hp
    simp [loopAt, loopsOf, Tryz.f228, h1, h3, h4, ho, hp, hq]
theorem specColl_defs (c : Col) (h : c.Sm) (b : Bool) (hb : b = defsGo [] c.defs) : ∀ s o q, (s 1 = .ptr 0 0 ∧ s 3 = .t (.int .i64 0) ∧ o 0 = colBox c ∧ 0 < q) →
    ∃ e s' o' q', run E (.code (.loop (loopAt Tryz.f228 0)) ⟨s, o, q, 138⟩) = some (.st e ⟨s', o', q', 138⟩) ∧ e = (if b then .exit 0 else .ret) ∧ s' 1 = .ptr 0 0 ∧ o' 0 = colBox c ∧ 0 < q' ∧ (b = false → s' 2 = .t (.bool false)) := by
  intro s o q hI
  refine loop_for (c := loopAt Tryz.f228 0) (N := 138)
    (fun i s o q => s 1 = .ptr 0 0 ∧ s 3 = .t (.int .i64 i) ∧ o 0 = colBox c ∧ 0 < q ∧ b = defsGo (c.defs.take i) (c.defs.drop i))
    (fun e s' o' q' => e = (if b then .exit 0 else .ret) ∧ s' 1 = .ptr 0 0 ∧ o' 0 = colBox c ∧ 0 < q' ∧ (b = false → s' 2 = .t (.bool false))) c.defs.length ?_ ?_
    c.defs.length 0 s o q (by omega) ⟨hI.1, hI.2.1, hI.2.2.1, hI.2.2.2, by simpa using hb⟩
  · rintro i s o q hi ⟨h1, h3, ho, hq, hp⟩
    have hxi : c.defs[i]? = some c.defs[i] := List.getElem?_eq_getElem hi
    have hi' : (i : Int) < (c.defs.length : Int) := by omega
    have hw := wrap_succ (n := i) (by have := h.defs.1; omega)
    have hd := specDefOK c.defs[i] (h.defs.2 _ (List.getElem_mem hi))
    have htk : c.defs.take (i + 1) = c.defs.take i ++ [c.defs[i]] := by rw [List.take_add_one, hxi]; rfl
    obtain ⟨z, hz⟩ : ∃ z, z = (c.defs.take i).any (fun d => d.name == c.defs[i].name) := ⟨_, rfl⟩
    obtain ⟨X, A, B, C, hx⟩ := sk (specColl_inner c h i hi z hz)
    simp only [loopAt, loopsOf, Tryz.f228] at hx
    rw [List.drop_eq_getElem_cons hi, defsGo, ← htk, ← hz] at hp
    clear hz
    cases hO : defOK c.defs[i] with
    | false =>
      simp [hO] at hp hd
      simp [loopAt, loopsOf, Tryz.f228, h1, h3, ho, hq, hi', hxi, hw, hd, hp]
    | true =>
      cases z with
      | true =>
        simp [hO] at hp hd hx
        simp [loopAt, loopsOf, Tryz.f228, h1, h3, ho, hq, hi', hxi, hw, hd, hp, hx]
      | false =>
        simp [hO] at hp hd hx
        simp [loopAt, loopsOf, Tryz.f228, h1, h3, ho, hq, hi', hxi, hw, hd, hx]
        exact hp
  · rintro s o q ⟨h1, h3, ho, hq, hp⟩
    simp [defsGo] at hp
    simp [loopAt, loopsOf, Tryz.f228, h1, h3, ho, hp, hq]
theorem specColl_vers (c : Col) (h : c.Sm) (m r : Nat) (x : Chn) (hx : x.Sm) (b : Bool) (hb : b = versGo (fun g v => verDoc x.id g v) none x.vs) : ∀ s o q, (s 1 = .ptr 0 0 ∧ s 5 = .t (.int .i64 m) ∧ s 6 = .ptr r 0 ∧ s 7 = .t (.int .i64 0) ∧ o 0 = colBox c ∧ o r = .box 198 [.t (.int .i64 x.id), .t (.list (x.vs.map verT))] ∧ 0 < r ∧ r < q) →
    ∃ e s' o' q', run E (.code (.loop (loopAt Tryz.f228 3)) ⟨s, o, q, 138⟩) = some (.st e ⟨s', o', q', 138⟩) ∧ e = (if b then .exit 6 else .ret) ∧ s' 1 = .ptr 0 0 ∧ s' 5 = .t (.int .i64 m) ∧ o' 0 = colBox c ∧ 0 < q' ∧ (b = false → s' 2 = .t (.bool false)) := by
  intro s o q hI
  have d23 := d228_23
  simp [regionOf, findR, pick, Tryz.f228] at d23
  have dd := fun st => run_region_draw E st 23 _ d23
  clear d23
  refine loop_for (c := loopAt Tryz.f228 3) (N := 138)
    (fun i s o q => s 1 = .ptr 0 0 ∧ s 5 = .t (.int .i64 m) ∧ s 6 = .ptr r 0 ∧ s 7 = .t (.int .i64 i) ∧ o 0 = colBox c ∧ o r = .box 198 [.t (.int .i64 x.id), .t (.list (x.vs.map verT))] ∧ 0 < r ∧ r < q ∧ b = versGo (fun g v => verDoc x.id g v) (match i with | 0 => none | j + 1 => (x.vs[j]?).map (·.at_)) (x.vs.drop i))
    (fun e s' o' q' => e = (if b then .exit 6 else .ret) ∧ s' 1 = .ptr 0 0 ∧ s' 5 = .t (.int .i64 m) ∧ o' 0 = colBox c ∧ 0 < q' ∧ (b = false → s' 2 = .t (.bool false))) x.vs.length ?_ ?_
    x.vs.length 0 s o q (by omega) ⟨hI.1, hI.2.1, hI.2.2.1, hI.2.2.2.1, hI.2.2.2.2.1, hI.2.2.2.2.2.1, hI.2.2.2.2.2.2.1, hI.2.2.2.2.2.2.2, by simpa using hb⟩
  · rintro i s o q hi ⟨h1, h5, h6, h7, ho, hr, hr0, hrq, hp⟩
    have hq0 : q ≠ 0 := by omega
    have h0q : 0 ≠ q := by omega
    have hqr : q ≠ r := by omega
    have hrq' : r ≠ q := by omega
    have hrq1 : r < q + 1 := by omega
    have hxi : x.vs[i]? = some x.vs[i] := List.getElem?_eq_getElem hi
    have hi' : (i : Int) < (x.vs.length : Int) := by omega
    have hw := wrap_succ (n := i) (by have := hx.1; omega)
    have ht := l01In1 x.vs[i].at_ 1 10000
    have hdoc := specDocOK x.id x.vs[i].gone x.vs[i].v (hx.2 _ (List.getElem_mem hi))
    rw [List.drop_eq_getElem_cons hi] at hp
    cases i with
    | zero =>
      simp only [versGo] at hp
      cases hT : in1 1 10000 x.vs[0].at_ <;> cases hD : verDoc x.id x.vs[0].gone x.vs[0].v <;> simp [hT, hD] at hp ht hdoc <;> simp [loopAt, loopsOf, Tryz.f228, dd, h1, h5, h6, h7, ho, hr, hq0, h0q, hqr, hrq', hrq1, hr0, hi, hi', hw, ht, hdoc, hp, hxi]
    | succ j =>
      have hj : j < x.vs.length := by omega
      have hxj : x.vs[j]? = some x.vs[j] := List.getElem?_eq_getElem hj
      have hpos : (0 : Int) < (j : Int) + 1 := by omega
      have hnn : (0 : Int) ≤ (j : Int) + 1 := by omega
      have hwj2 := wrap_nat (n := j) (by have := hx.1; omega)
      simp only [hxj, Option.map_some, versGo] at hp
      simp at h7 hi' hw
      by_cases hge : x.vs[j + 1].at_ ≤ x.vs[j].at_ <;> cases hT : in1 1 10000 x.vs[j + 1].at_ <;> cases hD : verDoc x.id x.vs[j + 1].gone x.vs[j + 1].v <;> simp [hT, hD, hge] at hp ht hdoc <;> simp [loopAt, loopsOf, Tryz.f228, dd, h1, h5, h6, h7, ho, hr, hq0, h0q, hqr, hrq', hrq1, hr0, hi, hi', hw, ht, hdoc, hp, hxi, hxj, hj, hpos, hnn, hwj2, hge]
  · rintro s o q ⟨h1, h5, h6, h7, ho, hr, hr0, hrq, hp⟩
    have hq : 0 < q := by omega
    simp [versGo] at hp
    simp [loopAt, loopsOf, Tryz.f228, h1, h5, h6, h7, ho, hr, hp, hq]
end Go.Yd
/- The laws' own functions over lists of versions, chains and definitions. -/
set_option linter.unusedSimpArgs false
set_option linter.unusedVariables false
namespace Go.Yd
open Go.Ev Go.Proofs Go.Pu
set_option maxRecDepth 100000
set_option maxHeartbeats 16000000
theorem sz_208 (xs : List Ver) (f : Ver → Int → Int) (hl : xs.length < 9223372036854775807) (hf : ∀ x ∈ xs, ∀ l, 0 ≤ l → l ≤ 1048576 → run E (.call 400 [.t (verT x), xI l]) = some (.res [xI (f x l)] [])) (hle : ∀ x ∈ xs, ∀ k, 0 ≤ k → f x k ≤ k) (l : Int) (h0 : 0 ≤ l) (hm : l ≤ 1048576) :
    run E (.call 384 [.t (.list (xs.map verT)), xI l]) = some (.res [xI (lstSz f xs l)] []) := by
  rw [run_call E 384 _ rfl Tryz.func384 rfl rfl rfl (by simp)]
  have hw : IntKind.i64.wrap (l - (xs.length : Int)) = l - xs.length := wrap_of (by omega) (by omega)
  unfold lstSz szB
  by_cases hb : l - (xs.length : Int) < 0
  · simp [hw, hb]
  · have hb0 : ¬ l < (xs.length : Int) := by omega
    have lp := fun (r : Int) (hr : r = goSz f xs (l - xs.length)) => sk (fun s o q hI => loop_for (c := loopAt Tryz.f384 0) (N := 27)
      (fun i s o q => ∃ k : Int, s 0 = .t (.list (xs.map verT)) ∧ s 1 = .t (.int .i64 k) ∧ s 5 = .t (.int .i64 i) ∧ 0 ≤ k ∧ k ≤ 1048576 ∧ r = goSz f (xs.drop i) k)
      (fun e s' o' q' => e = (if r < 0 then .ret else .exit 0) ∧ (r < 0 → s' 4 = .t (.int .i64 r)) ∧ (0 ≤ r → s' 1 = .t (.int .i64 r))) xs.length
      (by
        rintro i s o q hi ⟨k, g0, g1, g5, hk0, hkm, hp⟩
        have hi' : (i : Int) < (xs.length : Int) := by omega
        have hwi := wrap_succ (n := i) (by omega)
        have hxi : xs[i]? = some xs[i] := List.getElem?_eq_getElem hi
        have hx := hf _ (List.getElem_mem hi) k hk0 hkm
        have hxl := hle _ (List.getElem_mem hi) k hk0
        rw [List.drop_eq_getElem_cons hi, goSz] at hp
        by_cases hn : f xs[i] k < 0
        · simp [hn] at hp
          simp [loopAt, loopsOf, Tryz.f384, g0, g1, g5, hi', hxi, hwi, hx, hn, hp]
        · simp [hn] at hp
          simp [loopAt, loopsOf, Tryz.f384, g0, g1, g5, hi', hxi, hwi, hx, hn]
          exact ⟨by omega, by omega, hp⟩)
      (by
        rintro s o q ⟨k, g0, g1, g5, hk0, hkm, hp⟩
        simp [goSz] at hp
        have hn : ¬ r < 0 := by omega
        have hn' : 0 ≤ r := by omega
        have hk1 : ¬ k < 0 := by omega
        simp [loopAt, loopsOf, Tryz.f384, g0, g1, g5, hp, hk1]
        try omega)
      xs.length 0 s o q (by omega) hI)
    simp only [loopAt, loopsOf, Tryz.f384] at lp
    obtain ⟨r, hr⟩ : ∃ r, r = goSz f xs (l - xs.length) := ⟨_, rfl⟩
    obtain ⟨X, A, B, C, hx⟩ := lp r hr
    have hx' := fun s o q a0 a1 a5 => hx s o q ⟨l - xs.length, a0, a1, a5, by omega, by omega, by simpa using hr⟩
    clear hx
    by_cases hn : r < 0
    · have hn' : ¬ 0 ≤ r := by omega
      simp [hn, hn'] at hx'
      simp [hw, hb, hb0, hx', hn, ← hr]
    · have hn' : 0 ≤ r := by omega
      simp [hn, hn'] at hx'
      simp [hw, hb, hb0, hx', hn, ← hr]
theorem sz_87 (xs : List Chn) (f : Chn → Int → Int) (hl : xs.length < 9223372036854775807) (hf : ∀ x ∈ xs, ∀ l, 0 ≤ l → l ≤ 1048576 → run E (.call 364 [.t (chnT x), xI l]) = some (.res [xI (f x l)] [])) (hle : ∀ x ∈ xs, ∀ k, 0 ≤ k → f x k ≤ k) (l : Int) (h0 : 0 ≤ l) (hm : l ≤ 1048576) :
    run E (.call 309 [.t (.list (xs.map chnT)), xI l]) = some (.res [xI (lstSz f xs l)] []) := by
  rw [run_call E 309 _ rfl Tryz.func309 rfl rfl rfl (by simp)]
  have hw : IntKind.i64.wrap (l - (xs.length : Int)) = l - xs.length := wrap_of (by omega) (by omega)
  unfold lstSz szB
  by_cases hb : l - (xs.length : Int) < 0
  · simp [hw, hb]
  · have hb0 : ¬ l < (xs.length : Int) := by omega
    have lp := fun (r : Int) (hr : r = goSz f xs (l - xs.length)) => sk (fun s o q hI => loop_for (c := loopAt Tryz.f309 0) (N := 27)
      (fun i s o q => ∃ k : Int, s 0 = .t (.list (xs.map chnT)) ∧ s 1 = .t (.int .i64 k) ∧ s 5 = .t (.int .i64 i) ∧ 0 ≤ k ∧ k ≤ 1048576 ∧ r = goSz f (xs.drop i) k)
      (fun e s' o' q' => e = (if r < 0 then .ret else .exit 0) ∧ (r < 0 → s' 4 = .t (.int .i64 r)) ∧ (0 ≤ r → s' 1 = .t (.int .i64 r))) xs.length
      (by
        rintro i s o q hi ⟨k, g0, g1, g5, hk0, hkm, hp⟩
        have hi' : (i : Int) < (xs.length : Int) := by omega
        have hwi := wrap_succ (n := i) (by omega)
        have hxi : xs[i]? = some xs[i] := List.getElem?_eq_getElem hi
        have hx := hf _ (List.getElem_mem hi) k hk0 hkm
        have hxl := hle _ (List.getElem_mem hi) k hk0
        rw [List.drop_eq_getElem_cons hi, goSz] at hp
        by_cases hn : f xs[i] k < 0
        · simp [hn] at hp
          simp [loopAt, loopsOf, Tryz.f309, g0, g1, g5, hi', hxi, hwi, hx, hn, hp]
        · simp [hn] at hp
          simp [loopAt, loopsOf, Tryz.f309, g0, g1, g5, hi', hxi, hwi, hx, hn]
          exact ⟨by omega, by omega, hp⟩)
      (by
        rintro s o q ⟨k, g0, g1, g5, hk0, hkm, hp⟩
        simp [goSz] at hp
        have hn : ¬ r < 0 := by omega
        have hn' : 0 ≤ r := by omega
        have hk1 : ¬ k < 0 := by omega
        simp [loopAt, loopsOf, Tryz.f309, g0, g1, g5, hp, hk1]
        try omega)
      xs.length 0 s o q (by omega) hI)
    simp only [loopAt, loopsOf, Tryz.f309] at lp
    obtain ⟨r, hr⟩ : ∃ r, r = goSz f xs (l - xs.length) := ⟨_, rfl⟩
    obtain ⟨X, A, B, C, hx⟩ := lp r hr
    have hx' := fun s o q a0 a1 a5 => hx s o q ⟨l - xs.length, a0, a1, a5, by omega, by omega, by simpa using hr⟩
    clear hx
    by_cases hn : r < 0
    · have hn' : ¬ 0 ≤ r := by omega
      simp [hn, hn'] at hx'
      simp [hw, hb, hb0, hx', hn, ← hr]
    · have hn' : 0 ≤ r := by omega
      simp [hn, hn'] at hx'
      simp [hw, hb, hb0, hx', hn, ← hr]
theorem sz_88 (xs : List Dfn) (f : Dfn → Int → Int) (hl : xs.length < 9223372036854775807) (hf : ∀ x ∈ xs, ∀ l, 0 ≤ l → l ≤ 1048576 → run E (.call 107 [.t (dfnT x), xI l]) = some (.res [xI (f x l)] [])) (hle : ∀ x ∈ xs, ∀ k, 0 ≤ k → f x k ≤ k) (l : Int) (h0 : 0 ≤ l) (hm : l ≤ 1048576) :
    run E (.call 310 [.t (.list (xs.map dfnT)), xI l]) = some (.res [xI (lstSz f xs l)] []) := by
  rw [run_call E 310 _ rfl Tryz.func310 rfl rfl rfl (by simp)]
  have hw : IntKind.i64.wrap (l - (xs.length : Int)) = l - xs.length := wrap_of (by omega) (by omega)
  unfold lstSz szB
  by_cases hb : l - (xs.length : Int) < 0
  · simp [hw, hb]
  · have hb0 : ¬ l < (xs.length : Int) := by omega
    have lp := fun (r : Int) (hr : r = goSz f xs (l - xs.length)) => sk (fun s o q hI => loop_for (c := loopAt Tryz.f310 0) (N := 27)
      (fun i s o q => ∃ k : Int, s 0 = .t (.list (xs.map dfnT)) ∧ s 1 = .t (.int .i64 k) ∧ s 5 = .t (.int .i64 i) ∧ 0 ≤ k ∧ k ≤ 1048576 ∧ r = goSz f (xs.drop i) k)
      (fun e s' o' q' => e = (if r < 0 then .ret else .exit 0) ∧ (r < 0 → s' 4 = .t (.int .i64 r)) ∧ (0 ≤ r → s' 1 = .t (.int .i64 r))) xs.length
      (by
        rintro i s o q hi ⟨k, g0, g1, g5, hk0, hkm, hp⟩
        have hi' : (i : Int) < (xs.length : Int) := by omega
        have hwi := wrap_succ (n := i) (by omega)
        have hxi : xs[i]? = some xs[i] := List.getElem?_eq_getElem hi
        have hx := hf _ (List.getElem_mem hi) k hk0 hkm
        have hxl := hle _ (List.getElem_mem hi) k hk0
        rw [List.drop_eq_getElem_cons hi, goSz] at hp
        by_cases hn : f xs[i] k < 0
        · simp [hn] at hp
          simp [loopAt, loopsOf, Tryz.f310, g0, g1, g5, hi', hxi, hwi, hx, hn, hp]
        · simp [hn] at hp
          simp [loopAt, loopsOf, Tryz.f310, g0, g1, g5, hi', hxi, hwi, hx, hn]
          exact ⟨by omega, by omega, hp⟩)
      (by
        rintro s o q ⟨k, g0, g1, g5, hk0, hkm, hp⟩
        simp [goSz] at hp
        have hn : ¬ r < 0 := by omega
        have hn' : 0 ≤ r := by omega
        have hk1 : ¬ k < 0 := by omega
        simp [loopAt, loopsOf, Tryz.f310, g0, g1, g5, hp, hk1]
        try omega)
      xs.length 0 s o q (by omega) hI)
    simp only [loopAt, loopsOf, Tryz.f310] at lp
    obtain ⟨r, hr⟩ : ∃ r, r = goSz f xs (l - xs.length) := ⟨_, rfl⟩
    obtain ⟨X, A, B, C, hx⟩ := lp r hr
    have hx' := fun s o q a0 a1 a5 => hx s o q ⟨l - xs.length, a0, a1, a5, by omega, by omega, by simpa using hr⟩
    clear hx
    by_cases hn : r < 0
    · have hn' : ¬ 0 ≤ r := by omega
      simp [hn, hn'] at hx'
      simp [hw, hb, hb0, hx', hn, ← hr]
    · have hn' : 0 ≤ r := by omega
      simp [hn, hn'] at hx'
      simp [hw, hb, hb0, hx', hn, ← hr]
theorem to_210 (xs : List Ver) (hl : xs.length < 4294967296) (hf : ∀ x ∈ xs, run E (.call 401 [.t (verT x)]) = some (.res [verX x] [])) :
    run E (.call 385 [.t (.list (xs.map verT))]) = some (.res [.row 200 (xs.map verT)] []) := by
  rw [run_call E 385 _ rfl Tryz.func385 rfl rfl rfl (by simp)]
  have lp := sk (fun s o q hI => loop_for (c := loopAt Tryz.f385 0) (N := 23)
    (fun i s o q => s 0 = .t (.list (xs.map verT)) ∧ s 3 = .row 0 ∧ s 4 = .t (.int .i64 i) ∧ 0 < q ∧ o 0 = .row 200 ((xs.map verT).take i ++ List.replicate (xs.length - i) (.agg [.int .i64 0, .bool false, .int .i64 0, .int .i64 0, .str []])) true)
    (fun e s' o' q' => e = .exit 0 ∧ s' 3 = .row 0 ∧ o' 0 = .row 200 (xs.map verT) true) xs.length
    (by
      rintro i s o q hi ⟨g0, g3, g4, hq, ho⟩
      have hi' : (i : Int) < (xs.length : Int) := by omega
      have hwi := wrap_succ (n := i) (by omega)
      have hxi : xs[i]? = some xs[i] := List.getElem?_eq_getElem hi
      have hx := hf _ (List.getElem_mem hi)
      have hq0 : q ≠ 0 := by omega
      have h0q : 0 ≠ q := by omega
      have hget := mid_get (xs.map verT) (.agg [.int .i64 0, .bool false, .int .i64 0, .int .i64 0, .str []]) i xs.length hi (by simp; omega)
      have hset := mid_set (xs.map verT) (.agg [.int .i64 0, .bool false, .int .i64 0, .int .i64 0, .str []]) (verT xs[i]) i xs.length hi (by simp [hxi])
      simp [loopAt, loopsOf, Tryz.f385, g0, g3, g4, hi', hxi, hwi, hx, ho, hget, hset, hq0, h0q]
      try omega)
    (by
      rintro s o q ⟨g0, g3, g4, hq, ho⟩
      have hfull : (xs.map verT).take xs.length = xs.map verT := List.take_of_length_le (by simp)
      simp [hfull] at ho
      simp [loopAt, loopsOf, Tryz.f385, g0, g3, g4, ho])
    xs.length 0 s o q (by omega) hI)
  simp only [loopAt, loopsOf, Tryz.f385] at lp
  obtain ⟨X, A, B, C, hx⟩ := lp
  simp at hx
  have h1 : xs.length ≤ 140737488355328 := by omega
  have h2 : xs.length * 48 ≤ 140737488355328 := by omega
  simp [h1, h2, hx]
theorem to_91 (xs : List Chn) (hl : xs.length < 4294967296) (hf : ∀ x ∈ xs, run E (.call 365 [.t (chnT x)]) = some (.res [.agg [.t (.int .i64 x.id), .row 200 (x.vs.map verT)]] [])) :
    run E (.call 311 [.t (.list (xs.map chnT))]) = some (.res [.row 198 (xs.map chnT)] []) := by
  rw [run_call E 311 _ rfl Tryz.func311 rfl rfl rfl (by simp)]
  have lp := sk (fun s o q hI => loop_for (c := loopAt Tryz.f311 0) (N := 23)
    (fun i s o q => s 0 = .t (.list (xs.map chnT)) ∧ s 3 = .row 0 ∧ s 4 = .t (.int .i64 i) ∧ 0 < q ∧ o 0 = .row 198 ((xs.map chnT).take i ++ List.replicate (xs.length - i) (.agg [.int .i64 0, .list []])) true)
    (fun e s' o' q' => e = .exit 0 ∧ s' 3 = .row 0 ∧ o' 0 = .row 198 (xs.map chnT) true) xs.length
    (by
      rintro i s o q hi ⟨g0, g3, g4, hq, ho⟩
      have hi' : (i : Int) < (xs.length : Int) := by omega
      have hwi := wrap_succ (n := i) (by omega)
      have hxi : xs[i]? = some xs[i] := List.getElem?_eq_getElem hi
      have hx := hf _ (List.getElem_mem hi)
      have hq0 : q ≠ 0 := by omega
      have h0q : 0 ≠ q := by omega
      have hget := mid_get (xs.map chnT) (.agg [.int .i64 0, .list []]) i xs.length hi (by simp; omega)
      have hset := mid_set (xs.map chnT) (.agg [.int .i64 0, .list []]) (chnT xs[i]) i xs.length hi (by simp [hxi])
      simp [loopAt, loopsOf, Tryz.f311, g0, g3, g4, hi', hxi, hwi, hx, ho, hget, hset, hq0, h0q]
      try omega)
    (by
      rintro s o q ⟨g0, g3, g4, hq, ho⟩
      have hfull : (xs.map chnT).take xs.length = xs.map chnT := List.take_of_length_le (by simp)
      simp [hfull] at ho
      simp [loopAt, loopsOf, Tryz.f311, g0, g3, g4, ho])
    xs.length 0 s o q (by omega) hI)
  simp only [loopAt, loopsOf, Tryz.f311] at lp
  obtain ⟨X, A, B, C, hx⟩ := lp
  simp at hx
  have h1 : xs.length ≤ 140737488355328 := by omega
  have h2 : xs.length * 32 ≤ 140737488355328 := by omega
  simp [h1, h2, hx]
theorem to_92 (xs : List Dfn) (hl : xs.length < 4294967296) (hf : ∀ x ∈ xs, run E (.call 114 [.t (dfnT x)]) = some (.res [.agg [.t (.str x.name), .row 133 (x.parts.map prtT)]] [])) :
    run E (.call 312 [.t (.list (xs.map dfnT))]) = some (.res [.row 79 (xs.map dfnT)] []) := by
  rw [run_call E 312 _ rfl Tryz.func312 rfl rfl rfl (by simp)]
  have lp := sk (fun s o q hI => loop_for (c := loopAt Tryz.f312 0) (N := 23)
    (fun i s o q => s 0 = .t (.list (xs.map dfnT)) ∧ s 3 = .row 0 ∧ s 4 = .t (.int .i64 i) ∧ 0 < q ∧ o 0 = .row 79 ((xs.map dfnT).take i ++ List.replicate (xs.length - i) (.agg [.str [], .list []])) true)
    (fun e s' o' q' => e = .exit 0 ∧ s' 3 = .row 0 ∧ o' 0 = .row 79 (xs.map dfnT) true) xs.length
    (by
      rintro i s o q hi ⟨g0, g3, g4, hq, ho⟩
      have hi' : (i : Int) < (xs.length : Int) := by omega
      have hwi := wrap_succ (n := i) (by omega)
      have hxi : xs[i]? = some xs[i] := List.getElem?_eq_getElem hi
      have hx := hf _ (List.getElem_mem hi)
      have hq0 : q ≠ 0 := by omega
      have h0q : 0 ≠ q := by omega
      have hget := mid_get (xs.map dfnT) (.agg [.str [], .list []]) i xs.length hi (by simp; omega)
      have hset := mid_set (xs.map dfnT) (.agg [.str [], .list []]) (dfnT xs[i]) i xs.length hi (by simp [hxi])
      simp [loopAt, loopsOf, Tryz.f312, g0, g3, g4, hi', hxi, hwi, hx, ho, hget, hset, hq0, h0q]
      try omega)
    (by
      rintro s o q ⟨g0, g3, g4, hq, ho⟩
      have hfull : (xs.map dfnT).take xs.length = xs.map dfnT := List.take_of_length_le (by simp)
      simp [hfull] at ho
      simp [loopAt, loopsOf, Tryz.f312, g0, g3, g4, ho])
    xs.length 0 s o q (by omega) hI)
  simp only [loopAt, loopsOf, Tryz.f312] at lp
  obtain ⟨X, A, B, C, hx⟩ := lp
  simp at hx
  have h1 : xs.length ≤ 140737488355328 := by omega
  have h2 : xs.length * 40 ≤ 140737488355328 := by omega
  simp [h1, h2, hx]
theorem eq_212 (xs : List Ver) (hl : xs.length < 9223372036854775807) (hf : ∀ x ∈ xs, run E (.call 402 [.t (verT x), .t (verT x)]) = some (.res [xB true] [])) :
    run E (.call 386 [.t (.list (xs.map verT)), .t (.list (xs.map verT))]) = some (.res [xB true] []) := by
  rw [run_call E 386 _ rfl Tryz.func386 rfl rfl rfl (by simp)]
  have d6 := d386_6
  simp [regionOf, findR, pick, Tryz.f386] at d6
  have dd := fun st => run_region_draw E st 6 _ d6
  clear d6
  have lp := sk (fun s o q hI => loop_for (c := loopAt Tryz.f386 0) (N := 27)
    (fun i s o q => s 0 = .t (.list (xs.map verT)) ∧ s 1 = .t (.list (xs.map verT)) ∧ s 5 = .t (.int .i64 i))
    (fun e s' o' q' => e = .exit 0) xs.length
    (by
      rintro i s o q hi ⟨g0, g1, g5⟩
      have hi' : (i : Int) < (xs.length : Int) := by omega
      have hwi := wrap_succ (n := i) (by omega)
      have hxi : xs[i]? = some xs[i] := List.getElem?_eq_getElem hi
      have hx := hf _ (List.getElem_mem hi)
      simp [loopAt, loopsOf, Tryz.f386, dd, g0, g1, g5, hi', hxi, hwi, hx])
    (by
      rintro s o q ⟨g0, g1, g5⟩
      simp [loopAt, loopsOf, Tryz.f386, g0, g1, g5])
    xs.length 0 s o q (by omega) hI)
  simp only [loopAt, loopsOf, Tryz.f386] at lp
  obtain ⟨X, A, B, C, hx⟩ := lp
  simp at hx
  simp [hx]
theorem eq_96 (xs : List Chn) (hl : xs.length < 9223372036854775807) (hf : ∀ x ∈ xs, run E (.call 368 [.t (chnT x), .t (chnT x)]) = some (.res [xB true] [])) :
    run E (.call 318 [.t (.list (xs.map chnT)), .t (.list (xs.map chnT))]) = some (.res [xB true] []) := by
  rw [run_call E 318 _ rfl Tryz.func318 rfl rfl rfl (by simp)]
  have d6 := d318_6
  simp [regionOf, findR, pick, Tryz.f318] at d6
  have dd := fun st => run_region_draw E st 6 _ d6
  clear d6
  have lp := sk (fun s o q hI => loop_for (c := loopAt Tryz.f318 0) (N := 27)
    (fun i s o q => s 0 = .t (.list (xs.map chnT)) ∧ s 1 = .t (.list (xs.map chnT)) ∧ s 5 = .t (.int .i64 i))
    (fun e s' o' q' => e = .exit 0) xs.length
    (by
      rintro i s o q hi ⟨g0, g1, g5⟩
      have hi' : (i : Int) < (xs.length : Int) := by omega
      have hwi := wrap_succ (n := i) (by omega)
      have hxi : xs[i]? = some xs[i] := List.getElem?_eq_getElem hi
      have hx := hf _ (List.getElem_mem hi)
      simp [loopAt, loopsOf, Tryz.f318, dd, g0, g1, g5, hi', hxi, hwi, hx])
    (by
      rintro s o q ⟨g0, g1, g5⟩
      simp [loopAt, loopsOf, Tryz.f318, g0, g1, g5])
    xs.length 0 s o q (by omega) hI)
  simp only [loopAt, loopsOf, Tryz.f318] at lp
  obtain ⟨X, A, B, C, hx⟩ := lp
  simp at hx
  simp [hx]
theorem eq_97 (xs : List Dfn) (hl : xs.length < 9223372036854775807) (hf : ∀ x ∈ xs, run E (.call 122 [.t (dfnT x), .t (dfnT x)]) = some (.res [xB true] [])) :
    run E (.call 319 [.t (.list (xs.map dfnT)), .t (.list (xs.map dfnT))]) = some (.res [xB true] []) := by
  rw [run_call E 319 _ rfl Tryz.func319 rfl rfl rfl (by simp)]
  have d6 := d319_6
  simp [regionOf, findR, pick, Tryz.f319] at d6
  have dd := fun st => run_region_draw E st 6 _ d6
  clear d6
  have lp := sk (fun s o q hI => loop_for (c := loopAt Tryz.f319 0) (N := 27)
    (fun i s o q => s 0 = .t (.list (xs.map dfnT)) ∧ s 1 = .t (.list (xs.map dfnT)) ∧ s 5 = .t (.int .i64 i))
    (fun e s' o' q' => e = .exit 0) xs.length
    (by
      rintro i s o q hi ⟨g0, g1, g5⟩
      have hi' : (i : Int) < (xs.length : Int) := by omega
      have hwi := wrap_succ (n := i) (by omega)
      have hxi : xs[i]? = some xs[i] := List.getElem?_eq_getElem hi
      have hx := hf _ (List.getElem_mem hi)
      simp [loopAt, loopsOf, Tryz.f319, dd, g0, g1, g5, hi', hxi, hwi, hx])
    (by
      rintro s o q ⟨g0, g1, g5⟩
      simp [loopAt, loopsOf, Tryz.f319, g0, g1, g5])
    xs.length 0 s o q (by omega) hI)
  simp only [loopAt, loopsOf, Tryz.f319] at lp
  obtain ⟨X, A, B, C, hx⟩ := lp
  simp at hx
  simp [hx]
end Go.Yd
/- spec's CollOK: the chains, and the whole. -/
set_option linter.unusedSimpArgs false
set_option linter.unusedVariables false
namespace Go.Yd
open Go.Ev Go.Proofs Go.Pu
set_option maxRecDepth 100000
set_option maxHeartbeats 16000000
/-- spec's CollOK: the chains. -/
theorem specColl_chains (c : Col) (h : c.Sm) (b : Bool) (hb : b = chainsGo none c.chains) : ∀ s o q, (s 1 = .ptr 0 0 ∧ s 5 = .t (.int .i64 0) ∧ o 0 = colBox c ∧ 0 < q) →
    ∃ e s' o' q', run E (.code (.loop (loopAt Tryz.f228 2)) ⟨s, o, q, 138⟩) = some (.st e ⟨s', o', q', 138⟩) ∧ e = (if b then .exit 4 else .ret) ∧ s' 1 = .ptr 0 0 ∧ o' 0 = colBox c ∧ (b = false → s' 2 = .t (.bool false)) := by
  intro s o q hI
  have d17 := d228_17
  simp [regionOf, findR, pick, Tryz.f228] at d17
  have dd := fun st => run_region_draw E st 17 _ d17
  clear d17
  refine loop_for (c := loopAt Tryz.f228 2) (N := 138)
    (fun i s o q => s 1 = .ptr 0 0 ∧ s 5 = .t (.int .i64 i) ∧ o 0 = colBox c ∧ 0 < q ∧ b = chainsGo (match i with | 0 => none | j + 1 => (c.chains[j]?).map (·.id)) (c.chains.drop i))
    (fun e s' o' q' => e = (if b then .exit 4 else .ret) ∧ s' 1 = .ptr 0 0 ∧ o' 0 = colBox c ∧ (b = false → s' 2 = .t (.bool false))) c.chains.length ?_ ?_
    c.chains.length 0 s o q (by omega) ⟨hI.1, hI.2.1, hI.2.2.1, hI.2.2.2, by simpa using hb⟩
  · rintro i s o q hi ⟨h1, h5, ho, hq, hp⟩
    have hq0 : q ≠ 0 := by omega
    have h0q : 0 ≠ q := by omega
    have hxi : c.chains[i]? = some c.chains[i] := List.getElem?_eq_getElem hi
    have hi' : (i : Int) < (c.chains.length : Int) := by omega
    have hw := wrap_succ (n := i) (by have := h.chains.1; omega)
    have hid := l01In1 c.chains[i].id 0 19
    have hlen := l01In1 (c.chains[i].vs.length : Int) 1 12
    obtain ⟨z, hz⟩ : ∃ z, z = versGo (fun g v => verDoc c.chains[i].id g v) none c.chains[i].vs := ⟨_, rfl⟩
    obtain ⟨X, A, B, C, hx⟩ := sk (specColl_vers c h i q c.chains[i] (h.chains.2 _ (List.getElem_mem hi)) z hz)
    simp only [loopAt, loopsOf, Tryz.f228] at hx
    have hok : chainOK c.chains[i] = (in1 0 19 c.chains[i].id && in1 1 12 c.chains[i].vs.length && z) := by rw [hz]; rfl
    clear hz
    rw [List.drop_eq_getElem_cons hi] at hp
    cases i with
    | zero =>
      simp only [chainsGo, hok] at hp
      cases hT : in1 0 19 c.chains[0].id <;> cases hL : in1 1 12 (c.chains[0].vs.length : Int) <;> cases z <;> simp [hT, hL] at hp hid hlen hx <;> simp [loopAt, loopsOf, Tryz.f228, dd, h1, h5, ho, hq, hq0, h0q, hi, hi', hw, hid, hlen, hp, hxi, hx]
    | succ j =>
      have hj : j < c.chains.length := by omega
      have hxj : c.chains[j]? = some c.chains[j] := List.getElem?_eq_getElem hj
      have hpos : (0 : Int) < (j : Int) + 1 := by omega
      have hnn : (0 : Int) ≤ (j : Int) + 1 := by omega
      have hwj2 := wrap_nat (n := j) (by have := h.chains.1; omega)
      simp only [hxj, Option.map_some, chainsGo, hok] at hp
      simp at h5 hi' hw
      by_cases hge : c.chains[j + 1].id ≤ c.chains[j].id <;> cases hT : in1 0 19 c.chains[j + 1].id <;> cases hL : in1 1 12 (c.chains[j + 1].vs.length : Int) <;> cases z <;> simp [hT, hL, hge] at hp hid hlen hx <;> simp [loopAt, loopsOf, Tryz.f228, dd, h1, h5, ho, hq, hq0, h0q, hi, hi', hw, hid, hlen, hp, hxi, hxj, hj, hpos, hnn, hwj2, hge, hx]
  · rintro s o q ⟨h1, h5, ho, hq, hp⟩
    simp [chainsGo] at hp
    simp [loopAt, loopsOf, Tryz.f228, h1, h5, ho, hp]
theorem specCollOK (c : Col) (h : c.Sm) : run E (.call 228 [.t (colT c)]) = some (.res [xB (collOK c)] []) := by
  rw [run_call E 228 _ rfl Tryz.func228 rfl rfl rfl (by simp)]
  have h1 := l01Name c.name (by have := h.name; omega)
  have h3 : (3 < (c.defs.length : Int)) = ¬ (c.defs.length ≤ 3) := by simp; omega
  have h2 : (20 < (c.chains.length : Int)) = ¬ (c.chains.length ≤ 20) := by simp; omega
  unfold collOK
  cases hN : nameP c.name with
  | false => rw [hN] at h1; simp [h1]
  | true =>
    rw [hN] at h1
    by_cases n2 : c.chains.length ≤ 20
    · by_cases n3 : c.defs.length ≤ 3
      · cases hD : defsGo [] c.defs with
        | false =>
          obtain ⟨X, A, B, C, hx⟩ := sk (specColl_defs c h false hD.symm)
          simp [loopAt, loopsOf, Tryz.f228] at hx
          simp [h1, h2, h3, n2, n3, hx]
        | true =>
          obtain ⟨X, A, B, C, hx⟩ := sk (specColl_defs c h true hD.symm)
          simp [loopAt, loopsOf, Tryz.f228] at hx
          cases hC : chainsGo none c.chains with
          | false =>
            obtain ⟨X2, A2, B2, C2, hx2⟩ := sk (specColl_chains c h false hC.symm)
            simp [loopAt, loopsOf, Tryz.f228] at hx2
            simp [h1, h2, h3, n2, n3, hx, hx2]
          | true =>
            obtain ⟨X2, A2, B2, C2, hx2⟩ := sk (specColl_chains c h true hC.symm)
            simp [loopAt, loopsOf, Tryz.f228] at hx2
            simp [h1, h2, h3, n2, n3, hx, hx2]
      · simp [h1, h2, h3, n2, n3]
    · simp [h1, h2, h3, n2]
end Go.Yd
/- The last version of a document, by spec and by impl. -/
set_option linter.unusedSimpArgs false
set_option linter.unusedVariables false
namespace Go.Yd
open Go.Ev Go.Proofs Go.Pu
set_option maxRecDepth 100000
set_option maxHeartbeats 16000000
abbrev zeroV : Ver := ⟨0, false, ⟨0, 0, []⟩⟩
abbrev goneV : Ver := ⟨0, true, ⟨0, 0, []⟩⟩
abbrev verBox (d : Ver) : Ob := .box 200 [.t (.int .i64 d.at_), .t (.bool d.gone), .t (.int .i64 d.v.k), .t (.int .i64 d.v.n), .t (.str d.v.t)]
abbrev chnBox (x : Chn) : Ob := .box 198 [.t (.int .i64 x.id), .t (.list (x.vs.map verT))]
def lastLe (t : Int) : Ver → List Ver → Ver
  | d, [] => d
  | d, x :: r => lastLe t (if x.at_ ≤ t then x else d) r
def findC (cs : List Chn) (id : Int) : Option Chn := cs.find? (fun x => x.id == id)
end Go.Yd
/- impl's search by halves over chains. -/
set_option linter.unusedSimpArgs false
set_option linter.unusedVariables false
namespace Go.Yd
open Go.Ev Go.Proofs Go.Pu
set_option maxRecDepth 100000
set_option maxHeartbeats 16000000
def cmpI (a b : Int) : Int := if a < b then -1 else if b < a then 1 else 0
theorem cmpI_lt (a b : Int) : (cmpI a b < 0) = (a < b) := by
  unfold cmpI
  by_cases h : a < b
  · simp [h]
  · by_cases h2 : b < a <;> simp [h, h2]
theorem cmpI_eq (a b : Int) : (cmpI a b = 0) = (a = b) := by
  unfold cmpI
  by_cases h : a < b
  · have : a ≠ b := by omega
    simp [h, this]
  · by_cases h2 : b < a
    · have : a ≠ b := by omega
      simp [h, h2, this]
    · have : a = b := by omega
      simp [h, h2, this]
theorem isNaNInt (a : Int) : run E (.call 297 [xI a]) = some (.res [xB false] []) := by
  rw [run_call E 297 _ rfl Tryz.func297 rfl rfl rfl (by simp)]
  simp
theorem compareInt (a b : Int) : run E (.call 195 [xI a, xI b]) = some (.res [xI (cmpI a b)] []) := by
  rw [run_call E 195 _ rfl Tryz.func195 rfl rfl rfl (by simp)]
  have h1 := isNaNInt a
  have h2 := isNaNInt b
  unfold cmpI
  by_cases h : a < b
  · simp [h1, h2, h]
  · by_cases h' : b < a <;> simp [h1, h2, h, h']
def seekC (fs : List Chn) (id : Int) : Nat := halves (fun k => match fs[k]? with
  | some f => decide (f.id < id)
  | none => false) (fs.length + 1) 0 fs.length
def thereC (fs : List Chn) (id : Int) : Bool := match fs[seekC fs id]? with
  | some f => f.id == id
  | none => false
def placeC (fs : List Chn) (id : Int) : Nat := (fs.takeWhile (fun f => decide (f.id < id))).length
end Go.Yd
/- Orders of lists: slices.CompareFunc, cmp.Or. -/
set_option linter.unusedSimpArgs false
set_option linter.unusedVariables false
namespace Go.Yd
open Go.Ev Go.Proofs Go.Pu
set_option maxRecDepth 100000
set_option maxHeartbeats 16000000
/-- Lists in order, item by item. -/
def ordL {α : Type} (f : α → α → Int) : List α → List α → Int
  | [], [] => 0
  | [], _ :: _ => -1
  | _ :: _, [] => 1
  | x :: xs, y :: ys => if f x y = 0 then ordL f xs ys else f x y
/-- The first list is gone through with nothing told apart. -/
def thru {α : Type} (f : α → α → Int) : List α → List α → Bool
  | [], _ => true
  | _ :: _, [] => false
  | x :: xs, y :: ys => decide (f x y = 0) && thru f xs ys
theorem thru_ord {α : Type} {f : α → α → Int} : ∀ {xs ys : List α}, thru f xs ys = true → ordL f xs ys = if xs.length < ys.length then -1 else 0
  | [], [], _ => by simp [ordL]
  | [], _ :: _, _ => by simp [ordL]
  | _ :: _, [], h => by simp [thru] at h
  | x :: xs, y :: ys, h => by
    simp [thru] at h
    have := thru_ord h.2
    simp [ordL, h.1, this]
def orI (a b : Int) : Int := if a = 0 then b else a
theorem cmpOr (a b : Int) : run E (.call 193 [.t (.list [.int .i64 a, .int .i64 b])]) = some (.res [xI (orI a b)] []) := by
  rw [run_call E 193 _ rfl Tryz.func193 rfl rfl rfl (by simp)]
  have lp := sk (fun s o q hI => loop_for (c := loopAt Tryz.f193 0) (N := 18)
    (fun i s o q => s 3 = .t (.int .i64 0) ∧ s 6 = .t (.list [.int .i64 a, .int .i64 b]) ∧ s 7 = .t (.int .i64 2) ∧ s 8 = .t (.int .i64 i) ∧ (i = 1 → a = 0) ∧ (i = 2 → a = 0 ∧ b = 0))
    (fun e s' o' q' => e = (if orI a b = 0 then .exit 0 else .ret) ∧ s' 3 = .t (.int .i64 0) ∧ (¬ orI a b = 0 → s' 2 = .t (.int .i64 (orI a b)))) 2
    (by
      rintro i s o q hi ⟨h3, h6, h7, h8, hp, hp2⟩
      have hw := wrap_succ (n := i) (by omega)
      match i, hi with
      | 0, _ =>
        by_cases ha : a = 0
        · subst ha
          simp [loopAt, loopsOf, Tryz.f193, h3, h6, h7, h8]
        · have hb : orI a b = a := by simp [orI, ha]
          simp [loopAt, loopsOf, Tryz.f193, h3, h6, h7, h8, ha, hb]
      | 1, _ =>
        have ha := hp rfl
        subst ha
        have hb : orI 0 b = b := by simp [orI]
        simp at hw
        by_cases h : b = 0
        · subst h
          simp [loopAt, loopsOf, Tryz.f193, h3, h6, h7, h8, hw]
        · simp [loopAt, loopsOf, Tryz.f193, h3, h6, h7, h8, hb, h, hw])
    (by
      rintro s o q ⟨h3, h6, h7, h8, hp, hp2⟩
      obtain ⟨ha, hb⟩ := hp2 rfl
      subst ha hb
      simp [loopAt, loopsOf, Tryz.f193, h3, h6, h7, h8, orI])
    2 0 s o q (by omega) hI)
  simp only [loopAt, loopsOf, Tryz.f193] at lp
  obtain ⟨X, A, B, C, hx⟩ := lp
  generalize orI a b = r at *
  by_cases h : r = 0
  · subst h
    simp at hx
    simp [hx]
  · simp [h] at hx
    simp [hx]
theorem compareFunc_195 (xs ys : List Val) (g : Nat) (f : Val → Val → Int) (hl : xs.length < 4294967296) (hl2 : ys.length < 4294967296) (hm : E.md g = []) (hf : E.flat g = true) (hp : ∀ x ∈ xs, ∀ y ∈ ys, run E (.call g [.t (valT x), .t (valT y)]) = some (.res [xI (f x y)] [])) :
    run E (.call 372 [.t (.list (xs.map valT)), .t (.list (ys.map valT)), .fn g []]) = some (.res [xI (ordL f xs ys)] []) := by
  rw [run_call E 372 _ rfl Tryz.func372 rfl rfl rfl (by simp)]
  rw [E_md] at hm
  have lp := fun (r : Int) (w : Bool) (hr : r = ordL f xs ys) (hw : w = thru f xs ys) => sk (fun s o q hI => loop_for (c := loopAt Tryz.f372 0) (N := 39)
    (fun i s o q => s 0 = .t (.list (xs.map valT)) ∧ s 1 = .t (.list (ys.map valT)) ∧ s 2 = .fn g [] ∧ s 11 = .t (.list (xs.map valT)) ∧ s 12 = .t (.int .i64 xs.length) ∧ s 13 = .t (.int .i64 i) ∧ i ≤ ys.length ∧ r = ordL f (xs.drop i) (ys.drop i) ∧ w = thru f (xs.drop i) (ys.drop i))
    (fun e s' o' q' => e = (if w then .exit 0 else .ret) ∧ s' 0 = .t (.list (xs.map valT)) ∧ s' 1 = .t (.list (ys.map valT)) ∧ (w = false → s' 6 = .t (.int .i64 r))) xs.length
    (by
      rintro i s o q hi ⟨h0, h1, h2, h11, h12, h13, hiy, hr, hwr⟩
      have hi' : (i : Int) < (xs.length : Int) := by omega
      have hw := wrap_succ (n := i) (by omega)
      have hxi : xs[i]? = some xs[i] := List.getElem?_eq_getElem hi
      have hqq : q ≠ q + 1 := by omega
      have hqq2 : q + 1 ≠ q := by omega
      rw [List.drop_eq_getElem_cons hi] at hr hwr
      by_cases hy : i < ys.length
      · have hy' : ¬ (ys.length : Int) ≤ (i : Int) := by omega
        have hyi : ys[i]? = some ys[i] := List.getElem?_eq_getElem hy
        have hx := hp xs[i] (List.getElem_mem hi) ys[i] (List.getElem_mem hy)
        rw [List.drop_eq_getElem_cons hy] at hr hwr
        rw [ordL] at hr
        rw [thru] at hwr
        by_cases hz : f xs[i] ys[i] = 0
        · rw [hz] at hx
          simp [hz] at hr hwr
          simp [-mdOf, loopAt, loopsOf, Tryz.f372, h0, h1, h2, h11, h12, h13, hi', hxi, hyi, hx, hw, hm, hf, hy, hy', hqq, hqq2]
          exact ⟨by omega, hr, hwr⟩
        · simp [hz] at hr hwr
          simp [-mdOf, loopAt, loopsOf, Tryz.f372, h0, h1, h2, h11, h12, h13, hi', hxi, hyi, hx, hw, hm, hf, hy, hy', hqq, hqq2, hz, hr, hwr]
      · have hy' : (ys.length : Int) ≤ (i : Int) := by omega
        have he : ys.drop i = [] := List.drop_eq_nil_of_le (by omega)
        rw [he] at hr hwr
        rw [ordL] at hr
        rw [thru] at hwr
        simp [-mdOf, loopAt, loopsOf, Tryz.f372, h0, h1, h2, h11, h12, h13, hi', hxi, hw, hm, hf, hy, hy', hqq, hqq2, hr, hwr])
    (by
      rintro s o q ⟨h0, h1, h2, h11, h12, h13, hiy, hr, hwr⟩
      rw [List.drop_length, thru] at hwr
      simp [loopAt, loopsOf, Tryz.f372, h0, h1, h2, h11, h12, h13, hwr])
    xs.length 0 s o q (by omega) hI)
  simp only [loopAt, loopsOf, Tryz.f372] at lp
  obtain ⟨w, hw⟩ : ∃ w, w = thru f xs ys := ⟨_, rfl⟩
  obtain ⟨r, hr⟩ : ∃ r, r = ordL f xs ys := ⟨_, rfl⟩
  obtain ⟨X, A, B, C, hx⟩ := lp r w hr hw
  have hx' := fun s o q a0 a1 a2 a11 a12 a13 => hx s o q ⟨a0, a1, a2, a11, a12, a13, Nat.zero_le _, by simpa using hr, by simpa using hw⟩
  clear hx lp
  rw [← hr]
  cases w with
  | true =>
    have ho := thru_ord hw.symm
    rw [← hr] at ho
    have hlt : ((xs.length : Int) < (ys.length : Int)) = (xs.length < ys.length) := by simp
    by_cases h : xs.length < ys.length
    · simp [h] at ho
      simp at hx'
      simp [hx', h, ho]
    · simp [h] at ho
      simp at hx'
      simp [hx', h, ho]
  | false =>
    simp at hx'
    simp [hx']
theorem compareFunc_196 (xs ys : List Fld) (g : Nat) (f : Fld → Fld → Int) (hl : xs.length < 4294967296) (hl2 : ys.length < 4294967296) (hm : E.md g = []) (hf : E.flat g = true) (hp : ∀ x ∈ xs, ∀ y ∈ ys, run E (.call g [.t (fldT x), .t (fldT y)]) = some (.res [xI (f x y)] [])) :
    run E (.call 373 [.t (.list (xs.map fldT)), .t (.list (ys.map fldT)), .fn g []]) = some (.res [xI (ordL f xs ys)] []) := by
  rw [run_call E 373 _ rfl Tryz.func373 rfl rfl rfl (by simp)]
  rw [E_md] at hm
  have lp := fun (r : Int) (w : Bool) (hr : r = ordL f xs ys) (hw : w = thru f xs ys) => sk (fun s o q hI => loop_for (c := loopAt Tryz.f373 0) (N := 39)
    (fun i s o q => s 0 = .t (.list (xs.map fldT)) ∧ s 1 = .t (.list (ys.map fldT)) ∧ s 2 = .fn g [] ∧ s 11 = .t (.list (xs.map fldT)) ∧ s 12 = .t (.int .i64 xs.length) ∧ s 13 = .t (.int .i64 i) ∧ i ≤ ys.length ∧ r = ordL f (xs.drop i) (ys.drop i) ∧ w = thru f (xs.drop i) (ys.drop i))
    (fun e s' o' q' => e = (if w then .exit 0 else .ret) ∧ s' 0 = .t (.list (xs.map fldT)) ∧ s' 1 = .t (.list (ys.map fldT)) ∧ (w = false → s' 6 = .t (.int .i64 r))) xs.length
    (by
      rintro i s o q hi ⟨h0, h1, h2, h11, h12, h13, hiy, hr, hwr⟩
      have hi' : (i : Int) < (xs.length : Int) := by omega
      have hw := wrap_succ (n := i) (by omega)
      have hxi : xs[i]? = some xs[i] := List.getElem?_eq_getElem hi
      have hqq : q ≠ q + 1 := by omega
      have hqq2 : q + 1 ≠ q := by omega
      rw [List.drop_eq_getElem_cons hi] at hr hwr
      by_cases hy : i < ys.length
      · have hy' : ¬ (ys.length : Int) ≤ (i : Int) := by omega
        have hyi : ys[i]? = some ys[i] := List.getElem?_eq_getElem hy
        have hx := hp xs[i] (List.getElem_mem hi) ys[i] (List.getElem_mem hy)
        rw [List.drop_eq_getElem_cons hy] at hr hwr
        rw [ordL] at hr
        rw [thru] at hwr
        by_cases hz : f xs[i] ys[i] = 0
        · rw [hz] at hx
          simp [hz] at hr hwr
          simp [-mdOf, loopAt, loopsOf, Tryz.f373, h0, h1, h2, h11, h12, h13, hi', hxi, hyi, hx, hw, hm, hf, hy, hy', hqq, hqq2]
          exact ⟨by omega, hr, hwr⟩
        · simp [hz] at hr hwr
          simp [-mdOf, loopAt, loopsOf, Tryz.f373, h0, h1, h2, h11, h12, h13, hi', hxi, hyi, hx, hw, hm, hf, hy, hy', hqq, hqq2, hz, hr, hwr]
      · have hy' : (ys.length : Int) ≤ (i : Int) := by omega
        have he : ys.drop i = [] := List.drop_eq_nil_of_le (by omega)
        rw [he] at hr hwr
        rw [ordL] at hr
        rw [thru] at hwr
        simp [-mdOf, loopAt, loopsOf, Tryz.f373, h0, h1, h2, h11, h12, h13, hi', hxi, hw, hm, hf, hy, hy', hqq, hqq2, hr, hwr])
    (by
      rintro s o q ⟨h0, h1, h2, h11, h12, h13, hiy, hr, hwr⟩
      rw [List.drop_length, thru] at hwr
      simp [loopAt, loopsOf, Tryz.f373, h0, h1, h2, h11, h12, h13, hwr])
    xs.length 0 s o q (by omega) hI)
  simp only [loopAt, loopsOf, Tryz.f373] at lp
  obtain ⟨w, hw⟩ : ∃ w, w = thru f xs ys := ⟨_, rfl⟩
  obtain ⟨r, hr⟩ : ∃ r, r = ordL f xs ys := ⟨_, rfl⟩
  obtain ⟨X, A, B, C, hx⟩ := lp r w hr hw
  have hx' := fun s o q a0 a1 a2 a11 a12 a13 => hx s o q ⟨a0, a1, a2, a11, a12, a13, Nat.zero_le _, by simpa using hr, by simpa using hw⟩
  clear hx lp
  rw [← hr]
  cases w with
  | true =>
    have ho := thru_ord hw.symm
    rw [← hr] at ho
    have hlt : ((xs.length : Int) < (ys.length : Int)) = (xs.length < ys.length) := by simp
    by_cases h : xs.length < ys.length
    · simp [h] at ho
      simp at hx'
      simp [hx', h, ho]
    · simp [h] at ho
      simp at hx'
      simp [hx', h, ho]
  | false =>
    simp at hx'
    simp [hx']
end Go.Yd
/- impl's order of values. -/
set_option linter.unusedSimpArgs false
set_option linter.unusedVariables false
namespace Go.Yd
open Go.Ev Go.Proofs Go.Pu
set_option maxRecDepth 100000
set_option maxHeartbeats 16000000
/-- Values in order. -/
def ordD : Nat → Val → Val → Int
  | d, a, b =>
    if orI (cmpI a.k b.k) (cmpI a.n b.n) = 0 then
      (if a.k = 4 then (match d with
        | 0 => 0
        | d + 1 => ordL (ordD d) (itemsL a.t) (itemsL b.t))
      else if a.k = 5 then (match d with
        | 0 => 0
        | d + 1 => ordL (fun f g => orI (Lib.compareBytes f.name g.name) (ordD d f.v g.v)) (fieldsL a.t) (fieldsL b.t))
      else Lib.compareBytes a.t b.t)
    else orI (cmpI a.k b.k) (cmpI a.n b.n)
theorem orI_zero {a b : Int} (h : orI a b = 0) : a = 0 ∧ b = 0 := by
  unfold orI at h
  split at h
  · exact ⟨by assumption, h⟩
  · contradiction
theorem orderFields (f g : Fld) (n : Int) (h : run E (.call 341 [xV f.v, xV g.v]) = some (.res [xI n] [])) : run E (.call 374 [.t (fldT f), .t (fldT g)]) = some (.res [xI (orI (Lib.compareBytes f.name g.name) n)] []) := by
  rw [run_call E 374 _ rfl Tryz.func374 rfl rfl rfl (by simp)]
  have d1 := d374_1
  simp [regionOf, findR, pick, Tryz.f374] at d1
  have dd := fun st => run_region_draw E st 1 _ d1
  clear d1
  have hr2 : List.range 2 = [0, 1] := rfl
  simp [dd, compare f.name g.name, h, cmpOr, hr2]
theorem implOrder : ∀ (d : Nat) (a b : Val), okP d a = true → okP d b = true → a.t.length < 4294967296 → b.t.length < 4294967296 → run E (.call 341 [xV a, xV b]) = some (.res [xI (ordD d a b)] []) := by
  intro d
  induction d with
  | zero =>
    intro a b ha hb hal hbl
    rw [run_call E 341 _ rfl Tryz.func341 rfl rfl rfl (by simp)]
    have d1 := d341_1
    simp [regionOf, findR, pick, Tryz.f341] at d1
    have dd := fun st => run_region_draw E st 1 _ d1
    clear d1
    have hr2 : List.range 2 = [0, 1] := rfl
    have e4 : (a.k = 4) = False := by
      simp; intro h; obtain ⟨e, _, hd, _⟩ := okP_list ha h; omega
    have e5 : (a.k = 5) = False := by
      simp; intro h; obtain ⟨e, _, hd, _⟩ := okP_doc ha h; omega
    have c1 := compareInt a.k b.k
    have c2 := compareInt a.n b.n
    have c3 := cmpOr (cmpI a.k b.k) (cmpI a.n b.n)
    have c4 := compare a.t b.t
    unfold ordD
    generalize orI (cmpI a.k b.k) (cmpI a.n b.n) = z at *
    by_cases hz : z = 0
    · subst hz
      simp [dd, hr2, c1, c2, c3, c4, e4, e5]
    · simp [dd, hr2, c1, c2, c3, c4, e4, e5, hz]
  | succ d ih =>
    intro a b ha hb hal hbl
    rw [run_call E 341 _ rfl Tryz.func341 rfl rfl rfl (by simp)]
    have d1 := d341_1
    simp [regionOf, findR, pick, Tryz.f341] at d1
    have dd := fun st => run_region_draw E st 1 _ d1
    clear d1
    have hr2 : List.range 2 = [0, 1] := rfl
    have c1 := compareInt a.k b.k
    have c2 := compareInt a.n b.n
    have c3 := cmpOr (cmpI a.k b.k) (cmpI a.n b.n)
    have c4 := compare a.t b.t
    have hkk : orI (cmpI a.k b.k) (cmpI a.n b.n) = 0 → b.k = a.k := by
      intro h
      have := (orI_zero h).1
      rw [cmpI_eq] at this
      exact this.symm
    unfold ordD
    generalize orI (cmpI a.k b.k) (cmpI a.n b.n) = z at *
    by_cases hz : z = 0
    · subst hz
      have hk := hkk rfl
      clear hkk
      by_cases h4 : a.k = 4
      · obtain ⟨e, xs, hd, _, hi, hx⟩ := okP_list ha h4
        obtain ⟨e', ys, hd', _, hi', hy⟩ := okP_list hb (by omega)
        obtain rfl : d = e := by omega
        obtain rfl : d = e' := by omega
        obtain ⟨s1, s2⟩ := items_small hi
        obtain ⟨t1, t2⟩ := items_small hi'
        have i1 := implItems a hal
        have i2 := implItems b hbl
        rw [itemsI_some hi] at i1
        rw [itemsI_some hi'] at i2
        have hc := compareFunc_195 xs ys 341 (ordD d) (by omega) (by omega) (by simp) (by simp) (fun x hx' y hy' => ih x y (hx x hx') (hy y hy') (by have := s2 x hx'; omega) (by have := t2 y hy'; omega))
        have e4 : (a.k = 4) = True := eq_true h4
        have eL : itemsL a.t = xs := by simp [itemsL, hi]
        have eL' : itemsL b.t = ys := by simp [itemsL, hi']
        clear h4
        simp at i1 i2
        simp [dd, hr2, c1, c2, c3, c4, e4, i1, i2, hc, eL, eL']
      · have e4 : (a.k = 4) = False := eq_false h4
        by_cases h5 : a.k = 5
        · obtain ⟨e, xs, hd, _, hi, _, hx⟩ := okP_doc ha h5
          obtain ⟨e', ys, hd', _, hi', _, hy⟩ := okP_doc hb (by omega)
          obtain rfl : d = e := by omega
          obtain rfl : d = e' := by omega
          obtain ⟨s1, s2⟩ := fields_small hi
          obtain ⟨t1, t2⟩ := fields_small hi'
          have i1 := implFields a hal
          have i2 := implFields b hbl
          rw [fieldsI_some hi] at i1
          rw [fieldsI_some hi'] at i2
          have hc := compareFunc_196 xs ys 374 (fun f g => orI (Lib.compareBytes f.name g.name) (ordD d f.v g.v)) (by omega) (by omega) (by simp) (by simp) (fun x hx' y hy' => orderFields x y _ (ih x.v y.v (hx x hx').2 (hy y hy').2 (by have := s2 x hx'; omega) (by have := t2 y hy'; omega)))
          have e5 : (a.k = 5) = True := eq_true h5
          have eL : fieldsL a.t = xs := by simp [fieldsL, hi]
          have eL' : fieldsL b.t = ys := by simp [fieldsL, hi']
          clear h5
          simp at i1 i2
          simp [dd, hr2, c1, c2, c3, c4, e4, e5, i1, i2, hc, eL, eL']
        · have e5 : (a.k = 5) = False := eq_false h5
          simp [dd, hr2, c1, c2, c3, c4, e4, e5]
    · simp [dd, hr2, c1, c2, c3, c4, hz]
end Go.Yd
/- spec's order of values. -/
set_option linter.unusedSimpArgs false
set_option linter.unusedVariables false
namespace Go.Yd
open Go.Ev Go.Proofs Go.Pu
set_option maxRecDepth 100000
set_option maxHeartbeats 16000000
theorem ordL_zero {α : Type} {f : α → α → Int} : ∀ {xs ys : List α}, (∀ x ∈ xs, ∀ y ∈ ys, f x y = 0 → x = y) → ordL f xs ys = 0 → xs = ys
  | [], [], _, _ => rfl
  | [], _ :: _, _, h => by simp [ordL] at h
  | _ :: _, [], _, h => by simp [ordL] at h
  | x :: xs, y :: ys, hf, h => by
    unfold ordL at h
    split at h
    · rename_i hz
      rw [hf x (by simp) y (by simp) hz, ordL_zero (fun a ha b hb => hf a (by simp [ha]) b (by simp [hb])) h]
    · contradiction
theorem ordL_refl {α : Type} {f : α → α → Int} : ∀ {xs : List α}, (∀ x ∈ xs, f x x = 0) → ordL f xs xs = 0
  | [], _ => rfl
  | x :: xs, h => by
    unfold ordL
    rw [if_pos (h x (by simp))]
    exact ordL_refl (fun y hy => h y (by simp [hy]))
theorem val_eq {a b : Val} (h1 : a.k = b.k) (h2 : a.n = b.n) (h3 : a.t = b.t) : a = b := by
  cases a; cases b; simp_all
theorem fld_eq {a b : Fld} (h1 : a.name = b.name) (h2 : a.v = b.v) : a = b := by
  cases a; cases b; simp_all
theorem ordD_zero : ∀ (d : Nat) (a b : Val), okP d a = true → okP d b = true → ordD d a b = 0 → a = b := by
  intro d
  induction d with
  | zero =>
    intro a b ha hb h
    unfold ordD at h
    split at h
    · rename_i hz
      obtain ⟨h1, h2⟩ := orI_zero hz
      rw [cmpI_eq] at h1 h2
      refine val_eq h1 h2 ?_
      split at h
      · rename_i h4; obtain ⟨e, _, hd, _⟩ := okP_list ha h4; omega
      · split at h
        · rename_i h5; obtain ⟨e, _, hd, _⟩ := okP_doc ha h5; omega
        · rwa [compareBytes_eq] at h
    · contradiction
  | succ d ih =>
    intro a b ha hb h
    unfold ordD at h
    split at h
    · rename_i hz
      obtain ⟨h1, h2⟩ := orI_zero hz
      rw [cmpI_eq] at h1 h2
      refine val_eq h1 h2 ?_
      split at h
      · rename_i h4
        obtain ⟨e, xs, hd, _, hi, hx⟩ := okP_list ha h4
        obtain ⟨e', ys, hd', _, hi', hy⟩ := okP_list hb (by omega)
        obtain rfl : d = e := by omega
        obtain rfl : d = e' := by omega
        simp [itemsL, hi, hi'] at h
        have := ordL_zero (fun x hx' y hy' hz => ih x y (hx x hx') (hy y hy') hz) h
        subst this
        exact items_inj hi hi'
      · split at h
        · rename_i h5
          obtain ⟨e, xs, hd, _, hi, _, hx⟩ := okP_doc ha h5
          obtain ⟨e', ys, hd', _, hi', _, hy⟩ := okP_doc hb (by omega)
          obtain rfl : d = e := by omega
          obtain rfl : d = e' := by omega
          simp [fieldsL, hi, hi'] at h
          have := ordL_zero (fun x hx' y hy' hz => by
            obtain ⟨z1, z2⟩ := orI_zero hz
            rw [compareBytes_eq] at z1
            exact fld_eq z1 (ih x.v y.v (hx x hx').2 (hy y hy').2 z2)) h
          subst this
          exact fields_inj hi hi'
        · rwa [compareBytes_eq] at h
    · contradiction
theorem cmpI_refl (a : Int) : cmpI a a = 0 := by simp [cmpI]
theorem cmpB_refl (a : Bytes) : Lib.compareBytes a a = 0 := by rw [compareBytes_eq]
theorem ordD_refl : ∀ (d : Nat) (a : Val), okP d a = true → ordD d a a = 0 := by
  intro d
  induction d with
  | zero =>
    intro a ha
    unfold ordD
    simp [cmpI_refl, orI, cmpB_refl]
  | succ d ih =>
    intro a ha
    unfold ordD
    simp only [cmpI_refl, orI, if_true]
    by_cases h4 : a.k = 4
    · obtain ⟨e, xs, hd, _, hi, hx⟩ := okP_list ha h4
      obtain rfl : d = e := by omega
      simp [h4, itemsL, hi]
      exact ordL_refl (fun x hx' => ih x (hx x hx'))
    · by_cases h5 : a.k = 5
      · obtain ⟨e, xs, hd, _, hi, _, hx⟩ := okP_doc ha h5
        obtain rfl : d = e := by omega
        simp [h5, fieldsL, hi]
        exact ordL_refl (fun x hx' => by simp [cmpB_refl, ih x.v (hx x hx').2])
      · simp [h4, h5, cmpB_refl]
end Go.Yd
/- spec's order of values is impl's. -/
set_option linter.unusedSimpArgs false
set_option linter.unusedVariables false
namespace Go.Yd
open Go.Ev Go.Proofs Go.Pu
set_option maxRecDepth 100000
set_option maxHeartbeats 16000000
theorem cmpB_sign : ∀ (a b : Bytes), a ≠ b → Lib.compareBytes a b = if Op.bytesLess a b = true then -1 else 1
  | [], [], h => absurd rfl h
  | [], _ :: _, _ => by simp [Lib.compareBytes, Op.bytesLess]
  | _ :: _, [], _ => by simp [Lib.compareBytes, Op.bytesLess]
  | x :: a, y :: b, h => by
    unfold Lib.compareBytes Op.bytesLess
    by_cases h1 : x < y
    · simp [h1]
    · by_cases h2 : y < x
      · have : ¬ x = y := fun e => by subst e; exact absurd h2 (UInt8.lt_irrefl x)
        simp [h1, h2, this]
      · have e : x = y := UInt8.le_antisymm (UInt8.not_lt.1 h2) (UInt8.not_lt.1 h1)
        subst e
        have hab : a ≠ b := fun e => h (by rw [e])
        simp [h1, cmpB_sign a b hab]
/-- One of the two is gone through with nothing told apart. -/
def cutB {α : Type} (f : α → α → Int) : List α → List α → Bool
  | [], _ => true
  | _ :: _, [] => true
  | x :: xs, y :: ys => decide (f x y = 0) && cutB f xs ys
end Go.Yd
/- spec's order of values: documents, and the whole. -/
set_option linter.unusedSimpArgs false
set_option linter.unusedVariables false
namespace Go.Yd
open Go.Ev Go.Proofs Go.Pu
set_option maxRecDepth 100000
set_option maxHeartbeats 16000000
def fldO (d : Nat) (f g : Fld) : Int := orI (Lib.compareBytes f.name g.name) (ordD d f.v g.v)
end Go.Yd
/- spec's order of values is impl's: the whole. -/
set_option linter.unusedSimpArgs false
set_option linter.unusedVariables false
namespace Go.Yd
open Go.Ev Go.Proofs Go.Pu
set_option maxRecDepth 100000
set_option maxHeartbeats 16000000
end Go.Yd
/- Keys: texts with their ends marked, turned bytes; spec's functions. -/
set_option linter.unusedSimpArgs false
set_option linter.unusedVariables false
namespace Go.Yd
open Go.Ev Go.Proofs Go.Pu
set_option maxRecDepth 100000
set_option maxHeartbeats 16000000
/-- A text's bytes with its zeros marked. -/
def escGo : Bytes → Bytes
  | [] => []
  | b :: r => (if b = 0 then [b, 255] else [b]) ++ escGo r
def escP (t : Bytes) : Bytes := escGo t ++ [0, 0]
def turnB (b : UInt8) : UInt8 := 255 - b
def turnP (t : Bytes) : Bytes := t.map turnB
theorem escGo_len : ∀ (t : Bytes), (escGo t).length ≤ 2 * t.length
  | [] => by simp [escGo]
  | b :: r => by
    have := escGo_len r
    unfold escGo
    split <;> simp <;> omega
theorem turn_wrap (b : UInt8) : IntKind.u8.wrap (255 - (b.toNat : Int)) = ((turnB b).toNat : Int) := by
  have hb : b.toNat < 256 := b.toNat_lt
  have h : (255 - b).toNat = 255 - b.toNat := by
    rw [UInt8.toNat_sub]
    simp
    omega
  unfold turnB
  rw [h]
  simp [IntKind.wrap, IntKind.bits, IntKind.signed]
  omega
theorem toBytes_app (l : Bytes) (m : List T) : toBytes (l.map byteT ++ m) = (toBytes m).map (l ++ ·) := by
  induction l with
  | nil => simp [toBytes]
  | cons b r ih =>
    simp only [List.map_cons, List.cons_append, toBytes, ih]
    cases toBytes m <;> simp
theorem toBytes_map (l : Bytes) : toBytes (l.map byteT) = some l := by
  have := toBytes_app l []
  simpa [toBytes] using this
theorem l04Turn (t : Bytes) (ht : t.length < 4294967296) : run E (.call 256 [xS t]) = some (.res [xS (turnP t)] []) := by
  rw [run_call E 256 _ rfl Tryz.func256 rfl rfl rfl (by simp)]
  have lp := sk1 (fun s o q hI => loop_for (c := loopAt Tryz.f256 0) (N := 21)
    (fun i s o q => ∃ r, s 0 = .t (.str t) ∧ s 3 = .row r ∧ s 4 = .t (.int .i64 i) ∧ o r = .row 5 ((turnP (t.take i)).map byteT) true ∧ r < q)
    (fun e s' o' q' => ∃ r, e = .exit 0 ∧ s' 3 = .row r ∧ o' r = .row 5 ((turnP t).map byteT) true) t.length
    (by
      rintro i s o q hi ⟨r, h0, h3, h4, ho, hrq⟩
      have hi' : (i : Int) < (t.length : Int) := by omega
      have hw := wrap_succ (n := i) (by omega)
      have hrn : r ≠ q := by omega
      have hrn2 : r ≠ q + 1 := by omega
      have hqn : q ≠ r := by omega
      have hl : (turnP (t.take i)).length = i := by simp [turnP]; omega
      have htw := turn_wrap t[i]
      have htk : (turnP (t.take (i + 1))).map byteT = (turnP (t.take i)).map byteT ++ [byteT (turnB t[i])] := by
        have e : t.take (i + 1) = t.take i ++ [t[i]] := by rw [List.take_add_one, List.getElem?_eq_getElem hi]; rfl
        rw [e]; simp only [turnP, List.map_append, List.map_cons, List.map_nil]
      have hpl : i + 1 ≤ 140737488355328 := by omega
      rw [htk]
      generalize turnP (t.take i) = l at *
      simp [loopAt, loopsOf, Tryz.f256, h0, h3, h4, hi, hi', hw, ho, hrn, hrn2, hqn, htw, hl, hpl]
      try omega)
    (by
      rintro s o q ⟨r, h0, h3, h4, ho, hrq⟩
      simp at ho
      simp [loopAt, loopsOf, Tryz.f256, h0, h3, h4, ho])
    t.length 0 s o q (by omega) hI)
  simp only [loopAt, loopsOf, Tryz.f256] at lp
  obtain ⟨X, A, B, C, M, hx⟩ := lp
  have hx' := fun s o q r a0 a3 a4 a5 a6 => hx s o q ⟨r, a0, a3, a4, a5, a6⟩
  clear hx
  simp [turnP] at hx'
  have hb := toBytes_map (turnP t)
  simp [turnP] at hb
  simp [hx', turnP, hb]
theorem l04Escape (t : Bytes) (ht : t.length < 4294967296) : run E (.call 333 [xS t]) = some (.res [xS (escP t)] []) := by
  rw [run_call E 333 _ rfl Tryz.func333 rfl rfl rfl (by simp)]
  have lp := sk1 (fun s o q hI => loop_for (c := loopAt Tryz.f333 0) (N := 29)
    (fun i s o q => ∃ r, s 0 = .t (.str t) ∧ s 3 = .row r ∧ s 4 = .t (.int .i64 i) ∧ o r = .row 5 ((escGo (t.take i)).map byteT) true ∧ r < q)
    (fun e s' o' q' => ∃ r, e = .exit 0 ∧ s' 3 = .row r ∧ o' r = .row 5 ((escGo t).map byteT) true ∧ ¬ r = q' ∧ ¬ r = q' + 1 ∧ ¬ q' = r) t.length
    (by
      rintro i s o q hi ⟨r, h0, h3, h4, ho, hrq⟩
      have hi' : (i : Int) < (t.length : Int) := by omega
      have hw := wrap_succ (n := i) (by omega)
      have hrn : r ≠ q := by omega
      have hrn2 : r ≠ q + 1 := by omega
      have hqn : q ≠ r := by omega
      have hl : (escGo (t.take i)).length ≤ 2 * i := by have := escGo_len (t.take i); simp at this; omega
      have hsnoc : ∀ (a : Bytes) (b : UInt8), escGo (a ++ [b]) = escGo a ++ (if b = 0 then [b, 255] else [b]) := by
        intro a b
        induction a with
        | nil => simp [escGo]
        | cons c a ih => simp [escGo, ih]
      have htk : escGo (t.take (i + 1)) = escGo (t.take i) ++ (if t[i] = 0 then [t[i], 255] else [t[i]]) := by
        have e : t.take (i + 1) = t.take i ++ [t[i]] := by rw [List.take_add_one, List.getElem?_eq_getElem hi]; rfl
        rw [e]; exact hsnoc _ _
      have hpl : (escGo (t.take i)).length + 1 ≤ 140737488355328 := by omega
      have hpl2 : (escGo (t.take i)).length + 1 + 1 ≤ 140737488355328 := by omega
      rw [htk]
      generalize escGo (t.take i) = l at *
      by_cases hz : t[i] = 0
      · simp [hz]
        simp [loopAt, loopsOf, Tryz.f333, h0, h3, h4, hi, hi', hw, ho, hrn, hrn2, hqn, hz, hpl, hpl2]
        try omega
      · have hzn : ¬ ((t[i].toNat : Int) = 0) := by
          intro h; exact hz (UInt8.toNat_inj.1 (by simp; omega))
        simp [hz]
        simp [loopAt, loopsOf, Tryz.f333, h0, h3, h4, hi, hi', hw, ho, hrn, hrn2, hqn, hz, hzn, hpl, hpl2]
        try omega)
    (by
      rintro s o q ⟨r, h0, h3, h4, ho, hrq⟩
      simp at ho
      have hrn : r ≠ q := by omega
      have hrn2 : r ≠ q + 1 := by omega
      have hqn : q ≠ r := by omega
      simp [loopAt, loopsOf, Tryz.f333, h0, h3, h4, ho, hrn, hrn2, hqn])
    t.length 0 s o q (by omega) hI)
  simp only [loopAt, loopsOf, Tryz.f333] at lp
  obtain ⟨X, A, B, C, M, hx⟩ := lp
  have hx' := fun s o q r a0 a3 a4 a5 a6 => hx s o q ⟨r, a0, a3, a4, a5, a6⟩
  clear hx
  simp [escGo] at hx'
  have hl : (escGo t).length + 2 ≤ 140737488355328 := by have := escGo_len t; omega
  have hb := toBytes_app (escGo t) [.int .u8 0, .int .u8 0]
  simp [toBytes] at hb
  have hr2 : List.range 2 = [0, 1] := rfl
  simp [hx', escP, hb, hl, hr2]
end Go.Yd
/- Keys: numbers' bytes (spec's l01Number), spec's l04Raw, l04Key. -/
set_option linter.unusedSimpArgs false
set_option linter.unusedVariables false
namespace Go.Yd
open Go.Ev Go.Proofs Go.Pu
set_option maxRecDepth 100000
set_option maxHeartbeats 16000000
/-- A number's byte at a place. -/
def byteAt (n : Int) (j : Nat) : UInt8 := UInt8.ofNat (IntKind.u8.wrap (n.fdiv (2 ^ (8 * j)))).toNat
theorem byteAt_wrap (n : Int) (j : Nat) : IntKind.u8.wrap (n.fdiv (2 ^ (8 * j))) = ((byteAt n j).toNat : Int) := by
  unfold byteAt
  have h : 0 ≤ IntKind.u8.wrap (n.fdiv (2 ^ (8 * j))) ∧ IntKind.u8.wrap (n.fdiv (2 ^ (8 * j))) < 256 := by
    simp [IntKind.wrap, IntKind.bits, IntKind.signed]
    omega
  generalize IntKind.u8.wrap (n.fdiv (2 ^ (8 * j))) = m at *
  rw [UInt8.toNat_ofNat']
  omega
/-- A number's bytes from the place k - 1 downwards. -/
def numP (n : Int) : Nat → Bytes
  | 0 => []
  | k + 1 => byteAt n k :: numP n k
theorem numP_len (n : Int) : ∀ k, (numP n k).length = k
  | 0 => rfl
  | k + 1 => by simp [numP, numP_len n k]
theorem l01Number (n : Int) (k : Nat) (hk : k ≤ 8) : run E (.call 272 [xI n, xI k]) = some (.res [xS (numP n k)] []) := by
  rw [run_call E 272 _ rfl Tryz.func272 rfl rfl rfl (by simp)]
  have lp := sk1 (fun s o q hI => loop_for (c := loopAt Tryz.f272 0) (N := 25)
    (fun i s o q => ∃ r l, s 0 = .t (.int .i64 n) ∧ s 5 = .row r ∧ s 6 = .t (.int .i64 ((k : Int) - 1 - i)) ∧ o r = .row 5 (l.map byteT) true ∧ r < q ∧ l.length = i ∧ numP n k = l ++ numP n (k - i))
    (fun e s' o' q' => ∃ r, e = .exit 0 ∧ s' 5 = .row r ∧ o' r = .row 5 ((numP n k).map byteT) true) k
    (by
      rintro i s o q hi ⟨r, l, h0, h5, h6, ho, hrq, hl, hp⟩
      have hge : (0 : Int) ≤ (k : Int) - 1 - i := by omega
      obtain ⟨j, hj⟩ : ∃ j : Nat, k = j + 1 + i := ⟨k - 1 - i, by omega⟩
      have hjj : (k : Int) - 1 - i = j := by omega
      have hki : k - i = j + 1 := by omega
      have hki2 : k - (i + 1) = j := by omega
      rw [hki, numP] at hp
      rw [hjj] at h6
      have hw : IntKind.i64.wrap ((j : Int) - 1) = (k : Int) - 1 - ((i + 1 : Nat) : Int) := by rw [wrap_of (by omega) (by omega)]; omega
      have hw8 : IntKind.i64.wrap (8 * (j : Int)) = ((8 * j : Nat) : Int) := by rw [wrap_of (by omega) (by omega)]; omega
      have hwu := wrap_u64 (n := 8 * j) (by omega)
      have hmin : min (8 * j) IntKind.i64.bits = 8 * j := by simp [IntKind.bits]; omega
      have hj0 : (0 : Int) ≤ (j : Int) := by omega
      have hrn : r ≠ q := by omega
      have hrn2 : r ≠ q + 1 := by omega
      have hqn : q ≠ r := by omega
      have hpl : l.length + 1 ≤ 140737488355328 := by omega
      have hb := byteAt_wrap n j
      have hneg : ¬ (8 * (j : Int) < 0) := by omega
      have hnat : (8 * (j : Int)).toNat = 8 * j := by omega
      simp at hw hw8 hwu
      simp [loopAt, loopsOf, Tryz.f272, h0, h5, h6, ho, hrn, hrn2, hqn, hw, hw8, hwu, hmin, hb, hpl, hneg, hnat]
      exact ⟨l ++ [byteAt n j], by simp, by simp [hl], by rw [hp, hki2]; simp⟩)
    (by
      rintro s o q ⟨r, l, h0, h5, h6, ho, hrq, hl, hp⟩
      have h6' : s 6 = .t (.int .i64 (-1)) := by rw [h6]; congr 2; omega
      simp [numP] at hp
      simp [loopAt, loopsOf, Tryz.f272, h0, h5, h6', ho, hp])
    k 0 s o q (by omega) hI)
  simp only [loopAt, loopsOf, Tryz.f272] at lp
  obtain ⟨X, A, B, C, M, hx⟩ := lp
  have hx' := fun s o q r a0 a5 a6 a7 a8 => hx s o q ⟨r, [], a0, a5, a6, a7, a8, rfl, by simp⟩
  clear hx
  simp at hx'
  have hb := toBytes_map (numP n k)
  have hw : IntKind.i64.wrap ((k : Int) - 1) = (k : Int) - 1 := wrap_of (by omega) (by omega)
  simp [hx', hb, hw]
end Go.Yd
/- Keys of values: what they are, how long, spec's l04Raw and l04Key. -/
set_option linter.unusedSimpArgs false
set_option linter.unusedVariables false
namespace Go.Yd
open Go.Ev Go.Proofs Go.Pu
set_option maxRecDepth 100000
set_option maxHeartbeats 16000000
def headK (v : Val) : Bytes := numP (v.k + 1) 1
/-- A value's key. -/
def keyD : Nat → Val → Bytes
  | d, v =>
    if v.k = 0 then headK v
    else if v.k = 1 then headK v ++ numP v.n 1
    else if v.k = 2 then headK v ++ numP (v.n + 4611686018427387904) 8
    else if v.k = 3 then headK v ++ escP v.t
    else match d with
      | 0 => []
      | d + 1 =>
        if v.k = 4 then headK v ++ (itemsL v.t).flatMap (keyD d) ++ [0]
        else headK v ++ (fieldsL v.t).flatMap (fun f => [1] ++ escP f.name ++ keyD d f.v) ++ [0]
theorem escP_len (t : Bytes) : (escP t).length ≤ 2 * t.length + 2 := by
  have := escGo_len t
  simp [escP]; omega
def sumL {α : Type} (f : α → Nat) : List α → Nat
  | [] => 0
  | x :: r => f x + sumL f r
theorem flat_len {α : Type} {f : α → Bytes} {g : α → Nat} : ∀ {l : List α}, (∀ x ∈ l, (f x).length ≤ 11 * g x) → (l.flatMap f).length ≤ 11 * sumL g l
  | [], _ => by simp
  | x :: r, h => by
    have h1 := h x (by simp)
    have h2 := flat_len (f := f) (g := g) (l := r) (fun y hy => h y (by simp [hy]))
    simp [sumL]; simp at h2; omega
theorem items_sum : ∀ {xs : List Val} {t : Bytes}, itemsP t = some xs → sumL (fun x => x.t.length + 1) xs ≤ t.length
  | xs, t, h => by
    rcases items_cases h with ⟨rfl, rfl⟩ | ⟨v, r, ys, h1, h2, rfl⟩
    · simp [sumL]
    · have := nextP_len h1
      have := items_sum h2
      simp [sumL]; omega
  termination_by xs => xs.length
  decreasing_by simp_all
theorem fields_sum : ∀ {xs : List Fld} {t : Bytes}, fieldsP t = some xs → sumL (fun f => f.name.length + f.v.t.length + 2) xs ≤ t.length
  | xs, t, h => by
    rcases fields_cases h with ⟨rfl, rfl⟩ | ⟨b, q, v, r, ys, rfl, h0, h1, h2, rfl⟩
    · simp [sumL]
    · have := nextP_len h1
      have := fields_sum h2
      simp at *
      simp [sumL]; omega
  termination_by xs => xs.length
  decreasing_by simp_all
theorem keyD_len : ∀ (d : Nat) (v : Val), okP d v = true → (keyD d v).length ≤ 11 * (v.t.length + 1) := by
  intro d
  induction d with
  | zero =>
    intro v h
    unfold keyD headK
    have := escP_len v.t
    split
    · simp [numP_len]; omega
    · split
      · simp [numP_len]; omega
      · split
        · simp [numP_len]; omega
        · split
          · simp [numP_len]; omega
          · simp
  | succ d ih =>
    intro v h
    have he := escP_len v.t
    by_cases h0 : v.k = 0
    · simp [keyD, headK, h0, numP_len]; omega
    by_cases h1 : v.k = 1
    · simp [keyD, headK, h1, numP_len]; omega
    by_cases h2 : v.k = 2
    · simp [keyD, headK, h2, numP_len]; omega
    by_cases h3 : v.k = 3
    · simp [keyD, headK, h3, numP_len]; omega
    by_cases h4 : v.k = 4
    · obtain ⟨e, xs, hd, _, hi, hx⟩ := okP_list h h4
      obtain rfl : d = e := by omega
      have hf := flat_len (f := keyD d) (g := fun x => x.t.length + 1) (l := xs) (fun x hm => ih x (hx x hm))
      have hs := items_sum hi
      have e : itemsL v.t = xs := by simp [itemsL, hi]
      simp [keyD, headK, h4, e, numP_len]
      simp at hf
      omega
    · have h5 : v.k = 5 := by
        unfold okP at h
        simp [h0, h1, h2, h3, h4] at h
        exact h.1
      obtain ⟨e, fs, hd, _, hi, _, hx⟩ := okP_doc h h5
      obtain rfl : d = e := by omega
      have hf := flat_len (f := fun f : Fld => [1] ++ escP f.name ++ keyD d f.v) (g := fun f => f.name.length + f.v.t.length + 2) (l := fs) (fun f hm => by
        have h1 := ih f.v (hx f hm).2
        have h2 := escP_len f.name
        simp; omega)
      have hs := fields_sum hi
      have e : fieldsL v.t = fs := by simp [fieldsL, hi]
      simp [keyD, headK, h5, e, numP_len]
      simp at hf
      omega
end Go.Yd
/- What a path comes to: spec's l02Get. -/
set_option linter.unusedSimpArgs false
set_option linter.unusedVariables false
namespace Go.Yd
open Go.Ev Go.Proofs Go.Pu
set_option maxRecDepth 100000
set_option maxHeartbeats 16000000
theorem flat_le {α β : Type} {f : α → List β} {g : α → Nat} : ∀ {l : List α}, (∀ x ∈ l, (f x).length ≤ g x) → (l.flatMap f).length ≤ sumL g l
  | [], _ => by simp
  | x :: r, h => by
    have h1 := h x (by simp)
    have h2 := flat_le (f := f) (g := g) (l := r) (fun y hy => h y (by simp [hy]))
    simp [sumL]; simp at h2; omega
theorem itemsL_sum (t : Bytes) : sumL (fun x => x.t.length + 1) (itemsL t) ≤ t.length := by
  unfold itemsL
  cases h : itemsP t with
  | none => simp [sumL]
  | some xs => exact items_sum h
theorem itemsL_len (t : Bytes) : (itemsL t).length ≤ t.length ∧ ∀ x ∈ itemsL t, x.t.length < t.length := by
  unfold itemsL
  cases h : itemsP t with
  | none => simp
  | some xs => exact items_small h
theorem fieldP_len {v x : Val} {w : Bytes} (h : fieldP v w = some x) : x.t.length < v.t.length := by
  unfold fieldP fieldsL at h
  cases hf : fieldsP v.t with
  | none => simp [hf] at h
  | some fs =>
    rw [hf] at h
    simp only [Option.getD_some, Option.map_eq_some_iff] at h
    obtain ⟨f, h1, rfl⟩ := h
    exact ((fields_small hf).2 f (List.mem_of_find?_eq_some h1)).1
/-- A name, then the rest of a path. -/
def oneP (w : Bytes) (ws : List Bytes) (x : Val) : List Val := match fieldP x w with
  | none => []
  | some y => getP ws y
theorem getP_cons (w : Bytes) (ws : List Bytes) (v : Val) : getP (w :: ws) v = if v.k = 5 then oneP w ws v else if v.k = 4 then (itemsL v.t).flatMap (fun x => if x.k = 5 then oneP w ws x else []) else [] := rfl
theorem getP_len : ∀ (ws : List Bytes) (v : Val), (getP ws v).length ≤ v.t.length + 1
  | [], v => by
    unfold getP
    have := (itemsL_len v.t).1
    split <;> simp <;> omega
  | w :: ws, v => by
    have one : ∀ x : Val, (oneP w ws x).length ≤ x.t.length + 1 := by
      intro x
      unfold oneP
      cases h : fieldP x w with
      | none => simp
      | some y =>
        have := fieldP_len h
        have := getP_len ws y
        simp only; omega
    rw [getP_cons]
    split
    · exact one v
    · split
      · have := flat_le (f := fun x : Val => if x.k = 5 then oneP w ws x else []) (g := fun x => x.t.length + 1) (l := itemsL v.t) (fun x _ => by
          by_cases h : x.k = 5
          · rw [if_pos h]; exact one x
          · rw [if_neg h]; simp)
        have := itemsL_sum v.t
        omega
      · simp
theorem itemsX_L (t : Bytes) : ∃ b, itemsX (itemsP t) = [.row 35 ((itemsL t).map valT), xB b] := by
  unfold itemsL
  cases itemsP t with
  | none => exact ⟨false, rfl⟩
  | some xs => exact ⟨true, rfl⟩
theorem l02Get_nil (v : Val) (hv : v.t.length < 1048576) : run E (.call 382 [xV v, .t (.list [])]) = some (.res [.row 35 ((getP [] v).map valT)] []) := by
  rw [run_call E 382 _ rfl Tryz.func382 rfl rfl rfl (by simp)]
  have hi := l01Items v.t (by omega)
  obtain ⟨b, hb⟩ := itemsX_L v.t
  rw [hb] at hi
  have hl := (itemsL_len v.t).1
  have h1 : 1 + (itemsL v.t).length ≤ 140737488355328 := by omega
  have h2 : (1 + (itemsL v.t).length) * 32 ≤ 140737488355328 := by omega
  by_cases h4 : v.k = 4
  · have e4 : (v.k = 4) = True := eq_true h4
    have eg : getP [] v = v :: itemsL v.t := by simp [getP, h4]
    rw [eg]
    clear h4 eg
    simp [e4, hi, h1, h2]
  · have e4 : (v.k = 4) = False := eq_false h4
    have eg : getP [] v = [v] := by simp [getP, h4]
    rw [eg]
    clear h4 eg
    simp [e4]
end Go.Yd
/- What a path comes to: spec's l02Get, l02Values. -/
set_option linter.unusedSimpArgs false
set_option linter.unusedVariables false
namespace Go.Yd
open Go.Ev Go.Proofs Go.Pu
set_option maxRecDepth 100000
set_option maxHeartbeats 16000000
theorem l02Get_doc (w : Bytes) (ws : List Bytes) (hws : ws.length < 4294967296) (ih : ∀ v : Val, v.t.length < 1048576 → run E (.call 382 [xV v, .t (.list (ws.map strT))]) = some (.res [.row 35 ((getP ws v).map valT)] []))
    (v : Val) (hv : v.t.length < 1048576) (hk : v.k = 5) : run E (.call 382 [xV v, .t (.list ((w :: ws).map strT))]) = some (.res [.row 35 ((oneP w ws v).map valT)] []) := by
  rw [run_call E 382 _ rfl Tryz.func382 rfl rfl rfl (by simp)]
  have d9 := d382_9
  simp [regionOf, findR, pick, Tryz.f382] at d9
  have dd := fun st => run_region_draw E st 9 _ d9
  clear d9
  have d12 := d382_12
  simp [regionOf, findR, pick, Tryz.f382] at d12
  have de := fun st => run_region_draw E st 12 _ d12
  clear d12
  have e5 : (v.k = 5) = True := eq_true hk
  have hf := specField v w (by omega)
  have hpos : ¬ ((ws.length : Int) + 1 = 0) := by omega
  have hle : (1 : Int) ≤ (ws.length : Int) + 1 := by omega
  clear hk
  unfold oneP
  cases hx : fieldP v w with
  | none =>
    rw [hx] at hf
    simp only [optX] at hf
    simp [dd, de, e5, hf, hpos, hle]
  | some y =>
    have hl := fieldP_len hx
    have hy := ih y (by omega)
    rw [hx] at hf
    simp only [optX] at hf
    have htk : List.take ws.length (List.map strT ws) = List.map strT ws := List.take_of_length_le (by simp)
    simp [dd, de, e5, hf, hpos, hle, hy, htk]
theorem l02Get_cons (w : Bytes) (ws : List Bytes) (hws : ws.length < 4294967296) (ih : ∀ v : Val, v.t.length < 1048576 → run E (.call 382 [xV v, .t (.list (ws.map strT))]) = some (.res [.row 35 ((getP ws v).map valT)] []))
    (v : Val) (hv : v.t.length < 1048576) : run E (.call 382 [xV v, .t (.list ((w :: ws).map strT))]) = some (.res [.row 35 ((getP (w :: ws) v).map valT)] []) := by
  rw [getP_cons]
  by_cases hk : v.k = 5
  · rw [if_pos hk]; exact l02Get_doc w ws hws ih v hv hk
  rw [if_neg hk]
  rw [run_call E 382 _ rfl Tryz.func382 rfl rfl rfl (by simp)]
  have e5 : (v.k = 5) = False := eq_false hk
  have hpos : ¬ ((ws.length : Int) + 1 = 0) := by omega
  by_cases h4 : v.k = 4
  · rw [if_pos h4]
    have e4 : (v.k = 4) = True := eq_true h4
    clear h4 hk
    have hi := l01Items v.t (by omega)
    obtain ⟨b, hb⟩ := itemsX_L v.t
    rw [hb] at hi
    obtain ⟨hl, hs⟩ := itemsL_len v.t
    generalize hxs : itemsL v.t = xs at *
    have hsum := itemsL_sum v.t
    rw [hxs] at hsum
    obtain ⟨F, hF⟩ : ∃ F : Val → List Val, F = (fun x => if x.k = 5 then oneP w ws x else []) := ⟨_, rfl⟩
    have hF5 : ∀ x : Val, x.k = 5 → F x = oneP w ws x := by intro x h; rw [hF]; simp [h]
    have hFn : ∀ x : Val, ¬ x.k = 5 → F x = [] := by intro x h; rw [hF]; simp [h]
    have hFl : (xs.flatMap F).length ≤ 1048576 := by
      have := flat_le (f := F) (g := fun x => x.t.length + 1) (l := xs) (fun x _ => by
        by_cases h : x.k = 5
        · have h1 := getP_len (w :: ws) x
          rw [getP_cons, if_pos h] at h1
          rw [hF5 x h]; exact h1
        · rw [hFn x h]; simp)
      omega
    rw [← hF]
    clear hF
    have lp := fun (R : List Val) (hR : R = xs.flatMap F) => sk1 (fun s o q hI => loop_for (c := loopAt Tryz.f382 0) (N := 82)
      (fun i s o q => ∃ r acc, s 1 = .t (.list ((w :: ws).map strT)) ∧ s 10 = .row r ∧ s 11 = .row 2 ∧ s 13 = .t (.int .i64 i) ∧ o r = .row 35 (acc.map valT) true ∧ o 2 = .row 35 (xs.map valT) true ∧ r < q ∧ r ≠ 2 ∧ 2 < q ∧ R = acc ++ (xs.drop i).flatMap F)
      (fun e s' o' q' => ∃ r, e = .exit 1 ∧ s' 10 = .row r ∧ o' r = .row 35 (R.map valT) true) xs.length
      (by
        rintro i s o q hi ⟨r, acc, h1, h10, h11, h13, ho, ho2, hrq, hr2, h2q, hp⟩
        have hi' : (i : Int) < (xs.length : Int) := by omega
        have hwi := wrap_succ (n := i) (by omega)
        have hxi : xs[i]? = some xs[i] := List.getElem?_eq_getElem hi
        have hrn : r ≠ q := by omega
        have hrn2 : r ≠ q + 1 := by omega
        have hqn : q ≠ r := by omega
        have h2n : 2 ≠ q := by omega
        have h2n1 : 2 ≠ q + 1 := by omega
        have h2r : 2 ≠ r := fun h => hr2 h.symm
        have hxl := hs _ (List.getElem_mem hi)
        rw [List.drop_eq_getElem_cons hi, List.flatMap_cons, ← List.append_assoc] at hp
        by_cases h5 : xs[i].k = 5
        · have hd := l02Get_doc w ws hws ih xs[i] (by omega) h5
          have e5 : (xs[i].k = 5) = True := eq_true h5
          have hf := hF5 _ h5
          rw [← hf] at hd
          rw [List.map_cons] at hd
          have hcat : (acc.map valT).length + ((F xs[i]).map valT).length ≤ 140737488355328 := by
            have h1 := congrArg List.length hp
            simp [hR] at h1 hFl ⊢
            omega
          have hcat2 : ((acc.map valT).length + ((F xs[i]).map valT).length) * 32 ≤ 140737488355328 := by
            have h1 := congrArg List.length hp
            simp [hR] at h1 hFl ⊢
            omega
          simp only [List.length_map] at hcat hcat2
          clear h5
          simp [loopAt, loopsOf, Tryz.f382, h1, h10, h11, h13, ho, ho2, hi, hi', hwi, hxi, hrn, hrn2, hqn, h2n, h2n1, h2r, hr2, e5, hd, hcat, hcat2]
          exact ⟨acc ++ F xs[i], by simp, by omega, by omega, hp⟩
        · have e5 : (xs[i].k = 5) = False := eq_false h5
          rw [hFn _ h5, List.append_nil] at hp
          clear h5
          simp [loopAt, loopsOf, Tryz.f382, h1, h10, h11, h13, ho, ho2, hi, hi', hwi, hxi, hrn, hrn2, hqn, h2n, h2n1, h2r, hr2, e5]
          exact ⟨acc, rfl, hrq, h2q, hp⟩)
      (by
        rintro s o q ⟨r, acc, h1, h10, h11, h13, ho, ho2, hrq, hr2, h2q, hp⟩
        simp at hp
        simp [loopAt, loopsOf, Tryz.f382, h1, h10, h11, h13, ho, ho2, hp])
      xs.length 0 s o q (by omega) hI)
    simp only [loopAt, loopsOf, Tryz.f382] at lp
    obtain ⟨X, A, B, C, M, hx⟩ := lp _ rfl
    have hx' := fun s o q r a1 a10 a11 a13 ao ao2 arq ar2 a2q => hx s o q ⟨r, [], a1, a10, a11, a13, ao, ao2, arq, ar2, a2q, by simp⟩
    clear hx lp
    simp at hx'
    simp [e5, e4, hpos, hi, hx']
  · rw [if_neg h4]
    have e4 : (v.k = 4) = False := eq_false h4
    simp [e5, e4, hpos]
theorem l02Get : ∀ (ws : List Bytes) (v : Val), ws.length < 4294967296 → v.t.length < 1048576 → run E (.call 382 [xV v, .t (.list (ws.map strT))]) = some (.res [.row 35 ((getP ws v).map valT)] [])
  | [], v, _, hv => l02Get_nil v hv
  | w :: ws, v, hws, hv => l02Get_cons w ws (by simp at hws; omega) (fun v hv => l02Get ws v (by simp at hws; omega) hv) v hv
theorem l02Values (v : Val) (p : Bytes) (hv : v.t.length < 1048576) (hp : p.length < 4294967295) : run E (.call 355 [xV v, xS p]) = some (.res [.row 35 ((getP (cutP 46 p) v).map valT)] []) := by
  rw [run_call E 355 _ rfl Tryz.func355 rfl rfl rfl (by simp)]
  have d1 := d355_1
  simp [regionOf, findR, pick, Tryz.f355] at d1
  have dd := fun st => run_region_draw E st 1 _ d1
  clear d1
  have e46 : ((46 : UInt8).toNat : Int) = 46 := rfl
  have hc := l00Cut p 46 (by omega) (by omega)
  rw [xU, e46] at hc
  have hcl := cutP_length 46 p
  have hct : p.count 46 ≤ p.length := List.count_le_length
  have hg := l02Get (cutP 46 p) v (by omega) hv
  simp [dd, hc, hg]
end Go.Yd
/- What a path comes to: impl's comesTo. -/
set_option linter.unusedSimpArgs false
set_option linter.unusedVariables false
namespace Go.Yd
open Go.Ev Go.Proofs Go.Pu
set_option maxRecDepth 100000
set_option maxHeartbeats 16000000
theorem fieldI_ok {d : Nat} {v : Val} (h : okP d v = true) (hk : v.k = 5) (w : Bytes) : fieldI v w = fieldP v w := by
  obtain ⟨e, fs, _, _, hf, hr, _⟩ := okP_doc h hk
  exact fieldI_eq w hf hr
theorem fieldP_ok {d : Nat} {v y : Val} {w : Bytes} (h : okP d v = true) (hk : v.k = 5) (hx : fieldP v w = some y) : ∃ e, okP e y = true := by
  obtain ⟨e, fs, _, _, hf, hr, hall⟩ := okP_doc h hk
  unfold fieldP fieldsL at hx
  rw [hf] at hx
  simp only [Option.getD_some, Option.map_eq_some_iff] at hx
  obtain ⟨f, h1, rfl⟩ := hx
  exact ⟨e, (hall f (List.mem_of_find?_eq_some h1)).2⟩
theorem comesTo_nil (d : Nat) (v : Val) (hok : okP d v = true) (hv : v.t.length < 1048576) : run E (.call 339 [xV v, .t (.list [])]) = some (.res [.row 35 ((getP [] v).map valT)] []) := by
  rw [run_call E 339 _ rfl Tryz.func339 rfl rfl rfl (by simp)]
  by_cases h4 : v.k = 4
  · obtain ⟨e, xs, _, _, hit, _⟩ := okP_list hok h4
    have hi := implItems v (by omega)
    rw [itemsI_some hit] at hi
    have hl := (items_small hit).1
    have h1 : 1 + xs.length ≤ 140737488355328 := by omega
    have h2 : (1 + xs.length) * 32 ≤ 140737488355328 := by omega
    have e4 : (v.k = 4) = True := eq_true h4
    have eg : getP [] v = v :: xs := by simp [getP, h4, itemsL, hit]
    rw [eg]
    clear h4 eg
    simp at hi
    simp [e4, hi, h1, h2]
  · have e4 : (v.k = 4) = False := eq_false h4
    have eg : getP [] v = [v] := by simp [getP, h4]
    rw [eg]
    clear h4 eg
    simp [e4]
theorem comesTo_doc (w : Bytes) (ws : List Bytes) (hws : ws.length < 4294967296) (ih : ∀ (d : Nat) (v : Val), okP d v = true → v.t.length < 1048576 → run E (.call 339 [xV v, .t (.list (ws.map strT))]) = some (.res [.row 35 ((getP ws v).map valT)] []))
    (d : Nat) (v : Val) (hok : okP d v = true) (hv : v.t.length < 1048576) (hk : v.k = 5) : run E (.call 339 [xV v, .t (.list ((w :: ws).map strT))]) = some (.res [.row 35 ((oneP w ws v).map valT)] []) := by
  rw [run_call E 339 _ rfl Tryz.func339 rfl rfl rfl (by simp)]
  have d9 := d339_10
  simp [regionOf, findR, pick, Tryz.f339] at d9
  have dd := fun st => run_region_draw E st 10 _ d9
  clear d9
  have d12 := d339_12
  simp [regionOf, findR, pick, Tryz.f339] at d12
  have de := fun st => run_region_draw E st 12 _ d12
  clear d12
  have hf := implField v w (by omega)
  rw [fieldI_ok hok hk] at hf
  have hpos : ¬ ((ws.length : Int) + 1 = 0) := by omega
  have hle : (1 : Int) ≤ (ws.length : Int) + 1 := by omega
  unfold oneP
  cases hx : fieldP v w with
  | none =>
    rw [hx] at hf
    simp only [optX] at hf
    have e5 : (v.k = 5) = True := eq_true hk
    clear hk
    simp [dd, de, e5, hf, hpos, hle]
  | some y =>
    have hl := fieldP_len hx
    obtain ⟨e, he⟩ := fieldP_ok hok hk hx
    have hy := ih e y he (by omega)
    rw [hx] at hf
    simp only [optX] at hf
    have htk : List.take ws.length (List.map strT ws) = List.map strT ws := List.take_of_length_le (by simp)
    have e5 : (v.k = 5) = True := eq_true hk
    clear hk
    simp [dd, de, e5, hf, hpos, hle, hy, htk]
theorem comesTo_cons (w : Bytes) (ws : List Bytes) (hws : ws.length < 4294967296) (ih : ∀ (d : Nat) (v : Val), okP d v = true → v.t.length < 1048576 → run E (.call 339 [xV v, .t (.list (ws.map strT))]) = some (.res [.row 35 ((getP ws v).map valT)] []))
    (d : Nat) (v : Val) (hok : okP d v = true) (hv : v.t.length < 1048576) : run E (.call 339 [xV v, .t (.list ((w :: ws).map strT))]) = some (.res [.row 35 ((getP (w :: ws) v).map valT)] []) := by
  rw [getP_cons]
  by_cases hk : v.k = 5
  · rw [if_pos hk]; exact comesTo_doc w ws hws ih d v hok hv hk
  rw [if_neg hk]
  rw [run_call E 339 _ rfl Tryz.func339 rfl rfl rfl (by simp)]
  have e5 : (v.k = 5) = False := eq_false hk
  have hpos : ¬ ((ws.length : Int) + 1 = 0) := by omega
  by_cases h4 : v.k = 4
  · rw [if_pos h4]
    obtain ⟨e, xs, _, _, hit, hxok⟩ := okP_list hok h4
    have hi := implItems v (by omega)
    rw [itemsI_some hit] at hi
    simp at hi
    obtain ⟨hl, hs⟩ := items_small hit
    have hsum := items_sum hit
    have hxs : itemsL v.t = xs := by simp [itemsL, hit]
    rw [hxs]
    have e4 : (v.k = 4) = True := eq_true h4
    clear h4 hk hxs
    obtain ⟨F, hF⟩ : ∃ F : Val → List Val, F = (fun x => if x.k = 5 then oneP w ws x else []) := ⟨_, rfl⟩
    have hF5 : ∀ x : Val, x.k = 5 → F x = oneP w ws x := by intro x h; rw [hF]; simp [h]
    have hFn : ∀ x : Val, ¬ x.k = 5 → F x = [] := by intro x h; rw [hF]; simp [h]
    have hFl : (xs.flatMap F).length ≤ 1048576 := by
      have := flat_le (f := F) (g := fun x => x.t.length + 1) (l := xs) (fun x _ => by
        by_cases h : x.k = 5
        · have h1 := getP_len (w :: ws) x
          rw [getP_cons, if_pos h] at h1
          rw [hF5 x h]; exact h1
        · rw [hFn x h]; simp)
      omega
    rw [← hF]
    clear hF
    have lp := fun (R : List Val) (hR : R = xs.flatMap F) => sk1 (fun s o q hI => loop_for (c := loopAt Tryz.f339 0) (N := 74)
      (fun i s o q => ∃ r acc, s 1 = .t (.list ((w :: ws).map strT)) ∧ s 5 = .row r ∧ s 58 = .row 2 ∧ s 59 = .t (.int .i64 xs.length) ∧ s 60 = .t (.int .i64 i) ∧ o r = .row 35 (acc.map valT) true ∧ o 2 = .row 35 (xs.map valT) true ∧ r < q ∧ r ≠ 2 ∧ 2 < q ∧ R = acc ++ (xs.drop i).flatMap F)
      (fun e s' o' q' => ∃ r, e = .exit 1 ∧ s' 5 = .row r ∧ o' r = .row 35 (R.map valT) true) xs.length
      (by
        rintro i s o q hi ⟨r, acc, h1, h5s, h58, h59, h60, ho, ho2, hrq, hr2, h2q, hp⟩
        have hi' : (i : Int) < (xs.length : Int) := by omega
        have hwi := wrap_succ (n := i) (by omega)
        have hxi : xs[i]? = some xs[i] := List.getElem?_eq_getElem hi
        have hrn : r ≠ q := by omega
        have hrn2 : r ≠ q + 1 := by omega
        have hqn : q ≠ r := by omega
        have hqn1 : q + 1 ≠ r := by omega
        have h2n : 2 ≠ q := by omega
        have h2n1 : 2 ≠ q + 1 := by omega
        have h2r : 2 ≠ r := fun h => hr2 h.symm
        have hxl := hs _ (List.getElem_mem hi)
        rw [List.drop_eq_getElem_cons hi, List.flatMap_cons, ← List.append_assoc] at hp
        by_cases h5 : xs[i].k = 5
        · have hd := comesTo_doc w ws hws ih e xs[i] (hxok _ (List.getElem_mem hi)) (by omega) h5
          have e5 : (xs[i].k = 5) = True := eq_true h5
          have hf := hF5 _ h5
          rw [← hf] at hd
          rw [List.map_cons] at hd
          have hcat : (acc.map valT).length + ((F xs[i]).map valT).length ≤ 140737488355328 := by
            have h1 := congrArg List.length hp
            simp [hR] at h1 hFl ⊢
            omega
          have hcat2 : ((acc.map valT).length + ((F xs[i]).map valT).length) * 32 ≤ 140737488355328 := by
            have h1 := congrArg List.length hp
            simp [hR] at h1 hFl ⊢
            omega
          simp only [List.length_map] at hcat hcat2
          clear h5
          simp [loopAt, loopsOf, Tryz.f339, h1, h5s, h58, h59, h60, ho, ho2, hi, hi', hwi, hxi, hrn, hrn2, hqn, hqn1, h2n, h2n1, h2r, hr2, e5, hd, hcat, hcat2]
          exact ⟨acc ++ F xs[i], by simp, by omega, by omega, hp⟩
        · have e5 : (xs[i].k = 5) = False := eq_false h5
          rw [hFn _ h5, List.append_nil] at hp
          clear h5
          simp [loopAt, loopsOf, Tryz.f339, h1, h5s, h58, h59, h60, ho, ho2, hi, hi', hwi, hxi, hrn, hrn2, hqn, hqn1, h2n, h2n1, h2r, hr2, e5]
          exact ⟨acc, rfl, by omega, by omega, hp⟩)
      (by
        rintro s o q ⟨r, acc, h1, h5s, h58, h59, h60, ho, ho2, hrq, hr2, h2q, hp⟩
        simp at hp
        simp [loopAt, loopsOf, Tryz.f339, h1, h5s, h58, h59, h60, ho, ho2, hp])
      xs.length 0 s o q (by omega) hI)
    simp only [loopAt, loopsOf, Tryz.f339] at lp
    obtain ⟨X, A, B, C, M, hx⟩ := lp _ rfl
    have hx' := fun s o q r a1 a5 a58 a59 a60 ao ao2 arq ar2 a2q => hx s o q ⟨r, [], a1, a5, a58, a59, a60, ao, ao2, arq, ar2, a2q, by simp⟩
    clear hx lp
    simp at hx'
    simp [e5, e4, hpos, hi, hx']
  · rw [if_neg h4]
    have e4 : (v.k = 4) = False := eq_false h4
    simp [e5, e4, hpos]
theorem comesTo : ∀ (ws : List Bytes) (d : Nat) (v : Val), ws.length < 4294967296 → okP d v = true → v.t.length < 1048576 → run E (.call 339 [xV v, .t (.list (ws.map strT))]) = some (.res [.row 35 ((getP ws v).map valT)] [])
  | [], d, v, _, hok, hv => comesTo_nil d v hok hv
  | w :: ws, d, v, hws, hok, hv => comesTo_cons w ws (by simp at hws; omega) (fun d v hok hv => comesTo ws d v (by simp at hws; omega) hok hv) d v hok hv
theorem getPath (d : Nat) (v : Val) (p : Bytes) (hok : okP d v = true) (hv : v.t.length < 1048576) (hp : p.length < 4294967295) : run E (.call 266 [xV v, xS p]) = some (.res [.row 35 ((getP (cutP 46 p) v).map valT)] []) := by
  rw [run_call E 266 _ rfl Tryz.func266 rfl rfl rfl (by simp)]
  have d1 := d266_1
  simp [regionOf, findR, pick, Tryz.f266] at d1
  have dd := fun st => run_region_draw E st 1 _ d1
  clear d1
  have hc := split p 46 (by omega)
  have hcl := cutP_length 46 p
  have hct : p.count 46 ≤ p.length := List.count_le_length
  have hg := comesTo (cutP 46 p) d v (by omega) hok hv
  simp [dd, hc, hg]
end Go.Yd
/- One value against a term: spec's l03One. -/
set_option linter.unusedSimpArgs false
set_option linter.unusedVariables false
namespace Go.Yd
open Go.Ev Go.Proofs Go.Pu
set_option maxRecDepth 100000
set_option maxHeartbeats 16000000
def sameV (a b : Val) : Bool := (a.k == b.k) && ((a.n == b.n) && (a.t == b.t))
/-- One value against a term whose value is v. -/
def oneT (op : Int) (v x : Val) : Bool :=
  if op = 1 then sameV x v
  else if op = 2 then sameV x v
  else if op = 3 then (x.k == v.k) && decide (ordD 5 x v < 0)
  else if op = 4 then (x.k == v.k) && decide (ordD 5 x v ≤ 0)
  else if op = 5 then (x.k == v.k) && decide (0 < ordD 5 x v)
  else if op = 6 then (x.k == v.k) && decide (0 ≤ ordD 5 x v)
  else if op = 7 then (itemsL v.t).any (fun y => sameV y x)
  else if op = 9 then x.k == v.n
  else (x.k == 4) && (((itemsL x.t).length : Int) == v.n)
abbrev valBox (x : Val) : Ob := .box 35 [.t (.int .i64 x.k), .t (.int .i64 x.n), .t (.str x.t)]
end Go.Yd
