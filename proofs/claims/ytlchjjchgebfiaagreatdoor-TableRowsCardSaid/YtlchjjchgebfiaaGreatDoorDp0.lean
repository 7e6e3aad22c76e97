/-
  The data-level logic: walks in a frame of a round of a range over a function, or in none: fences that let all in.
-/
import Derived.WalkKit
import Derived.RangeFuncIn
import Derived.RangeFuncRecord
import Derived.RangeFuncCalls
import Derived.LoopNIn
import Derived.Deep.LoopGhost
import Derived.Deep.Quiet
import Derived.OrdersHeld
import Derived.ScopeJumps

namespace Go.Dl
open Go Go.RowKit
def Wd (r : Option Nat) : Fence := { Fence.wide with round := r }
theorem wd_round (r : Option Nat) : (Wd r).round = r := rfl
theorem stepsWd {P : Program} {r : Option Nat} {m m' : Machine} (h : Steps P m m') : StepsIn (Machine.fenced P (Wd r)) P m m' := stepsIn_wide.2 h
theorem callsWd {P : Program} {r : Option Nat} {n : Nat} {f : FuncId} {args : Array Value} {w : World} {R : Ending → World → Prop} (h : Calls P f args w R) : CallsIn (Wd r) n P f args w R :=
  (callsIn_wide (n := n)).2 h
theorem callsOfWd {P : Program} {r : Option Nat} {n : Nat} {f : FuncId} {args : Array Value} {w : World} {R : Ending → World → Prop} (h : CallsIn (Wd r) n P f args w R) : Calls P f args w R :=
  (callsIn_wide (n := n)).1 h
def Plain (Q : Exit → Act → World → Prop) : Exit → Act → World → Prop
  | .panic _, _, _ | .outgrown, _, _ => False
  | e, a, w => Q e a w
theorem Plain.imp {Q : Exit → Act → World → Prop} {e : Exit} {a : Act} {w : World} (h : Plain Q e a w) : Q e a w := by
  cases e <;> first | exact h | exact h.elim
theorem plain_lets {Q : Exit → Act → World → Prop} (h : LetsOut (Plain Q)) : False := by
  obtain ⟨a, w, h⟩ := h; exact h
def noDefer (o : Oper) : Bool := match o.op with | .defer _ => false | _ => true
theorem semAt_eq {o : Oper} (h : noDefer o = true) (r : Option Nat) (ρ : Operand → Value) : o.semAt r ρ = execOp ρ o := by
  unfold Oper.semAt
  split
  · rename_i h1; unfold noDefer at h; rw [h1] at h; cases h
  · rfl
theorem wpIn_of_wp {P : Program} {r : Option Nat} {o : Oper} {a : Act} {w : World} {next next' : Act → World → Prop} {Q : Exit → Act → World → Prop} (hd : noDefer o = true) (h : o.wp P a w next (Plain Q))
    (hn : ∀ a w, next a w → next' a w) : o.wpIn (Wd r) 0 P a w next' Q := by
  refine ⟨fun _ _ => trivial, ?_⟩
  rw [wd_round, semAt_eq hd]
  unfold Oper.wp at h
  cases hres : (execOp a.eval o).run P w with
  | ok x w1 =>
    rw [hres] at h
    match x, h with
    | .value v, h => exact hn _ _ h
    | .skip, h => exact hn _ _ h
    | .defer d, h => exact hn _ _ h
    | .enter f args, h =>
      refine ⟨(fun e => by cases e), (callsWd h).mono fun e w2 hq => ?_⟩
      cases e with
      | returned v => exact hn _ _ hq
      | panicked ch => exact hq.elim
      | outgrown => exact (plain_lets hq).elim
    | .row row args, h =>
      refine ⟨(fun e => by cases e), fun c cs _ => ?_⟩
      obtain ⟨v, w', r1, s⟩ := h c cs
      exact ⟨v, w', hn _ _ r1, stepsWd s⟩
    | .round .., h => exact h.elim
    | .recover, h => exact h.elim
    | .spawn .., h => exact h.elim
    | .comm .., h => exact h.elim
  | halt x w1 =>
    rw [hres] at h
    cases x with
    | panic v => exact h.elim
    | _ => exact h.elim
theorem wpOpsIn_of {P : Program} {r : Option Nat} {ops : Array Oper} {Q : Exit → Act → World → Prop} (hnd : ∀ o ∈ ops.toList, noDefer o = true) (l : List Nat) : ∀ {a : Act} {w : World}, wpOps P ops (Plain Q) l a w → wpOpsIn (Wd r) 0 P ops Q l a w := by
  induction l with
  | nil => intro a w h; exact Plain.imp h
  | cons i l ih =>
    intro a w h
    unfold wpOps at h
    unfold wpOpsIn
    cases ho : ops[i]? with
    | none => simp only [ho] at h ⊢; exact ih h
    | some o =>
      simp only [ho] at h ⊢
      split
      · rename_i hw
        rw [if_pos hw] at h
        rcases h with h | h
        · exact wpIn_of_wp (hnd o (by simpa using Array.mem_of_getElem? ho)) h fun _ _ h => ih h
        · exact (plain_lets h.2).elim
      · rename_i hw
        rw [if_neg hw] at h
        exact ⟨fun _ _ => trivial, ih h⟩
theorem wpIn_draw {P : Program} {r : Option Nat} {id : Nat} {ops : Array Oper} {Q : Exit → Act → World → Prop} {a : Act} {w : World} (hnd : ∀ o ∈ ops.toList, noDefer o = true)
    (h : ∀ t, wpOps P ops (Plain Q) (Region.schedule (P.follows .mixedOrders) ops t) a { w with drawn := w.drawn + 1 }) : (Code.region id ops true).wpIn (Wd r) 0 P Q a w :=
  wpIn_region_draw fun t => wpOpsIn_of hnd _ (h t)
theorem wpIn_any {P : Program} {r : Option Nat} {id : Nat} {ops : Array Oper} {Q : Exit → Act → World → Prop} {a : Act} {w : World} (hnd : ∀ o ∈ ops.toList, noDefer o = true) (hm : P.follows .mixedOrders = true)
    (h : wpAny P .any ops (Plain Q) ops.size (Array.replicate ops.size false) a { w with drawn := w.drawn + 1 }) : (Code.region id ops true).wpIn (Wd r) 0 P Q a w :=
  wpIn_draw hnd fun t => by
    simp only [Region.schedule, hm, Bool.true_or, if_true]
    exact wpAny_sound ops.size t _ a _ h
theorem wpIn_held {P : Program} {r : Option Nat} {id : Nat} {ops : Array Oper} {Q : Exit → Act → World → Prop} {S : World → Prop} {a : Act} {w : World} (hnd : ∀ o ∈ ops.toList, noDefer o = true) (hm : P.follows .mixedOrders = true)
    (h : wpAnyH P .any ops (Plain Q) S ops.size (Array.replicate ops.size false) a { w with drawn := w.drawn + 1 }) : (Code.region id ops true).wpIn (Wd r) 0 P Q a w :=
  wpIn_any hnd hm (wpAny_of_held _ _ _ _ h)
theorem wpIn_quiet {P : Program} {r : Option Nat} {id : Nat} {ops : Array Oper} {C : World → Prop} {Q : Exit → Act → World → Prop} {a : Act} {w : World} (hnd : ∀ o ∈ ops.toList, noDefer o = true) (hm : P.follows .mixedOrders = true)
    (hB : Region.lexB .any ops = true) (hC : C { w with drawn := w.drawn + 1 }) (h : wpQuiet P ops C (fun a' => ∀ w', C w' → Q .normal a' w') ops.toList a) : (Code.region id ops true).wpIn (Wd r) 0 P Q a w := by
  simp only [Region.lexB, Bool.and_eq_true] at hB
  refine wpIn_any hnd hm (wpAny_of_quiet (Q := fun a' => ∀ w', C w' → Q .normal a' w') (fun a' w' hw' h => (show Plain Q .normal a' w' from h w' hw')) _ _ _ _ hC ?_)
  have := wpAnyQ_lex (C := C) (md := .any) hB.1 ops.toList 0 (Array.replicate ops.size false) a (by simp) (by simpa using hB.2) h
  simpa using this
theorem wpIn_ghost {P : Program} {F : Fence} {m : Nat} {Q : Exit → Act → World → Prop} {a : Act} {w : World} {c : Code} (I : Nat → Act → World → Prop) (n₀ : Nat) (h₀ : I n₀ a w)
    (round : ∀ n a w, I n a w → c.wpIn F m P (Exit.then (fun a' w' => ∃ n', n' < n ∧ I n' a' w') Q) a w) : (Code.loop c).wpIn F m P Q a w := by
  refine wpIn_loop (fun a w => ∃ n, I n a w) (fun a w => leastOf (fun n => I n a w)) ⟨n₀, h₀⟩ ?_
  intro a w hI
  refine wpIn_mono (round _ a w (leastOf_spec hI).1) ?_
  intro e a' w' hq
  cases e with
  | normal =>
    obtain ⟨n', hlt, hI'⟩ := hq
    exact show (∃ n, I n a' w') ∧ leastOf (fun n => I n a' w') < leastOf (fun n => I n a w) from ⟨⟨n', hI'⟩, Nat.lt_of_le_of_lt ((leastOf_spec ⟨n', hI'⟩).2 n' hI') hlt⟩
  | _ => exact hq
section
variable {F : Fence} {n : Nat} {P : Program} {Q : Exit → Act → World → Prop} {a : Act} {w : World} {b : Frame} {k : List Item} {cs : List Frame}
theorem stepR_scope {c : Code} : step P (lone (b.atR a (.code (.scope c) :: k)) cs w) = .next (lone (b.atR a (.code c :: .inScope c :: k)) cs w) :=
  step_lone_go (by simp [stepG, stepG.exec, Frame.atR])
theorem stepR_inScope {c : Code} : step P (lone (b.atR a (.inScope c :: k)) cs w) = .next (lone (b.atR a k) cs w) :=
  step_lone_go (by simp [stepG, stepG.exec, Frame.atR])
theorem wpIn_scope_straight {c : Code} (h : c.wpIn F n P (Exit.noGoto Q) a w) : (Code.scope c).wpIn F n P Q a w := by
  intro b k cs hro hb hr
  have h0 : (lone (b.atR a (.code (.scope c) :: k)) cs w).fenced P F := fenced_calm hb hr rfl
  obtain ⟨e, a₁, w₁, hq, harr⟩ := h b (.inScope c :: k) cs hro hb hr
  cases e with
  | normal => exact ⟨.normal, a₁, w₁, hq, .head h0 stepR_scope (StepsIn.trans harr (.one (fenced_calm hb hr rfl) stepR_inScope))⟩
  | exit id => exact ⟨.exit id, a₁, w₁, hq, .of_steps (.one h0 stepR_scope) ⟨fun k' hk => harr.1 k' (by simp [exitTo, hk]), fun hr' hk => harr.2 hr' (by simp [exitTo, hk])⟩⟩
  | goto l => exact hq.elim
  | ret => exact ⟨.ret, a₁, w₁, hq, .of_steps (.one h0 stepR_scope) harr⟩
  | panic ch => exact ⟨.panic ch, a₁, w₁, hq, .of_steps (.one h0 stepR_scope) harr⟩
  | outgrown => exact ⟨.outgrown, a₁, w₁, hq, .of_steps (.one h0 stepR_scope) harr⟩
end
section
variable {P : Program} {r : Option Nat} {o : Oper} {a : Act} {w w' : World} {next : Act → World → Prop} {Q : Exit → Act → World → Prop}
theorem opIn_value {v : Value} (hd : noDefer o = true) (h : (execOp a.eval o).run P w = .ok (.value v) w') (hn : next (a.put o.dst v) w') : o.wpIn (Wd r) 0 P a w next Q :=
  ⟨fun _ _ => trivial, by rw [wd_round, semAt_eq hd, h]; exact hn⟩
theorem opIn_skip (hd : noDefer o = true) (h : (execOp a.eval o).run P w = .ok .skip w') (hn : next (a.put o.dst undef) w') : o.wpIn (Wd r) 0 P a w next Q :=
  ⟨fun _ _ => trivial, by rw [wd_round, semAt_eq hd, h]; exact hn⟩
theorem opIn_enter {f : FuncId} {args : Array Value} (hd : noDefer o = true) (h : (execOp a.eval o).run P w = .ok (.enter f args) w') (hn : Calls P f args w' fun e w'' => ∃ v, e = .returned v ∧ next (a.put o.dst v) w'') : o.wpIn (Wd r) 0 P a w next Q := by
  refine ⟨fun _ _ => trivial, ?_⟩
  rw [wd_round, semAt_eq hd, h]
  refine ⟨(fun e => by cases e), (callsWd hn).mono fun e w2 ⟨v, he, hq⟩ => ?_⟩
  subst he
  exact hq
theorem opIn_round {l : Nat} {f : FuncId} {tmps : Array Value} {assign body : Code} (hd : noDefer o = true) (h : (execOp a.eval o).run P w = .ok (.round l f tmps assign body) w')
    (hn : RoundIn (Wd r) 0 P l f tmps assign body w' fun e w'' => ∃ v, e = .returned v ∧ next (a.put o.dst v) w'') : o.wpIn (Wd r) 0 P a w next Q := by
  refine ⟨fun _ _ => trivial, ?_⟩
  rw [wd_round, semAt_eq hd, h]
  refine ⟨(fun e => by cases e), hn.mono fun e w2 ⟨v, he, hq⟩ => ?_⟩
  subst he
  exact hq
end
def listIn (r : Option Nat) (P : Program) (ops : Array Oper) (Q : Exit → Act → World → Prop) : List Oper → Act → World → Prop
  | [], a, w => Q .normal a w
  | o :: rest, a, w => if Region.wanted o (yielded ops a.tmps) then o.wpIn (Wd r) 0 P a w (listIn r P ops Q rest) Q else listIn r P ops Q rest (a.put o.dst undef) w
theorem opsIn_eq {P : Program} {r : Option Nat} {ops : Array Oper} {Q : Exit → Act → World → Prop} (l : List Oper) : ∀ (k : Nat) (a : Act) (w : World), (∀ (j : Nat), l[j]? = ops[k + j]?) → listIn r P ops Q l a w → wpOpsIn (Wd r) 0 P ops Q (List.range' k l.length) a w := by
  induction l with
  | nil => intro k a w _ h; exact h
  | cons o l ih =>
    intro k a w hl h
    have h0 : ops[k]? = some o := by have := hl 0; simpa using this.symm
    have hl' : ∀ (j : Nat), l[j]? = ops[k + 1 + j]? := fun j => by
      have := hl (j + 1)
      rw [show k + (j + 1) = k + 1 + j by omega] at this
      simpa using this
    show wpOpsIn (Wd r) 0 P ops Q (k :: List.range' (k + 1) l.length) a w
    unfold wpOpsIn
    simp only [h0]
    unfold listIn at h
    split
    · rename_i hw
      rw [if_pos hw] at h
      exact ⟨h.1, by
        have h2 := h.2
        revert h2
        generalize (o.semAt (Wd r).round a.eval).run P w = res
        intro h2
        match res, h2 with
        | .ok (.value v) w', h2 => exact ih _ _ _ hl' h2
        | .ok .skip w', h2 => exact ih _ _ _ hl' h2
        | .ok (.defer d) w', h2 => exact ih _ _ _ hl' h2
        | .ok (.enter f args) w', h2 => exact ⟨h2.1, h2.2.mono fun e w2 hq => by cases e with | returned v => exact ih _ _ _ hl' hq | panicked ch => exact hq | outgrown => exact hq⟩
        | .ok (.row row args) w', h2 => exact ⟨h2.1, h2.2.mono fun v w2 hq => ih _ _ _ hl' hq⟩
        | .ok (.round l2 f tmps as b) w', h2 => exact ⟨h2.1, h2.2.mono fun e w2 hq => by cases e with | returned v => exact ih _ _ _ hl' hq | panicked ch => exact hq | outgrown => exact hq⟩
        | .halt (.panic v) w', h2 => exact h2⟩
    · rename_i hw
      rw [if_neg hw] at h
      exact ⟨fun _ _ => trivial, ih _ _ _ hl' h⟩
theorem wpIn_list {P : Program} {r : Option Nat} {id : Nat} {ops : Array Oper} {Q : Exit → Act → World → Prop} {a : Act} {w : World} (h : listIn r P ops Q ops.toList a w) : (Code.region id ops false).wpIn (Wd r) 0 P Q a w :=
  wpIn_region (by
    have := opsIn_eq ops.toList 0 a w (fun j => by simp) h
    rw [List.range_eq_range', ← Array.length_toList]; exact this)
end Go.Dl


