/- The law of what lives. -/
import Derived.Test.YtopdllcpeaflaaaL
namespace Go.Proofs.Ytopdllcpeaflaaa
open Go.RowKit Go.Dl
attribute [local irreducible] Tri SCall DFun QSem PCall GCall MCall Round Weak dloadE OW DWl Tells IntKind.wrap Retold

structure LiveI where
  k : Nat
  g : HalfL
  silent : Int
theorem heard_ok {g : HalfL} (h : okH g) : okH (heardH g) ∧ (heardH g).miss = 0 ∧ (heardH g).peer = g.peer ∧ (heardH g).lines = g.lines := ⟨⟨by simp [heardH], by simp [heardH], h.2.2.1, fun _ => rfl⟩, rfl, rfl, rfl⟩
theorem answered_ok {g : HalfL} (h : okH g) : okH (answeredH g) ∧ (answeredH g).miss = 0 ∧ (answeredH g).peer = g.peer ∧ (answeredH g).lines = g.lines := ⟨⟨by simp [answeredH], by simp [answeredH], h.2.2.1, fun _ => rfl⟩, rfl, rfl, rfl⟩
/-- A turn where at most one more miss is there than silent turns. -/
theorem turn_live {g : HalfL} {s : Int} (h : okH g) (hs : s ≤ 1) (hm : g.miss ≤ s) : (turnH g).2 = 1 ∧ okH (turnH g).1 ∧ (turnH g).1.miss ≤ s + 1 ∧ (turnH g).1.miss < 3 ∧ (turnH g).1.peer = g.peer ∧ (turnH g).1.lines = g.lines := by
  obtain ⟨k1, k2, k3, k4⟩ := h
  unfold turnH
  cases hp : g.pend with
  | false =>
    have : ¬ 3 ≤ g.miss := by omega
    simp [this, okH, k3]
    omega
  | true =>
    have : ¬ 3 ≤ g.miss + 1 := by omega
    simp [this, okH, k3, hp]
    omega
def liveSt (hf : HalfL) (l : List Int) (x : LiveI) : St :=
  ⟨0, tmOf [(4, .ref 0 0), (7, .ref 1 0), (8, .v (.int .i64 x.silent)), (19, .lst 1 (l.map intD)), (20, .v (.int .i64 (l.map intD).length)), (21, .v (.int .i64 x.k))], .of [(0, ⟨24, 6, halfC hf⟩), (1, ⟨24, 6, halfC x.g⟩)] 2⟩
def livePre (hf : HalfL) (l : List Int) (x : LiveI) : Prop :=
  x.k ≤ l.length ∧ 0 ≤ x.silent ∧ x.silent ≤ 2 ∧ okH x.g ∧ x.g.miss ≤ x.silent ∧ x.g.peer = hf.peer ∧ x.g.lines = hf.lines

theorem live_next {hf : HalfL} {l : List Int} {x : LiveI} {g : HalfL} {s : Int} (hx : livePre hf l x) (hk : decide ((x.k : Int) < ((l.map intD).length : Int)) = true) (h0 : 0 ≤ s) (hs : s ≤ 1) (hg : okH g) (hm : g.miss ≤ s) (hp : g.peer = hf.peer) (hl : g.lines = hf.lines) :
    livePre hf l ⟨x.k + 1, (turnH g).1, s + 1⟩ := by
  obtain ⟨e1, e2, e3, e4, e5, e6⟩ := turn_live hg hs hm
  simp at hk
  exact ⟨by simp only; omega, by simp only; omega, by simp only; omega, e2, e3, by rw [← hp, ← e5], by rw [← hl, ← e6]⟩
theorem live_no {g : HalfL} {s : Int} (hs : s ≤ 1) (hg : okH g) (hm : g.miss ≤ s) (h : (bif (turnH g).2 != 1 then true else decide (3 ≤ (turnH g).1.miss)) = true) : False := by
  obtain ⟨e1, e2, e3, e4, e5, e6⟩ := turn_live hg hs hm
  simp [e1] at h
  omega
theorem live_wrap {l : List Int} {x : LiveI} (hn : l.length * 8 ≤ 140737488355328) (hk : decide ((x.k : Int) < ((l.map intD).length : Int)) = true) : IntKind.i64.wrap ((x.k : Int) + 1) = ((x.k + 1 : Nat) : Int) := by
  simp at hk
  have := wrap64 (k := x.k + 1) (by omega)
  simpa using this

set_option maxHeartbeats 4000000 in
theorem lives_D (id : Int) (hf : HalfL) (l : List Int) (hn : l.length * 8 ≤ 140737488355328) : DPure Try.prog 5 [.v (.int .i64 id), halfD hf, .lst 1 (l.map intD)] (.v (.bool true)) := by
  have hD := fit15_D id hf
  cases hfit : fitB id hf with
  | false =>
    rw [hfit] at hD
    refine DFun.body Try.func5 rfl (by kernel_rfl) ?_
    repeat' (first | with_reducible rfl | ((conv => whnf); first | refine And.intro ?_ ?_ | (intro h; first | exact Bool.noConfusion h | with_reducible exact h | (have ht : true = true := h; clear ht h) | skip) | ((with_reducible refine DWl.mark ?_); repeat' (first | refine DWl.cons ?_ ?_ | exact DWl.nil | exact DW.same _ rfl | exact DW.ref _ _ _ rfl | exact DW.arr _ _ _ rfl | exact DW.nilLst _ | refine DW.aggl ?_ | refine DW.tupl ?_ | refine DW.clol ?_ ?_ | refine DW.int ?_ | refine DW.bool ?_ | refine DW.str ?_)) | ((with_reducible refine SCall.mark ?_); first | refine SCall.data (hD) rfl rfl ?_ | refine SCall.data (awake_D) rfl rfl ?_) | ((with_reducible refine GCall.mark ?_); first | refine GCall.data (fun _ => hD) rfl rfl ?_ | refine GCall.data (fun _ => awake_D) rfl rfl ?_) | ((with_reducible refine MCall.mark ?_); first | refine MCall.data (fun _ => hD) rfl rfl ?_ | refine MCall.data (fun _ => awake_D) rfl rfl ?_) | refine dcell_ok rfl ?_))
    all_goals first | rfl | trivial | assumption | exact Nat.le_of_ble_eq_true rfl | (show entersB _ _ = true; kernel_rfl) | exact DW.same _ rfl | exact DW.ref _ _ _ rfl | exact DW.arr _ _ _ rfl | refine DW.int ?_ | refine dvb ?_ | exact OW.cells rfl rfl (DWl.same rfl) | skip
    all_goals repeat' (first | exact OW.cells rfl rfl (DWl.same rfl) | refine OW.cells rfl rfl ?_ | exact DW.nilArr _ rfl | refine DW.clol ?_ ?_ | refine DWl.cons ?_ ?_ | exact DWl.nil | exact DW.same _ rfl | exact DW.ref _ _ _ rfl | exact DW.arr _ _ _ rfl | refine DW.int ?_)
    all_goals try (simp_all; done)
    all_goals try (simp at *; omega)
  | true =>
    rw [hfit] at hD
    have hok := fit_ok hfit
    obtain ⟨f1, f2, f3, f4⟩ := hok
    refine DFun.body Try.func5 rfl (by kernel_rfl) ?_
    repeat' (first | with_reducible rfl | ((conv => whnf); first | refine And.intro ?_ ?_ | (intro h; first | exact Bool.noConfusion h | with_reducible exact h | (have ht : true = true := h; clear ht h) | skip) | ((with_reducible refine DWl.mark ?_); repeat' (first | refine DWl.cons ?_ ?_ | exact DWl.nil | exact DW.same _ rfl | exact DW.ref _ _ _ rfl | exact DW.arr _ _ _ rfl | exact DW.nilLst _ | refine DW.aggl ?_ | refine DW.tupl ?_ | refine DW.clol ?_ ?_ | refine DW.int ?_ | refine DW.bool ?_ | refine DW.str ?_)) | ((with_reducible refine SCall.mark ?_); first | refine SCall.data (hD) rfl rfl ?_ | refine SCall.data (awake_D) rfl rfl ?_ | refine SCall.scal (awake_D) rfl rfl ?_ | refine SCall.data (turn_D _ ?_ ?_ ?_) rfl rfl ?_ | refine SCall.data (heard_D _ ?_) rfl rfl ?_ | refine SCall.data (answered_D _ ?_) rfl rfl ?_) | ((with_reducible refine PCall.mark ?_); first | refine PCall.mk (awake_D) rfl rfl ?_) | ((with_reducible refine GCall.mark ?_); first | refine GCall.data (fun _ => hD) rfl rfl ?_ | refine GCall.data (fun _ => awake_D) rfl rfl ?_ | refine GCall.scal (fun _ => awake_D) rfl rfl ?_) | ((with_reducible refine MCall.mark ?_); first | refine MCall.data (fun _ => hD) rfl rfl ?_ | refine MCall.data (fun _ => awake_D) rfl rfl ?_ | refine MCall.plain (PCall.mk (awake_D) rfl rfl ?_)) | ((with_reducible refine Tri.mark ?_); first | refine Tri.loop (liveSt hf l) (livePre hf l) (fun x => l.length - x.k) (⟨0, heardH hf, 0⟩) (by kernel_rfl) (Weak.list [(0, some 0), (1, some 1)] [] ?_ ?_ ?_) ?_ ?_) | refine dloadE_map (0) ?_ ?_ | refine dcell_ok rfl ?_))
    all_goals first | rfl | trivial | assumption | exact Nat.le_of_ble_eq_true rfl | (show entersB _ _ = true; kernel_rfl) | exact DW.same _ rfl | exact DW.ref _ _ _ rfl | exact DW.arr _ _ _ rfl | refine DW.int ?_ | refine dvb ?_ | exact OW.cells rfl rfl (DWl.same rfl) | exact Nat.zero_le _ | omega | skip
    all_goals repeat' (first | refine OW.cells rfl rfl ?_ | exact DW.nilArr _ rfl | refine DWl.cons ?_ ?_ | exact DWl.nil | exact DW.same _ rfl | exact DW.ref _ _ _ rfl | exact DW.arr _ _ _ rfl | exact DW.nilLst _ | refine DW.aggl ?_ | refine DW.tupl ?_ | refine DW.clol ?_ ?_)
    all_goals try ((conv => whnf); with_reducible first | refine Round.mark ?_ | refine Tells.mark ?_ | refine Retold.mark ?_)
    all_goals try first | (show (_ : Bool) = _; simp_all; done) | (show (_ : Int) < _; simp at *; omega) | (show (_ : Int) ≤ _; simp at *; omega) | (show (_ : Nat) < _; simp at *; omega) | (show (_ : Nat) ≤ _; simp at *; omega)
    iterate 5 (· first | exact Int.le_refl 0 | exact (by decide : (0 : Int) ≤ 2) | exact (by decide : (0 : Int) < 3))
    · rename_i x hx hk _; exact hx.2.2.2.1.2.2.1
    · rename_i x hx hk _; exact (heard_ok hx.2.2.2.1).1.2.2.1
    · rename_i x hx hk _; exact (heard_ok hx.2.2.2.1).1.1
    · rename_i x hx hk _; exact (heard_ok hx.2.2.2.1).1.2.1
    · rename_i x hx hk _ _
      obtain ⟨g1, g2, g3, g4⟩ := heard_ok hx.2.2.2.1
      exact (live_no (s := 0) (by omega) g1 (by omega) h).elim
    · rename_i x hx hk _ _
      have hwk := live_wrap hn hk
      have hws : IntKind.i64.wrap (0 + 1) = (0 : Int) + 1 := wrapS (by omega) (by omega)
      have gg := heard_ok hx.2.2.2.1
      have g1 := gg.1
      have g2 := gg.2.1
      have g3 := gg.2.2.1
      have g4 := gg.2.2.2
      refine Round.go (fun x => ⟨x.k + 1, (turnH (heardH x.g)).1, 0 + 1⟩) ?_ ?_ (Weak.list [(0, some 0), (1, some 1)] [] ?_ ?_ ?_)
      · exact live_next hx hk (Int.le_refl 0) (by omega) g1 (by omega) (by rw [g3, hx.2.2.2.2.2.1]) (by rw [g4, hx.2.2.2.2.2.2])
      · first | omega | (simp at *; omega)
      · kernel_rfl
      · repeat' (first | exact hwk | exact hws | exact DW.same _ rfl | exact DW.ref _ _ _ rfl | exact DW.arr _ _ _ rfl | exact OW.cells rfl rfl (DWl.same rfl) | refine OW.cells rfl rfl ?_ | refine DWl.cons ?_ ?_ | exact DWl.nil | exact DW.nilArr _ rfl | exact DW.nilLst _ | refine DW.clol ?_ ?_ | refine DW.aggl ?_ | refine DW.tupl ?_ | refine DW.int ?_ | refine DW.bool ?_ | refine DW.str ?_ | refine DW.arrE rfl ?_ | ((conv => whnf); first | refine And.intro ?_ ?_ | trivial))
      · repeat' (first | exact hwk | exact hws | exact DW.same _ rfl | exact DW.ref _ _ _ rfl | exact DW.arr _ _ _ rfl | exact OW.cells rfl rfl (DWl.same rfl) | refine OW.cells rfl rfl ?_ | refine DWl.cons ?_ ?_ | exact DWl.nil | exact DW.nilArr _ rfl | exact DW.nilLst _ | refine DW.clol ?_ ?_ | refine DW.aggl ?_ | refine DW.tupl ?_ | refine DW.int ?_ | refine DW.bool ?_ | refine DW.str ?_ | refine DW.arrE rfl ?_ | ((conv => whnf); first | refine And.intro ?_ ?_ | trivial))
    · rename_i x hx hk _; exact hx.2.2.2.1.2.2.1
    · rename_i x hx hk _; exact (answered_ok hx.2.2.2.1).1.2.2.1
    · rename_i x hx hk _; exact (answered_ok hx.2.2.2.1).1.1
    · rename_i x hx hk _; exact (answered_ok hx.2.2.2.1).1.2.1
    · rename_i x hx hk _ _
      have hwk := live_wrap hn hk
      have hws : IntKind.i64.wrap (0 + 1) = (0 : Int) + 1 := wrapS (by omega) (by omega)
      have gg := answered_ok hx.2.2.2.1
      have g1 := gg.1
      have g2 := gg.2.1
      have g3 := gg.2.2.1
      have g4 := gg.2.2.2
      refine Round.go (fun x => ⟨x.k + 1, (turnH (answeredH x.g)).1, 0 + 1⟩) ?_ ?_ (Weak.list [(0, some 0), (1, some 1)] [] ?_ ?_ ?_)
      · exact live_next hx hk (Int.le_refl 0) (by omega) g1 (by omega) (by rw [g3, hx.2.2.2.2.2.1]) (by rw [g4, hx.2.2.2.2.2.2])
      · first | omega | (simp at *; omega)
      · kernel_rfl
      · repeat' (first | exact hwk | exact hws | exact DW.same _ rfl | exact DW.ref _ _ _ rfl | exact DW.arr _ _ _ rfl | exact OW.cells rfl rfl (DWl.same rfl) | refine OW.cells rfl rfl ?_ | refine DWl.cons ?_ ?_ | exact DWl.nil | exact DW.nilArr _ rfl | exact DW.nilLst _ | refine DW.clol ?_ ?_ | refine DW.aggl ?_ | refine DW.tupl ?_ | refine DW.int ?_ | refine DW.bool ?_ | refine DW.str ?_ | refine DW.arrE rfl ?_ | ((conv => whnf); first | refine And.intro ?_ ?_ | trivial))
      · repeat' (first | exact hwk | exact hws | exact DW.same _ rfl | exact DW.ref _ _ _ rfl | exact DW.arr _ _ _ rfl | exact OW.cells rfl rfl (DWl.same rfl) | refine OW.cells rfl rfl ?_ | refine DWl.cons ?_ ?_ | exact DWl.nil | exact DW.nilArr _ rfl | exact DW.nilLst _ | refine DW.clol ?_ ?_ | refine DW.aggl ?_ | refine DW.tupl ?_ | refine DW.int ?_ | refine DW.bool ?_ | refine DW.str ?_ | refine DW.arrE rfl ?_ | ((conv => whnf); first | refine And.intro ?_ ?_ | trivial))
    · rename_i x hx hk; exact hx.2.2.2.1.2.2.1
    · rename_i x hx hk; exact hx.2.2.2.1.1
    · rename_i x hx hk; exact hx.2.2.2.1.2.1
    · rename_i x hx hk h1
      obtain ⟨q1, q2, q3, q4, q5, q6, q7⟩ := hx
      have hs : x.silent ≤ 1 := by
        have : ¬ x.silent = 2 := fun e => by simp [e] at h1
        omega
      exact (live_no hs q4 q5 h).elim
    · rename_i x hx hk h1
      have hwk := live_wrap hn hk
      have q2 := hx.2.1
      have q3 := hx.2.2.1
      have q4 := hx.2.2.2.1
      have q5 := hx.2.2.2.2.1
      have q6 := hx.2.2.2.2.2.1
      have q7 := hx.2.2.2.2.2.2
      have hs : x.silent ≤ 1 := by
        have : ¬ x.silent = 2 := fun e => by simp [e] at h1
        omega
      have hws : IntKind.i64.wrap (x.silent + 1) = x.silent + 1 := wrapS (by omega) (by omega)
      refine Round.go (fun x => ⟨x.k + 1, (turnH x.g).1, x.silent + 1⟩) ?_ ?_ (Weak.list [(0, some 0), (1, some 1)] [] ?_ ?_ ?_)
      · exact live_next hx hk q2 hs q4 q5 q6 q7
      · first | omega | (simp at *; omega)
      · kernel_rfl
      · repeat' (first | exact hwk | exact hws | exact DW.same _ rfl | exact DW.ref _ _ _ rfl | exact DW.arr _ _ _ rfl | exact OW.cells rfl rfl (DWl.same rfl) | refine OW.cells rfl rfl ?_ | refine DWl.cons ?_ ?_ | exact DWl.nil | exact DW.nilArr _ rfl | exact DW.nilLst _ | refine DW.clol ?_ ?_ | refine DW.aggl ?_ | refine DW.tupl ?_ | refine DW.int ?_ | refine DW.bool ?_ | refine DW.str ?_ | refine DW.arrE rfl ?_ | ((conv => whnf); first | refine And.intro ?_ ?_ | trivial))
      · repeat' (first | exact hwk | exact hws | exact DW.same _ rfl | exact DW.ref _ _ _ rfl | exact DW.arr _ _ _ rfl | exact OW.cells rfl rfl (DWl.same rfl) | refine OW.cells rfl rfl ?_ | refine DWl.cons ?_ ?_ | exact DWl.nil | exact DW.nilArr _ rfl | exact DW.nilLst _ | refine DW.clol ?_ ?_ | refine DW.aggl ?_ | refine DW.tupl ?_ | refine DW.int ?_ | refine DW.bool ?_ | refine DW.str ?_ | refine DW.arrE rfl ?_ | ((conv => whnf); first | refine And.intro ?_ ?_ | trivial))
    · rename_i x hx
      obtain ⟨q1, q2, q3, q4, q5, q6, q7⟩ := hx
      simp [q6, q7]
end Go.Proofs.Ytopdllcpeaflaaa
