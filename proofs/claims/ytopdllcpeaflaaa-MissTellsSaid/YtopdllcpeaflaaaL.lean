/- The law of drops. -/
import Derived.Test.YtopdllcpeaflaaaK
namespace Go.Proofs.Ytopdllcpeaflaaa
open Go.RowKit Go.Dl
attribute [local irreducible] Tri SCall DFun QSem PCall GCall MCall Round Weak dloadE OW DWl Tells IntKind.wrap Retold

structure DropI where
  k : Nat
  g : HalfL
def okH (g : HalfL) : Prop := 0 ≤ g.miss ∧ g.miss < 3 ∧ g.lines.length ≤ 1000000 ∧ (g.pend = false → g.miss = 0)
theorem fit_ok {id : Int} {hf : HalfL} (h : fitB id hf = true) : okH hf := by
  simp [fitB, fitH] at h
  refine ⟨by omega, by omega, by omega, fun h' => ?_⟩
  simp [h'] at h
  omega
theorem left_rng {g : HalfL} (h : okH g) : 1 ≤ leftH g ∧ leftH g ≤ 4 := by
  obtain ⟨h1, h2, h3, h4⟩ := h
  unfold leftH; split <;> omega
theorem turn_last {g : HalfL} (h : okH g) (h1 : leftH g = 1) : turnH g = (half0, 2) := by
  obtain ⟨k1, k2, k3, k4⟩ := h
  unfold leftH at h1
  unfold turnH
  cases hp : g.pend with
  | false => simp [hp] at h1
  | true => simp [hp] at h1 ⊢; omega
theorem turn_next {g : HalfL} (h : okH g) (h1 : leftH g ≠ 1) : (turnH g).2 = 1 ∧ (turnH g).1.pend = true ∧ leftH (turnH g).1 = leftH g - 1 ∧ (turnH g).1.peer = g.peer ∧ okH (turnH g).1 ∧ (turnH g).1.lines = g.lines := by
  obtain ⟨k1, k2, k3, k4⟩ := h
  unfold leftH at h1
  unfold turnH
  cases hp : g.pend with
  | false => simp [hp, leftH, k4 hp, okH, k3]
  | true =>
    simp [hp] at h1
    have : ¬ 3 ≤ g.miss + 1 := by omega
    simp [hp, leftH, okH, this, k3]
    omega

def dropSt (hf : HalfL) (x : DropI) : St :=
  ⟨0, tmOf [(3, .ref 0 0), (5, .v (.int .i64 (leftH hf))), (6, .ref 1 0), (7, .v (.int .i64 x.k))], .of [(0, ⟨24, 6, halfC hf⟩), (1, ⟨24, 6, halfC x.g⟩)] 2⟩
def dropPre (hf : HalfL) (x : DropI) : Prop :=
  1 ≤ x.k ∧ (x.k : Int) ≤ leftH hf + 1 ∧ ((x.k : Int) ≤ leftH hf → okH x.g ∧ leftH x.g = leftH hf + 1 - x.k ∧ x.g.peer = hf.peer) ∧ ((x.k : Int) = leftH hf + 1 → x.g = half0)

theorem drop_case {hf : HalfL} {x : DropI} (hx : dropPre hf x) (hk : decide ((x.k : Int) ≤ leftH hf) = true) : ((x.k : Int) = leftH hf ∧ turnH x.g = (half0, 2)) ∨
    ((x.k : Int) < leftH hf ∧ (turnH x.g).2 = 1 ∧ (turnH x.g).1.pend = true ∧ leftH (turnH x.g).1 = leftH hf - x.k ∧ (turnH x.g).1.peer = hf.peer ∧ okH (turnH x.g).1) := by
  obtain ⟨h1, h2, h3, h4⟩ := hx
  simp only [decide_eq_true_eq] at hk
  obtain ⟨k1, k2, k3⟩ := h3 hk
  by_cases h : leftH x.g = 1
  · exact .inl ⟨by omega, turn_last k1 h⟩
  · obtain ⟨g1, g2, g3, g4, g5, g6⟩ := turn_next k1 h
    have := left_rng k1
    exact .inr ⟨by omega, g1, g2, by omega, by rw [g4, k3], g5⟩

theorem drops_D (id : Int) (hf : HalfL) : DPure Try.prog 4 [.v (.int .i64 id), halfD hf] (.v (.bool true)) := by
  have hD := fit15_D id hf
  cases hfit : fitB id hf with
  | false =>
    rw [hfit] at hD
    refine DFun.body Try.func4 rfl (by kernel_rfl) ?_
    repeat' (first | with_reducible rfl | ((conv => whnf); first | refine And.intro ?_ ?_ | (intro h; first | exact Bool.noConfusion h | with_reducible exact h | (have ht : true = true := h; clear ht h) | skip) | ((with_reducible refine DWl.mark ?_); repeat' (first | refine DWl.cons ?_ ?_ | exact DWl.nil | exact DW.same _ rfl | exact DW.ref _ _ _ rfl | exact DW.arr _ _ _ rfl | exact DW.nilLst _ | refine DW.aggl ?_ | refine DW.tupl ?_ | refine DW.clol ?_ ?_ | refine DW.int ?_ | refine DW.bool ?_ | refine DW.str ?_)) | ((with_reducible refine SCall.mark ?_); first | refine SCall.data (hD) rfl rfl ?_ | refine SCall.data (awake_D) rfl rfl ?_) | ((with_reducible refine GCall.mark ?_); first | refine GCall.data (fun _ => hD) rfl rfl ?_ | refine GCall.data (fun _ => awake_D) rfl rfl ?_) | ((with_reducible refine MCall.mark ?_); first | refine MCall.data (fun _ => hD) rfl rfl ?_ | refine MCall.data (fun _ => awake_D) rfl rfl ?_) | refine dcell_ok rfl ?_))
    all_goals first | rfl | trivial | assumption | exact Nat.le_of_ble_eq_true rfl | (show entersB _ _ = true; kernel_rfl) | exact DW.same _ rfl | exact DW.ref _ _ _ rfl | exact DW.arr _ _ _ rfl | refine DW.int ?_ | refine dvb ?_ | exact OW.cells rfl rfl (DWl.same rfl) | skip
    all_goals repeat' (first | exact OW.cells rfl rfl (DWl.same rfl) | refine OW.cells rfl rfl ?_ | exact DW.nilArr _ rfl | refine DW.clol ?_ ?_ | refine DWl.cons ?_ ?_ | exact DWl.nil | exact DW.same _ rfl | exact DW.ref _ _ _ rfl | exact DW.arr _ _ _ rfl | refine DW.int ?_)
    all_goals try (simp_all; done)
    all_goals try (simp at *; omega)
  | true =>
    rw [hfit] at hD
    have hok := fit_ok hfit
    have hr := left_rng hok
    obtain ⟨f1, f2, f3, f4⟩ := hok
    refine DFun.body Try.func4 rfl (by kernel_rfl) ?_
    repeat' (first | with_reducible rfl | ((conv => whnf); first | refine And.intro ?_ ?_ | (intro h; first | exact Bool.noConfusion h | with_reducible exact h | (have ht : true = true := h; clear ht h) | skip) | ((with_reducible refine DWl.mark ?_); repeat' (first | refine DWl.cons ?_ ?_ | exact DWl.nil | exact DW.same _ rfl | exact DW.ref _ _ _ rfl | exact DW.arr _ _ _ rfl | exact DW.nilLst _ | refine DW.aggl ?_ | refine DW.tupl ?_ | refine DW.clol ?_ ?_ | refine DW.int ?_ | refine DW.bool ?_ | refine DW.str ?_)) | ((with_reducible refine SCall.mark ?_); first | refine SCall.data (hD) rfl rfl ?_ | refine SCall.data (awake_D) rfl rfl ?_ | refine SCall.scal (awake_D) rfl rfl ?_ | refine SCall.data (left17_D hf f1 f2) rfl rfl ?_ | refine SCall.data (turn_D _ ?_ ?_ ?_) rfl rfl ?_ | refine SCall.scal (same_D half0 half0) rfl rfl ?_ | refine SCall.scalT (same_D half0 half0) ?_ rfl ?_) | ((with_reducible refine PCall.mark ?_); first | refine PCall.mk (awake_D) rfl rfl ?_ | refine PCall.tell (fun _ => same_D half0 half0) ?_ rfl ?_) | ((with_reducible refine GCall.mark ?_); first | refine GCall.data (fun _ => hD) rfl rfl ?_ | refine GCall.data (fun _ => awake_D) rfl rfl ?_ | refine GCall.scal (fun _ => awake_D) rfl rfl ?_ | refine GCall.data (fun _ => left17_D hf f1 f2) rfl rfl ?_ | refine GCall.scal (fun _ => left17_D _ ?_ ?_) rfl rfl ?_ | refine GCall.scal (fun _ => same_D half0 half0) rfl rfl ?_ | refine GCall.scalT (fun _ => same_D half0 half0) ?_ rfl ?_) | ((with_reducible refine MCall.mark ?_); first | refine MCall.data (fun _ => hD) rfl rfl ?_ | refine MCall.data (fun _ => awake_D) rfl rfl ?_ | refine MCall.plain (PCall.mk (awake_D) rfl rfl ?_) | refine MCall.data (fun _ => left17_D hf f1 f2) rfl rfl ?_ | refine MCall.plain (PCall.tell (fun _ => same_D half0 half0) ?_ rfl ?_)) | ((with_reducible refine Tri.mark ?_); first | refine Tri.loop (dropSt hf) (dropPre hf) (fun x => (leftH hf + 1 - x.k).toNat) (⟨1, hf⟩) (by kernel_rfl) (Weak.list [(0, some 0), (1, some 1)] [] ?_ ?_ ?_) ?_ ?_) | refine dcell_ok rfl ?_))
    all_goals first | rfl | trivial | assumption | exact Nat.le_of_ble_eq_true rfl | (show entersB _ _ = true; kernel_rfl) | exact DW.same _ rfl | exact DW.ref _ _ _ rfl | exact DW.arr _ _ _ rfl | refine DW.int ?_ | refine dvb ?_ | exact OW.cells rfl rfl (DWl.same rfl) | exact Nat.zero_le _ | omega | skip
    all_goals repeat' (first | refine OW.cells rfl rfl ?_ | exact DW.nilArr _ rfl | refine DWl.cons ?_ ?_ | exact DWl.nil | exact DW.same _ rfl | exact DW.ref _ _ _ rfl | exact DW.arr _ _ _ rfl | exact DW.nilLst _ | refine DW.aggl ?_ | refine DW.tupl ?_ | refine DW.clol ?_ ?_)
    all_goals try ((conv => whnf); with_reducible first | refine Round.mark ?_ | refine Tells.mark ?_ | refine Retold.mark ?_)
    all_goals try first | (show (_ : Bool) = _; simp_all; done) | (show (_ : Int) < _; simp at *; omega) | (show (_ : Int) ≤ _; simp at *; omega) | (show (_ : Nat) < _; simp at *; omega) | (show (_ : Nat) ≤ _; simp at *; omega)
    · simp at h; omega
    · exact f4 h
    · show leftH hf = leftH hf + 1 - ((1 : Nat) : Int); omega
    · replace h : ((1 : Nat) : Int) = leftH hf + 1 := h
      omega
    · rename_i x hx; exact (hx.2.2.1 (by simpa using h)).1.2.2.1
    · rename_i x hx; exact (hx.2.2.1 (by simpa using h)).1.1
    · rename_i x hx; exact (hx.2.2.1 (by simpa using h)).1.2.1
    · rename_i x hx hk
      exfalso
      rcases drop_case hx hk with ⟨e1, e2⟩ | ⟨e1, e2, e3, e4, e5, e6⟩
      · simp [e1, e2] at h
      · have : ¬ (x.k : Int) = leftH hf := by omega
        simp [e2, this] at h
    · rename_i x hx hk hg
      rcases drop_case hx hk with ⟨e1, e2⟩ | ⟨e1, e2, e3, e4, e5, e6⟩
      · simp [e2] at hg
      · exact e6.1
    · rename_i x hx hk hg
      rcases drop_case hx hk with ⟨e1, e2⟩ | ⟨e1, e2, e3, e4, e5, e6⟩
      · simp [e2] at hg
      · exact e6.2.1
    · rename_i x hx hk _
      exfalso
      rcases drop_case hx hk with ⟨e1, e2⟩ | ⟨e1, e2, e3, e4, e5, e6⟩
      · simp [e2] at h
      · rw [wrapS (by omega) (by omega)] at h
        simp [e2, e3, e4, e5] at h
    · rename_i x hx hk _
      have hwk : IntKind.i64.wrap ((x.k : Int) + 1) = ((x.k + 1 : Nat) : Int) := by
        simp only [decide_eq_true_eq] at hk
        have := wrap64 (k := x.k + 1) (by omega)
        simpa using this
      refine Round.go (fun x => ⟨x.k + 1, (turnH x.g).1⟩) ?_ ?_ (Weak.list [(0, some 0), (1, some 1)] [] ?_ ?_ ?_)
      · have hk' := hk
        simp only [decide_eq_true_eq] at hk'
        rcases drop_case hx hk with ⟨e1, e2⟩ | ⟨e1, e2, e3, e4, e5, e6⟩
        · exact ⟨by simp, by simp only; omega, fun h => by simp only at h; omega, fun _ => by simp only; rw [e2]⟩
        · exact ⟨by simp, by simp only; omega, fun _ => ⟨e6, by simp only; omega, e5⟩, fun h => by simp only at h; omega⟩
      · simp only [decide_eq_true_eq] at hk
        show (leftH hf + 1 - ((x.k + 1 : Nat) : Int)).toNat < (leftH hf + 1 - (x.k : Int)).toNat
        omega
      · kernel_rfl
      · repeat' (first | exact hwk | exact DW.same _ rfl | exact DW.ref _ _ _ rfl | exact DW.arr _ _ _ rfl | exact OW.cells rfl rfl (DWl.same rfl) | refine OW.cells rfl rfl ?_ | refine DWl.cons ?_ ?_ | exact DWl.nil | exact DW.nilArr _ rfl | exact DW.nilLst _ | refine DW.clol ?_ ?_ | refine DW.aggl ?_ | refine DW.tupl ?_ | refine DW.int ?_ | refine DW.bool ?_ | refine DW.str ?_ | refine DW.arrE rfl ?_ | ((conv => whnf); first | refine And.intro ?_ ?_ | trivial))
      · repeat' (first | exact hwk | exact DW.same _ rfl | exact DW.ref _ _ _ rfl | exact DW.arr _ _ _ rfl | exact OW.cells rfl rfl (DWl.same rfl) | refine OW.cells rfl rfl ?_ | refine DWl.cons ?_ ?_ | exact DWl.nil | exact DW.nilArr _ rfl | exact DW.nilLst _ | refine DW.clol ?_ ?_ | refine DW.aggl ?_ | refine DW.tupl ?_ | refine DW.int ?_ | refine DW.bool ?_ | refine DW.str ?_ | refine DW.arrE rfl ?_ | ((conv => whnf); first | refine And.intro ?_ ?_ | trivial))
    all_goals
      rename_i x hx
      have e : x.g = half0 := hx.2.2.2 (by have := hx.2.1; simp at h; omega)
      first | exact DW.lstE (congrArg (fun g => List.map lineD (HalfL.lines g)) e) | rw [e]
end Go.Proofs.Ytopdllcpeaflaaa
