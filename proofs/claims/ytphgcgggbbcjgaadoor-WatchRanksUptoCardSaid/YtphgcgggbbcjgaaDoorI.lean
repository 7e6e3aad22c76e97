/- A sample taken: the two ways are the same for a fit alarm and state. -/
import Derived.Test.YtphgcgggbbcjgaaDoorH
namespace Go.Proofs.YtphgcgggbbcjgaaDoor
open Go.RowKit Go.Dl
theorem flow_iff {x : Int} : flowB x = true ↔ -2147483647 ≤ x ∧ x ≤ 2147483647 := by unfold flowB; simp
theorem fit_iff {a : Al} : fitA a = true ↔ (1 ≤ a.kind ∧ a.kind ≤ 4) ∧ (-2147483647 ≤ a.low ∧ a.low ≤ 2147483647) ∧ (-2147483647 ≤ a.high ∧ a.high ≤ 2147483647) ∧ a.low ≤ a.high ∧ (a.kind = 4 → 0 ≤ a.low) ∧ 1 ≤ a.hold ∧ a.hold ≤ 1000 := by
  unfold fitA
  simp only [Bool.cond_false_right, Bool.and_eq_true, decide_eq_true_eq, flow_iff, and_assoc]
  have e : (bif a.kind != 4 then true else decide (0 ≤ a.low)) = true ↔ (a.kind = 4 → 0 ≤ a.low) := by
    by_cases h : a.kind = 4 <;> simp [h]
  rw [e]
theorem state_iff {a : Al} {s : Wt} : stateB a s = true ↔ fitA a = true ∧ 0 ≤ s.run ∧ s.run < a.hold ∧ flowB s.last = true ∧ (s.has = false → s.last = 0) ∧ (s.on = false → s.acked = false ∧ s.since = 0) ∧ 0 ≤ s.since ∧ s.since ≤ 1099511627776 := by
  unfold stateB
  cases h1 : s.has <;> cases h2 : s.on <;> cases h3 : s.acked <;> simp [and_assoc]
theorem take13_D (a : Al) (s : Wt) (m : Sm) (hf : fitA a = true) (hr : 0 ≤ s.run ∧ s.run < a.hold) : DPure Tryd.prog 13 [.agg (alD a), .agg (wtD s), .agg (smD m)] (.tup [.agg (wtD (takeT a s m).1), int1 (takeT a s m).2]) := by
  have h := fit_iff.1 hf
  obtain ⟨k, l, u, o⟩ := a
  obtain ⟨on, r, ha, la, ac, si⟩ := s
  simp only at h hr
  have hR : RunOk ⟨k, l, u, o⟩ ⟨on, r, ha, la, ac, si⟩ := ⟨hr.1, hr.2, h.2.2.2.2.2.2⟩
  have hk : k = 1 ∨ k = 2 ∨ k = 3 ∨ k = 4 := by omega
  rcases hk with rfl | rfl | rfl | rfl <;> cases on
  · exact take13_1f l u o r la si ha ac m hR
  · exact take13_1t l u o r la si ha ac m hR
  · exact take13_2f l u o r la si ha ac m hR
  · exact take13_2t l u o r la si ha ac m hR
  · exact take13_3f l u o r la si ha ac m hR
  · exact take13_3t l u o r la si ha ac m hR
  · exact take13_4f l u o r la si ha ac m hR
  · exact take13_4t l u o r la si ha ac m hR
theorem sample_iff {m : Sm} : sampleB m = true ↔ (0 ≤ m.tick ∧ m.tick ≤ 1099511627776) ∧ flowB m.value = true ∧ (m.has = false → m.value = 0) := by
  unfold sampleB
  cases h1 : m.has <;> simp [and_assoc]
/-- The state stays fit. -/
theorem take_fit {a : Al} {s : Wt} {m : Sm} (h : stateB a s = true) (hm : sampleB m = true) : stateB a (takeT a s m).1 = true := by
  obtain ⟨h0, h1, h2, h3, h4, h5, h6, h7⟩ := state_iff.1 h
  have hf := fit_iff.1 h0
  obtain ⟨g1, g2, g3⟩ := sample_iff.1 hm
  rw [state_iff]
  refine ⟨h0, ?_⟩
  by_cases hh : m.has = true
  · have hw : IntKind.i64.wrap (s.run + 1) = s.run + 1 := wrapI (by omega) (by omega)
    rw [takeT, if_pos hh, hw]
    have hr : 0 ≤ (if speaksB a s m.value = true then s.run + 1 else 0) ∧ (if speaksB a s m.value = true then s.run + 1 else 0) ≤ s.run + 1 := by split <;> omega
    generalize (if speaksB a s m.value = true then s.run + 1 else 0) = r at hr
    unfold turnT
    by_cases e : r = a.hold
    · rw [if_pos e]
      by_cases ho : s.on = true
      · rw [if_pos ho]
        exact ⟨Int.le_refl _, by simp only; omega, g2, (fun e => by simp at e), (fun _ => ⟨rfl, rfl⟩), Int.le_refl _, (by decide : (0 : Int) ≤ 1099511627776)⟩
      · rw [if_neg ho]
        exact ⟨Int.le_refl _, by simp only; omega, g2, (fun e => by simp at e), (fun e => by simp at e), g1.1, g1.2⟩
    · rw [if_neg e]
      exact ⟨hr.1, by simp only; omega, g2, (fun e => by simp at e), h5, h6, h7⟩
  · rw [takeT, if_neg hh]
    exact ⟨Int.le_refl _, by simp only; omega, h3, h4, h5, h6, h7⟩
end Go.Proofs.YtphgcgggbbcjgaaDoor
