/-
  The data-level logic, part 30: errors that are not nil.
-/
import Derived.Test.YtlchjjchgebfiaaGreatDoorDl29
namespace Go.Dl
open Go Go.RowKit
/-! ### Errors that are not nil -/
theorem qsem_errNe {P : Program} {s : Sto} {t te : TypeId} {ms : Array (String × TypeId)} {x : Operand} {yt : TypeId} {ρ : Operand → DV} {d : DV} (ht : P.underlying t = some (.interface ms)) (hx : ρ x = .ifc te d) : QSem P s (.binOp .neq t x (.const .nilIface) yt) ρ (.v (.bool true)) := by
  intro w0 F0 β w a hs hρ
  have h1 := hρ x
  rw [hx] at h1
  obtain ⟨y, ey⟩ := rv_ifc h1
  refine ⟨_, .data (.v _ rfl), fun o w' ho _ => ?_⟩
  have e2 : a.eval (.const .nilIface) = .nilIface := rfl
  have e3 : (eqGuard .neq t x (.const .nilIface) (.iface te y) .nilIface).run P w' = .ok () w' := by
    simp [eqGuard]
  simp only [execOp, ho, ey, e2, Sem.run_bind, e3, Result.andThen_ok, binOp, equal_errNil ht, Sem.run_pure, Bool.not_false]
theorem qsem_nilNe {P : Program} {s : Sto} {t : TypeId} {ms : Array (String × TypeId)} {x : Operand} {yt : TypeId} {ρ : Operand → DV} (ht : P.underlying t = some (.interface ms)) (hx : ρ x = .v .nilIface) : QSem P s (.binOp .neq t x (.const .nilIface) yt) ρ (.v (.bool false)) := by
  intro w0 F0 β w a hs hρ
  have h1 := hρ x
  rw [hx] at h1
  have ey := rv_v h1
  refine ⟨_, .data (.v _ rfl), fun o w' ho _ => ?_⟩
  have e2 : a.eval (.const .nilIface) = .nilIface := rfl
  have e3 : (eqGuard .neq t x (.const .nilIface) .nilIface .nilIface).run P w' = .ok () w' := by
    simp [eqGuard]
  simp only [execOp, ho, ey, e2, Sem.run_bind, e3, Result.andThen_ok, binOp, equal_nilNil ht, Sem.run_pure, Bool.not_true]
theorem dq_errNe {P : Program} {s : Sto} {t te : TypeId} {ms : Array (String × TypeId)} {x : Operand} {yt : TypeId} {ρ : Operand → DV} {d : DV} {g : Bool} {K : DV → Prop} (ht : P.underlying t = some (.interface ms)) (hx : ρ x = .ifc te d) (hK : K (.v (.bool true))) :
    ∃ d, (g = true → QSem P s (.binOp .neq t x (.const .nilIface) yt) ρ d) ∧ K d := ⟨_, fun _ => qsem_errNe ht hx, hK⟩
theorem dq_nilNe {P : Program} {s : Sto} {t : TypeId} {ms : Array (String × TypeId)} {x : Operand} {yt : TypeId} {ρ : Operand → DV} {g : Bool} {K : DV → Prop} (ht : P.underlying t = some (.interface ms)) (hx : ρ x = .v .nilIface) (hK : K (.v (.bool false))) :
    ∃ d, (g = true → QSem P s (.binOp .neq t x (.const .nilIface) yt) ρ d) ∧ K d := ⟨_, fun _ => qsem_nilNe ht hx, hK⟩
end Go.Dl
