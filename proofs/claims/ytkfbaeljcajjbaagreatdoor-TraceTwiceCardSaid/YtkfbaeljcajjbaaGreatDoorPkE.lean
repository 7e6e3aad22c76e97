/- The reader of a line: a word, a number, a place among words. -/
import Derived.Test.YtkfbaeljcajjbaaGreatDoorPkC
import Derived.Test.YtkfbaeljcajjbaaGreatDoorPkA

namespace Go.Proofs.YtkfbaeljcajjbaaGreatDoor
open Go.RowKit Go.Dl
attribute [local irreducible] Tri SCall TSem ECall Drawn DFun QSem PSem PCall GCall MCall Round Weak dloadE OW DWl Tells IntKind.wrap Retold ESem
theorem drop_at {α : Type} {l : List α} {d : α} {i : Nat} (h : i < l.length) : l.drop i = l.getD i d :: l.drop (i + 1) := by
  rw [List.getD_eq_getElem?_getD, List.getElem?_eq_getElem h]; exact List.drop_eq_getElem_cons h
theorem ixs_yes {l : List ByteArray} {x : ByteArray} {i : Nat} (h : i < l.length) (e : (x == l.getD i ByteArray.empty) = true) : idxS x (l.drop i) i = i := by
  rw [drop_at (d := ByteArray.empty) h, idxS, if_pos e]
theorem ixs_no {l : List ByteArray} {x : ByteArray} {i : Nat} (h : i < l.length) (e : (x == l.getD i ByteArray.empty) = false) : idxS x (l.drop i) i = idxS x (l.drop (i + 1)) (i + 1) := by
  rw [drop_at (d := ByteArray.empty) h, idxS, if_neg (by rw [e]; decide)]
theorem ixs_end {l : List ByteArray} {x : ByteArray} {i : Nat} (h : l.length ≤ i) : idxS x (l.drop i) i = -1 := by
  rw [List.drop_of_length_le h]; rfl
def ixSt (l : List ByteArray) (x : ByteArray) (i : Nat) : St := ⟨0, tmOf [(0, strs l), (1, .v (.string x)), (7, int1 (l.map strD).length), (8, int1 i)], .of [] 0⟩
set_option maxRecDepth 20000 in
theorem index45_D (l : List ByteArray) (x : ByteArray) : DPure Tryz.prog 45 [strs l, .v (.string x)] (int1 (idxS x l 0)) := by
  refine DFun.bound 0 rfl fun ha => ?_
  have ha : l.length ≤ 9223372036854775807 := by simpa [maxLen] using ha
  refine DFun.body Tryz.func45 rfl (by kernel_rfl) ?_
  repeat' (first | with_reducible rfl | ((conv => whnf); first | refine And.intro ?_ ?_ | (intro h; first | with_reducible exact tf_no h | with_reducible exact ft_no h | exact Bool.noConfusion h | with_reducible exact h | (have ht : true = true := h; clear ht h) | skip) | ((with_reducible refine DWl.mark ?_); repeat' (first | refine DWl.cons ?_ ?_ | exact DWl.nil | exact DW.same _ rfl | exact DW.ref _ _ _ rfl | exact DW.arr _ _ _ rfl | exact DW.sub _ _ _ _ rfl | exact DW.nilLst _ | refine DW.aggl ?_ | refine DW.tupl ?_ | refine DW.clol ?_ ?_ | refine DW.int ?_ | refine DW.bool ?_ | refine DW.str ?_)) | ((with_reducible refine Tri.mark ?_); first | refine Tri.loop (ixSt l x) (fun i => i ≤ l.length ∧ idxS x l 0 = idxS x (l.drop i) i) (fun i => l.length - i) (0) (by kernel_rfl) (Weak.list [] [] ?_ ?_ ?_) ?_ ?_) | ((with_reducible refine Round.mark ?_); first | refine Round.go ((· + 1)) ?_ ?_ (Weak.list [] [] ?_ ?_ ?_)) | ((with_reducible refine ECall.mark ?_); first | refine ECall.only ?_ (fun h => nomatch h) | refine ECall.only ?_ ?_) | ((with_reducible refine Drawn.mark ?_); first | refine Drawn.quiet (by kernel_rfl) ?_) | refine dloadE_map (ByteArray.empty) ?_ ?_ | refine dcell_ok rfl ?_ | refine AppC.new ?_))
  all_goals first | (with_reducible refine enters_mark ?_; kernel_rfl) | (with_reducible refine boolT_mark ?_; kernel_rfl) | rfl | trivial | assumption | exact Nat.le_of_ble_eq_true rfl | (show entersB _ _ = true; kernel_rfl) | exact DW.same _ rfl | exact DW.ref _ _ _ rfl | exact DW.arr _ _ _ rfl | refine DW.int ?_ | refine dvb ?_ | refine dvi ?_ | exact OW.cells rfl rfl (DWl.same rfl) | skip
  all_goals repeat' (first | exact OW.cells rfl rfl (DWl.same rfl) | refine OW.cells rfl rfl ?_ | exact DW.nilArr _ rfl | refine DW.clol ?_ ?_ | refine DWl.cons ?_ ?_ | exact DWl.nil | exact DW.same _ rfl | exact DW.ref _ _ _ rfl | exact DW.arr _ _ _ rfl | refine DW.int ?_)
  all_goals try (simp_all; done)
  all_goals try (simp at *; omega)
  · rename_i i hi e0
    exact (hi.2.trans (ixs_yes (lt_of_test e0) h)).symm
  · rename_i i hi e0
    exact hi.2.trans (ixs_no (lt_of_test e0) h)
  · rename_i i hi e0
    exact wsucc (lt_of_test e0) ha
  · rename_i i hi
    exact (hi.2.trans (ixs_end (ge_of_test h))).symm

theorem qsem_errNeG {P : Program} {s : Sto} {t te : TypeId} {ms : Array (String × TypeId)} {x : Operand} {yt : TypeId} {ρ : Operand → DV} {d : DV} (ht : P.underlying t = some (.interface ms)) (wx : wok (ρ x)) (hx : Go.Dl.str (ρ x) = .ifc te d) : QSem P s (.binOp .neq t x (.const .nilIface) yt) ρ (.v (.bool true)) := by
  unfold QSem
  intro w0 F0 β w a hs hρ
  have h1 := rv_str _ wx (hρ x)
  rw [hx] at h1
  obtain ⟨y, ey⟩ := rv_ifc h1
  refine ⟨_, .data (.v _ rfl), fun o w' ho _ => ?_⟩
  have e2 : a.eval (.const .nilIface) = .nilIface := rfl
  have e3 : (eqGuard .neq t x (.const .nilIface) (.iface te y) .nilIface).run P w' = .ok () w' := by
    simp [eqGuard]
  simp only [execOp, ho, ey, e2, Sem.run_bind, e3, Result.andThen_ok, binOp, equal_errNil ht, Sem.run_pure, Bool.not_false]
theorem qsem_nilNeG {P : Program} {s : Sto} {t : TypeId} {ms : Array (String × TypeId)} {x : Operand} {yt : TypeId} {ρ : Operand → DV} (ht : P.underlying t = some (.interface ms)) (wx : wok (ρ x)) (hx : Go.Dl.str (ρ x) = .v .nilIface) : QSem P s (.binOp .neq t x (.const .nilIface) yt) ρ (.v (.bool false)) := by
  unfold QSem
  intro w0 F0 β w a hs hρ
  have h1 := rv_str _ wx (hρ x)
  rw [hx] at h1
  have ey := rv_v h1
  refine ⟨_, .data (.v _ rfl), fun o w' ho _ => ?_⟩
  have e2 : a.eval (.const .nilIface) = .nilIface := rfl
  have e3 : (eqGuard .neq t x (.const .nilIface) .nilIface .nilIface).run P w' = .ok () w' := by
    simp [eqGuard]
  simp only [execOp, ho, ey, e2, Sem.run_bind, e3, Result.andThen_ok, binOp, equal_nilNil ht, Sem.run_pure, Bool.not_true]
theorem dq_errNeG {P : Program} {s : Sto} {t te : TypeId} {ms : Array (String × TypeId)} {x : Operand} {yt : TypeId} {ρ : Operand → DV} {d : DV} {g : Bool} {K : DV → Prop} (ht : P.underlying t = some (.interface ms)) (wx : g = true → wok (ρ x)) (hx : Go.Dl.str (ρ x) = .ifc te d) (hK : K (.v (.bool true))) :
    ∃ d, (g = true → QSem P s (.binOp .neq t x (.const .nilIface) yt) ρ d) ∧ K d := ⟨_, fun hg => qsem_errNeG ht (wx hg) hx, hK⟩
theorem dq_nilNeG {P : Program} {s : Sto} {t : TypeId} {ms : Array (String × TypeId)} {x : Operand} {yt : TypeId} {ρ : Operand → DV} {g : Bool} {K : DV → Prop} (ht : P.underlying t = some (.interface ms)) (wx : g = true → wok (ρ x)) (hx : Go.Dl.str (ρ x) = .v .nilIface) (hK : K (.v (.bool false))) :
    ∃ d, (g = true → QSem P s (.binOp .neq t x (.const .nilIface) yt) ρ d) ∧ K d := ⟨_, fun hg => qsem_nilNeG ht (wx hg) hx, hK⟩
/-- The reader's object. -/
def RO (r : RS) : Sto := .of [(0, ⟨53, 2, [strs r.1, bl r.2]⟩)] 1
theorem strs_drop (l : List ByteArray) : (l.map strD).drop (Int.toNat 1) = (l.drop 1).map strD := by rw [show Int.toNat 1 = 1 from rfl, List.map_drop]
theorem tail_rows (w : ByteArray) (t : List ByteArray) : List.drop (Int.toNat 1) (List.take (((((w :: t).map strD).length : Nat) : Int)).toNat ((w :: t).map strD)) = t.map strD := by
  rw [Int.toNat_natCast, List.take_length]; rfl
theorem or_empty (w : ByteArray) (t : List ByteArray) (b : Bool) : (b || (w :: t).isEmpty) = b := Bool.or_false b
set_option maxRecDepth 20000 in
theorem word23_nil (b : Bool) : SCall Tryz.prog 23 [.ref 0 0] (RO ([], b)) fun x s => x = strV (wordR ([], b)).1 ∧ s = RO (wordR ([], b)).2 := by
  refine SCall.retell (SCall.run Tryz.func23 rfl (Nat.le_of_ble_eq_true rfl) (by kernel_rfl) ?_)
  repeat' (first | with_reducible rfl | ((conv => whnf); first | refine And.intro ?_ ?_ | (intro h; first | with_reducible exact tf_no h | with_reducible exact ft_no h | exact Bool.noConfusion h | with_reducible exact h | (exact absurd h (by decide)) | (have ht : true = true := h; clear ht h) | skip) | ((with_reducible refine DWl.mark ?_); repeat' (first | refine DWl.cons ?_ ?_ | exact DWl.nil | exact DW.same _ rfl | exact DW.ref _ _ _ rfl | exact DW.arr _ _ _ rfl | exact DW.sub _ _ _ _ rfl | exact DW.nilLst _ | refine DW.aggl ?_ | refine DW.tupl ?_ | refine DW.clol ?_ ?_ | refine DW.int ?_ | refine DW.bool ?_ | refine DW.str ?_)) | ((with_reducible refine ECall.mark ?_); first | refine ECall.only ?_ (fun h => nomatch h) | refine ECall.only ?_ ?_) | ((with_reducible refine Drawn.mark ?_); first | refine Drawn.quiet (by kernel_rfl) ?_) | refine dcell_ok rfl ?_ | refine AppC.new ?_))
  all_goals first | (with_reducible refine enters_mark ?_; kernel_rfl) | (with_reducible refine boolT_mark ?_; kernel_rfl) | rfl | trivial | assumption | exact Nat.le_of_ble_eq_true rfl | (show entersB _ _ = true; kernel_rfl) | exact DW.same _ rfl | exact DW.ref _ _ _ rfl | exact DW.arr _ _ _ rfl | refine DW.int ?_ | refine dvb ?_ | refine dvi ?_ | exact OW.cells rfl rfl (DWl.same rfl) | exact Nat.zero_le _ | omega | skip
  all_goals repeat' (first | refine OW.cells rfl rfl ?_ | exact DW.nilArr _ rfl | refine DWl.cons ?_ ?_ | exact DWl.nil | exact DW.same _ rfl | exact DW.ref _ _ _ rfl | exact DW.arr _ _ _ rfl | exact DW.sub _ _ _ _ rfl | exact DW.nilLst _ | refine DW.aggl ?_ | refine DW.tupl ?_ | refine DW.clol ?_ ?_)
  all_goals try ((conv => whnf); with_reducible first | refine Round.mark ?_ | refine Tells.mark ?_ | refine Retold.mark ?_)
  all_goals try first | (show (_ : Bool) = _; simp_all; done) | (show (_ : Int) < _; simp at *; omega) | (show (_ : Int) ≤ _; simp at *; omega) | (show (_ : Nat) < _; simp at *; omega) | (show (_ : Nat) ≤ _; simp at *; omega)
  refine Retold.list [] [] _ [(0, ⟨53, 2, [strs [], bl true]⟩)] 1 (by kernel_rfl) ?_ ?_ ⟨rfl, ?_⟩
  · exact DW.str rfl
  · repeat' (first | exact OW.cells rfl rfl (DWl.same rfl) | ((conv => whnf); first | refine And.intro ?_ ?_ | trivial))
  · show _ = RO ([], b || true)
    rw [Bool.or_true]; rfl
set_option maxRecDepth 20000 in
theorem word23_cons (w : ByteArray) (t : List ByteArray) (b : Bool) : SCall Tryz.prog 23 [.ref 0 0] (RO (w :: t, b)) fun x s => x = strV (wordR (w :: t, b)).1 ∧ s = RO (wordR (w :: t, b)).2 := by
  refine SCall.retell (SCall.run Tryz.func23 rfl (Nat.le_of_ble_eq_true rfl) (by kernel_rfl) ?_)
  repeat' (first | with_reducible rfl | ((conv => whnf); first | refine And.intro ?_ ?_ | (intro h; first | with_reducible exact tf_no h | with_reducible exact ft_no h | exact Bool.noConfusion h | with_reducible exact h | (exfalso; simp at h; done) | (have ht : true = true := h; clear ht h) | skip) | ((with_reducible refine DWl.mark ?_); repeat' (first | refine DWl.cons ?_ ?_ | exact DWl.nil | exact DW.same _ rfl | exact DW.ref _ _ _ rfl | exact DW.arr _ _ _ rfl | exact DW.sub _ _ _ _ rfl | exact DW.nilLst _ | refine DW.aggl ?_ | refine DW.tupl ?_ | refine DW.clol ?_ ?_ | refine DW.int ?_ | refine DW.bool ?_ | refine DW.str ?_)) | ((with_reducible refine ECall.mark ?_); first | refine ECall.only ?_ (fun h => nomatch h) | refine ECall.only ?_ ?_) | ((with_reducible refine Drawn.mark ?_); first | refine Drawn.quiet (by kernel_rfl) ?_) | refine dloadE_map (ByteArray.empty) ?_ ?_ | refine dcell_ok rfl ?_ | refine AppC.new ?_))
  all_goals first | (with_reducible refine enters_mark ?_; kernel_rfl) | (with_reducible refine boolT_mark ?_; kernel_rfl) | rfl | trivial | assumption | exact Nat.le_of_ble_eq_true rfl | (show entersB _ _ = true; kernel_rfl) | exact DW.same _ rfl | exact DW.ref _ _ _ rfl | exact DW.arr _ _ _ rfl | refine DW.int ?_ | refine dvb ?_ | refine dvi ?_ | exact OW.cells rfl rfl (DWl.same rfl) | exact Nat.zero_le _ | omega | skip
  all_goals repeat' (first | refine OW.cells rfl rfl ?_ | exact DW.nilArr _ rfl | refine DWl.cons ?_ ?_ | exact DWl.nil | exact DW.same _ rfl | exact DW.ref _ _ _ rfl | exact DW.arr _ _ _ rfl | exact DW.sub _ _ _ _ rfl | exact DW.nilLst _ | refine DW.aggl ?_ | refine DW.tupl ?_ | refine DW.clol ?_ ?_)
  all_goals try ((conv => whnf); with_reducible first | refine Round.mark ?_ | refine Tells.mark ?_ | refine Retold.mark ?_)
  all_goals try first | (show (_ : Bool) = _; simp_all; done) | (show (_ : Int) < _; simp at *; omega) | (show (_ : Int) ≤ _; simp at *; omega) | (show (_ : Nat) < _; simp at *; omega) | (show (_ : Nat) ≤ _; simp at *; omega)
  refine Retold.list [] [] _ [(0, ⟨53, 2, [strs t, bl b]⟩)] 1 (by kernel_rfl) ?_ ?_ ⟨rfl, ?_⟩
  · exact DW.str rfl
  · repeat' (first | exact OW.cells rfl rfl (DWl.same rfl) | exact OW.cells rfl rfl (DWl.cons (DW.lstE (tail_rows w t)) (DWl.cons (DW.bool rfl) DWl.nil)) | ((conv => whnf); first | refine And.intro ?_ ?_ | trivial))
  · show _ = RO (t, b || false)
    rw [Bool.or_false]; rfl
theorem word23_S (r : RS) : SCall Tryz.prog 23 [.ref 0 0] (RO r) fun x s => x = strV (wordR r).1 ∧ s = RO (wordR r).2 := by
  obtain ⟨ws, b⟩ := r
  cases ws with
  | nil => exact word23_nil b
  | cons w t => exact word23_cons w t b
theorem par_ok {w : ByteArray} (hs : w.size ≤ 281474976710656) (h : pb w = false) : DPure Tryz.prog 44 [strV w, int1 10, int1 64] (.tup [int1 (pv w), .v .nilIface]) := by
  have := parse44_D w hs
  unfold parseP at this
  unfold pb at h
  unfold pv
  cases e : Lib.parseIntB 64 w.data.toList with
  | ok v => rw [e] at this; exact this
  | _ => rw [e] at h; cases h
theorem par_no {w : ByteArray} (hs : w.size ≤ 281474976710656) (h : pb w = true) : DPure Tryz.prog 44 [strV w, int1 10, int1 64] (.tup [int1 (pv w), .ifc 124 .dead]) := by
  have := parse44_D w hs
  unfold parseP at this
  unfold pb at h
  unfold pv
  cases e : Lib.parseIntB 64 w.data.toList with
  | ok v => rw [e] at h; cases h
  | _ => rw [e] at this; exact this
theorem or_same (a b c : Bool) (h : b = c) : (bif a then true else b) = (a || c) := by subst h; cases a <;> rfl
attribute [local irreducible] wordR pv pb
def KO (x : DV) (r : RS) : DV → Sto → Prop := fun y s => y = x ∧ s = RO r
set_option maxRecDepth 20000 in
theorem num22_tt (r : RS) (wv : ByteArray) (ws : List ByteArray) (hw : SCall Tryz.prog 23 [.ref 0 0] (RO r) fun x s => x = strV wv ∧ s = RO (ws, true)) (hs : wv.size ≤ 281474976710656) (hb : pb wv = true) : SCall Tryz.prog 22 [.ref 0 0] (RO r) fun x s => x = int1 (pv wv) ∧ s = RO (ws, true) := by
  have hp := par_no hs hb
  refine SCall.retell (SCall.run Tryz.func22 rfl (Nat.le_of_ble_eq_true rfl) (by kernel_rfl) ?_)
  repeat' (first | with_reducible rfl | ((conv => whnf); first | refine And.intro ?_ ?_ | (intro h; first | with_reducible exact tf_no h | with_reducible exact ft_no h | exact Bool.noConfusion h | with_reducible exact h | (have ht : true = true := h; clear ht h) | skip) | ((with_reducible refine DWl.mark ?_); repeat' (first | refine DWl.cons ?_ ?_ | exact DWl.nil | exact DW.same _ rfl | exact DW.ref _ _ _ rfl | exact DW.arr _ _ _ rfl | exact DW.sub _ _ _ _ rfl | exact DW.nilLst _ | refine DW.aggl ?_ | refine DW.tupl ?_ | refine DW.clol ?_ ?_ | refine DW.int ?_ | refine DW.bool ?_ | refine DW.str ?_)) | ((with_reducible refine SCall.mark ?_); first | refine SCall.at [0] (fun _ => [(0, ⟨53, 2, [strs ws, bl true]⟩)]) (fun _ => strV wv) 0 hw (by kernel_rfl) ?_ ?_ ?_ ?_ ?_ | refine SCall.data (hp) rfl rfl ?_ | refine SCall.scal (hp) rfl rfl ?_) | ((with_reducible refine PCall.mark ?_); first | refine PCall.mk (hp) rfl rfl ?_) | ((with_reducible refine GCall.mark ?_); first | refine GCall.data (fun _ => hp) rfl rfl ?_ | refine GCall.scal (fun _ => hp) rfl rfl ?_) | ((with_reducible refine MCall.mark ?_); first | refine MCall.data (fun _ => hp) rfl rfl ?_ | refine MCall.plain (PCall.mk (hp) rfl rfl ?_)) | ((with_reducible refine ex_mark ?_); first | refine dq_nilNeG Tryz.underlying86 ?_ rfl ?_ | refine dq_errNeG Tryz.underlying86 ?_ rfl ?_) | ((with_reducible refine ECall.mark ?_); first | refine ECall.only ?_ (fun h => nomatch h) | refine ECall.only ?_ ?_) | ((with_reducible refine Drawn.mark ?_); first | refine Drawn.quiet (by kernel_rfl) ?_) | refine dcell_ok rfl ?_ | refine AppC.new ?_))
  all_goals first | (with_reducible refine enters_mark ?_; kernel_rfl) | (with_reducible refine boolT_mark ?_; kernel_rfl) | rfl | trivial | assumption | exact Nat.le_of_ble_eq_true rfl | (show entersB _ _ = true; kernel_rfl) | exact DW.same _ rfl | exact DW.ref _ _ _ rfl | exact DW.arr _ _ _ rfl | refine DW.int ?_ | refine dvb ?_ | refine dvi ?_ | exact OW.cells rfl rfl (DWl.same rfl) | exact Nat.zero_le _ | omega | skip
  all_goals repeat' (first | refine OW.cells rfl rfl ?_ | exact DW.nilArr _ rfl | refine DWl.cons ?_ ?_ | exact DWl.nil | exact DW.same _ rfl | exact DW.ref _ _ _ rfl | exact DW.arr _ _ _ rfl | exact DW.sub _ _ _ _ rfl | exact DW.nilLst _ | refine DW.aggl ?_ | refine DW.tupl ?_ | refine DW.clol ?_ ?_)
  all_goals try ((conv => whnf); with_reducible first | refine Round.mark ?_ | refine Tells.mark ?_ | refine Retold.mark ?_)
  all_goals try first | (show (_ : Bool) = _; simp_all; done) | (show (_ : Int) < _; simp at *; omega) | (show (_ : Int) ≤ _; simp at *; omega) | (show (_ : Nat) < _; simp at *; omega) | (show (_ : Nat) ≤ _; simp at *; omega)
  refine Retold.list [] [] _ [(0, ⟨53, 2, [strs ws, bl true]⟩)] 1 (by kernel_rfl) ?_ ?_ ⟨rfl, rfl⟩
  · exact DW.int rfl
  · repeat' (first | exact OW.cells rfl rfl (DWl.same rfl) | exact OW.cells rfl rfl (DWl.cons (DW.same _ rfl) (DWl.cons (DW.bool rfl) DWl.nil)) | ((conv => whnf); first | refine And.intro ?_ ?_ | trivial))
set_option maxRecDepth 20000 in
theorem num22_tf (r : RS) (wv : ByteArray) (ws : List ByteArray) (hw : SCall Tryz.prog 23 [.ref 0 0] (RO r) fun x s => x = strV wv ∧ s = RO (ws, true)) (hs : wv.size ≤ 281474976710656) (hb : pb wv = false) : SCall Tryz.prog 22 [.ref 0 0] (RO r) fun x s => x = int1 (pv wv) ∧ s = RO (ws, true) := by
  have hp := par_ok hs hb
  refine SCall.retell (SCall.run Tryz.func22 rfl (Nat.le_of_ble_eq_true rfl) (by kernel_rfl) ?_)
  repeat' (first | with_reducible rfl | ((conv => whnf); first | refine And.intro ?_ ?_ | (intro h; first | with_reducible exact tf_no h | with_reducible exact ft_no h | exact Bool.noConfusion h | with_reducible exact h | (have ht : true = true := h; clear ht h) | skip) | ((with_reducible refine DWl.mark ?_); repeat' (first | refine DWl.cons ?_ ?_ | exact DWl.nil | exact DW.same _ rfl | exact DW.ref _ _ _ rfl | exact DW.arr _ _ _ rfl | exact DW.sub _ _ _ _ rfl | exact DW.nilLst _ | refine DW.aggl ?_ | refine DW.tupl ?_ | refine DW.clol ?_ ?_ | refine DW.int ?_ | refine DW.bool ?_ | refine DW.str ?_)) | ((with_reducible refine SCall.mark ?_); first | refine SCall.at [0] (fun _ => [(0, ⟨53, 2, [strs ws, bl true]⟩)]) (fun _ => strV wv) 0 hw (by kernel_rfl) ?_ ?_ ?_ ?_ ?_ | refine SCall.data (hp) rfl rfl ?_ | refine SCall.scal (hp) rfl rfl ?_) | ((with_reducible refine PCall.mark ?_); first | refine PCall.mk (hp) rfl rfl ?_) | ((with_reducible refine GCall.mark ?_); first | refine GCall.data (fun _ => hp) rfl rfl ?_ | refine GCall.scal (fun _ => hp) rfl rfl ?_) | ((with_reducible refine MCall.mark ?_); first | refine MCall.data (fun _ => hp) rfl rfl ?_ | refine MCall.plain (PCall.mk (hp) rfl rfl ?_)) | ((with_reducible refine ex_mark ?_); first | refine dq_nilNeG Tryz.underlying86 ?_ rfl ?_ | refine dq_errNeG Tryz.underlying86 ?_ rfl ?_) | ((with_reducible refine ECall.mark ?_); first | refine ECall.only ?_ (fun h => nomatch h) | refine ECall.only ?_ ?_) | ((with_reducible refine Drawn.mark ?_); first | refine Drawn.quiet (by kernel_rfl) ?_) | refine dcell_ok rfl ?_ | refine AppC.new ?_))
  all_goals first | (with_reducible refine enters_mark ?_; kernel_rfl) | (with_reducible refine boolT_mark ?_; kernel_rfl) | rfl | trivial | assumption | exact Nat.le_of_ble_eq_true rfl | (show entersB _ _ = true; kernel_rfl) | exact DW.same _ rfl | exact DW.ref _ _ _ rfl | exact DW.arr _ _ _ rfl | refine DW.int ?_ | refine dvb ?_ | refine dvi ?_ | exact OW.cells rfl rfl (DWl.same rfl) | exact Nat.zero_le _ | omega | skip
  all_goals repeat' (first | refine OW.cells rfl rfl ?_ | exact DW.nilArr _ rfl | refine DWl.cons ?_ ?_ | exact DWl.nil | exact DW.same _ rfl | exact DW.ref _ _ _ rfl | exact DW.arr _ _ _ rfl | exact DW.sub _ _ _ _ rfl | exact DW.nilLst _ | refine DW.aggl ?_ | refine DW.tupl ?_ | refine DW.clol ?_ ?_)
  all_goals try ((conv => whnf); with_reducible first | refine Round.mark ?_ | refine Tells.mark ?_ | refine Retold.mark ?_)
  all_goals try first | (show (_ : Bool) = _; simp_all; done) | (show (_ : Int) < _; simp at *; omega) | (show (_ : Int) ≤ _; simp at *; omega) | (show (_ : Nat) < _; simp at *; omega) | (show (_ : Nat) ≤ _; simp at *; omega)
  refine Retold.list [] [] _ [(0, ⟨53, 2, [strs ws, bl true]⟩)] 1 (by kernel_rfl) ?_ ?_ ⟨rfl, rfl⟩
  · exact DW.int rfl
  · repeat' (first | exact OW.cells rfl rfl (DWl.same rfl) | exact OW.cells rfl rfl (DWl.cons (DW.same _ rfl) (DWl.cons (DW.bool rfl) DWl.nil)) | ((conv => whnf); first | refine And.intro ?_ ?_ | trivial))
set_option maxRecDepth 20000 in
theorem num22_ft (r : RS) (wv : ByteArray) (ws : List ByteArray) (hw : SCall Tryz.prog 23 [.ref 0 0] (RO r) fun x s => x = strV wv ∧ s = RO (ws, false)) (hs : wv.size ≤ 281474976710656) (hb : pb wv = true) : SCall Tryz.prog 22 [.ref 0 0] (RO r) fun x s => x = int1 (pv wv) ∧ s = RO (ws, true) := by
  have hp := par_no hs hb
  refine SCall.retell (SCall.run Tryz.func22 rfl (Nat.le_of_ble_eq_true rfl) (by kernel_rfl) ?_)
  repeat' (first | with_reducible rfl | ((conv => whnf); first | refine And.intro ?_ ?_ | (intro h; first | with_reducible exact tf_no h | with_reducible exact ft_no h | exact Bool.noConfusion h | with_reducible exact h | (have ht : true = true := h; clear ht h) | skip) | ((with_reducible refine DWl.mark ?_); repeat' (first | refine DWl.cons ?_ ?_ | exact DWl.nil | exact DW.same _ rfl | exact DW.ref _ _ _ rfl | exact DW.arr _ _ _ rfl | exact DW.sub _ _ _ _ rfl | exact DW.nilLst _ | refine DW.aggl ?_ | refine DW.tupl ?_ | refine DW.clol ?_ ?_ | refine DW.int ?_ | refine DW.bool ?_ | refine DW.str ?_)) | ((with_reducible refine SCall.mark ?_); first | refine SCall.at [0] (fun _ => [(0, ⟨53, 2, [strs ws, bl false]⟩)]) (fun _ => strV wv) 0 hw (by kernel_rfl) ?_ ?_ ?_ ?_ ?_ | refine SCall.data (hp) rfl rfl ?_ | refine SCall.scal (hp) rfl rfl ?_) | ((with_reducible refine PCall.mark ?_); first | refine PCall.mk (hp) rfl rfl ?_) | ((with_reducible refine GCall.mark ?_); first | refine GCall.data (fun _ => hp) rfl rfl ?_ | refine GCall.scal (fun _ => hp) rfl rfl ?_) | ((with_reducible refine MCall.mark ?_); first | refine MCall.data (fun _ => hp) rfl rfl ?_ | refine MCall.plain (PCall.mk (hp) rfl rfl ?_)) | ((with_reducible refine ex_mark ?_); first | refine dq_nilNeG Tryz.underlying86 ?_ rfl ?_ | refine dq_errNeG Tryz.underlying86 ?_ rfl ?_) | ((with_reducible refine ECall.mark ?_); first | refine ECall.only ?_ (fun h => nomatch h) | refine ECall.only ?_ ?_) | ((with_reducible refine Drawn.mark ?_); first | refine Drawn.quiet (by kernel_rfl) ?_) | refine dcell_ok rfl ?_ | refine AppC.new ?_))
  all_goals first | (with_reducible refine enters_mark ?_; kernel_rfl) | (with_reducible refine boolT_mark ?_; kernel_rfl) | rfl | trivial | assumption | exact Nat.le_of_ble_eq_true rfl | (show entersB _ _ = true; kernel_rfl) | exact DW.same _ rfl | exact DW.ref _ _ _ rfl | exact DW.arr _ _ _ rfl | refine DW.int ?_ | refine dvb ?_ | refine dvi ?_ | exact OW.cells rfl rfl (DWl.same rfl) | exact Nat.zero_le _ | omega | skip
  all_goals repeat' (first | refine OW.cells rfl rfl ?_ | exact DW.nilArr _ rfl | refine DWl.cons ?_ ?_ | exact DWl.nil | exact DW.same _ rfl | exact DW.ref _ _ _ rfl | exact DW.arr _ _ _ rfl | exact DW.sub _ _ _ _ rfl | exact DW.nilLst _ | refine DW.aggl ?_ | refine DW.tupl ?_ | refine DW.clol ?_ ?_)
  all_goals try ((conv => whnf); with_reducible first | refine Round.mark ?_ | refine Tells.mark ?_ | refine Retold.mark ?_)
  all_goals try first | (show (_ : Bool) = _; simp_all; done) | (show (_ : Int) < _; simp at *; omega) | (show (_ : Int) ≤ _; simp at *; omega) | (show (_ : Nat) < _; simp at *; omega) | (show (_ : Nat) ≤ _; simp at *; omega)
  refine Retold.list [] [] _ [(0, ⟨53, 2, [strs ws, bl true]⟩)] 1 (by kernel_rfl) ?_ ?_ ⟨rfl, rfl⟩
  · exact DW.int rfl
  · repeat' (first | exact OW.cells rfl rfl (DWl.same rfl) | exact OW.cells rfl rfl (DWl.cons (DW.same _ rfl) (DWl.cons (DW.bool rfl) DWl.nil)) | ((conv => whnf); first | refine And.intro ?_ ?_ | trivial))
set_option maxRecDepth 20000 in
theorem num22_ff (r : RS) (wv : ByteArray) (ws : List ByteArray) (hw : SCall Tryz.prog 23 [.ref 0 0] (RO r) fun x s => x = strV wv ∧ s = RO (ws, false)) (hs : wv.size ≤ 281474976710656) (hb : pb wv = false) : SCall Tryz.prog 22 [.ref 0 0] (RO r) fun x s => x = int1 (pv wv) ∧ s = RO (ws, false) := by
  have hp := par_ok hs hb
  refine SCall.retell (SCall.run Tryz.func22 rfl (Nat.le_of_ble_eq_true rfl) (by kernel_rfl) ?_)
  repeat' (first | with_reducible rfl | ((conv => whnf); first | refine And.intro ?_ ?_ | (intro h; first | with_reducible exact tf_no h | with_reducible exact ft_no h | exact Bool.noConfusion h | with_reducible exact h | (have ht : true = true := h; clear ht h) | skip) | ((with_reducible refine DWl.mark ?_); repeat' (first | refine DWl.cons ?_ ?_ | exact DWl.nil | exact DW.same _ rfl | exact DW.ref _ _ _ rfl | exact DW.arr _ _ _ rfl | exact DW.sub _ _ _ _ rfl | exact DW.nilLst _ | refine DW.aggl ?_ | refine DW.tupl ?_ | refine DW.clol ?_ ?_ | refine DW.int ?_ | refine DW.bool ?_ | refine DW.str ?_)) | ((with_reducible refine SCall.mark ?_); first | refine SCall.at [0] (fun _ => [(0, ⟨53, 2, [strs ws, bl false]⟩)]) (fun _ => strV wv) 0 hw (by kernel_rfl) ?_ ?_ ?_ ?_ ?_ | refine SCall.data (hp) rfl rfl ?_ | refine SCall.scal (hp) rfl rfl ?_) | ((with_reducible refine PCall.mark ?_); first | refine PCall.mk (hp) rfl rfl ?_) | ((with_reducible refine GCall.mark ?_); first | refine GCall.data (fun _ => hp) rfl rfl ?_ | refine GCall.scal (fun _ => hp) rfl rfl ?_) | ((with_reducible refine MCall.mark ?_); first | refine MCall.data (fun _ => hp) rfl rfl ?_ | refine MCall.plain (PCall.mk (hp) rfl rfl ?_)) | ((with_reducible refine ex_mark ?_); first | refine dq_nilNeG Tryz.underlying86 ?_ rfl ?_ | refine dq_errNeG Tryz.underlying86 ?_ rfl ?_) | ((with_reducible refine ECall.mark ?_); first | refine ECall.only ?_ (fun h => nomatch h) | refine ECall.only ?_ ?_) | ((with_reducible refine Drawn.mark ?_); first | refine Drawn.quiet (by kernel_rfl) ?_) | refine dcell_ok rfl ?_ | refine AppC.new ?_))
  all_goals first | (with_reducible refine enters_mark ?_; kernel_rfl) | (with_reducible refine boolT_mark ?_; kernel_rfl) | rfl | trivial | assumption | exact Nat.le_of_ble_eq_true rfl | (show entersB _ _ = true; kernel_rfl) | exact DW.same _ rfl | exact DW.ref _ _ _ rfl | exact DW.arr _ _ _ rfl | refine DW.int ?_ | refine dvb ?_ | refine dvi ?_ | exact OW.cells rfl rfl (DWl.same rfl) | exact Nat.zero_le _ | omega | skip
  all_goals repeat' (first | refine OW.cells rfl rfl ?_ | exact DW.nilArr _ rfl | refine DWl.cons ?_ ?_ | exact DWl.nil | exact DW.same _ rfl | exact DW.ref _ _ _ rfl | exact DW.arr _ _ _ rfl | exact DW.sub _ _ _ _ rfl | exact DW.nilLst _ | refine DW.aggl ?_ | refine DW.tupl ?_ | refine DW.clol ?_ ?_)
  all_goals try ((conv => whnf); with_reducible first | refine Round.mark ?_ | refine Tells.mark ?_ | refine Retold.mark ?_)
  all_goals try first | (show (_ : Bool) = _; simp_all; done) | (show (_ : Int) < _; simp at *; omega) | (show (_ : Int) ≤ _; simp at *; omega) | (show (_ : Nat) < _; simp at *; omega) | (show (_ : Nat) ≤ _; simp at *; omega)
  refine Retold.list [] [] _ [(0, ⟨53, 2, [strs ws, bl false]⟩)] 1 (by kernel_rfl) ?_ ?_ ⟨rfl, rfl⟩
  · exact DW.int rfl
  · repeat' (first | exact OW.cells rfl rfl (DWl.same rfl) | exact OW.cells rfl rfl (DWl.cons (DW.same _ rfl) (DWl.cons (DW.bool rfl) DWl.nil)) | ((conv => whnf); first | refine And.intro ?_ ?_ | trivial))
theorem number22_S (r : RS) (hs : (wordR r).1.size ≤ 281474976710656) : SCall Tryz.prog 22 [.ref 0 0] (RO r) fun x s => x = int1 (numR r).1 ∧ s = RO (numR r).2 := by
  have hw := word23_S r
  unfold numR
  generalize wordR r = q at hw hs
  obtain ⟨wv, ws, bad⟩ := q
  cases bad <;> cases hb : pb wv
  · exact num22_ff r wv ws hw hs hb
  · exact num22_ft r wv ws hw hs hb
  · exact num22_tf r wv ws hw hs hb
  · exact num22_tt r wv ws hw hs hb
theorem of_bad (b : Bool) (x : Int) : (bif b then true else decide (x < 1)) = (b || decide (x < 1)) := by cases b <;> rfl
attribute [local irreducible] idxS
set_option maxRecDepth 20000 in
theorem of24_A (r : RS) (L : List ByteArray) (wv : ByteArray) (ws : List ByteArray) (bad : Bool) (hw : SCall Tryz.prog 23 [.ref 0 0] (RO r) fun x s => x = strV wv ∧ s = RO (ws, bad)) : SCall Tryz.prog 24 [.ref 0 0, strs L] (RO r) fun x s => x = int1 (idxS wv L 0) ∧ s = RO (ws, bad || decide (idxS wv L 0 < 1)) := by
  have hx : DPure Tryz.prog 45 [strs L, strV wv] (int1 (idxS wv L 0)) := index45_D L wv
  refine SCall.retell (SCall.run Tryz.func24 rfl (Nat.le_of_ble_eq_true rfl) (by kernel_rfl) ?_)
  repeat' (first | with_reducible rfl | ((conv => whnf); first | refine And.intro ?_ ?_ | (intro h; first | with_reducible exact tf_no h | with_reducible exact ft_no h | exact Bool.noConfusion h | with_reducible exact h | (have ht : true = true := h; clear ht h) | skip) | ((with_reducible refine DWl.mark ?_); repeat' (first | refine DWl.cons ?_ ?_ | exact DWl.nil | exact DW.same _ rfl | exact DW.ref _ _ _ rfl | exact DW.arr _ _ _ rfl | exact DW.sub _ _ _ _ rfl | exact DW.nilLst _ | refine DW.aggl ?_ | refine DW.tupl ?_ | refine DW.clol ?_ ?_ | refine DW.int ?_ | refine DW.bool ?_ | refine DW.str ?_)) | ((with_reducible refine SCall.mark ?_); first | refine SCall.at [0] (fun _ => [(0, ⟨53, 2, [strs ws, bl bad]⟩)]) (fun _ => strV wv) 0 hw (by kernel_rfl) ?_ ?_ ?_ ?_ ?_ | refine SCall.data (hx) rfl rfl ?_ | refine SCall.scal (hx) rfl rfl ?_) | ((with_reducible refine PCall.mark ?_); first | refine PCall.mk (hx) rfl rfl ?_) | ((with_reducible refine GCall.mark ?_); first | refine GCall.data (fun _ => hx) rfl rfl ?_ | refine GCall.scal (fun _ => hx) rfl rfl ?_) | ((with_reducible refine MCall.mark ?_); first | refine MCall.data (fun _ => hx) rfl rfl ?_ | refine MCall.plain (PCall.mk (hx) rfl rfl ?_)) | ((with_reducible refine ECall.mark ?_); first | refine ECall.only ?_ (fun h => nomatch h) | refine ECall.only ?_ ?_) | ((with_reducible refine Drawn.mark ?_); first | refine Drawn.quiet (by kernel_rfl) ?_) | refine dcell_ok rfl ?_ | refine AppC.new ?_))
  all_goals first | (with_reducible refine enters_mark ?_; kernel_rfl) | (with_reducible refine boolT_mark ?_; kernel_rfl) | rfl | trivial | assumption | exact Nat.le_of_ble_eq_true rfl | (show entersB _ _ = true; kernel_rfl) | exact DW.same _ rfl | exact DW.ref _ _ _ rfl | exact DW.arr _ _ _ rfl | refine DW.int ?_ | refine dvb ?_ | refine dvi ?_ | exact OW.cells rfl rfl (DWl.same rfl) | exact Nat.zero_le _ | omega | skip
  all_goals repeat' (first | refine OW.cells rfl rfl ?_ | exact DW.nilArr _ rfl | refine DWl.cons ?_ ?_ | exact DWl.nil | exact DW.same _ rfl | exact DW.ref _ _ _ rfl | exact DW.arr _ _ _ rfl | exact DW.sub _ _ _ _ rfl | exact DW.nilLst _ | refine DW.aggl ?_ | refine DW.tupl ?_ | refine DW.clol ?_ ?_)
  all_goals try ((conv => whnf); with_reducible first | refine Round.mark ?_ | refine Tells.mark ?_ | refine Retold.mark ?_)
  all_goals try first | (show (_ : Bool) = _; simp_all; done) | (show (_ : Int) < _; simp at *; omega) | (show (_ : Int) ≤ _; simp at *; omega) | (show (_ : Nat) < _; simp at *; omega) | (show (_ : Nat) ≤ _; simp at *; omega)
  refine Retold.list [] [] _ [(0, ⟨53, 2, [strs ws, bl (bad || decide (idxS wv L 0 < 1))]⟩)] 1 (by kernel_rfl) ?_ ?_ ⟨rfl, rfl⟩
  · exact DW.int rfl
  · repeat' (first | exact OW.cells rfl rfl (DWl.cons (DW.same _ rfl) (DWl.cons (DW.bool (of_bad _ _)) DWl.nil)) | ((conv => whnf); first | refine And.intro ?_ ?_ | trivial))
theorem of24_S (r : RS) (L : List ByteArray) : SCall Tryz.prog 24 [.ref 0 0, strs L] (RO r) fun x s => x = int1 (ofR r L).1 ∧ s = RO (ofR r L).2 := of24_A r L (wordR r).1 (wordR r).2.1 (wordR r).2.2 (word23_S r)
end Go.Proofs.YtkfbaeljcajjbaaGreatDoor

/- A line read, by the program. -/
namespace Go.Proofs.YtkfbaeljcajjbaaGreatDoor
open Go.RowKit Go.Dl
attribute [local irreducible] Tri SCall TSem ECall Drawn DFun QSem PSem PCall GCall MCall Round Weak dloadE OW DWl Tells IntKind.wrap Retold ESem
set_option maxRecDepth 20000 in
theorem list25_D : DPure Tryz.prog 25 [] (strs whyL) := by
  refine DFun.data (DFun.body Tryz.func25 rfl (by kernel_rfl) ?_)
  repeat' (first | with_reducible rfl | ((conv => whnf); first | refine And.intro ?_ ?_ | (intro h; first | with_reducible exact tf_no h | with_reducible exact ft_no h | exact Bool.noConfusion h | with_reducible exact h | (have ht : true = true := h; clear ht h) | skip) | ((with_reducible refine DWl.mark ?_); repeat' (first | refine DWl.cons ?_ ?_ | exact DWl.nil | exact DW.same _ rfl | exact DW.ref _ _ _ rfl | exact DW.arr _ _ _ rfl | exact DW.sub _ _ _ _ rfl | exact DW.nilLst _ | refine DW.aggl ?_ | refine DW.tupl ?_ | refine DW.clol ?_ ?_ | refine DW.int ?_ | refine DW.bool ?_ | refine DW.str ?_)) | ((with_reducible refine ECall.mark ?_); first | refine ECall.only ?_ (fun h => nomatch h) | refine ECall.only ?_ ?_) | ((with_reducible refine Drawn.mark ?_); first | refine Drawn.quiet (by kernel_rfl) ?_) | refine dcell_ok rfl ?_ | refine AppC.new ?_))
  all_goals first | (with_reducible refine enters_mark ?_; kernel_rfl) | (with_reducible refine boolT_mark ?_; kernel_rfl) | rfl | trivial | assumption | exact Nat.le_of_ble_eq_true rfl | (show entersB _ _ = true; kernel_rfl) | exact DW.same _ rfl | exact DW.ref _ _ _ rfl | exact DW.arr _ _ _ rfl | refine DW.int ?_ | refine dvb ?_ | refine dvi ?_ | exact OW.cells rfl rfl (DWl.same rfl) | exact Nat.zero_le _ | omega | skip
  all_goals repeat' (first | refine OW.cells rfl rfl ?_ | exact DW.nilArr _ rfl | refine DWl.cons ?_ ?_ | exact DWl.nil | exact DW.same _ rfl | exact DW.ref _ _ _ rfl | exact DW.arr _ _ _ rfl | exact DW.sub _ _ _ _ rfl | exact DW.nilLst _ | refine DW.aggl ?_ | refine DW.tupl ?_ | refine DW.clol ?_ ?_)
  all_goals try ((conv => whnf); with_reducible first | refine Round.mark ?_ | refine Tells.mark ?_ | refine Retold.mark ?_)
  all_goals try first | (show (_ : Bool) = _; simp_all; done) | (show (_ : Int) < _; simp at *; omega) | (show (_ : Int) ≤ _; simp at *; omega) | (show (_ : Nat) < _; simp at *; omega) | (show (_ : Nat) ≤ _; simp at *; omega)
  conv => whnf
  exact Tells.mk (DW.pubM (l := whyL) rfl rfl rfl rfl (strsRow whyL) rfl)
set_option maxRecDepth 20000 in
theorem list26_D : DPure Tryz.prog 26 [] (strs kindL) := by
  refine DFun.data (DFun.body Tryz.func26 rfl (by kernel_rfl) ?_)
  repeat' (first | with_reducible rfl | ((conv => whnf); first | refine And.intro ?_ ?_ | (intro h; first | with_reducible exact tf_no h | with_reducible exact ft_no h | exact Bool.noConfusion h | with_reducible exact h | (have ht : true = true := h; clear ht h) | skip) | ((with_reducible refine DWl.mark ?_); repeat' (first | refine DWl.cons ?_ ?_ | exact DWl.nil | exact DW.same _ rfl | exact DW.ref _ _ _ rfl | exact DW.arr _ _ _ rfl | exact DW.sub _ _ _ _ rfl | exact DW.nilLst _ | refine DW.aggl ?_ | refine DW.tupl ?_ | refine DW.clol ?_ ?_ | refine DW.int ?_ | refine DW.bool ?_ | refine DW.str ?_)) | ((with_reducible refine ECall.mark ?_); first | refine ECall.only ?_ (fun h => nomatch h) | refine ECall.only ?_ ?_) | ((with_reducible refine Drawn.mark ?_); first | refine Drawn.quiet (by kernel_rfl) ?_) | refine dcell_ok rfl ?_ | refine AppC.new ?_))
  all_goals first | (with_reducible refine enters_mark ?_; kernel_rfl) | (with_reducible refine boolT_mark ?_; kernel_rfl) | rfl | trivial | assumption | exact Nat.le_of_ble_eq_true rfl | (show entersB _ _ = true; kernel_rfl) | exact DW.same _ rfl | exact DW.ref _ _ _ rfl | exact DW.arr _ _ _ rfl | refine DW.int ?_ | refine dvb ?_ | refine dvi ?_ | exact OW.cells rfl rfl (DWl.same rfl) | exact Nat.zero_le _ | omega | skip
  all_goals repeat' (first | refine OW.cells rfl rfl ?_ | exact DW.nilArr _ rfl | refine DWl.cons ?_ ?_ | exact DWl.nil | exact DW.same _ rfl | exact DW.ref _ _ _ rfl | exact DW.arr _ _ _ rfl | exact DW.sub _ _ _ _ rfl | exact DW.nilLst _ | refine DW.aggl ?_ | refine DW.tupl ?_ | refine DW.clol ?_ ?_)
  all_goals try ((conv => whnf); with_reducible first | refine Round.mark ?_ | refine Tells.mark ?_ | refine Retold.mark ?_)
  all_goals try first | (show (_ : Bool) = _; simp_all; done) | (show (_ : Int) < _; simp at *; omega) | (show (_ : Int) ≤ _; simp at *; omega) | (show (_ : Nat) < _; simp at *; omega) | (show (_ : Nat) ≤ _; simp at *; omega)
  conv => whnf
  exact Tells.mk (DW.pubM (l := kindL) rfl rfl rfl rfl (strsRow kindL) rfl)
theorem line11_G (m : Mo) {b : Bool} (hI : b = false → I6 m ∧ m.name.size ≤ 9223372036854775807) (hg : (b == false) = true) : DPure Tryz.prog 11 [.agg (moD m)] (strV (lineT m)) := line11_D m (hI (by simpa using hg)).1 (hI (by simpa using hg)).2
abbrev Calls22 (r : RS) (x : Int) (r' : RS) : Prop := SCall Tryz.prog 22 [.ref 0 0] (RO r) fun y s => y = int1 x ∧ s = RO r'
abbrev Calls23 (r : RS) (x : ByteArray) (r' : RS) : Prop := SCall Tryz.prog 23 [.ref 0 0] (RO r) fun y s => y = strV x ∧ s = RO r'
abbrev Calls24 (r : RS) (L : List ByteArray) (x : Int) (r' : RS) : Prop := SCall Tryz.prog 24 [.ref 0 0, strs L] (RO r) fun y s => y = int1 x ∧ s = RO r'
def out7 (p : Mo × Int) : DV := .tup [.agg (moD p.1), int1 p.2]
theorem bne_false {a b : ByteArray} (h : (a != b) = false) : a = b := ba_eq.1 (by simpa [bne] using h)
attribute [local irreducible] wordsB lineT resB I64
set_option maxRecDepth 20000 in
set_option maxHeartbeats 2000000 in
theorem parse7_1 (s : ByteArray) (hs : s.size < 4294967281) (a b pe nu : Int) (x5 : ByteArray) (r1 r2 r3 r4 r5 r6 : RS) (h1 : Calls22 (wordsB s, false) a r1) (h2 : Calls22 r1 b r2) (h3 : Calls23 r2 (bs cHeld) r3) (h4 : Calls22 r3 pe r4) (h5 : Calls23 r4 x5 r5) (h6 : Calls22 r5 nu r6) (hI : r6.2 = false → I6 ⟨a, b, 1, pe, ⟨#[]⟩, nu⟩ ∧ Mo.name ⟨a, b, 1, pe, ⟨#[]⟩, nu⟩ = ⟨#[]⟩ ∧ (Mo.name ⟨a, b, 1, pe, ⟨#[]⟩, nu⟩).size ≤ 9223372036854775807) : DPure Tryz.prog 7 [strV s] (out7 (resB ⟨a, b, 1, pe, ⟨#[]⟩, nu⟩ r6.2 s)) := by
  have hsp : DPure Tryz.prog 21 [.v (.string s), .v (.string spaceB)] (strs (wordsB s)) := split21_D s hs
  have hJ : r6.2 = false → I6 ⟨a, b, 1, pe, ⟨#[]⟩, nu⟩ ∧ (Mo.name ⟨a, b, 1, pe, ⟨#[]⟩, nu⟩).size ≤ 9223372036854775807 := fun h => ⟨(hI h).1, (hI h).2.2⟩
  refine DFun.data (DFun.body Tryz.func7 rfl (by kernel_rfl) ?_)
  repeat' (first | with_reducible rfl | ((conv => whnf); first | refine And.intro ?_ ?_ | (intro h; first | with_reducible exact tf_no h | with_reducible exact ft_no h | exact Bool.noConfusion h | with_reducible exact h | (exact absurd h (by decide)) | (have ht : true = true := h; clear ht h) | skip) | ((with_reducible refine DWl.mark ?_); repeat' (first | refine DWl.cons ?_ ?_ | exact DWl.nil | exact DW.same _ rfl | exact DW.ref _ _ _ rfl | exact DW.arr _ _ _ rfl | exact DW.sub _ _ _ _ rfl | exact DW.nilLst _ | refine DW.aggl ?_ | refine DW.tupl ?_ | refine DW.clol ?_ ?_ | refine DW.int ?_ | refine DW.bool ?_ | refine DW.str ?_)) | ((with_reducible refine SCall.mark ?_); first | refine SCall.data (hsp) rfl rfl ?_ | refine SCall.scal (hsp) rfl rfl ?_ | (refine SCall.at [1] (fun _ => [(1, ⟨53, 2, [strs r1.1, bl r1.2]⟩)]) (fun _ => int1 a) 0 h1 (by kernel_rfl) ?hoq ?_ ?_ ?_ ?_; case hoq => (repeat' (first | exact OW.cells rfl rfl (DWl.same rfl) | ((conv => whnf); first | refine And.intro ?_ ?_ | trivial)))) | (refine SCall.at [1] (fun _ => [(1, ⟨53, 2, [strs r2.1, bl r2.2]⟩)]) (fun _ => int1 b) 0 h2 (by kernel_rfl) ?hoq ?_ ?_ ?_ ?_; case hoq => (repeat' (first | exact OW.cells rfl rfl (DWl.same rfl) | ((conv => whnf); first | refine And.intro ?_ ?_ | trivial)))) | (refine SCall.at [1] (fun _ => [(1, ⟨53, 2, [strs r3.1, bl r3.2]⟩)]) (fun _ => strV (bs cHeld)) 0 h3 (by kernel_rfl) ?hoq ?_ ?_ ?_ ?_; case hoq => (repeat' (first | exact OW.cells rfl rfl (DWl.same rfl) | ((conv => whnf); first | refine And.intro ?_ ?_ | trivial)))) | (refine SCall.at [1] (fun _ => [(1, ⟨53, 2, [strs r4.1, bl r4.2]⟩)]) (fun _ => int1 pe) 0 h4 (by kernel_rfl) ?hoq ?_ ?_ ?_ ?_; case hoq => (repeat' (first | exact OW.cells rfl rfl (DWl.same rfl) | ((conv => whnf); first | refine And.intro ?_ ?_ | trivial)))) | (refine SCall.at [1] (fun _ => [(1, ⟨53, 2, [strs r5.1, bl r5.2]⟩)]) (fun _ => strV x5) 0 h5 (by kernel_rfl) ?hoq ?_ ?_ ?_ ?_; case hoq => (repeat' (first | exact OW.cells rfl rfl (DWl.same rfl) | ((conv => whnf); first | refine And.intro ?_ ?_ | trivial)))) | (refine SCall.at [1] (fun _ => [(1, ⟨53, 2, [strs r6.1, bl r6.2]⟩)]) (fun _ => int1 nu) 0 h6 (by kernel_rfl) ?hoq ?_ ?_ ?_ ?_; case hoq => (repeat' (first | exact OW.cells rfl rfl (DWl.same rfl) | ((conv => whnf); first | refine And.intro ?_ ?_ | trivial))))) | ((with_reducible refine PCall.mark ?_); first | refine PCall.mk (hsp) rfl rfl ?_) | ((with_reducible refine GCall.mark ?_); first | refine GCall.data (fun _ => hsp) rfl rfl ?_ | refine GCall.scal (fun _ => hsp) rfl rfl ?_ | refine GCall.data (fun hg => line11_G ⟨a, b, 1, pe, ⟨#[]⟩, nu⟩ hJ hg) rfl rfl ?_) | ((with_reducible refine MCall.mark ?_); first | refine MCall.data (fun _ => hsp) rfl rfl ?_ | refine MCall.plain (PCall.mk (hsp) rfl rfl ?_)) | ((with_reducible refine ECall.mark ?_); first | refine ECall.only ?_ (fun h => nomatch h) | refine ECall.only ?_ ?_) | ((with_reducible refine Drawn.mark ?_); first | refine Drawn.quiet (by kernel_rfl) ?_) | refine dcell_ok rfl ?_ | refine AppC.new ?_))
  all_goals first | (with_reducible refine enters_mark ?_; kernel_rfl) | (with_reducible refine boolT_mark ?_; kernel_rfl) | rfl | trivial | assumption | exact Nat.le_of_ble_eq_true rfl | (show entersB _ _ = true; kernel_rfl) | exact DW.same _ rfl | exact DW.ref _ _ _ rfl | exact DW.arr _ _ _ rfl | refine DW.int ?_ | refine dvb ?_ | refine dvi ?_ | exact OW.cells rfl rfl (DWl.same rfl) | exact Nat.zero_le _ | omega | skip
  all_goals repeat' (first | refine OW.cells rfl rfl ?_ | exact DW.nilArr _ rfl | refine DWl.cons ?_ ?_ | exact DWl.nil | exact DW.same _ rfl | exact DW.ref _ _ _ rfl | exact DW.arr _ _ _ rfl | exact DW.sub _ _ _ _ rfl | exact DW.nilLst _ | refine DW.aggl ?_ | refine DW.tupl ?_ | refine DW.clol ?_ ?_)
  all_goals try ((conv => whnf); with_reducible first | refine Round.mark ?_ | refine Tells.mark ?_ | refine Retold.mark ?_)
  all_goals try first | (show (_ : Bool) = _; simp_all; done) | (show (_ : Int) < _; simp at *; omega) | (show (_ : Int) ≤ _; simp at *; omega) | (show (_ : Nat) < _; simp at *; omega) | (show (_ : Nat) ≤ _; simp at *; omega)
  · exact Tells.of (r1 := .tup [.agg (moD mo0), int1 20]) (by rw [res_err h]; rfl) (Tells.mk (DW.tupl (DWl.cons (DW.aggl (DWl.cons (DW.int rfl) (DWl.cons (DW.int rfl) (DWl.cons (DW.int rfl) (DWl.cons (DW.int rfl) (DWl.cons (DW.str rfl) (DWl.cons (DW.int rfl) DWl.nil))))))) (DWl.cons (DW.int rfl) DWl.nil))))
  · exact Tells.of (r1 := .tup [.agg (moD ⟨a, b, 1, pe, ⟨#[]⟩, nu⟩), int1 0]) (by rw [res_ok h]; rfl) (Tells.mk (DW.tupl (DWl.cons (DW.aggl (DWl.cons (DW.int rfl) (DWl.cons (DW.int rfl) (DWl.cons (DW.int rfl) (DWl.cons (DW.int rfl) (DWl.cons (DW.str rfl) (DWl.cons (DW.int rfl) DWl.nil))))))) (DWl.cons (DW.int rfl) DWl.nil))))
set_option maxRecDepth 20000 in
set_option maxHeartbeats 2000000 in
theorem parse7_2 (s : ByteArray) (hs : s.size < 4294967281) (a b pe nu : Int) (x5 : ByteArray) (r1 r2 r3 r4 r5 r6 : RS) (h1 : Calls22 (wordsB s, false) a r1) (h2 : Calls22 r1 b r2) (h3 : Calls23 r2 (bs cDropped) r3) (h4 : Calls22 r3 pe r4) (h5 : Calls23 r4 x5 r5) (h6 : Calls24 r5 whyL nu r6) (hI : r6.2 = false → I6 ⟨a, b, 2, pe, ⟨#[]⟩, nu⟩ ∧ Mo.name ⟨a, b, 2, pe, ⟨#[]⟩, nu⟩ = ⟨#[]⟩ ∧ (Mo.name ⟨a, b, 2, pe, ⟨#[]⟩, nu⟩).size ≤ 9223372036854775807) : DPure Tryz.prog 7 [strV s] (out7 (resB ⟨a, b, 2, pe, ⟨#[]⟩, nu⟩ r6.2 s)) := by
  have hsp : DPure Tryz.prog 21 [.v (.string s), .v (.string spaceB)] (strs (wordsB s)) := split21_D s hs
  have hJ : r6.2 = false → I6 ⟨a, b, 2, pe, ⟨#[]⟩, nu⟩ ∧ (Mo.name ⟨a, b, 2, pe, ⟨#[]⟩, nu⟩).size ≤ 9223372036854775807 := fun h => ⟨(hI h).1, (hI h).2.2⟩
  refine DFun.data (DFun.body Tryz.func7 rfl (by kernel_rfl) ?_)
  repeat' (first | with_reducible rfl | ((conv => whnf); first | refine And.intro ?_ ?_ | (intro h; first | with_reducible exact tf_no h | with_reducible exact ft_no h | exact Bool.noConfusion h | with_reducible exact h | (exact absurd h (by decide)) | (have ht : true = true := h; clear ht h) | skip) | ((with_reducible refine DWl.mark ?_); repeat' (first | refine DWl.cons ?_ ?_ | exact DWl.nil | exact DW.same _ rfl | exact DW.ref _ _ _ rfl | exact DW.arr _ _ _ rfl | exact DW.sub _ _ _ _ rfl | exact DW.nilLst _ | refine DW.aggl ?_ | refine DW.tupl ?_ | refine DW.clol ?_ ?_ | refine DW.int ?_ | refine DW.bool ?_ | refine DW.str ?_)) | ((with_reducible refine SCall.mark ?_); first | refine SCall.data (hsp) rfl rfl ?_ | refine SCall.scal (hsp) rfl rfl ?_ | (refine SCall.at [1] (fun _ => [(1, ⟨53, 2, [strs r1.1, bl r1.2]⟩)]) (fun _ => int1 a) 0 h1 (by kernel_rfl) ?hoq ?_ ?_ ?_ ?_; case hoq => (repeat' (first | exact OW.cells rfl rfl (DWl.same rfl) | ((conv => whnf); first | refine And.intro ?_ ?_ | trivial)))) | (refine SCall.at [1] (fun _ => [(1, ⟨53, 2, [strs r2.1, bl r2.2]⟩)]) (fun _ => int1 b) 0 h2 (by kernel_rfl) ?hoq ?_ ?_ ?_ ?_; case hoq => (repeat' (first | exact OW.cells rfl rfl (DWl.same rfl) | ((conv => whnf); first | refine And.intro ?_ ?_ | trivial)))) | (refine SCall.at [1] (fun _ => [(1, ⟨53, 2, [strs r3.1, bl r3.2]⟩)]) (fun _ => strV (bs cDropped)) 0 h3 (by kernel_rfl) ?hoq ?_ ?_ ?_ ?_; case hoq => (repeat' (first | exact OW.cells rfl rfl (DWl.same rfl) | ((conv => whnf); first | refine And.intro ?_ ?_ | trivial)))) | (refine SCall.at [1] (fun _ => [(1, ⟨53, 2, [strs r4.1, bl r4.2]⟩)]) (fun _ => int1 pe) 0 h4 (by kernel_rfl) ?hoq ?_ ?_ ?_ ?_; case hoq => (repeat' (first | exact OW.cells rfl rfl (DWl.same rfl) | ((conv => whnf); first | refine And.intro ?_ ?_ | trivial)))) | (refine SCall.at [1] (fun _ => [(1, ⟨53, 2, [strs r5.1, bl r5.2]⟩)]) (fun _ => strV x5) 0 h5 (by kernel_rfl) ?hoq ?_ ?_ ?_ ?_; case hoq => (repeat' (first | exact OW.cells rfl rfl (DWl.same rfl) | ((conv => whnf); first | refine And.intro ?_ ?_ | trivial)))) | (refine SCall.at [1] (fun _ => [(1, ⟨53, 2, [strs r6.1, bl r6.2]⟩)]) (fun _ => int1 nu) 0 h6 (by kernel_rfl) ?hoq ?_ ?_ ?_ ?_; case hoq => (repeat' (first | exact OW.cells rfl rfl (DWl.same rfl) | ((conv => whnf); first | refine And.intro ?_ ?_ | trivial)))) | refine SCall.data (list25_D) rfl rfl ?_ | refine SCall.scal (list25_D) rfl rfl ?_) | ((with_reducible refine PCall.mark ?_); first | refine PCall.mk (hsp) rfl rfl ?_ | refine PCall.mk (list25_D) rfl rfl ?_) | ((with_reducible refine GCall.mark ?_); first | refine GCall.data (fun _ => hsp) rfl rfl ?_ | refine GCall.scal (fun _ => hsp) rfl rfl ?_ | refine GCall.data (fun _ => list25_D) rfl rfl ?_ | refine GCall.scal (fun _ => list25_D) rfl rfl ?_ | refine GCall.data (fun hg => line11_G ⟨a, b, 2, pe, ⟨#[]⟩, nu⟩ hJ hg) rfl rfl ?_) | ((with_reducible refine MCall.mark ?_); first | refine MCall.data (fun _ => hsp) rfl rfl ?_ | refine MCall.plain (PCall.mk (hsp) rfl rfl ?_) | refine MCall.data (fun _ => list25_D) rfl rfl ?_ | refine MCall.plain (PCall.mk (list25_D) rfl rfl ?_)) | ((with_reducible refine ECall.mark ?_); first | refine ECall.only ?_ (fun h => nomatch h) | refine ECall.only ?_ ?_) | ((with_reducible refine Drawn.mark ?_); first | refine Drawn.quiet (by kernel_rfl) ?_) | refine dcell_ok rfl ?_ | refine AppC.new ?_))
  all_goals first | (with_reducible refine enters_mark ?_; kernel_rfl) | (with_reducible refine boolT_mark ?_; kernel_rfl) | rfl | trivial | assumption | exact Nat.le_of_ble_eq_true rfl | (show entersB _ _ = true; kernel_rfl) | exact DW.same _ rfl | exact DW.ref _ _ _ rfl | exact DW.arr _ _ _ rfl | refine DW.int ?_ | refine dvb ?_ | refine dvi ?_ | exact OW.cells rfl rfl (DWl.same rfl) | exact Nat.zero_le _ | omega | skip
  all_goals repeat' (first | refine OW.cells rfl rfl ?_ | exact DW.nilArr _ rfl | refine DWl.cons ?_ ?_ | exact DWl.nil | exact DW.same _ rfl | exact DW.ref _ _ _ rfl | exact DW.arr _ _ _ rfl | exact DW.sub _ _ _ _ rfl | exact DW.nilLst _ | refine DW.aggl ?_ | refine DW.tupl ?_ | refine DW.clol ?_ ?_)
  all_goals try ((conv => whnf); with_reducible first | refine Round.mark ?_ | refine Tells.mark ?_ | refine Retold.mark ?_)
  all_goals try first | (show (_ : Bool) = _; simp_all; done) | (show (_ : Int) < _; simp at *; omega) | (show (_ : Int) ≤ _; simp at *; omega) | (show (_ : Nat) < _; simp at *; omega) | (show (_ : Nat) ≤ _; simp at *; omega)
  · exact Tells.of (r1 := .tup [.agg (moD mo0), int1 20]) (by rw [res_err h]; rfl) (Tells.mk (DW.tupl (DWl.cons (DW.aggl (DWl.cons (DW.int rfl) (DWl.cons (DW.int rfl) (DWl.cons (DW.int rfl) (DWl.cons (DW.int rfl) (DWl.cons (DW.str rfl) (DWl.cons (DW.int rfl) DWl.nil))))))) (DWl.cons (DW.int rfl) DWl.nil))))
  · exact Tells.of (r1 := .tup [.agg (moD ⟨a, b, 2, pe, ⟨#[]⟩, nu⟩), int1 0]) (by rw [res_ok h]; rfl) (Tells.mk (DW.tupl (DWl.cons (DW.aggl (DWl.cons (DW.int rfl) (DWl.cons (DW.int rfl) (DWl.cons (DW.int rfl) (DWl.cons (DW.int rfl) (DWl.cons (DW.str rfl) (DWl.cons (DW.int rfl) DWl.nil))))))) (DWl.cons (DW.int rfl) DWl.nil))))
set_option maxRecDepth 20000 in
set_option maxHeartbeats 2000000 in
theorem parse7_3 (s : ByteArray) (hs : s.size < 4294967281) (a b pe nu : Int) (na : ByteArray) (r1 r2 r3 r4 r5 r6 : RS) (h1 : Calls22 (wordsB s, false) a r1) (h2 : Calls22 r1 b r2) (h3 : Calls23 r2 (bs cBalanced) r3) (h4 : Calls22 r3 pe r4) (h5 : Calls23 r4 na r5) (h6 : Calls22 r5 nu r6) (hI : r6.2 = false → I6 ⟨a, b, 3, pe, na, nu⟩ ∧ Mo.name ⟨a, b, 3, pe, na, nu⟩ = na ∧ (Mo.name ⟨a, b, 3, pe, na, nu⟩).size ≤ 9223372036854775807) : DPure Tryz.prog 7 [strV s] (out7 (resB ⟨a, b, 3, pe, na, nu⟩ r6.2 s)) := by
  have hsp : DPure Tryz.prog 21 [.v (.string s), .v (.string spaceB)] (strs (wordsB s)) := split21_D s hs
  have hJ : r6.2 = false → I6 ⟨a, b, 3, pe, na, nu⟩ ∧ (Mo.name ⟨a, b, 3, pe, na, nu⟩).size ≤ 9223372036854775807 := fun h => ⟨(hI h).1, (hI h).2.2⟩
  refine DFun.data (DFun.body Tryz.func7 rfl (by kernel_rfl) ?_)
  repeat' (first | with_reducible rfl | ((conv => whnf); first | refine And.intro ?_ ?_ | (intro h; first | with_reducible exact tf_no h | with_reducible exact ft_no h | exact Bool.noConfusion h | with_reducible exact h | (exact absurd h (by decide)) | (have ht : true = true := h; clear ht h) | skip) | ((with_reducible refine DWl.mark ?_); repeat' (first | refine DWl.cons ?_ ?_ | exact DWl.nil | exact DW.same _ rfl | exact DW.ref _ _ _ rfl | exact DW.arr _ _ _ rfl | exact DW.sub _ _ _ _ rfl | exact DW.nilLst _ | refine DW.aggl ?_ | refine DW.tupl ?_ | refine DW.clol ?_ ?_ | refine DW.int ?_ | refine DW.bool ?_ | refine DW.str ?_)) | ((with_reducible refine SCall.mark ?_); first | refine SCall.data (hsp) rfl rfl ?_ | refine SCall.scal (hsp) rfl rfl ?_ | (refine SCall.at [1] (fun _ => [(1, ⟨53, 2, [strs r1.1, bl r1.2]⟩)]) (fun _ => int1 a) 0 h1 (by kernel_rfl) ?hoq ?_ ?_ ?_ ?_; case hoq => (repeat' (first | exact OW.cells rfl rfl (DWl.same rfl) | ((conv => whnf); first | refine And.intro ?_ ?_ | trivial)))) | (refine SCall.at [1] (fun _ => [(1, ⟨53, 2, [strs r2.1, bl r2.2]⟩)]) (fun _ => int1 b) 0 h2 (by kernel_rfl) ?hoq ?_ ?_ ?_ ?_; case hoq => (repeat' (first | exact OW.cells rfl rfl (DWl.same rfl) | ((conv => whnf); first | refine And.intro ?_ ?_ | trivial)))) | (refine SCall.at [1] (fun _ => [(1, ⟨53, 2, [strs r3.1, bl r3.2]⟩)]) (fun _ => strV (bs cBalanced)) 0 h3 (by kernel_rfl) ?hoq ?_ ?_ ?_ ?_; case hoq => (repeat' (first | exact OW.cells rfl rfl (DWl.same rfl) | ((conv => whnf); first | refine And.intro ?_ ?_ | trivial)))) | (refine SCall.at [1] (fun _ => [(1, ⟨53, 2, [strs r4.1, bl r4.2]⟩)]) (fun _ => int1 pe) 0 h4 (by kernel_rfl) ?hoq ?_ ?_ ?_ ?_; case hoq => (repeat' (first | exact OW.cells rfl rfl (DWl.same rfl) | ((conv => whnf); first | refine And.intro ?_ ?_ | trivial)))) | (refine SCall.at [1] (fun _ => [(1, ⟨53, 2, [strs r5.1, bl r5.2]⟩)]) (fun _ => strV na) 0 h5 (by kernel_rfl) ?hoq ?_ ?_ ?_ ?_; case hoq => (repeat' (first | exact OW.cells rfl rfl (DWl.same rfl) | ((conv => whnf); first | refine And.intro ?_ ?_ | trivial)))) | (refine SCall.at [1] (fun _ => [(1, ⟨53, 2, [strs r6.1, bl r6.2]⟩)]) (fun _ => int1 nu) 0 h6 (by kernel_rfl) ?hoq ?_ ?_ ?_ ?_; case hoq => (repeat' (first | exact OW.cells rfl rfl (DWl.same rfl) | ((conv => whnf); first | refine And.intro ?_ ?_ | trivial))))) | ((with_reducible refine PCall.mark ?_); first | refine PCall.mk (hsp) rfl rfl ?_) | ((with_reducible refine GCall.mark ?_); first | refine GCall.data (fun _ => hsp) rfl rfl ?_ | refine GCall.scal (fun _ => hsp) rfl rfl ?_ | refine GCall.data (fun hg => line11_G ⟨a, b, 3, pe, na, nu⟩ hJ hg) rfl rfl ?_) | ((with_reducible refine MCall.mark ?_); first | refine MCall.data (fun _ => hsp) rfl rfl ?_ | refine MCall.plain (PCall.mk (hsp) rfl rfl ?_)) | ((with_reducible refine ECall.mark ?_); first | refine ECall.only ?_ (fun h => nomatch h) | refine ECall.only ?_ ?_) | ((with_reducible refine Drawn.mark ?_); first | refine Drawn.quiet (by kernel_rfl) ?_) | refine dcell_ok rfl ?_ | refine AppC.new ?_))
  all_goals first | (with_reducible refine enters_mark ?_; kernel_rfl) | (with_reducible refine boolT_mark ?_; kernel_rfl) | rfl | trivial | assumption | exact Nat.le_of_ble_eq_true rfl | (show entersB _ _ = true; kernel_rfl) | exact DW.same _ rfl | exact DW.ref _ _ _ rfl | exact DW.arr _ _ _ rfl | refine DW.int ?_ | refine dvb ?_ | refine dvi ?_ | exact OW.cells rfl rfl (DWl.same rfl) | exact Nat.zero_le _ | omega | skip
  all_goals repeat' (first | refine OW.cells rfl rfl ?_ | exact DW.nilArr _ rfl | refine DWl.cons ?_ ?_ | exact DWl.nil | exact DW.same _ rfl | exact DW.ref _ _ _ rfl | exact DW.arr _ _ _ rfl | exact DW.sub _ _ _ _ rfl | exact DW.nilLst _ | refine DW.aggl ?_ | refine DW.tupl ?_ | refine DW.clol ?_ ?_)
  all_goals try ((conv => whnf); with_reducible first | refine Round.mark ?_ | refine Tells.mark ?_ | refine Retold.mark ?_)
  all_goals try first | (show (_ : Bool) = _; simp_all; done) | (show (_ : Int) < _; simp at *; omega) | (show (_ : Int) ≤ _; simp at *; omega) | (show (_ : Nat) < _; simp at *; omega) | (show (_ : Nat) ≤ _; simp at *; omega)
  · exact Tells.of (r1 := .tup [.agg (moD mo0), int1 20]) (by rw [res_err h]; rfl) (Tells.mk (DW.tupl (DWl.cons (DW.aggl (DWl.cons (DW.int rfl) (DWl.cons (DW.int rfl) (DWl.cons (DW.int rfl) (DWl.cons (DW.int rfl) (DWl.cons (DW.str rfl) (DWl.cons (DW.int rfl) DWl.nil))))))) (DWl.cons (DW.int rfl) DWl.nil))))
  · exact Tells.of (r1 := .tup [.agg (moD ⟨a, b, 3, pe, na, nu⟩), int1 0]) (by rw [res_ok h]; rfl) (Tells.mk (DW.tupl (DWl.cons (DW.aggl (DWl.cons (DW.int rfl) (DWl.cons (DW.int rfl) (DWl.cons (DW.int rfl) (DWl.cons (DW.int rfl) (DWl.cons (DW.str rfl) (DWl.cons (DW.int rfl) DWl.nil))))))) (DWl.cons (DW.int rfl) DWl.nil))))
set_option maxRecDepth 20000 in
set_option maxHeartbeats 2000000 in
theorem parse7_4 (s : ByteArray) (hs : s.size < 4294967281) (a b pe : Int) (na : ByteArray) (r1 r2 r3 r4 r5 : RS) (h1 : Calls22 (wordsB s, false) a r1) (h2 : Calls22 r1 b r2) (h3 : Calls23 r2 (bs cRange) r3) (h4 : Calls22 r3 pe r4) (h5 : Calls23 r4 na r5) (hI : r5.2 = false → I6 ⟨a, b, 4, pe, na, 0⟩ ∧ Mo.name ⟨a, b, 4, pe, na, 0⟩ = na ∧ (Mo.name ⟨a, b, 4, pe, na, 0⟩).size ≤ 9223372036854775807) : DPure Tryz.prog 7 [strV s] (out7 (resB ⟨a, b, 4, pe, na, 0⟩ r5.2 s)) := by
  have hsp : DPure Tryz.prog 21 [.v (.string s), .v (.string spaceB)] (strs (wordsB s)) := split21_D s hs
  have hJ : r5.2 = false → I6 ⟨a, b, 4, pe, na, 0⟩ ∧ (Mo.name ⟨a, b, 4, pe, na, 0⟩).size ≤ 9223372036854775807 := fun h => ⟨(hI h).1, (hI h).2.2⟩
  refine DFun.data (DFun.body Tryz.func7 rfl (by kernel_rfl) ?_)
  repeat' (first | with_reducible rfl | ((conv => whnf); first | refine And.intro ?_ ?_ | (intro h; first | with_reducible exact tf_no h | with_reducible exact ft_no h | exact Bool.noConfusion h | with_reducible exact h | (exact absurd h (by decide)) | (have ht : true = true := h; clear ht h) | skip) | ((with_reducible refine DWl.mark ?_); repeat' (first | refine DWl.cons ?_ ?_ | exact DWl.nil | exact DW.same _ rfl | exact DW.ref _ _ _ rfl | exact DW.arr _ _ _ rfl | exact DW.sub _ _ _ _ rfl | exact DW.nilLst _ | refine DW.aggl ?_ | refine DW.tupl ?_ | refine DW.clol ?_ ?_ | refine DW.int ?_ | refine DW.bool ?_ | refine DW.str ?_)) | ((with_reducible refine SCall.mark ?_); first | refine SCall.data (hsp) rfl rfl ?_ | refine SCall.scal (hsp) rfl rfl ?_ | (refine SCall.at [1] (fun _ => [(1, ⟨53, 2, [strs r1.1, bl r1.2]⟩)]) (fun _ => int1 a) 0 h1 (by kernel_rfl) ?hoq ?_ ?_ ?_ ?_; case hoq => (repeat' (first | exact OW.cells rfl rfl (DWl.same rfl) | ((conv => whnf); first | refine And.intro ?_ ?_ | trivial)))) | (refine SCall.at [1] (fun _ => [(1, ⟨53, 2, [strs r2.1, bl r2.2]⟩)]) (fun _ => int1 b) 0 h2 (by kernel_rfl) ?hoq ?_ ?_ ?_ ?_; case hoq => (repeat' (first | exact OW.cells rfl rfl (DWl.same rfl) | ((conv => whnf); first | refine And.intro ?_ ?_ | trivial)))) | (refine SCall.at [1] (fun _ => [(1, ⟨53, 2, [strs r3.1, bl r3.2]⟩)]) (fun _ => strV (bs cRange)) 0 h3 (by kernel_rfl) ?hoq ?_ ?_ ?_ ?_; case hoq => (repeat' (first | exact OW.cells rfl rfl (DWl.same rfl) | ((conv => whnf); first | refine And.intro ?_ ?_ | trivial)))) | (refine SCall.at [1] (fun _ => [(1, ⟨53, 2, [strs r4.1, bl r4.2]⟩)]) (fun _ => int1 pe) 0 h4 (by kernel_rfl) ?hoq ?_ ?_ ?_ ?_; case hoq => (repeat' (first | exact OW.cells rfl rfl (DWl.same rfl) | ((conv => whnf); first | refine And.intro ?_ ?_ | trivial)))) | (refine SCall.at [1] (fun _ => [(1, ⟨53, 2, [strs r5.1, bl r5.2]⟩)]) (fun _ => strV na) 0 h5 (by kernel_rfl) ?hoq ?_ ?_ ?_ ?_; case hoq => (repeat' (first | exact OW.cells rfl rfl (DWl.same rfl) | ((conv => whnf); first | refine And.intro ?_ ?_ | trivial))))) | ((with_reducible refine PCall.mark ?_); first | refine PCall.mk (hsp) rfl rfl ?_) | ((with_reducible refine GCall.mark ?_); first | refine GCall.data (fun _ => hsp) rfl rfl ?_ | refine GCall.scal (fun _ => hsp) rfl rfl ?_ | refine GCall.data (fun hg => line11_G ⟨a, b, 4, pe, na, 0⟩ hJ hg) rfl rfl ?_) | ((with_reducible refine MCall.mark ?_); first | refine MCall.data (fun _ => hsp) rfl rfl ?_ | refine MCall.plain (PCall.mk (hsp) rfl rfl ?_)) | ((with_reducible refine ECall.mark ?_); first | refine ECall.only ?_ (fun h => nomatch h) | refine ECall.only ?_ ?_) | ((with_reducible refine Drawn.mark ?_); first | refine Drawn.quiet (by kernel_rfl) ?_) | refine dcell_ok rfl ?_ | refine AppC.new ?_))
  all_goals first | (with_reducible refine enters_mark ?_; kernel_rfl) | (with_reducible refine boolT_mark ?_; kernel_rfl) | rfl | trivial | assumption | exact Nat.le_of_ble_eq_true rfl | (show entersB _ _ = true; kernel_rfl) | exact DW.same _ rfl | exact DW.ref _ _ _ rfl | exact DW.arr _ _ _ rfl | refine DW.int ?_ | refine dvb ?_ | refine dvi ?_ | exact OW.cells rfl rfl (DWl.same rfl) | exact Nat.zero_le _ | omega | skip
  all_goals repeat' (first | refine OW.cells rfl rfl ?_ | exact DW.nilArr _ rfl | refine DWl.cons ?_ ?_ | exact DWl.nil | exact DW.same _ rfl | exact DW.ref _ _ _ rfl | exact DW.arr _ _ _ rfl | exact DW.sub _ _ _ _ rfl | exact DW.nilLst _ | refine DW.aggl ?_ | refine DW.tupl ?_ | refine DW.clol ?_ ?_)
  all_goals try ((conv => whnf); with_reducible first | refine Round.mark ?_ | refine Tells.mark ?_ | refine Retold.mark ?_)
  all_goals try first | (show (_ : Bool) = _; simp_all; done) | (show (_ : Int) < _; simp at *; omega) | (show (_ : Int) ≤ _; simp at *; omega) | (show (_ : Nat) < _; simp at *; omega) | (show (_ : Nat) ≤ _; simp at *; omega)
  · exact Tells.of (r1 := .tup [.agg (moD mo0), int1 20]) (by rw [res_err h]; rfl) (Tells.mk (DW.tupl (DWl.cons (DW.aggl (DWl.cons (DW.int rfl) (DWl.cons (DW.int rfl) (DWl.cons (DW.int rfl) (DWl.cons (DW.int rfl) (DWl.cons (DW.str rfl) (DWl.cons (DW.int rfl) DWl.nil))))))) (DWl.cons (DW.int rfl) DWl.nil))))
  · exact Tells.of (r1 := .tup [.agg (moD ⟨a, b, 4, pe, na, 0⟩), int1 0]) (by rw [res_ok h]; rfl) (Tells.mk (DW.tupl (DWl.cons (DW.aggl (DWl.cons (DW.int rfl) (DWl.cons (DW.int rfl) (DWl.cons (DW.int rfl) (DWl.cons (DW.int rfl) (DWl.cons (DW.str rfl) (DWl.cons (DW.int rfl) DWl.nil))))))) (DWl.cons (DW.int rfl) DWl.nil))))
set_option maxRecDepth 20000 in
set_option maxHeartbeats 2000000 in
theorem parse7_5 (s : ByteArray) (hs : s.size < 4294967281) (a b nu : Int) (na : ByteArray) (x6 : ByteArray) (r1 r2 r3 r5 r6 r7 : RS) (h1 : Calls22 (wordsB s, false) a r1) (h2 : Calls22 r1 b r2) (h3 : Calls23 r2 (bs cLearned) r3) (h5 : Calls23 r3 na r5) (h6 : Calls23 r5 x6 r6) (h7 : Calls22 r6 nu r7) (hI : r7.2 = false → I6 ⟨a, b, 5, 0, na, nu⟩ ∧ Mo.name ⟨a, b, 5, 0, na, nu⟩ = na ∧ (Mo.name ⟨a, b, 5, 0, na, nu⟩).size ≤ 9223372036854775807) : DPure Tryz.prog 7 [strV s] (out7 (resB ⟨a, b, 5, 0, na, nu⟩ r7.2 s)) := by
  have hsp : DPure Tryz.prog 21 [.v (.string s), .v (.string spaceB)] (strs (wordsB s)) := split21_D s hs
  have hJ : r7.2 = false → I6 ⟨a, b, 5, 0, na, nu⟩ ∧ (Mo.name ⟨a, b, 5, 0, na, nu⟩).size ≤ 9223372036854775807 := fun h => ⟨(hI h).1, (hI h).2.2⟩
  refine DFun.data (DFun.body Tryz.func7 rfl (by kernel_rfl) ?_)
  repeat' (first | with_reducible rfl | ((conv => whnf); first | refine And.intro ?_ ?_ | (intro h; first | with_reducible exact tf_no h | with_reducible exact ft_no h | exact Bool.noConfusion h | with_reducible exact h | (exact absurd h (by decide)) | (have ht : true = true := h; clear ht h) | skip) | ((with_reducible refine DWl.mark ?_); repeat' (first | refine DWl.cons ?_ ?_ | exact DWl.nil | exact DW.same _ rfl | exact DW.ref _ _ _ rfl | exact DW.arr _ _ _ rfl | exact DW.sub _ _ _ _ rfl | exact DW.nilLst _ | refine DW.aggl ?_ | refine DW.tupl ?_ | refine DW.clol ?_ ?_ | refine DW.int ?_ | refine DW.bool ?_ | refine DW.str ?_)) | ((with_reducible refine SCall.mark ?_); first | refine SCall.data (hsp) rfl rfl ?_ | refine SCall.scal (hsp) rfl rfl ?_ | (refine SCall.at [1] (fun _ => [(1, ⟨53, 2, [strs r1.1, bl r1.2]⟩)]) (fun _ => int1 a) 0 h1 (by kernel_rfl) ?hoq ?_ ?_ ?_ ?_; case hoq => (repeat' (first | exact OW.cells rfl rfl (DWl.same rfl) | ((conv => whnf); first | refine And.intro ?_ ?_ | trivial)))) | (refine SCall.at [1] (fun _ => [(1, ⟨53, 2, [strs r2.1, bl r2.2]⟩)]) (fun _ => int1 b) 0 h2 (by kernel_rfl) ?hoq ?_ ?_ ?_ ?_; case hoq => (repeat' (first | exact OW.cells rfl rfl (DWl.same rfl) | ((conv => whnf); first | refine And.intro ?_ ?_ | trivial)))) | (refine SCall.at [1] (fun _ => [(1, ⟨53, 2, [strs r3.1, bl r3.2]⟩)]) (fun _ => strV (bs cLearned)) 0 h3 (by kernel_rfl) ?hoq ?_ ?_ ?_ ?_; case hoq => (repeat' (first | exact OW.cells rfl rfl (DWl.same rfl) | ((conv => whnf); first | refine And.intro ?_ ?_ | trivial)))) | (refine SCall.at [1] (fun _ => [(1, ⟨53, 2, [strs r5.1, bl r5.2]⟩)]) (fun _ => strV na) 0 h5 (by kernel_rfl) ?hoq ?_ ?_ ?_ ?_; case hoq => (repeat' (first | exact OW.cells rfl rfl (DWl.same rfl) | ((conv => whnf); first | refine And.intro ?_ ?_ | trivial)))) | (refine SCall.at [1] (fun _ => [(1, ⟨53, 2, [strs r6.1, bl r6.2]⟩)]) (fun _ => strV x6) 0 h6 (by kernel_rfl) ?hoq ?_ ?_ ?_ ?_; case hoq => (repeat' (first | exact OW.cells rfl rfl (DWl.same rfl) | ((conv => whnf); first | refine And.intro ?_ ?_ | trivial)))) | (refine SCall.at [1] (fun _ => [(1, ⟨53, 2, [strs r7.1, bl r7.2]⟩)]) (fun _ => int1 nu) 0 h7 (by kernel_rfl) ?hoq ?_ ?_ ?_ ?_; case hoq => (repeat' (first | exact OW.cells rfl rfl (DWl.same rfl) | ((conv => whnf); first | refine And.intro ?_ ?_ | trivial))))) | ((with_reducible refine PCall.mark ?_); first | refine PCall.mk (hsp) rfl rfl ?_) | ((with_reducible refine GCall.mark ?_); first | refine GCall.data (fun _ => hsp) rfl rfl ?_ | refine GCall.scal (fun _ => hsp) rfl rfl ?_ | refine GCall.data (fun hg => line11_G ⟨a, b, 5, 0, na, nu⟩ hJ hg) rfl rfl ?_) | ((with_reducible refine MCall.mark ?_); first | refine MCall.data (fun _ => hsp) rfl rfl ?_ | refine MCall.plain (PCall.mk (hsp) rfl rfl ?_)) | ((with_reducible refine ECall.mark ?_); first | refine ECall.only ?_ (fun h => nomatch h) | refine ECall.only ?_ ?_) | ((with_reducible refine Drawn.mark ?_); first | refine Drawn.quiet (by kernel_rfl) ?_) | refine dcell_ok rfl ?_ | refine AppC.new ?_))
  all_goals first | (with_reducible refine enters_mark ?_; kernel_rfl) | (with_reducible refine boolT_mark ?_; kernel_rfl) | rfl | trivial | assumption | exact Nat.le_of_ble_eq_true rfl | (show entersB _ _ = true; kernel_rfl) | exact DW.same _ rfl | exact DW.ref _ _ _ rfl | exact DW.arr _ _ _ rfl | refine DW.int ?_ | refine dvb ?_ | refine dvi ?_ | exact OW.cells rfl rfl (DWl.same rfl) | exact Nat.zero_le _ | omega | skip
  all_goals repeat' (first | refine OW.cells rfl rfl ?_ | exact DW.nilArr _ rfl | refine DWl.cons ?_ ?_ | exact DWl.nil | exact DW.same _ rfl | exact DW.ref _ _ _ rfl | exact DW.arr _ _ _ rfl | exact DW.sub _ _ _ _ rfl | exact DW.nilLst _ | refine DW.aggl ?_ | refine DW.tupl ?_ | refine DW.clol ?_ ?_)
  all_goals try ((conv => whnf); with_reducible first | refine Round.mark ?_ | refine Tells.mark ?_ | refine Retold.mark ?_)
  all_goals try first | (show (_ : Bool) = _; simp_all; done) | (show (_ : Int) < _; simp at *; omega) | (show (_ : Int) ≤ _; simp at *; omega) | (show (_ : Nat) < _; simp at *; omega) | (show (_ : Nat) ≤ _; simp at *; omega)
  · exact Tells.of (r1 := .tup [.agg (moD mo0), int1 20]) (by rw [res_err h]; rfl) (Tells.mk (DW.tupl (DWl.cons (DW.aggl (DWl.cons (DW.int rfl) (DWl.cons (DW.int rfl) (DWl.cons (DW.int rfl) (DWl.cons (DW.int rfl) (DWl.cons (DW.str rfl) (DWl.cons (DW.int rfl) DWl.nil))))))) (DWl.cons (DW.int rfl) DWl.nil))))
  · exact Tells.of (r1 := .tup [.agg (moD ⟨a, b, 5, 0, na, nu⟩), int1 0]) (by rw [res_ok h]; rfl) (Tells.mk (DW.tupl (DWl.cons (DW.aggl (DWl.cons (DW.int rfl) (DWl.cons (DW.int rfl) (DWl.cons (DW.int rfl) (DWl.cons (DW.int rfl) (DWl.cons (DW.str rfl) (DWl.cons (DW.int rfl) DWl.nil))))))) (DWl.cons (DW.int rfl) DWl.nil))))
set_option maxRecDepth 20000 in
set_option maxHeartbeats 2000000 in
theorem parse7_6 (s : ByteArray) (hs : s.size < 4294967281) (a b pe nu : Int)  (r1 r2 r3 r4 r5 : RS) (h1 : Calls22 (wordsB s, false) a r1) (h2 : Calls22 r1 b r2) (h3 : Calls23 r2 (bs cIgnored) r3) (h4 : Calls22 r3 pe r4) (h5 : Calls24 r4 kindL nu r5) (hI : r5.2 = false → I6 ⟨a, b, 6, pe, ⟨#[]⟩, nu⟩ ∧ Mo.name ⟨a, b, 6, pe, ⟨#[]⟩, nu⟩ = ⟨#[]⟩ ∧ (Mo.name ⟨a, b, 6, pe, ⟨#[]⟩, nu⟩).size ≤ 9223372036854775807) : DPure Tryz.prog 7 [strV s] (out7 (resB ⟨a, b, 6, pe, ⟨#[]⟩, nu⟩ r5.2 s)) := by
  have hsp : DPure Tryz.prog 21 [.v (.string s), .v (.string spaceB)] (strs (wordsB s)) := split21_D s hs
  have hJ : r5.2 = false → I6 ⟨a, b, 6, pe, ⟨#[]⟩, nu⟩ ∧ (Mo.name ⟨a, b, 6, pe, ⟨#[]⟩, nu⟩).size ≤ 9223372036854775807 := fun h => ⟨(hI h).1, (hI h).2.2⟩
  refine DFun.data (DFun.body Tryz.func7 rfl (by kernel_rfl) ?_)
  repeat' (first | with_reducible rfl | ((conv => whnf); first | refine And.intro ?_ ?_ | (intro h; first | with_reducible exact tf_no h | with_reducible exact ft_no h | exact Bool.noConfusion h | with_reducible exact h | (exact absurd h (by decide)) | (have ht : true = true := h; clear ht h) | skip) | ((with_reducible refine DWl.mark ?_); repeat' (first | refine DWl.cons ?_ ?_ | exact DWl.nil | exact DW.same _ rfl | exact DW.ref _ _ _ rfl | exact DW.arr _ _ _ rfl | exact DW.sub _ _ _ _ rfl | exact DW.nilLst _ | refine DW.aggl ?_ | refine DW.tupl ?_ | refine DW.clol ?_ ?_ | refine DW.int ?_ | refine DW.bool ?_ | refine DW.str ?_)) | ((with_reducible refine SCall.mark ?_); first | refine SCall.data (hsp) rfl rfl ?_ | refine SCall.scal (hsp) rfl rfl ?_ | (refine SCall.at [1] (fun _ => [(1, ⟨53, 2, [strs r1.1, bl r1.2]⟩)]) (fun _ => int1 a) 0 h1 (by kernel_rfl) ?hoq ?_ ?_ ?_ ?_; case hoq => (repeat' (first | exact OW.cells rfl rfl (DWl.same rfl) | ((conv => whnf); first | refine And.intro ?_ ?_ | trivial)))) | (refine SCall.at [1] (fun _ => [(1, ⟨53, 2, [strs r2.1, bl r2.2]⟩)]) (fun _ => int1 b) 0 h2 (by kernel_rfl) ?hoq ?_ ?_ ?_ ?_; case hoq => (repeat' (first | exact OW.cells rfl rfl (DWl.same rfl) | ((conv => whnf); first | refine And.intro ?_ ?_ | trivial)))) | (refine SCall.at [1] (fun _ => [(1, ⟨53, 2, [strs r3.1, bl r3.2]⟩)]) (fun _ => strV (bs cIgnored)) 0 h3 (by kernel_rfl) ?hoq ?_ ?_ ?_ ?_; case hoq => (repeat' (first | exact OW.cells rfl rfl (DWl.same rfl) | ((conv => whnf); first | refine And.intro ?_ ?_ | trivial)))) | (refine SCall.at [1] (fun _ => [(1, ⟨53, 2, [strs r4.1, bl r4.2]⟩)]) (fun _ => int1 pe) 0 h4 (by kernel_rfl) ?hoq ?_ ?_ ?_ ?_; case hoq => (repeat' (first | exact OW.cells rfl rfl (DWl.same rfl) | ((conv => whnf); first | refine And.intro ?_ ?_ | trivial)))) | (refine SCall.at [1] (fun _ => [(1, ⟨53, 2, [strs r5.1, bl r5.2]⟩)]) (fun _ => int1 nu) 0 h5 (by kernel_rfl) ?hoq ?_ ?_ ?_ ?_; case hoq => (repeat' (first | exact OW.cells rfl rfl (DWl.same rfl) | ((conv => whnf); first | refine And.intro ?_ ?_ | trivial)))) | refine SCall.data (list26_D) rfl rfl ?_ | refine SCall.scal (list26_D) rfl rfl ?_) | ((with_reducible refine PCall.mark ?_); first | refine PCall.mk (hsp) rfl rfl ?_ | refine PCall.mk (list26_D) rfl rfl ?_) | ((with_reducible refine GCall.mark ?_); first | refine GCall.data (fun _ => hsp) rfl rfl ?_ | refine GCall.scal (fun _ => hsp) rfl rfl ?_ | refine GCall.data (fun _ => list26_D) rfl rfl ?_ | refine GCall.scal (fun _ => list26_D) rfl rfl ?_ | refine GCall.data (fun hg => line11_G ⟨a, b, 6, pe, ⟨#[]⟩, nu⟩ hJ hg) rfl rfl ?_) | ((with_reducible refine MCall.mark ?_); first | refine MCall.data (fun _ => hsp) rfl rfl ?_ | refine MCall.plain (PCall.mk (hsp) rfl rfl ?_) | refine MCall.data (fun _ => list26_D) rfl rfl ?_ | refine MCall.plain (PCall.mk (list26_D) rfl rfl ?_)) | ((with_reducible refine ECall.mark ?_); first | refine ECall.only ?_ (fun h => nomatch h) | refine ECall.only ?_ ?_) | ((with_reducible refine Drawn.mark ?_); first | refine Drawn.quiet (by kernel_rfl) ?_) | refine dcell_ok rfl ?_ | refine AppC.new ?_))
  all_goals first | (with_reducible refine enters_mark ?_; kernel_rfl) | (with_reducible refine boolT_mark ?_; kernel_rfl) | rfl | trivial | assumption | exact Nat.le_of_ble_eq_true rfl | (show entersB _ _ = true; kernel_rfl) | exact DW.same _ rfl | exact DW.ref _ _ _ rfl | exact DW.arr _ _ _ rfl | refine DW.int ?_ | refine dvb ?_ | refine dvi ?_ | exact OW.cells rfl rfl (DWl.same rfl) | exact Nat.zero_le _ | omega | skip
  all_goals repeat' (first | refine OW.cells rfl rfl ?_ | exact DW.nilArr _ rfl | refine DWl.cons ?_ ?_ | exact DWl.nil | exact DW.same _ rfl | exact DW.ref _ _ _ rfl | exact DW.arr _ _ _ rfl | exact DW.sub _ _ _ _ rfl | exact DW.nilLst _ | refine DW.aggl ?_ | refine DW.tupl ?_ | refine DW.clol ?_ ?_)
  all_goals try ((conv => whnf); with_reducible first | refine Round.mark ?_ | refine Tells.mark ?_ | refine Retold.mark ?_)
  all_goals try first | (show (_ : Bool) = _; simp_all; done) | (show (_ : Int) < _; simp at *; omega) | (show (_ : Int) ≤ _; simp at *; omega) | (show (_ : Nat) < _; simp at *; omega) | (show (_ : Nat) ≤ _; simp at *; omega)
  · exact Tells.of (r1 := .tup [.agg (moD mo0), int1 20]) (by rw [res_err h]; rfl) (Tells.mk (DW.tupl (DWl.cons (DW.aggl (DWl.cons (DW.int rfl) (DWl.cons (DW.int rfl) (DWl.cons (DW.int rfl) (DWl.cons (DW.int rfl) (DWl.cons (DW.str rfl) (DWl.cons (DW.int rfl) DWl.nil))))))) (DWl.cons (DW.int rfl) DWl.nil))))
  · exact Tells.of (r1 := .tup [.agg (moD ⟨a, b, 6, pe, ⟨#[]⟩, nu⟩), int1 0]) (by rw [res_ok h]; rfl) (Tells.mk (DW.tupl (DWl.cons (DW.aggl (DWl.cons (DW.int rfl) (DWl.cons (DW.int rfl) (DWl.cons (DW.int rfl) (DWl.cons (DW.int rfl) (DWl.cons (DW.str rfl) (DWl.cons (DW.int rfl) DWl.nil))))))) (DWl.cons (DW.int rfl) DWl.nil))))
set_option maxRecDepth 20000 in
set_option maxHeartbeats 2000000 in
theorem parse7_0 (s : ByteArray) (hs : s.size < 4294967281) (a b pe : Int)  (w : ByteArray) (hw : w ≠ bs cHeld ∧ w ≠ bs cDropped ∧ w ≠ bs cBalanced ∧ w ≠ bs cRange ∧ w ≠ bs cLearned ∧ w ≠ bs cIgnored) (r1 r2 r3 r4 : RS) (h1 : Calls22 (wordsB s, false) a r1) (h2 : Calls22 r1 b r2) (h3 : Calls23 r2 w r3) (h4 : Calls22 r3 pe r4) (hI : r4.2 = false → I6 ⟨a, b, 0, pe, ⟨#[]⟩, 0⟩ ∧ Mo.name ⟨a, b, 0, pe, ⟨#[]⟩, 0⟩ = ⟨#[]⟩ ∧ (Mo.name ⟨a, b, 0, pe, ⟨#[]⟩, 0⟩).size ≤ 9223372036854775807) : DPure Tryz.prog 7 [strV s] (out7 (resB ⟨a, b, 0, pe, ⟨#[]⟩, 0⟩ r4.2 s)) := by
  have hsp : DPure Tryz.prog 21 [.v (.string s), .v (.string spaceB)] (strs (wordsB s)) := split21_D s hs
  have hJ : r4.2 = false → I6 ⟨a, b, 0, pe, ⟨#[]⟩, 0⟩ ∧ (Mo.name ⟨a, b, 0, pe, ⟨#[]⟩, 0⟩).size ≤ 9223372036854775807 := fun h => ⟨(hI h).1, (hI h).2.2⟩
  refine DFun.data (DFun.body Tryz.func7 rfl (by kernel_rfl) ?_)
  repeat' (first | with_reducible rfl | ((conv => whnf); first | refine And.intro ?_ ?_ | (intro h; first | with_reducible exact tf_no h | with_reducible exact ft_no h | exact Bool.noConfusion h | with_reducible exact h | (exact absurd (ba_eq.1 h) hw.1) | (exact absurd (ba_eq.1 h) hw.2.1) | (exact absurd (ba_eq.1 h) hw.2.2.1) | (exact absurd (ba_eq.1 h) hw.2.2.2.1) | (exact absurd (ba_eq.1 h) hw.2.2.2.2.1) | (exact absurd (ba_eq.1 h) hw.2.2.2.2.2) | (exact absurd (bne_false h) hw.2.2.2.2.1) | (have ht : true = true := h; clear ht h) | skip) | ((with_reducible refine DWl.mark ?_); repeat' (first | refine DWl.cons ?_ ?_ | exact DWl.nil | exact DW.same _ rfl | exact DW.ref _ _ _ rfl | exact DW.arr _ _ _ rfl | exact DW.sub _ _ _ _ rfl | exact DW.nilLst _ | refine DW.aggl ?_ | refine DW.tupl ?_ | refine DW.clol ?_ ?_ | refine DW.int ?_ | refine DW.bool ?_ | refine DW.str ?_)) | ((with_reducible refine SCall.mark ?_); first | refine SCall.data (hsp) rfl rfl ?_ | refine SCall.scal (hsp) rfl rfl ?_ | (refine SCall.at [1] (fun _ => [(1, ⟨53, 2, [strs r1.1, bl r1.2]⟩)]) (fun _ => int1 a) 0 h1 (by kernel_rfl) ?hoq ?_ ?_ ?_ ?_; case hoq => (repeat' (first | exact OW.cells rfl rfl (DWl.same rfl) | ((conv => whnf); first | refine And.intro ?_ ?_ | trivial)))) | (refine SCall.at [1] (fun _ => [(1, ⟨53, 2, [strs r2.1, bl r2.2]⟩)]) (fun _ => int1 b) 0 h2 (by kernel_rfl) ?hoq ?_ ?_ ?_ ?_; case hoq => (repeat' (first | exact OW.cells rfl rfl (DWl.same rfl) | ((conv => whnf); first | refine And.intro ?_ ?_ | trivial)))) | (refine SCall.at [1] (fun _ => [(1, ⟨53, 2, [strs r3.1, bl r3.2]⟩)]) (fun _ => strV w) 0 h3 (by kernel_rfl) ?hoq ?_ ?_ ?_ ?_; case hoq => (repeat' (first | exact OW.cells rfl rfl (DWl.same rfl) | ((conv => whnf); first | refine And.intro ?_ ?_ | trivial)))) | (refine SCall.at [1] (fun _ => [(1, ⟨53, 2, [strs r4.1, bl r4.2]⟩)]) (fun _ => int1 pe) 0 h4 (by kernel_rfl) ?hoq ?_ ?_ ?_ ?_; case hoq => (repeat' (first | exact OW.cells rfl rfl (DWl.same rfl) | ((conv => whnf); first | refine And.intro ?_ ?_ | trivial))))) | ((with_reducible refine PCall.mark ?_); first | refine PCall.mk (hsp) rfl rfl ?_) | ((with_reducible refine GCall.mark ?_); first | refine GCall.data (fun _ => hsp) rfl rfl ?_ | refine GCall.scal (fun _ => hsp) rfl rfl ?_ | refine GCall.data (fun hg => line11_G ⟨a, b, 0, pe, ⟨#[]⟩, 0⟩ hJ hg) rfl rfl ?_) | ((with_reducible refine MCall.mark ?_); first | refine MCall.data (fun _ => hsp) rfl rfl ?_ | refine MCall.plain (PCall.mk (hsp) rfl rfl ?_)) | ((with_reducible refine ECall.mark ?_); first | refine ECall.only ?_ (fun h => nomatch h) | refine ECall.only ?_ ?_) | ((with_reducible refine Drawn.mark ?_); first | refine Drawn.quiet (by kernel_rfl) ?_) | refine dcell_ok rfl ?_ | refine AppC.new ?_))
  all_goals first | (with_reducible refine enters_mark ?_; kernel_rfl) | (with_reducible refine boolT_mark ?_; kernel_rfl) | rfl | trivial | assumption | exact Nat.le_of_ble_eq_true rfl | (show entersB _ _ = true; kernel_rfl) | exact DW.same _ rfl | exact DW.ref _ _ _ rfl | exact DW.arr _ _ _ rfl | refine DW.int ?_ | refine dvb ?_ | refine dvi ?_ | exact OW.cells rfl rfl (DWl.same rfl) | exact Nat.zero_le _ | omega | skip
  all_goals repeat' (first | refine OW.cells rfl rfl ?_ | exact DW.nilArr _ rfl | refine DWl.cons ?_ ?_ | exact DWl.nil | exact DW.same _ rfl | exact DW.ref _ _ _ rfl | exact DW.arr _ _ _ rfl | exact DW.sub _ _ _ _ rfl | exact DW.nilLst _ | refine DW.aggl ?_ | refine DW.tupl ?_ | refine DW.clol ?_ ?_)
  all_goals try ((conv => whnf); with_reducible first | refine Round.mark ?_ | refine Tells.mark ?_ | refine Retold.mark ?_)
  all_goals try first | (show (_ : Bool) = _; simp_all; done) | (show (_ : Int) < _; simp at *; omega) | (show (_ : Int) ≤ _; simp at *; omega) | (show (_ : Nat) < _; simp at *; omega) | (show (_ : Nat) ≤ _; simp at *; omega)
  · exact Tells.of (r1 := .tup [.agg (moD mo0), int1 20]) (by rw [res_err h]; rfl) (Tells.mk (DW.tupl (DWl.cons (DW.aggl (DWl.cons (DW.int rfl) (DWl.cons (DW.int rfl) (DWl.cons (DW.int rfl) (DWl.cons (DW.int rfl) (DWl.cons (DW.str rfl) (DWl.cons (DW.int rfl) DWl.nil))))))) (DWl.cons (DW.int rfl) DWl.nil))))
  · exact Tells.of (r1 := .tup [.agg (moD ⟨a, b, 0, pe, ⟨#[]⟩, 0⟩), int1 0]) (by rw [res_ok h]; rfl) (Tells.mk (DW.tupl (DWl.cons (DW.aggl (DWl.cons (DW.int rfl) (DWl.cons (DW.int rfl) (DWl.cons (DW.int rfl) (DWl.cons (DW.int rfl) (DWl.cons (DW.str rfl) (DWl.cons (DW.int rfl) DWl.nil))))))) (DWl.cons (DW.int rfl) DWl.nil))))
end Go.Proofs.YtkfbaeljcajjbaaGreatDoor

/- A line read, by the program: all kinds. -/
namespace Go.Proofs.YtkfbaeljcajjbaaGreatDoor
open Go.RowKit Go.Dl
theorem i64_0 : I64 0 := ⟨by decide, by decide⟩
theorem small_le {n : Nat} (h : n ≤ 4294967281) : n ≤ 281474976710656 := by omega
theorem peer_not {w : ByteArray} (r : RS) (h : w ≠ bs cLearned) : peerR w r = numR r := if_neg h
theorem ev_0 {w : ByteArray} (r : RS) (h : w ≠ bs cHeld ∧ w ≠ bs cDropped ∧ w ≠ bs cBalanced ∧ w ≠ bs cRange ∧ w ≠ bs cLearned ∧ w ≠ bs cIgnored) : evR w r = (0, ⟨#[]⟩, 0, r) := by
  unfold evR
  rw [if_neg h.1, if_neg h.2.1, if_neg h.2.2.1, if_neg h.2.2.2.1, if_neg h.2.2.2.2.1, if_neg h.2.2.2.2.2]
/-- What is known of a reader behind the two numbers and the word. -/
theorem pre_ok {s : ByteArray} (h : (wR s).2.2 = false) : I64 (aR s).1 := by
  have h1 := word_bad h
  have h2 := (num_bad h1).1
  exact (num_bad h2).2
theorem pre_calls (s : ByteArray) (hs : s.size < 4294967281) : Calls22 (wordsB s, false) (aR s).1 (aR s).2 ∧ Calls22 (aR s).2 (bR s).1 (bR s).2 ∧ Calls23 (bR s).2 (wR s).1 (wR s).2 ∧ Wsz s.size (wR s).2 := by
  have z0 := wsz_all s
  have z1 : Wsz s.size (aR s).2 := wsz_num z0
  have z2 : Wsz s.size (bR s).2 := wsz_num z1
  exact ⟨number22_S (wordsB s, false) (Nat.le_trans (wsz_word z0).1 (by omega)), number22_S (aR s).2 (Nat.le_trans (wsz_word z1).1 (by omega)), word23_S (bR s).2, (wsz_word z2).2⟩
theorem read_1 (s : ByteArray) (hs : s.size < 4294967281) (e : (wR s).1 = bs cHeld) : DPure Tryz.prog 7 [strV s] (out7 (readT s)) := by
  obtain ⟨hA, hB, hW, z3⟩ := pre_calls s hs
  have hp : pR s = numR (wR s).2 := peer_not _ (by rw [e]; decide)
  have hP : Calls22 (wR s).2 (pR s).1 (pR s).2 := by rw [hp]; exact number22_S (wR s).2 (Nat.le_trans (wsz_word z3).1 (by omega))
  have z4 : Wsz s.size (pR s).2 := by rw [hp]; exact wsz_num z3
  have bp : (pR s).2.2 = false → (wR s).2.2 = false ∧ I64 (pR s).1 := fun h => by rw [hp] at h ⊢; exact num_bad h
  have he : eR s = (1, ⟨#[]⟩, (numR (wordR (pR s).2).2).1, (numR (wordR (pR s).2).2).2) := by
    unfold eR
    rw [e]; exact ev_1 _
  have hm : momR s = ⟨(aR s).1, (bR s).1, 1, (pR s).1, ⟨#[]⟩, (numR (wordR (pR s).2).2).1⟩ := by unfold momR; rw [he]
  have hb : badR s = (numR (wordR (pR s).2).2).2.2 := by unfold badR; rw [he]
  rw [read_res, hm, hb]
  rw [e] at hW
  exact parse7_1 (h1 := hA) (h2 := hB) (h3 := hW) s hs (h4 := hP) (h5 := word23_S (pR s).2) (h6 := number22_S (wordR (pR s).2).2 (Nat.le_trans (wsz_word (wsz_word z4).2).1 (by omega))) (hI := fun h => ⟨⟨pre_ok (bp (word_bad (num_bad h).1)).1, (num_bad h).2⟩, rfl, Nat.zero_le _⟩)
theorem read_2 (s : ByteArray) (hs : s.size < 4294967281) (e : (wR s).1 = bs cDropped) : DPure Tryz.prog 7 [strV s] (out7 (readT s)) := by
  obtain ⟨hA, hB, hW, z3⟩ := pre_calls s hs
  have hp : pR s = numR (wR s).2 := peer_not _ (by rw [e]; decide)
  have hP : Calls22 (wR s).2 (pR s).1 (pR s).2 := by rw [hp]; exact number22_S (wR s).2 (Nat.le_trans (wsz_word z3).1 (by omega))
  have z4 : Wsz s.size (pR s).2 := by rw [hp]; exact wsz_num z3
  have bp : (pR s).2.2 = false → (wR s).2.2 = false ∧ I64 (pR s).1 := fun h => by rw [hp] at h ⊢; exact num_bad h
  have he : eR s = (2, ⟨#[]⟩, (ofR (wordR (pR s).2).2 whyL).1, (ofR (wordR (pR s).2).2 whyL).2) := by
    unfold eR
    rw [e]; exact ev_2 _
  have hm : momR s = ⟨(aR s).1, (bR s).1, 2, (pR s).1, ⟨#[]⟩, (ofR (wordR (pR s).2).2 whyL).1⟩ := by unfold momR; rw [he]
  have hb : badR s = (ofR (wordR (pR s).2).2 whyL).2.2 := by unfold badR; rw [he]
  rw [read_res, hm, hb]
  rw [e] at hW
  exact parse7_2 (h1 := hA) (h2 := hB) (h3 := hW) s hs (h4 := hP) (h5 := word23_S (pR s).2) (h6 := of24_S (wordR (pR s).2).2 whyL) (hI := fun h => ⟨⟨pre_ok (bp (word_bad (of_bad2 (by decide) h).1)).1, (of_bad2 (by decide) h).2⟩, rfl, Nat.zero_le _⟩)
theorem read_3 (s : ByteArray) (hs : s.size < 4294967281) (e : (wR s).1 = bs cBalanced) : DPure Tryz.prog 7 [strV s] (out7 (readT s)) := by
  obtain ⟨hA, hB, hW, z3⟩ := pre_calls s hs
  have hp : pR s = numR (wR s).2 := peer_not _ (by rw [e]; decide)
  have hP : Calls22 (wR s).2 (pR s).1 (pR s).2 := by rw [hp]; exact number22_S (wR s).2 (Nat.le_trans (wsz_word z3).1 (by omega))
  have z4 : Wsz s.size (pR s).2 := by rw [hp]; exact wsz_num z3
  have bp : (pR s).2.2 = false → (wR s).2.2 = false ∧ I64 (pR s).1 := fun h => by rw [hp] at h ⊢; exact num_bad h
  have he : eR s = (3, (wordR (pR s).2).1, (numR (wordR (pR s).2).2).1, (numR (wordR (pR s).2).2).2) := by
    unfold eR
    rw [e]; exact ev_3 _
  have hm : momR s = ⟨(aR s).1, (bR s).1, 3, (pR s).1, (wordR (pR s).2).1, (numR (wordR (pR s).2).2).1⟩ := by unfold momR; rw [he]
  have hb : badR s = (numR (wordR (pR s).2).2).2.2 := by unfold badR; rw [he]
  rw [read_res, hm, hb]
  rw [e] at hW
  exact parse7_3 (h1 := hA) (h2 := hB) (h3 := hW) s hs (h4 := hP) (h5 := word23_S (pR s).2) (h6 := number22_S (wordR (pR s).2).2 (Nat.le_trans (wsz_word (wsz_word z4).2).1 (by omega))) (hI := fun h => ⟨⟨pre_ok (bp (word_bad (num_bad h).1)).1, (num_bad h).2⟩, rfl, Nat.le_trans (wsz_word z4).1 (by omega)⟩)
theorem read_4 (s : ByteArray) (hs : s.size < 4294967281) (e : (wR s).1 = bs cRange) : DPure Tryz.prog 7 [strV s] (out7 (readT s)) := by
  obtain ⟨hA, hB, hW, z3⟩ := pre_calls s hs
  have hp : pR s = numR (wR s).2 := peer_not _ (by rw [e]; decide)
  have hP : Calls22 (wR s).2 (pR s).1 (pR s).2 := by rw [hp]; exact number22_S (wR s).2 (Nat.le_trans (wsz_word z3).1 (by omega))
  have z4 : Wsz s.size (pR s).2 := by rw [hp]; exact wsz_num z3
  have bp : (pR s).2.2 = false → (wR s).2.2 = false ∧ I64 (pR s).1 := fun h => by rw [hp] at h ⊢; exact num_bad h
  have he : eR s = (4, (wordR (pR s).2).1, 0, (wordR (pR s).2).2) := by
    unfold eR
    rw [e]; exact ev_4 _
  have hm : momR s = ⟨(aR s).1, (bR s).1, 4, (pR s).1, (wordR (pR s).2).1, 0⟩ := by unfold momR; rw [he]
  have hb : badR s = (wordR (pR s).2).2.2 := by unfold badR; rw [he]
  rw [read_res, hm, hb]
  rw [e] at hW
  exact parse7_4 (h1 := hA) (h2 := hB) (h3 := hW) s hs (h4 := hP) (h5 := word23_S (pR s).2) (hI := fun h => ⟨⟨pre_ok (bp (word_bad h)).1, i64_0⟩, rfl, Nat.le_trans (wsz_word z4).1 (by omega)⟩)
theorem read_5 (s : ByteArray) (hs : s.size < 4294967281) (e : (wR s).1 = bs cLearned) : DPure Tryz.prog 7 [strV s] (out7 (readT s)) := by
  obtain ⟨hA, hB, hW, z3⟩ := pre_calls s hs
  have hp : pR s = (0, (wR s).2) := by unfold pR; rw [e]; exact if_pos rfl
  have z4 : Wsz s.size (wR s).2 := z3
  have he : eR s = (5, (wordR (wR s).2).1, (numR (wordR (wordR (wR s).2).2).2).1, (numR (wordR (wordR (wR s).2).2).2).2) := by
    unfold eR
    rw [hp, e]; exact ev_5 _
  have hm : momR s = ⟨(aR s).1, (bR s).1, 5, 0, (wordR (wR s).2).1, (numR (wordR (wordR (wR s).2).2).2).1⟩ := by unfold momR; rw [he, hp]
  have hb : badR s = (numR (wordR (wordR (wR s).2).2).2).2.2 := by unfold badR; rw [he]
  rw [read_res, hm, hb]
  rw [e] at hW
  exact parse7_5 (h1 := hA) (h2 := hB) (h3 := hW) s hs (h5 := word23_S (wR s).2) (h6 := word23_S (wordR (wR s).2).2) (h7 := number22_S (wordR (wordR (wR s).2).2).2 (Nat.le_trans (wsz_word (wsz_word (wsz_word z4).2).2).1 (by omega))) (hI := fun h => ⟨⟨pre_ok (word_bad (word_bad (num_bad h).1)), (num_bad h).2⟩, rfl, Nat.le_trans (wsz_word z4).1 (by omega)⟩)
theorem read_6 (s : ByteArray) (hs : s.size < 4294967281) (e : (wR s).1 = bs cIgnored) : DPure Tryz.prog 7 [strV s] (out7 (readT s)) := by
  obtain ⟨hA, hB, hW, z3⟩ := pre_calls s hs
  have hp : pR s = numR (wR s).2 := peer_not _ (by rw [e]; decide)
  have hP : Calls22 (wR s).2 (pR s).1 (pR s).2 := by rw [hp]; exact number22_S (wR s).2 (Nat.le_trans (wsz_word z3).1 (by omega))
  have z4 : Wsz s.size (pR s).2 := by rw [hp]; exact wsz_num z3
  have bp : (pR s).2.2 = false → (wR s).2.2 = false ∧ I64 (pR s).1 := fun h => by rw [hp] at h ⊢; exact num_bad h
  have he : eR s = (6, ⟨#[]⟩, (ofR (pR s).2 kindL).1, (ofR (pR s).2 kindL).2) := by
    unfold eR
    rw [e]; exact ev_6 _
  have hm : momR s = ⟨(aR s).1, (bR s).1, 6, (pR s).1, ⟨#[]⟩, (ofR (pR s).2 kindL).1⟩ := by unfold momR; rw [he]
  have hb : badR s = (ofR (pR s).2 kindL).2.2 := by unfold badR; rw [he]
  rw [read_res, hm, hb]
  rw [e] at hW
  exact parse7_6 (h1 := hA) (h2 := hB) (h3 := hW) s hs (h4 := hP) (h5 := of24_S (pR s).2 kindL) (hI := fun h => ⟨⟨pre_ok (bp (of_bad2 (by decide) h).1).1, (of_bad2 (by decide) h).2⟩, rfl, Nat.zero_le _⟩)
theorem read_0 (s : ByteArray) (hs : s.size < 4294967281) (e : (wR s).1 ≠ bs cHeld ∧ (wR s).1 ≠ bs cDropped ∧ (wR s).1 ≠ bs cBalanced ∧ (wR s).1 ≠ bs cRange ∧ (wR s).1 ≠ bs cLearned ∧ (wR s).1 ≠ bs cIgnored) : DPure Tryz.prog 7 [strV s] (out7 (readT s)) := by
  obtain ⟨hA, hB, hW, z3⟩ := pre_calls s hs
  have hp : pR s = numR (wR s).2 := peer_not _ (e.2.2.2.2.1)
  have hP : Calls22 (wR s).2 (pR s).1 (pR s).2 := by rw [hp]; exact number22_S (wR s).2 (Nat.le_trans (wsz_word z3).1 (by omega))
  have z4 : Wsz s.size (pR s).2 := by rw [hp]; exact wsz_num z3
  have bp : (pR s).2.2 = false → (wR s).2.2 = false ∧ I64 (pR s).1 := fun h => by rw [hp] at h ⊢; exact num_bad h
  have he : eR s = (0, ⟨#[]⟩, 0, (pR s).2) := by
    unfold eR
    rw [ev_0 _ e]
  have hm : momR s = ⟨(aR s).1, (bR s).1, 0, (pR s).1, ⟨#[]⟩, 0⟩ := by unfold momR; rw [he]
  have hb : badR s = (pR s).2.2 := by unfold badR; rw [he]
  rw [read_res, hm, hb]
  skip
  exact parse7_0 (h1 := hA) (h2 := hB) (h3 := hW) s hs (hw := e) (h4 := hP) (hI := fun h => ⟨⟨pre_ok (bp h).1, i64_0⟩, rfl, Nat.zero_le _⟩)
theorem parse7_D (s : ByteArray) (hs : s.size < 4294967281) : DPure Tryz.prog 7 [strV s] (out7 (readT s)) := by
  by_cases e1 : (wR s).1 = bs cHeld
  · exact read_1 s hs e1
  by_cases e2 : (wR s).1 = bs cDropped
  · exact read_2 s hs e2
  by_cases e3 : (wR s).1 = bs cBalanced
  · exact read_3 s hs e3
  by_cases e4 : (wR s).1 = bs cRange
  · exact read_4 s hs e4
  by_cases e5 : (wR s).1 = bs cLearned
  · exact read_5 s hs e5
  by_cases e6 : (wR s).1 = bs cIgnored
  · exact read_6 s hs e6
  exact read_0 s hs ⟨e1, e2, e3, e4, e5, e6⟩
end Go.Proofs.YtkfbaeljcajjbaaGreatDoor

/- The document's reader: words, numbers, places. -/
namespace Go.Proofs.YtkfbaeljcajjbaaGreatDoor
open Go.RowKit Go.Dl
attribute [local irreducible] Tri SCall TSem ECall Drawn DFun QSem PSem PCall GCall MCall Round Weak dloadE OW DWl Tells IntKind.wrap Retold ESem
def rowB (l : List ByteArray) : List DV := l.map strV
theorem rowB_len (l : List ByteArray) : (rowB l).length = l.length := List.length_map _
theorem rowB_all (l : List ByteArray) : (rowB l).all noId1 = true := by
  induction l with
  | nil => rfl
  | cons a l ih =>
    show (noId1 (strV a) && (rowB l).all noId1) = true
    rw [ih]; rfl
theorem rowB_push (l : List ByteArray) (x : ByteArray) : (rowB l).take (l.length * 1) ++ [strV x] = rowB (l ++ [x]) := by
  rw [List.take_of_length_le (by rw [rowB_len]; omega)]; simp [rowB]
theorem rowB_nil : rowB [] = [] := rfl
set_option maxRecDepth 20000 in
theorem rb_b1 (P : List ByteArray) : P.length * Tryz.prog.types[9].size ≤ (rowB P).length := by
  show P.length * 1 ≤ _
  rw [rowB_len]; omega
set_option maxRecDepth 20000 in
theorem rb_b2 {P : List ByteArray} (h : P.length ≤ 4294967290) : (P.length + 1) * Tryz.prog.types[9].bytes ≤ 140737488355328 := by
  show (P.length + 1) * 16 ≤ _
  omega
theorem rb_b3 {P : List ByteArray} (h : P.length ≤ 4294967290) : P.length + 1 ≤ maxLen := by simp only [maxLen]; omega
theorem pushB (P : List ByteArray) (x : ByteArray) : P.length + 1 = (P ++ [x]).length := by simp
def docW (s : ByteArray) : Nat → Nat × List ByteArray
  | 0 => (0, [])
  | i + 1 => if i = s.size ∨ byteAt s i = 32 then (i + 1, (docW s i).2 ++ [s.extract (docW s i).1 i]) else docW s i
theorem docW_at (s : ByteArray) (i : Nat) : (docW s i).1 ≤ i ∧ (docW s i).2.length ≤ i := by
  induction i with
  | zero => exact ⟨Nat.le_refl _, Nat.le_refl _⟩
  | succ i ih =>
    unfold docW
    split
    · refine ⟨Nat.le_refl _, ?_⟩
      show ((docW s i).2 ++ [_]).length ≤ i + 1
      rw [List.length_append, List.length_singleton]; omega
    · omega
def docWs (s : ByteArray) : List ByteArray := (docW s (s.size + 1)).2
theorem docWs_pos (s : ByteArray) : 0 < (docWs s).length := by
  unfold docWs docW
  rw [if_pos (.inl rfl)]
  show 0 < ((docW s s.size).2 ++ [_]).length
  rw [List.length_append, List.length_singleton]; omega
def DwI (s : ByteArray) (i : Nat × Nat × List ByteArray) : Prop := i.1 ≤ s.size + 1 ∧ i.2 = docW s i.1
def dw27 (s : ByteArray) (i : Nat × Nat × List ByteArray) : St := ⟨0, tmOf [(0, strV s), (3, .arr 0 i.2.2.length), (4, int1 i.2.1), (5, int1 i.1)], .of [(0, ⟨9, 1, rowB i.2.2⟩)] 1⟩
theorem dw_zero (s : ByteArray) : DwI s (0, 0, []) := ⟨Nat.zero_le _, rfl⟩
theorem dw_cut {s : ByteArray} {i : Nat × Nat × List ByteArray} (hi : DwI s i) (hle : i.1 < s.size + 1) (h : (bif (i.1 : Int) == (s.size : Int) then true else byteAt s ((i.1 : Nat) : Int).toNat == 32) = true) : DwI s (i.1 + 1, i.1 + 1, i.2.2 ++ [s.extract ((i.2.1 : Nat) : Int).toNat ((i.1 : Nat) : Int).toNat]) := by
  refine ⟨hle, ?_⟩
  rw [Int.toNat_natCast] at h
  simp only [Bool.cond_true_left, Bool.or_eq_true, beq_iff_eq] at h
  show _ = docW s (i.1 + 1)
  rw [docW, if_pos (by omega), ← hi.2, Int.toNat_natCast, Int.toNat_natCast]
theorem dw_skip {s : ByteArray} {i : Nat × Nat × List ByteArray} (hi : DwI s i) (hle : i.1 < s.size + 1) (h : (bif (i.1 : Int) == (s.size : Int) then true else byteAt s ((i.1 : Nat) : Int).toNat == 32) = false) : DwI s (i.1 + 1, i.2) := by
  refine ⟨hle, ?_⟩
  rw [Int.toNat_natCast] at h
  simp only [Bool.cond_true_left, Bool.or_eq_false_iff, beq_eq_false_iff_ne, ne_eq] at h
  show _ = docW s (i.1 + 1)
  rw [docW, if_neg (by omega), ← hi.2]
theorem dw_ends {s : ByteArray} {i : Nat × Nat × List ByteArray} (hi : DwI s i) (h : decide ((i.1 : Int) ≤ (s.size : Int)) = false) : i.2.2 = docWs s := by
  have h1 := of_decide_eq_false h
  have h2 := hi.1
  have : i.1 = s.size + 1 := by omega
  rw [docWs, ← this, ← hi.2]
theorem dw_small {s : ByteArray} {i : Nat × Nat × List ByteArray} (hi : DwI s i) : i.2.1 ≤ i.1 ∧ i.2.2.length ≤ i.1 := by rw [hi.2]; exact docW_at s i.1
theorem dw_in {s : ByteArray} {k : Nat} (hk : k < s.size + 1) (h : ((k : Int) == (s.size : Int)) = false) : k < s.size := by
  have : ¬ (k : Int) = (s.size : Int) := by simpa using h
  omega
def WdQ (W : List ByteArray) (r : DV) (o : Sto) : Prop := r = .arr 0 W.length ∧ o = .of [(0, ⟨9, 1, rowB W⟩)] 1
theorem WdQ.of {L W : List ByteArray} (h : L = W) : WdQ W (.arr 0 L.length) (.of [(0, ⟨9, 1, rowB L⟩)] 1) := by subst h; exact ⟨rfl, rfl⟩
attribute [local irreducible] byteAt docW rowB DwI WdQ docWs
set_option maxRecDepth 20000 in
theorem words27_Q (s : ByteArray) (hs : s.size < 4294967281) : DFun Tryz.prog 27 [strV s] (WdQ (docWs s)) := by
  refine DFun.body Tryz.func27 rfl (by kernel_rfl) ?_
  repeat' (first | with_reducible rfl | ((conv => whnf); first | refine And.intro ?_ ?_ | (intro h; first | with_reducible exact tf_no h | with_reducible exact ft_no h | exact Bool.noConfusion h | with_reducible exact h | (have ht : true = true := h; clear ht h) | skip) | ((with_reducible refine DWl.mark ?_); repeat' (first | refine DWl.cons ?_ ?_ | exact DWl.nil | exact DW.same _ rfl | exact DW.ref _ _ _ rfl | exact DW.arr _ _ _ rfl | exact DW.sub _ _ _ _ rfl | exact DW.nilLst _ | refine DW.aggl ?_ | refine DW.tupl ?_ | refine DW.clol ?_ ?_ | refine DW.int ?_ | refine DW.bool ?_ | refine DW.str ?_)) | ((with_reducible refine Tri.mark ?_); first | (refine Tri.at (5) (int1 0) (by rfl) ?_; refine Tri.loop (dw27 s) (DwI s) (fun i => s.size + 1 - i.1) ((0, 0, [])) (by kernel_rfl) (Weak.list [(0, none)] [] ?_ ?_ ?_) ?_ ?_)) | ((with_reducible refine ECall.mark ?_); first | refine ECall.only ?_ (fun h => nomatch h) | refine ECall.only ?_ ?_) | ((with_reducible refine Drawn.mark ?_); first | refine Drawn.quiet (by kernel_rfl) ?_) | refine dcell_ok rfl ?_ | refine AppC.new ?_))
  all_goals first | (with_reducible refine enters_mark ?_; kernel_rfl) | (with_reducible refine boolT_mark ?_; kernel_rfl) | rfl | trivial | assumption | exact Nat.le_of_ble_eq_true rfl | (show entersB _ _ = true; kernel_rfl) | exact DW.same _ rfl | exact DW.ref _ _ _ rfl | exact DW.arr _ _ _ rfl | refine DW.int ?_ | refine dvb ?_ | refine dvi ?_ | exact OW.cells rfl rfl (DWl.same rfl) | exact Nat.zero_le _ | omega | skip
  all_goals repeat' (first | refine OW.cells rfl rfl ?_ | exact DW.nilArr _ rfl | refine DWl.cons ?_ ?_ | exact DWl.nil | exact DW.same _ rfl | exact DW.ref _ _ _ rfl | exact DW.arr _ _ _ rfl | exact DW.sub _ _ _ _ rfl | exact DW.nilLst _ | refine DW.aggl ?_ | refine DW.tupl ?_ | refine DW.clol ?_ ?_)
  all_goals try ((conv => whnf); with_reducible first | refine Round.mark ?_ | refine Tells.mark ?_ | refine Retold.mark ?_)
  all_goals try first | (show (_ : Bool) = _; simp_all; done) | (show (_ : Int) < _; simp at *; omega) | (show (_ : Int) ≤ _; simp at *; omega) | (show (_ : Nat) < _; simp at *; omega) | (show (_ : Nat) ≤ _; simp at *; omega)
  · conv => whnf
    exact rowB_nil
  · exact dw_zero s
  · rename_i i hi e1
    exact Int.ofNat_le.2 (dw_small hi).1
  · exact rb_b1 _
  · rename_i i hi e1
    have := (dw_small hi).2
    have := of_decide_eq_true e1
    exact rb_b2 (by omega)
  · rename_i i hi e1
    have := (dw_small hi).2
    have := of_decide_eq_true e1
    exact rb_b3 (by omega)
  · rename_i i hi e1
    have hle : i.1 < s.size + 1 := by have := of_decide_eq_true e1; omega
    refine Round.go (fun _ => (i.1 + 1, i.1 + 1, i.2.2 ++ [s.extract ((i.2.1 : Nat) : Int).toNat ((i.1 : Nat) : Int).toNat])) (dw_cut hi hle h) (by show s.size + 1 - (i.1 + 1) < s.size + 1 - i.1; omega) (Weak.list [(0, some 2)] [] (by kernel_rfl) ?_ ?_)
    · repeat' (first | exact wsucc hle (by omega) | exact OW.cells rfl rfl (DWl.eq (rowB_push i.2.2 _) (rowB_all _)) | exact pushB _ _ | exact DW.same _ rfl | exact DW.ref _ _ _ rfl | exact DW.arr _ _ _ rfl | exact OW.cells rfl rfl (DWl.same rfl) | refine OW.cells rfl rfl ?_ | refine DWl.cons ?_ ?_ | exact DWl.nil | exact DW.nilArr _ rfl | exact DW.nilLst _ | refine DW.clol ?_ ?_ | refine DW.aggl ?_ | refine DW.tupl ?_ | refine DW.int ?_ | refine DW.bool ?_ | refine DW.str ?_ | refine DW.arrE rfl ?_ | ((conv => whnf); first | refine And.intro ?_ ?_ | trivial))
    · repeat' (first | exact wsucc hle (by omega) | exact OW.cells rfl rfl (DWl.eq (rowB_push i.2.2 _) (rowB_all _)) | exact pushB _ _ | exact DW.same _ rfl | exact DW.ref _ _ _ rfl | exact DW.arr _ _ _ rfl | exact OW.cells rfl rfl (DWl.same rfl) | refine OW.cells rfl rfl ?_ | refine DWl.cons ?_ ?_ | exact DWl.nil | exact DW.nilArr _ rfl | exact DW.nilLst _ | refine DW.clol ?_ ?_ | refine DW.aggl ?_ | refine DW.tupl ?_ | refine DW.int ?_ | refine DW.bool ?_ | refine DW.str ?_ | refine DW.arrE rfl ?_ | ((conv => whnf); first | refine And.intro ?_ ?_ | trivial))
  · rename_i i hi e1
    have hle : i.1 < s.size + 1 := by have := of_decide_eq_true e1; omega
    refine Round.go (fun _ => (i.1 + 1, i.2)) (dw_skip hi hle h) (by show s.size + 1 - (i.1 + 1) < s.size + 1 - i.1; omega) (Weak.list [(0, some 0)] [] (by kernel_rfl) ?_ ?_)
    · repeat' (first | exact wsucc hle (by omega) | exact OW.cells rfl rfl (DWl.same (rowB_all _)) | exact DW.same _ rfl | exact DW.ref _ _ _ rfl | exact DW.arr _ _ _ rfl | exact OW.cells rfl rfl (DWl.same rfl) | refine OW.cells rfl rfl ?_ | refine DWl.cons ?_ ?_ | exact DWl.nil | exact DW.nilArr _ rfl | exact DW.nilLst _ | refine DW.clol ?_ ?_ | refine DW.aggl ?_ | refine DW.tupl ?_ | refine DW.int ?_ | refine DW.bool ?_ | refine DW.str ?_ | refine DW.arrE rfl ?_ | ((conv => whnf); first | refine And.intro ?_ ?_ | trivial))
    · repeat' (first | exact wsucc hle (by omega) | exact OW.cells rfl rfl (DWl.same (rowB_all _)) | exact DW.same _ rfl | exact DW.ref _ _ _ rfl | exact DW.arr _ _ _ rfl | exact OW.cells rfl rfl (DWl.same rfl) | refine OW.cells rfl rfl ?_ | refine DWl.cons ?_ ?_ | exact DWl.nil | exact DW.nilArr _ rfl | exact DW.nilLst _ | refine DW.clol ?_ ?_ | refine DW.aggl ?_ | refine DW.tupl ?_ | refine DW.int ?_ | refine DW.bool ?_ | refine DW.str ?_ | refine DW.arrE rfl ?_ | ((conv => whnf); first | refine And.intro ?_ ?_ | trivial))
  · rename_i i hi
    conv => whnf
    exact WdQ.of (dw_ends hi h)
end Go.Proofs.YtkfbaeljcajjbaaGreatDoor

/- The document's reader: a number, a place among words. -/
namespace Go.Proofs.YtkfbaeljcajjbaaGreatDoor
open Go.RowKit Go.Dl
attribute [local irreducible] Tri SCall TSem ECall Drawn DFun QSem PSem PCall GCall MCall Round Weak dloadE OW DWl Tells IntKind.wrap Retold ESem
def u64 (x : Int) : DV := .v (.int .u64 x)
def isDig (b : Int) : Bool := bif decide (48 ≤ b) then decide (b ≤ 57) else false
def addD (x b : Int) : Int := IntKind.u64.wrap (IntKind.u64.wrap (x * 10) + IntKind.u64.wrap (IntKind.u8.wrap (b - 48)))
def digK (s : ByteArray) : Nat → Int
  | 0 => 0
  | k + 1 => if isDig (byteAt s k) = true then addD (digK s k) (byteAt s k) else digK s k
def numD (s : ByteArray) : Int := if 0 < s.size ∧ byteAt s 0 = 45 then IntKind.i64.wrap (0 - IntKind.i64.wrap (digK s s.size)) else IntKind.i64.wrap (digK s s.size)
def DgI (s : ByteArray) (k : Nat × Int) : Prop := k.1 ≤ s.size ∧ k.2 = digK s k.1
def dg28 (s : ByteArray) (k : Nat × Int) : St := ⟨0, tmOf [(0, strV s), (3, u64 k.2), (4, int1 k.1)], .of [] 0⟩
theorem dg_zero (s : ByteArray) : DgI s (0, 0) := ⟨Nat.zero_le _, rfl⟩
theorem dg_step {s : ByteArray} {k : Nat × Int} (hi : DgI s k) (hk : k.1 < s.size) (h : isDig (byteAt s k.1) = true) : DgI s (k.1 + 1, addD k.2 (byteAt s k.1)) := ⟨hk, by show _ = digK s (k.1 + 1); rw [digK, if_pos h, hi.2]⟩
theorem dg_skip {s : ByteArray} {k : Nat × Int} (hi : DgI s k) (hk : k.1 < s.size) (h : isDig (byteAt s k.1) = false) : DgI s (k.1 + 1, k.2) := ⟨hk, by show _ = digK s (k.1 + 1); rw [digK, if_neg (by rw [h]; decide), hi.2]⟩
theorem dg_end {s : ByteArray} {k : Nat × Int} (hi : DgI s k) (h : s.size ≤ k.1) : k.2 = digK s s.size := by
  have := hi.1
  have e : k.1 = s.size := by omega
  rw [← e]; exact hi.2
theorem nm_neg {s : ByteArray} (h : (bif decide ((0 : Int) < (s.size : Int)) then byteAt s (Int.toNat 0) == 45 else false) = true) : numD s = IntKind.i64.wrap (0 - IntKind.i64.wrap (digK s s.size)) := by
  have e : Int.toNat 0 = 0 := rfl
  rw [e] at h
  simp only [Bool.cond_false_right, Bool.and_eq_true, decide_eq_true_eq, beq_iff_eq] at h
  unfold numD
  rw [if_pos ⟨by omega, h.2⟩]
theorem nm_pos {s : ByteArray} (h : (bif decide ((0 : Int) < (s.size : Int)) then byteAt s (Int.toNat 0) == 45 else false) = false) : numD s = IntKind.i64.wrap (digK s s.size) := by
  have e : Int.toNat 0 = 0 := rfl
  rw [e] at h
  simp only [Bool.cond_false_right, Bool.and_eq_false_imp, decide_eq_true_eq, beq_eq_false_iff_ne] at h
  unfold numD
  rw [if_neg fun hc => h (by omega) hc.2]
def plA (w : ByteArray) : List ByteArray → Nat → Int
  | [], _ => 0
  | y :: t, i => if (y == w) = true then i else plA w t (i + 1)
def placeD (w : ByteArray) (L : List ByteArray) : Int := plA w (L.drop 1) 1
theorem pl_yes {l : List ByteArray} {x : ByteArray} {i : Nat} (h : i < l.length) (e : (l.getD i ByteArray.empty == x) = true) : plA x (l.drop i) i = i := by
  rw [drop_at (d := ByteArray.empty) h, plA, if_pos e]
theorem pl_no {l : List ByteArray} {x : ByteArray} {i : Nat} (h : i < l.length) (e : (l.getD i ByteArray.empty == x) = false) : plA x (l.drop i) i = plA x (l.drop (i + 1)) (i + 1) := by
  rw [drop_at (d := ByteArray.empty) h, plA, if_neg (by rw [e]; decide)]
theorem pl_end {l : List ByteArray} {x : ByteArray} {i : Nat} (h : l.length ≤ i) : plA x (l.drop i) i = 0 := by
  rw [List.drop_of_length_le h]; rfl
def pl29 (l : List ByteArray) (x : ByteArray) (i : Nat) : St := ⟨0, tmOf [(0, strs l), (1, strV x), (5, int1 i)], .of [] 0⟩
def PlI (l : List ByteArray) (x : ByteArray) (k : Nat) : Prop := (1 ≤ k ∧ k ≤ l.length + 1) ∧ placeD x l = plA x (l.drop k) k
attribute [local irreducible] byteAt digK DgI
set_option maxRecDepth 20000 in
theorem number28_D (s : ByteArray) (hs : s.size ≤ 9223372036854775807) : DPure Tryz.prog 28 [strV s] (int1 (numD s)) := by
  refine DFun.data (DFun.body Tryz.func28 rfl (by kernel_rfl) ?_)
  repeat' (first | with_reducible rfl | ((conv => whnf); first | refine And.intro ?_ ?_ | (intro h; first | with_reducible exact tf_no h | with_reducible exact ft_no h | exact Bool.noConfusion h | with_reducible exact h | (have ht : true = true := h; clear ht h) | skip) | ((with_reducible refine DWl.mark ?_); repeat' (first | refine DWl.cons ?_ ?_ | exact DWl.nil | exact DW.same _ rfl | exact DW.ref _ _ _ rfl | exact DW.arr _ _ _ rfl | exact DW.sub _ _ _ _ rfl | exact DW.nilLst _ | refine DW.aggl ?_ | refine DW.tupl ?_ | refine DW.clol ?_ ?_ | refine DW.int ?_ | refine DW.bool ?_ | refine DW.str ?_)) | ((with_reducible refine Tri.mark ?_); first | (refine Tri.at (4) (int1 0) (by rfl) ?_; refine Tri.loop (dg28 s) (DgI s) (fun k => s.size - k.1) ((0, 0)) (by kernel_rfl) (Weak.list [] [] ?_ ?_ ?_) ?_ ?_)) | ((with_reducible refine ECall.mark ?_); first | refine ECall.only ?_ (fun h => nomatch h) | refine ECall.only ?_ ?_) | ((with_reducible refine Drawn.mark ?_); first | refine Drawn.quiet (by kernel_rfl) ?_) | refine dcell_ok rfl ?_ | refine AppC.new ?_))
  all_goals first | (with_reducible refine enters_mark ?_; kernel_rfl) | (with_reducible refine boolT_mark ?_; kernel_rfl) | rfl | trivial | assumption | exact Nat.le_of_ble_eq_true rfl | (show entersB _ _ = true; kernel_rfl) | exact DW.same _ rfl | exact DW.ref _ _ _ rfl | exact DW.arr _ _ _ rfl | refine DW.int ?_ | refine dvb ?_ | refine dvi ?_ | exact OW.cells rfl rfl (DWl.same rfl) | exact Nat.zero_le _ | omega | skip
  all_goals repeat' (first | refine OW.cells rfl rfl ?_ | exact DW.nilArr _ rfl | refine DWl.cons ?_ ?_ | exact DWl.nil | exact DW.same _ rfl | exact DW.ref _ _ _ rfl | exact DW.arr _ _ _ rfl | exact DW.sub _ _ _ _ rfl | exact DW.nilLst _ | refine DW.aggl ?_ | refine DW.tupl ?_ | refine DW.clol ?_ ?_)
  all_goals try ((conv => whnf); with_reducible first | refine Round.mark ?_ | refine Tells.mark ?_ | refine Retold.mark ?_)
  all_goals try first | (show (_ : Bool) = _; simp_all; done) | (show (_ : Int) < _; simp at *; omega) | (show (_ : Int) ≤ _; simp at *; omega) | (show (_ : Nat) < _; simp at *; omega) | (show (_ : Nat) ≤ _; simp at *; omega)
  · exact dg_zero s
  · rename_i k hk e1
    have hlt := lt_int e1
    refine Round.go (fun _ => (k.1 + 1, addD k.2 (byteAt s k.1))) (dg_step hk hlt h) (by show s.size - (k.1 + 1) < s.size - k.1; omega) (Weak.list [] [] (by kernel_rfl) ?_ ?_)
    · repeat' (first | exact wsucc hlt (by omega) | exact DW.same _ rfl | exact DW.ref _ _ _ rfl | exact DW.arr _ _ _ rfl | exact OW.cells rfl rfl (DWl.same rfl) | refine OW.cells rfl rfl ?_ | refine DWl.cons ?_ ?_ | exact DWl.nil | exact DW.nilArr _ rfl | exact DW.nilLst _ | refine DW.clol ?_ ?_ | refine DW.aggl ?_ | refine DW.tupl ?_ | refine DW.int ?_ | refine DW.bool ?_ | refine DW.str ?_ | refine DW.arrE rfl ?_ | ((conv => whnf); first | refine And.intro ?_ ?_ | trivial))
    · repeat' (first | exact wsucc hlt (by omega) | exact DW.same _ rfl | exact DW.ref _ _ _ rfl | exact DW.arr _ _ _ rfl | exact OW.cells rfl rfl (DWl.same rfl) | refine OW.cells rfl rfl ?_ | refine DWl.cons ?_ ?_ | exact DWl.nil | exact DW.nilArr _ rfl | exact DW.nilLst _ | refine DW.clol ?_ ?_ | refine DW.aggl ?_ | refine DW.tupl ?_ | refine DW.int ?_ | refine DW.bool ?_ | refine DW.str ?_ | refine DW.arrE rfl ?_ | ((conv => whnf); first | refine And.intro ?_ ?_ | trivial))
  · rename_i k hk e1
    have hlt := lt_int e1
    refine Round.go (fun _ => (k.1 + 1, k.2)) (dg_skip hk hlt h) (by show s.size - (k.1 + 1) < s.size - k.1; omega) (Weak.list [] [] (by kernel_rfl) ?_ ?_)
    · repeat' (first | exact wsucc hlt (by omega) | exact DW.same _ rfl | exact DW.ref _ _ _ rfl | exact DW.arr _ _ _ rfl | exact OW.cells rfl rfl (DWl.same rfl) | refine OW.cells rfl rfl ?_ | refine DWl.cons ?_ ?_ | exact DWl.nil | exact DW.nilArr _ rfl | exact DW.nilLst _ | refine DW.clol ?_ ?_ | refine DW.aggl ?_ | refine DW.tupl ?_ | refine DW.int ?_ | refine DW.bool ?_ | refine DW.str ?_ | refine DW.arrE rfl ?_ | ((conv => whnf); first | refine And.intro ?_ ?_ | trivial))
    · repeat' (first | exact wsucc hlt (by omega) | exact DW.same _ rfl | exact DW.ref _ _ _ rfl | exact DW.arr _ _ _ rfl | exact OW.cells rfl rfl (DWl.same rfl) | refine OW.cells rfl rfl ?_ | refine DWl.cons ?_ ?_ | exact DWl.nil | exact DW.nilArr _ rfl | exact DW.nilLst _ | refine DW.clol ?_ ?_ | refine DW.aggl ?_ | refine DW.tupl ?_ | refine DW.int ?_ | refine DW.bool ?_ | refine DW.str ?_ | refine DW.arrE rfl ?_ | ((conv => whnf); first | refine And.intro ?_ ?_ | trivial))
  · rename_i k hk e1
    have hge := ge_int e1
    exact Tells.mk (DW.int (by rw [nm_neg h, dg_end hk hge]))
  · rename_i k hk e1
    have hge := ge_int e1
    exact Tells.mk (DW.int (by rw [nm_pos h, dg_end hk hge]))
theorem words27_O (s : ByteArray) (hs : s.size < 4294967281) : DFun Tryz.prog 27 [strV s] (fun r o => r = .arr 0 (docWs s).length ∧ o = .of [(0, ⟨9, 1, rowB (docWs s)⟩)] 1) :=
  (words27_Q s hs).mono fun r o h => by unfold WdQ at h; exact h
theorem pl_zero {l : List ByteArray} (x : ByteArray) : PlI l x 1 := ⟨⟨Nat.le_refl _, by omega⟩, rfl⟩
theorem pl_got {l : List ByteArray} {x : ByteArray} {k : Nat} (hi : PlI l x k) (hk : k < l.length) (h : (l.getD k ByteArray.empty == x) = true) : placeD x l = k := by rw [hi.2, pl_yes hk h]
theorem pl_next {l : List ByteArray} {x : ByteArray} {k : Nat} (hi : PlI l x k) (hk : k < l.length) (h : (l.getD k ByteArray.empty == x) = false) : PlI l x (k + 1) := ⟨⟨by omega, by omega⟩, by rw [hi.2, pl_no hk h]⟩
theorem pl_none {l : List ByteArray} {x : ByteArray} {k : Nat} (hi : PlI l x k) (hk : l.length ≤ k) : placeD x l = 0 := by rw [hi.2, pl_end hk]
attribute [local irreducible] PlI plA
set_option maxRecDepth 20000 in
theorem place29_D (l : List ByteArray) (x : ByteArray) (hl : 1 ≤ l.length ∧ l.length ≤ 1000) : DPure Tryz.prog 29 [strs l, strV x] (int1 (placeD x l)) := by
  refine DFun.data (DFun.body Tryz.func29 rfl (by kernel_rfl) ?_)
  repeat' (first | with_reducible rfl | ((conv => whnf); first | refine And.intro ?_ ?_ | (intro h; first | with_reducible exact tf_no h | with_reducible exact ft_no h | exact Bool.noConfusion h | with_reducible exact h | (have ht : true = true := h; clear ht h) | skip) | ((with_reducible refine DWl.mark ?_); repeat' (first | refine DWl.cons ?_ ?_ | exact DWl.nil | exact DW.same _ rfl | exact DW.ref _ _ _ rfl | exact DW.arr _ _ _ rfl | exact DW.sub _ _ _ _ rfl | exact DW.nilLst _ | refine DW.aggl ?_ | refine DW.tupl ?_ | refine DW.clol ?_ ?_ | refine DW.int ?_ | refine DW.bool ?_ | refine DW.str ?_)) | ((with_reducible refine Tri.mark ?_); first | (refine Tri.at (5) (int1 1) (by rfl) ?_; refine Tri.loop (pl29 l x) (PlI l x) (fun k => l.length + 1 - k) (1) (by kernel_rfl) (Weak.list [] [] ?_ ?_ ?_) ?_ ?_)) | ((with_reducible refine ECall.mark ?_); first | refine ECall.only ?_ (fun h => nomatch h) | refine ECall.only ?_ ?_) | ((with_reducible refine Drawn.mark ?_); first | refine Drawn.quiet (by kernel_rfl) ?_) | refine dloadE_map (ByteArray.empty) ?_ ?_ | refine dcell_ok rfl ?_ | refine AppC.new ?_))
  all_goals first | (with_reducible refine enters_mark ?_; kernel_rfl) | (with_reducible refine boolT_mark ?_; kernel_rfl) | rfl | trivial | assumption | exact Nat.le_of_ble_eq_true rfl | (show entersB _ _ = true; kernel_rfl) | exact DW.same _ rfl | exact DW.ref _ _ _ rfl | exact DW.arr _ _ _ rfl | refine DW.int ?_ | refine dvb ?_ | refine dvi ?_ | exact OW.cells rfl rfl (DWl.same rfl) | exact Nat.zero_le _ | omega | skip
  all_goals repeat' (first | refine OW.cells rfl rfl ?_ | exact DW.nilArr _ rfl | refine DWl.cons ?_ ?_ | exact DWl.nil | exact DW.same _ rfl | exact DW.ref _ _ _ rfl | exact DW.arr _ _ _ rfl | exact DW.sub _ _ _ _ rfl | exact DW.nilLst _ | refine DW.aggl ?_ | refine DW.tupl ?_ | refine DW.clol ?_ ?_)
  all_goals try ((conv => whnf); with_reducible first | refine Round.mark ?_ | refine Tells.mark ?_ | refine Retold.mark ?_)
  all_goals try first | (show (_ : Bool) = _; simp_all; done) | (show (_ : Int) < _; simp at *; omega) | (show (_ : Int) ≤ _; simp at *; omega) | (show (_ : Nat) < _; simp at *; omega) | (show (_ : Nat) ≤ _; simp at *; omega)
  · exact pl_zero x
  · rename_i k hk e1
    have hlt := lt_of_test e1
    exact Tells.mk (DW.int (pl_got hk hlt h).symm)
  · rename_i k hk e1
    have hlt := lt_of_test e1
    refine Round.go (· + 1) (pl_next hk hlt h) (by show l.length + 1 - (k + 1) < l.length + 1 - k; omega) (Weak.list [] [] (by kernel_rfl) ?_ ?_)
    · repeat' (first | exact wsucc hlt (by omega) | exact DW.same _ rfl | exact DW.ref _ _ _ rfl | exact DW.arr _ _ _ rfl | exact OW.cells rfl rfl (DWl.same rfl) | refine OW.cells rfl rfl ?_ | refine DWl.cons ?_ ?_ | exact DWl.nil | exact DW.nilArr _ rfl | exact DW.nilLst _ | refine DW.clol ?_ ?_ | refine DW.aggl ?_ | refine DW.tupl ?_ | refine DW.int ?_ | refine DW.bool ?_ | refine DW.str ?_ | refine DW.arrE rfl ?_ | ((conv => whnf); first | refine And.intro ?_ ?_ | trivial))
    · repeat' (first | exact wsucc hlt (by omega) | exact DW.same _ rfl | exact DW.ref _ _ _ rfl | exact DW.arr _ _ _ rfl | exact OW.cells rfl rfl (DWl.same rfl) | refine OW.cells rfl rfl ?_ | refine DWl.cons ?_ ?_ | exact DWl.nil | exact DW.nilArr _ rfl | exact DW.nilLst _ | refine DW.clol ?_ ?_ | refine DW.aggl ?_ | refine DW.tupl ?_ | refine DW.int ?_ | refine DW.bool ?_ | refine DW.str ?_ | refine DW.arrE rfl ?_ | ((conv => whnf); first | refine And.intro ?_ ?_ | trivial))
  · rename_i k hk
    have hge := ge_of_test h
    exact Tells.mk (DW.int (pl_none hk hge).symm)
end Go.Proofs.YtkfbaeljcajjbaaGreatDoor

/- A line read, by the document. -/
namespace Go.Proofs.YtkfbaeljcajjbaaGreatDoor
open Go.RowKit Go.Dl
attribute [local irreducible] Tri SCall TSem ECall Drawn DFun QSem PSem PCall GCall MCall Round Weak dloadE OW DWl Tells IntKind.wrap Retold ESem
def e0 : ByteArray := ⟨#[]⟩
def padW (l : List ByteArray) : List ByteArray := l ++ List.replicate (6 - l.length) e0
def PwI (N : List ByteArray) (n : Nat) (L : List ByteArray) : Prop := L.length ≤ n ∧ padW L = N
theorem padW_push {l : List ByteArray} (h : l.length < 6) : padW (l ++ [e0]) = padW l := by
  rw [padW, padW, List.append_assoc, List.length_append, show 6 - l.length = (6 - (l.length + [e0].length)) + 1 by simp only [List.length_singleton]; omega, List.replicate_succ]; rfl
theorem padW_full {l : List ByteArray} (h : 6 ≤ l.length) : padW l = l := by
  rw [padW, show 6 - l.length = 0 by omega]; simp
theorem pw_next {N L : List ByteArray} {n : Nat} (hn : 6 ≤ n) (h : PwI N n L) (h6 : L.length < 6) : PwI N n (L ++ [e0]) := ⟨by rw [List.length_append, List.length_singleton]; omega, by rw [padW_push h6]; exact h.2⟩
def kindsL : List ByteArray := [⟨#[]⟩, bs cHeld, bs cDropped, bs cBalanced, bs cRange, bs cLearned, bs cIgnored]
def pw8 (s : ByteArray) (L : List ByteArray) : St := ⟨0, tmOf [(0, strV s), (2, .ref 0 0), (4, .arr 1 L.length)], .of [(0, ⟨25, 6, moD mo0⟩), (1, ⟨9, 1, rowB L⟩)] 2⟩
theorem rowB_six (a b c d e f : ByteArray) (r : List ByteArray) : rowB (a :: b :: c :: d :: e :: f :: r) = strV a :: strV b :: strV c :: strV d :: strV e :: strV f :: rowB r := rfl
theorem rowB_scal (L : List ByteArray) : (rowB L).all scalV = true := by
  induction L with
  | nil => rfl
  | cons a l ih =>
    show (scalV (strV a) && (rowB l).all scalV) = true
    rw [ih]; rfl
def resD (m : Mo) (s : ByteArray) : Mo × Int := if s = ⟨#[]⟩ ∨ lineT m ≠ s then (mo0, 20) else (m, 0)
theorem docWs_len {s : ByteArray} (hs : s.size < 4294967281) : (docWs s).length ≤ 4294967282 := by have := (docW_at s (s.size + 1)).2; unfold docWs; omega
theorem i64_z : I64 0 := ⟨by decide, by decide⟩
theorem wrap_i64 (x : Int) : I64 (IntKind.i64.wrap x) := by
  unfold I64
  simp [IntKind.wrap, IntKind.bits, IntKind.signed]
  split <;> omega
theorem numD_i64 (s : ByteArray) : I64 (numD s) := by
  unfold numD
  split <;> exact wrap_i64 _
theorem pla_i64 (w : ByteArray) : ∀ (L : List ByteArray) (i : Nat), 0 ≤ plA w L i ∧ plA w L i ≤ i + L.length
  | [], i => by unfold plA; simp only [List.length_nil]; omega
  | y :: t, i => by
    unfold plA
    split
    · rw [List.length_cons]; omega
    · have := pla_i64 w t (i + 1)
      rw [List.length_cons]; omega
theorem place_i64 (w : ByteArray) (L : List ByteArray) (h : L.length ≤ 100) : I64 (placeD w L) := by
  have := pla_i64 w (L.drop 1) 1
  have h2 : (L.drop 1).length ≤ L.length := by rw [List.length_drop]; omega
  unfold placeD I64
  omega
theorem resD_err {m : Mo} {s : ByteArray} (h : (bif s == ⟨#[]⟩ then true else lineT m != s) = true) : resD m s = (mo0, 20) := by
  unfold resD
  refine if_pos ?_
  cases e : (s == ByteArray.mk #[])
  · rw [e] at h
    exact .inr fun hc => by
      have h : (lineT m != s) = true := h
      rw [hc] at h
      simp [bne, ba_eq.2 (rfl : s = s)] at h
  · exact .inl (ba_eq.1 e)
theorem resD_ok {m : Mo} {s : ByteArray} (h : (bif s == ⟨#[]⟩ then true else lineT m != s) = false) : resD m s = (m, 0) := by
  unfold resD
  refine if_neg ?_
  cases e : (s == ByteArray.mk #[])
  · rw [e] at h
    have h : (lineT m != s) = false := h
    rintro (hc | hc)
    · rw [ba_eq.2 hc] at e; cases e
    · exact hc (ba_eq.1 (by simpa [bne] using h))
  · rw [e] at h; cases h
attribute [local irreducible] byteAt docWs numD placeD lineT resD I64
end Go.Proofs.YtkfbaeljcajjbaaGreatDoor
