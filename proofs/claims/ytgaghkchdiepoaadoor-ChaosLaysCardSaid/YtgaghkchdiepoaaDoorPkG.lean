/- ChaosLays: what it computes. -/
import Derived.Test.YtgaghkchdiepoaaDoorPkF

namespace Go.Dl
open Go.RowKit
/-- A call whose arguments are lent, whose result is an empty list. -/
theorem SCall.empty [Inhabited GlobS] {P : Program} {f : FuncId} {args args' : List DV} {s : Sto} {K : DV → Sto → Prop} {sz : Nat} (h : DPure P f args' (.lst sz []))
    (hd : DWl (fun i => some (i + s.nx)) s (fun _ => True) args args') (hK : K (.lst sz []) s) : SCall P f args s K :=
  fun w0 F0 β w vals hs hx => (h w (fun _ => True) vals hs.gok (fun _ _ => trivial) (lendW hs hd hx)).mono fun e w' ⟨v, r, s', β', he, hq, hs', hv⟩ => by
    subst hq
    obtain ⟨h1, h2⟩ := hs.below' hs'.below
    refine ⟨v, _, s, β, he, hK, h1, h2 _, Nat.le_refl _, ?_⟩
    cases hv with
    | data hd =>
      cases hd with
      | lst _ _ a b off cap g ha hn hc hm hsz hcell hd => exact .data (.lst _ _ a b off cap g ha hn hc hm hsz (fun i cs j d h => by simp at h) (fun i cs j d h => by simp at h))
end Go.Dl
namespace Go.Proofs.YtgaghkchdiepoaaDoor
open Go.RowKit Go.Dl
attribute [local irreducible] Tri SCall TSem ECall Drawn DFun QSem PSem PCall GCall MCall Round Weak dloadE OW DWl Tells IntKind.wrap Retold ESem
theorem heals_none (p : List Mx) (h : ∀ m ∈ p, 0 ≤ m.fr) : ∀ out : List Stp, healsF 0 0 p out = out := by
  induction p with
  | nil => intro out; rfl
  | cons m p ih =>
    intro out
    show healsF 0 0 p (out ++ healT 0 0 m) = out
    rw [ih (fun m hm => h m (List.mem_cons_of_mem _ hm)), show healT 0 0 m = [] by unfold healT; rw [if_pos (.inr (.inl (h m (List.mem_cons_self ..))))], List.append_nil]
theorem harms_none (p : List Mx) : ∀ s : List Stp × Int, harmsF 0 0 p s = s := by
  induction p with
  | nil => intro s; rfl
  | cons m p ih =>
    intro s
    show harmsF 0 0 p (s.1 ++ (harmT 0 0 m s.2).1, (harmT 0 0 m s.2).2) = s
    rw [ih, show harmT 0 0 m s.2 = ([], s.2) by unfold harmT; rw [if_pos (.inl rfl)], List.append_nil]
theorem fit_from {n : Int} {p : List Mx} (hf : FitP n p) : ∀ m ∈ p, 0 ≤ m.fr := fun m hm => by
  obtain ⟨i, hi, e⟩ := List.mem_iff_getElem.1 hm
  have := hf.2.2.2 i hi
  rw [List.getD_eq_getElem?_getD, List.getElem?_eq_getElem hi] at this
  have he : p[i] = m := e
  have h2 : EntP n m := by rw [← he]; exact this
  exact h2.1
theorem layT_empty {n : Int} {p : List Mx} (hf : FitP n p) (x : Int) : layT p [] x = [] := by
  show (roundL p [] 0 ([], x)).1 = []
  unfold roundL
  simp only [List.length_nil, Int.natCast_zero]
  rw [heals_none p (fit_from hf), harms_none]
  rfl
theorem scal_row (L : List Stp) : (rowS L).all scalV = true := by
  induction L with
  | nil => rfl
  | cons a l ih => rw [rowS_cons, List.all_append, ih]; rfl
theorem all_set : ∀ (cs : List DV) (i : Nat) (d : DV), cs.all noId1 = true → noId1 d = true → (cs.set i d).all noId1 = true
  | [], _, _, _, _ => rfl
  | c :: cs, 0, d, h, hd => by
    rw [List.set_cons_zero, List.all_cons] at *
    simp only [Bool.and_eq_true] at h ⊢
    exact ⟨hd, h.2⟩
  | c :: cs, i + 1, d, h, hd => by
    rw [List.set_cons_succ, List.all_cons]
    rw [List.all_cons] at h
    simp only [Bool.and_eq_true] at h ⊢
    exact ⟨h.1, all_set cs i d h.2 hd⟩
set_option maxRecDepth 20000 in
theorem ap_p {p : List Mx} (hp : p.length ≤ 32) : (0 + (p.map mxD).length) * Tryd.prog.types[50].bytes ≤ 140737488355328 := by
  rw [List.length_map]
  show (0 + p.length) * 48 ≤ _
  omega
set_option maxRecDepth 20000 in
theorem ap_l {l : List Stp} (hl : l.length ≤ 4096) : (0 + (l.map stpD).length) * Tryd.prog.types[34].bytes ≤ 140737488355328 := by
  rw [List.length_map]
  show (0 + l.length) * 56 ≤ _
  omega
attribute [local irreducible] layT fitB rowS
set_option maxRecDepth 20000 in
theorem lays4_N (n : Int) (l : List Stp) (p : List Mx) (x : Int) (hno : ¬ (FitP n p ∧ l.length ≤ 4096)) : DPure Tryd.prog 4 [int1 n, stps l, mxs p, u64 x] (bl true) := by
  refine DFun.data (DFun.body Tryd.func4 rfl (by kernel_rfl) ?_)
  repeat' (first | with_reducible rfl | ((conv => whnf); first | refine And.intro ?_ ?_ | (intro h; first | with_reducible exact tf_no h | with_reducible exact ft_no h | exact Bool.noConfusion h | with_reducible exact h | (exact absurd (keep_yes h) hno) | (have ht : true = true := h; clear ht h) | skip) | ((with_reducible refine DWl.mark ?_); repeat' (first | refine DWl.cons ?_ ?_ | exact DWl.nil | exact DW.same _ rfl | exact DW.ref _ _ _ rfl | exact DW.arr _ _ _ rfl | exact DW.sub _ _ _ _ rfl | exact DW.nilLst _ | refine DW.aggl ?_ | refine DW.tupl ?_ | refine DW.clol ?_ ?_ | refine DW.int ?_ | refine DW.bool ?_ | refine DW.str ?_)) | ((with_reducible refine SCall.mark ?_); first | refine SCall.data (fit9_D n p) rfl rfl ?_ | refine SCall.scal (fit9_D n p) rfl rfl ?_ | refine SCall.data (awake13_D) rfl rfl ?_ | refine SCall.scal (awake13_D) rfl rfl ?_) | ((with_reducible refine PCall.mark ?_); first | refine PCall.mk (fit9_D n p) rfl rfl ?_ | refine PCall.mk (awake13_D) rfl rfl ?_) | ((with_reducible refine GCall.mark ?_); first | refine GCall.data (fun _ => fit9_D n p) rfl rfl ?_ | refine GCall.scal (fun _ => fit9_D n p) rfl rfl ?_ | refine GCall.data (fun _ => awake13_D) rfl rfl ?_ | refine GCall.scal (fun _ => awake13_D) rfl rfl ?_) | ((with_reducible refine MCall.mark ?_); first | refine MCall.data (fun _ => fit9_D n p) rfl rfl ?_ | refine MCall.plain (PCall.mk (fit9_D n p) rfl rfl ?_) | refine MCall.data (fun _ => awake13_D) rfl rfl ?_ | refine MCall.plain (PCall.mk (awake13_D) rfl rfl ?_)) | ((with_reducible refine ECall.mark ?_); first | refine ECall.only ?_ (fun h => nomatch h) | refine ECall.only ?_ ?_) | ((with_reducible refine Drawn.mark ?_); first | refine Drawn.quiet (by kernel_rfl) ?_) | refine dcell_ok rfl ?_ | refine AppC.new ?_))
  all_goals first | (with_reducible refine enters_mark ?_; kernel_rfl) | (with_reducible refine boolT_mark ?_; kernel_rfl) | rfl | trivial | assumption | exact Nat.le_of_ble_eq_true rfl | (show entersB _ _ = true; kernel_rfl) | exact DW.same _ rfl | exact DW.ref _ _ _ rfl | exact DW.arr _ _ _ rfl | refine DW.int ?_ | refine dvb ?_ | refine dvi ?_ | exact OW.cells rfl rfl (DWl.same rfl) | exact Nat.zero_le _ | omega | skip
  all_goals repeat' (first | refine OW.cells rfl rfl ?_ | exact DW.nilArr _ rfl | refine DWl.cons ?_ ?_ | exact DWl.nil | exact DW.same _ rfl | exact DW.ref _ _ _ rfl | exact DW.arr _ _ _ rfl | exact DW.sub _ _ _ _ rfl | exact DW.nilLst _ | refine DW.aggl ?_ | refine DW.tupl ?_ | refine DW.clol ?_ ?_)
  all_goals try ((conv => whnf); with_reducible first | refine Round.mark ?_ | refine Tells.mark ?_ | refine Retold.mark ?_)
  all_goals try first | (show (_ : Bool) = _; simp_all; done) | (show (_ : Int) < _; simp at *; omega) | (show (_ : Int) ≤ _; simp at *; omega) | (show (_ : Nat) < _; simp at *; omega) | (show (_ : Nat) ≤ _; simp at *; omega)
  conv => whnf
  exact Tells.mk (DW.bool rfl)
def k4 (l : List Stp) (p : List Mx) (N : Nat) (ci co : List DV) (il : Nat) (pl : Nat) (k : Nat × List DV) : St := ⟨0, tmOf [(1, stps l), (2, mxs p), (9, .arr 0 pl), (10, .arr 1 il), (11, .arr 2 N), (12, int1 k.1)], .of [(0, ⟨50, 6, co⟩), (1, ⟨34, 6, ci⟩), (2, ⟨34, 6, k.2⟩)] 3⟩
set_option maxRecDepth 20000 in
theorem lays4_Y (n : Int) (l : List Stp) (p : List Mx) (x : Int) (hy : FitP n p ∧ l.length ≤ 4096) (hl0 : 0 < l.length) : DPure Tryd.prog 4 [int1 n, stps l, mxs p, u64 x] (bl true) := by
  have hb : (layT p l x).length ≤ 1000000 := Nat.le_trans (show (layT p l x).length ≤ 300000 by unfold layT; exact lay_small hy.1.2.2.1 hy.2 (Nat.le_refl _)) (by decide)
  have hl := hy.2
  have hp := hy.1.2.2.1
  have h14 := lay14_O n p l x hy.1 hl
  have h16 := lay16_D n p l x hy.1 hl
  obtain ⟨q, hL, -, -⟩ := keeps_of (n := n) (p := p) hy.1 l x
  generalize layT p l x = out at hb h14 h16 hL
  have hpos : 0 < (rowS out).length := by rw [rowS_len]; have := hL.len; omega
  have h15 : DPure Tryd.prog 15 [stps l, stps l] (bl true) := by
    have := steps_D l l
    rw [decide_eq_true rfl] at this
    exact this
  have h15o : DPure Tryd.prog 15 [stps out, stps out] (bl true) := by
    have := steps_D out out
    rw [decide_eq_true rfl] at this
    exact this
  have h17 : DPure Tryd.prog 17 [mxs p, mxs p] (bl true) := by
    have := same_D p p
    rw [decide_eq_true rfl] at this
    exact this
  refine DFun.data (DFun.body Tryd.func4 rfl (by kernel_rfl) ?_)
  repeat' (first | with_reducible rfl | ((conv => whnf); first | refine And.intro ?_ ?_ | (intro h; first | with_reducible exact tf_no h | with_reducible exact ft_no h | exact Bool.noConfusion h | with_reducible exact h | (exact absurd (h.symm.trans (keep_no hy)) (by decide)) | (have ht : true = true := h; clear ht h) | skip) | ((with_reducible refine DWl.mark ?_); repeat' (first | refine DWl.cons ?_ ?_ | exact DWl.nil | exact DW.same _ rfl | exact DW.ref _ _ _ rfl | exact DW.arr _ _ _ rfl | exact DW.sub _ _ _ _ rfl | exact DW.nilLst _ | refine DW.aggl ?_ | refine DW.tupl ?_ | refine DW.clol ?_ ?_ | exact DW.pubM (l := l) rfl (by simp) rfl rfl (stpsRow _) rfl | exact DW.pubM (l := p) rfl (by simp) rfl rfl (mxsRow _) rfl | exact DW.pubM (l := out) rfl rfl rfl rfl (stpsRow _) (rowS_eq _) | refine DW.int ?_ | refine DW.bool ?_ | refine DW.str ?_)) | ((with_reducible refine SCall.mark ?_); first | refine SCall.data (fit9_D n p) rfl rfl ?_ | refine SCall.scal (fit9_D n p) rfl rfl ?_ | refine SCall.data (awake13_D) rfl rfl ?_ | refine SCall.scal (awake13_D) rfl rfl ?_ | refine SCall.fresh h14 ?_ (scal_row _) hpos ?_ | refine SCall.data (h16) rfl rfl ?_ | refine SCall.scal (h16) rfl rfl ?_ | (refine SCall.scalT (h15o) ?dwq rfl ?_; case dwq => (repeat' (first | refine DWl.cons ?_ ?_ | exact DWl.nil | exact DW.same _ rfl | exact DW.ref _ _ _ rfl | exact DW.arr _ _ _ rfl | exact DW.sub _ _ _ _ rfl | exact DW.nilLst _ | refine DW.aggl ?_ | refine DW.tupl ?_ | refine DW.clol ?_ ?_ | exact DW.pubM (l := l) rfl (by simp) rfl rfl (stpsRow _) rfl | exact DW.pubM (l := p) rfl (by simp) rfl rfl (mxsRow _) rfl | exact DW.pubM (l := out) rfl rfl rfl rfl (stpsRow _) (rowS_eq _) | refine DW.int ?_ | refine DW.bool ?_ | refine DW.str ?_))) | (refine SCall.scalT (h15) ?dwq rfl ?_; case dwq => (repeat' (first | refine DWl.cons ?_ ?_ | exact DWl.nil | exact DW.same _ rfl | exact DW.ref _ _ _ rfl | exact DW.arr _ _ _ rfl | exact DW.sub _ _ _ _ rfl | exact DW.nilLst _ | refine DW.aggl ?_ | refine DW.tupl ?_ | refine DW.clol ?_ ?_ | exact DW.pubM (l := l) rfl (by simp) rfl rfl (stpsRow _) rfl | exact DW.pubM (l := p) rfl (by simp) rfl rfl (mxsRow _) rfl | exact DW.pubM (l := out) rfl rfl rfl rfl (stpsRow _) (rowS_eq _) | refine DW.int ?_ | refine DW.bool ?_ | refine DW.str ?_))) | (refine SCall.scalT (h17) ?dwq rfl ?_; case dwq => (repeat' (first | refine DWl.cons ?_ ?_ | exact DWl.nil | exact DW.same _ rfl | exact DW.ref _ _ _ rfl | exact DW.arr _ _ _ rfl | exact DW.sub _ _ _ _ rfl | exact DW.nilLst _ | refine DW.aggl ?_ | refine DW.tupl ?_ | refine DW.clol ?_ ?_ | exact DW.pubM (l := l) rfl (by simp) rfl rfl (stpsRow _) rfl | exact DW.pubM (l := p) rfl (by simp) rfl rfl (mxsRow _) rfl | exact DW.pubM (l := out) rfl rfl rfl rfl (stpsRow _) (rowS_eq _) | refine DW.int ?_ | refine DW.bool ?_ | refine DW.str ?_)))) | ((with_reducible refine PCall.mark ?_); first | refine PCall.mk (fit9_D n p) rfl rfl ?_ | refine PCall.mk (awake13_D) rfl rfl ?_ | refine PCall.mk (h16) rfl rfl ?_) | ((with_reducible refine GCall.mark ?_); first | refine GCall.data (fun _ => fit9_D n p) rfl rfl ?_ | refine GCall.scal (fun _ => fit9_D n p) rfl rfl ?_ | refine GCall.data (fun _ => awake13_D) rfl rfl ?_ | refine GCall.scal (fun _ => awake13_D) rfl rfl ?_ | refine GCall.data (fun _ => h16) rfl rfl ?_ | refine GCall.scal (fun _ => h16) rfl rfl ?_ | (refine GCall.scalT (fun _ => h15o) ?dwq rfl ?_; case dwq => (intro _; repeat' (first | refine DWl.cons ?_ ?_ | exact DWl.nil | exact DW.same _ rfl | exact DW.ref _ _ _ rfl | exact DW.arr _ _ _ rfl | exact DW.sub _ _ _ _ rfl | exact DW.nilLst _ | refine DW.aggl ?_ | refine DW.tupl ?_ | refine DW.clol ?_ ?_ | exact DW.pubM (l := l) rfl (by simp) rfl rfl (stpsRow _) rfl | exact DW.pubM (l := p) rfl (by simp) rfl rfl (mxsRow _) rfl | exact DW.pubM (l := out) rfl rfl rfl rfl (stpsRow _) (rowS_eq _) | refine DW.int ?_ | refine DW.bool ?_ | refine DW.str ?_))) | (refine GCall.scalT (fun _ => h15) ?dwq rfl ?_; case dwq => (intro _; repeat' (first | refine DWl.cons ?_ ?_ | exact DWl.nil | exact DW.same _ rfl | exact DW.ref _ _ _ rfl | exact DW.arr _ _ _ rfl | exact DW.sub _ _ _ _ rfl | exact DW.nilLst _ | refine DW.aggl ?_ | refine DW.tupl ?_ | refine DW.clol ?_ ?_ | exact DW.pubM (l := l) rfl (by simp) rfl rfl (stpsRow _) rfl | exact DW.pubM (l := p) rfl (by simp) rfl rfl (mxsRow _) rfl | exact DW.pubM (l := out) rfl rfl rfl rfl (stpsRow _) (rowS_eq _) | refine DW.int ?_ | refine DW.bool ?_ | refine DW.str ?_))) | (refine GCall.scalT (fun _ => h17) ?dwq rfl ?_; case dwq => (intro _; repeat' (first | refine DWl.cons ?_ ?_ | exact DWl.nil | exact DW.same _ rfl | exact DW.ref _ _ _ rfl | exact DW.arr _ _ _ rfl | exact DW.sub _ _ _ _ rfl | exact DW.nilLst _ | refine DW.aggl ?_ | refine DW.tupl ?_ | refine DW.clol ?_ ?_ | exact DW.pubM (l := l) rfl (by simp) rfl rfl (stpsRow _) rfl | exact DW.pubM (l := p) rfl (by simp) rfl rfl (mxsRow _) rfl | exact DW.pubM (l := out) rfl rfl rfl rfl (stpsRow _) (rowS_eq _) | refine DW.int ?_ | refine DW.bool ?_ | refine DW.str ?_)))) | ((with_reducible refine MCall.mark ?_); first | refine MCall.data (fun _ => fit9_D n p) rfl rfl ?_ | refine MCall.plain (PCall.mk (fit9_D n p) rfl rfl ?_) | refine MCall.data (fun _ => awake13_D) rfl rfl ?_ | refine MCall.plain (PCall.mk (awake13_D) rfl rfl ?_) | refine MCall.data (fun _ => h16) rfl rfl ?_ | refine MCall.plain (PCall.mk (h16) rfl rfl ?_)) | ((with_reducible refine Tri.mark ?_); first | (refine Tri.at (12) (int1 0) (by rfl) ?_; refine Tri.loop (k4 l p out.length (rowS l) (rowM p) l.length p.length) (fun k => k.1 ≤ out.length ∧ k.2.length = out.length * 6 ∧ k.2.all noId1 = true) (fun k => out.length - k.1) ((0, rowS out)) (by kernel_rfl) (Weak.list [(0, some 1), (1, some 3), (2, some 4)] [] ?_ ?_ ?_) ?_ ?_)) | ((with_reducible refine ECall.mark ?_); first | refine ECall.only ?_ (fun h => nomatch h) | refine ECall.only ?_ ?_) | ((with_reducible refine Drawn.mark ?_); first | refine Drawn.quiet (by kernel_rfl) ?_) | refine dcell_ok rfl ?_ | refine AppC.new ?_))
  all_goals first | (with_reducible refine enters_mark ?_; kernel_rfl) | (with_reducible refine boolT_mark ?_; kernel_rfl) | rfl | trivial | assumption | exact Nat.le_of_ble_eq_true rfl | (show entersB _ _ = true; kernel_rfl) | exact DW.same _ rfl | exact DW.ref _ _ _ rfl | exact DW.arr _ _ _ rfl | refine DW.int ?_ | refine dvb ?_ | refine dvi ?_ | exact OW.cells rfl rfl (DWl.same rfl) | exact Nat.zero_le _ | omega | skip
  all_goals repeat' (first | refine OW.cells rfl rfl ?_ | exact DW.nilArr _ rfl | refine DWl.cons ?_ ?_ | exact DWl.nil | exact DW.same _ rfl | exact DW.ref _ _ _ rfl | exact DW.arr _ _ _ rfl | exact DW.sub _ _ _ _ rfl | exact DW.nilLst _ | refine DW.aggl ?_ | refine DW.tupl ?_ | refine DW.clol ?_ ?_ | exact DW.pubM (l := l) rfl (by simp) rfl rfl (stpsRow _) rfl | exact DW.pubM (l := p) rfl (by simp) rfl rfl (mxsRow _) rfl | exact DW.pubM (l := out) rfl rfl rfl rfl (stpsRow _) (rowS_eq _))
  all_goals try ((conv => whnf); with_reducible first | refine Round.mark ?_ | refine Tells.mark ?_ | refine Retold.mark ?_)
  all_goals try first | (show (_ : Bool) = _; simp_all; done) | (show (_ : Int) < _; simp at *; omega) | (show (_ : Int) ≤ _; simp at *; omega) | (show (_ : Nat) < _; simp at *; omega) | (show (_ : Nat) ≤ _; simp at *; omega)
  · exact ap_p hp
  · rw [List.length_map]; simp only [maxLen]; omega
  · exact ap_l hl
  · rw [List.length_map]; simp only [maxLen]; omega
  · exact DW.arrE rfl (by simp)
  · exact DW.arrE rfl (by simp)
  · exact DWl.eq (rowM_eq p).symm (rowM_all _)
  · exact DWl.eq (rowS_eq l).symm (rowS_all _)
  · exact DWl.same (rowS_all _)
  · exact rowS_len _
  · exact rowS_all _
  · rename_i k hk
    have hlt := lt_int h
    refine Round.go (fun _ => (k.1 + 1, k.2.set (((k.1 : Nat) : Int).toNat * 6) (int1 99))) ⟨hlt, by show (k.2.set _ _).length = _; rw [List.length_set]; exact hk.2.1, all_set _ _ _ hk.2.2 rfl⟩ (by show out.length - (k.1 + 1) < out.length - k.1; omega) (Weak.list [(0, some 0), (1, some 1), (2, some 2)] [] (by kernel_rfl) ?_ ?_)
    · repeat' (first | exact wsucc hlt (by omega) | exact OW.cells rfl rfl (DWl.same (rowM_all _)) | exact OW.cells rfl rfl (DWl.same (rowS_all _)) | exact OW.cells rfl rfl (DWl.same (all_set _ _ _ hk.2.2 rfl)) | exact DW.same _ rfl | exact DW.ref _ _ _ rfl | exact DW.arr _ _ _ rfl | exact OW.cells rfl rfl (DWl.same rfl) | refine OW.cells rfl rfl ?_ | refine DWl.cons ?_ ?_ | exact DWl.nil | exact DW.nilArr _ rfl | exact DW.nilLst _ | refine DW.clol ?_ ?_ | refine DW.aggl ?_ | refine DW.tupl ?_ | refine DW.int ?_ | refine DW.bool ?_ | refine DW.str ?_ | refine DW.arrE rfl ?_ | ((conv => whnf); first | refine And.intro ?_ ?_ | trivial))
    · repeat' (first | exact wsucc hlt (by omega) | exact OW.cells rfl rfl (DWl.same (rowM_all _)) | exact OW.cells rfl rfl (DWl.same (rowS_all _)) | exact OW.cells rfl rfl (DWl.same (all_set _ _ _ hk.2.2 rfl)) | exact DW.same _ rfl | exact DW.ref _ _ _ rfl | exact DW.arr _ _ _ rfl | exact OW.cells rfl rfl (DWl.same rfl) | refine OW.cells rfl rfl ?_ | refine DWl.cons ?_ ?_ | exact DWl.nil | exact DW.nilArr _ rfl | exact DW.nilLst _ | refine DW.clol ?_ ?_ | refine DW.aggl ?_ | refine DW.tupl ?_ | refine DW.int ?_ | refine DW.bool ?_ | refine DW.str ?_ | refine DW.arrE rfl ?_ | ((conv => whnf); first | refine And.intro ?_ ?_ | trivial))
  · rename_i k hk
    repeat' (first | with_reducible rfl | ((conv => whnf); first | refine And.intro ?_ ?_ | (intro h; first | with_reducible exact tf_no h | with_reducible exact ft_no h | exact Bool.noConfusion h | with_reducible exact h | (have ht : true = true := h; clear ht h) | skip) | ((with_reducible refine DWl.mark ?_); repeat' (first | refine DWl.cons ?_ ?_ | exact DWl.nil | exact DW.same _ rfl | exact DW.ref _ _ _ rfl | exact DW.arr _ _ _ rfl | exact DW.sub _ _ _ _ rfl | exact DW.nilLst _ | refine DW.aggl ?_ | refine DW.tupl ?_ | refine DW.clol ?_ ?_ | exact DW.pubM (l := l) rfl (by simp) rfl rfl (stpsRow _) (rowS_eq _) | exact DW.pubM (l := p) rfl (by simp) rfl rfl (mxsRow _) (rowM_eq _) | refine DW.int ?_ | refine DW.bool ?_ | refine DW.str ?_)) | ((with_reducible refine SCall.mark ?_); first | (refine SCall.scalT (h15) ?dwq rfl ?_; case dwq => (repeat' (first | refine DWl.cons ?_ ?_ | exact DWl.nil | exact DW.same _ rfl | exact DW.ref _ _ _ rfl | exact DW.arr _ _ _ rfl | exact DW.sub _ _ _ _ rfl | exact DW.nilLst _ | refine DW.aggl ?_ | refine DW.tupl ?_ | refine DW.clol ?_ ?_ | exact DW.pubM (l := l) rfl (by simp) rfl rfl (stpsRow _) (rowS_eq _) | exact DW.pubM (l := p) rfl (by simp) rfl rfl (mxsRow _) (rowM_eq _) | refine DW.int ?_ | refine DW.bool ?_ | refine DW.str ?_))) | (refine SCall.scalT (h17) ?dwq rfl ?_; case dwq => (repeat' (first | refine DWl.cons ?_ ?_ | exact DWl.nil | exact DW.same _ rfl | exact DW.ref _ _ _ rfl | exact DW.arr _ _ _ rfl | exact DW.sub _ _ _ _ rfl | exact DW.nilLst _ | refine DW.aggl ?_ | refine DW.tupl ?_ | refine DW.clol ?_ ?_ | exact DW.pubM (l := l) rfl (by simp) rfl rfl (stpsRow _) (rowS_eq _) | exact DW.pubM (l := p) rfl (by simp) rfl rfl (mxsRow _) (rowM_eq _) | refine DW.int ?_ | refine DW.bool ?_ | refine DW.str ?_))) | refine SCall.data (awake13_D) rfl rfl ?_ | refine SCall.scal (awake13_D) rfl rfl ?_) | ((with_reducible refine PCall.mark ?_); first | refine PCall.mk (awake13_D) rfl rfl ?_) | ((with_reducible refine GCall.mark ?_); first | (refine GCall.scalT (fun _ => h15) ?dwq rfl ?_; case dwq => (intro _; repeat' (first | refine DWl.cons ?_ ?_ | exact DWl.nil | exact DW.same _ rfl | exact DW.ref _ _ _ rfl | exact DW.arr _ _ _ rfl | exact DW.sub _ _ _ _ rfl | exact DW.nilLst _ | refine DW.aggl ?_ | refine DW.tupl ?_ | refine DW.clol ?_ ?_ | exact DW.pubM (l := l) rfl (by simp) rfl rfl (stpsRow _) (rowS_eq _) | exact DW.pubM (l := p) rfl (by simp) rfl rfl (mxsRow _) (rowM_eq _) | refine DW.int ?_ | refine DW.bool ?_ | refine DW.str ?_))) | (refine GCall.scalT (fun _ => h17) ?dwq rfl ?_; case dwq => (intro _; repeat' (first | refine DWl.cons ?_ ?_ | exact DWl.nil | exact DW.same _ rfl | exact DW.ref _ _ _ rfl | exact DW.arr _ _ _ rfl | exact DW.sub _ _ _ _ rfl | exact DW.nilLst _ | refine DW.aggl ?_ | refine DW.tupl ?_ | refine DW.clol ?_ ?_ | exact DW.pubM (l := l) rfl (by simp) rfl rfl (stpsRow _) (rowS_eq _) | exact DW.pubM (l := p) rfl (by simp) rfl rfl (mxsRow _) (rowM_eq _) | refine DW.int ?_ | refine DW.bool ?_ | refine DW.str ?_))) | refine GCall.data (fun _ => awake13_D) rfl rfl ?_ | refine GCall.scal (fun _ => awake13_D) rfl rfl ?_) | ((with_reducible refine MCall.mark ?_); first | refine MCall.data (fun _ => awake13_D) rfl rfl ?_ | refine MCall.plain (PCall.mk (awake13_D) rfl rfl ?_)) | ((with_reducible refine ECall.mark ?_); first | refine ECall.only ?_ (fun h => nomatch h) | refine ECall.only ?_ ?_) | ((with_reducible refine Drawn.mark ?_); first | refine Drawn.quiet (by kernel_rfl) ?_) | refine dcell_ok rfl ?_ | refine AppC.new ?_))
    all_goals first | (with_reducible refine enters_mark ?_; kernel_rfl) | (with_reducible refine boolT_mark ?_; kernel_rfl) | rfl | trivial | assumption | exact Nat.le_of_ble_eq_true rfl | (show entersB _ _ = true; kernel_rfl) | exact DW.same _ rfl | exact DW.ref _ _ _ rfl | exact DW.arr _ _ _ rfl | refine DW.int ?_ | refine dvb ?_ | refine dvi ?_ | exact OW.cells rfl rfl (DWl.same rfl) | exact Nat.zero_le _ | omega | skip
    all_goals repeat' (first | refine OW.cells rfl rfl ?_ | exact DW.nilArr _ rfl | refine DWl.cons ?_ ?_ | exact DWl.nil | exact DW.same _ rfl | exact DW.ref _ _ _ rfl | exact DW.arr _ _ _ rfl | exact DW.sub _ _ _ _ rfl | exact DW.nilLst _ | refine DW.aggl ?_ | refine DW.tupl ?_ | refine DW.clol ?_ ?_ | exact DW.pubM (l := l) rfl (by simp) rfl rfl (stpsRow _) (rowS_eq _) | exact DW.pubM (l := p) rfl (by simp) rfl rfl (mxsRow _) (rowM_eq _))
    all_goals try ((conv => whnf); with_reducible first | refine Round.mark ?_ | refine Tells.mark ?_ | refine Retold.mark ?_)
    all_goals try first | (show (_ : Bool) = _; simp_all; done) | (show (_ : Int) < _; simp at *; omega) | (show (_ : Int) ≤ _; simp at *; omega) | (show (_ : Nat) < _; simp at *; omega) | (show (_ : Nat) ≤ _; simp at *; omega)
    conv => whnf
    exact Tells.mk (DW.bool rfl)
def k4e (p : List Mx) (_ : Unit) : St := ⟨0, tmOf [(1, stps []), (2, mxs p), (9, .arr 0 p.length), (10, .arr 1 0), (11, stps []), (12, int1 0)], .of [(0, ⟨50, 6, rowM p⟩), (1, ⟨34, 6, []⟩)] 2⟩
set_option maxRecDepth 20000 in
theorem lays4_E (n : Int) (p : List Mx) (x : Int) (hf : FitP n p) : DPure Tryd.prog 4 [int1 n, stps [], mxs p, u64 x] (bl true) := by
  have hp := hf.2.2.1
  have hy : FitP n p ∧ ([] : List Stp).length ≤ 4096 := ⟨hf, Nat.zero_le _⟩
  have h14 := lay14_D n p [] x hf (Nat.zero_le _)
  have h16 := lay16_D n p [] x hf (Nat.zero_le _)
  rw [layT_empty hf x] at h14 h16
  have h15 : DPure Tryd.prog 15 [stps [], stps []] (bl true) := by
    have := steps_D [] []
    rw [decide_eq_true rfl] at this
    exact this
  have h17 : DPure Tryd.prog 17 [mxs p, mxs p] (bl true) := by
    have := same_D p p
    rw [decide_eq_true rfl] at this
    exact this
  refine DFun.data (DFun.body Tryd.func4 rfl (by kernel_rfl) ?_)
  repeat' (first | with_reducible rfl | ((conv => whnf); first | refine And.intro ?_ ?_ | (intro h; first | with_reducible exact tf_no h | with_reducible exact ft_no h | exact Bool.noConfusion h | with_reducible exact h | (exact absurd (h.symm.trans (keep_no hy)) (by decide)) | (exact absurd h (by decide)) | (have ht : true = true := h; clear ht h) | skip) | ((with_reducible refine DWl.mark ?_); repeat' (first | refine DWl.cons ?_ ?_ | exact DWl.nil | exact DW.same _ rfl | exact DW.ref _ _ _ rfl | exact DW.arr _ _ _ rfl | exact DW.sub _ _ _ _ rfl | exact DW.nilLst _ | refine DW.aggl ?_ | refine DW.tupl ?_ | refine DW.clol ?_ ?_ | exact DW.pubM (l := []) rfl rfl rfl rfl (stpsRow _) rfl | exact DW.pubM (l := p) rfl (by simp) rfl rfl (mxsRow _) rfl | exact DW.pubM (l := p) rfl (by simp) rfl rfl (mxsRow _) (rowM_eq _) | refine DW.int ?_ | refine DW.bool ?_ | refine DW.str ?_)) | ((with_reducible refine SCall.mark ?_); first | refine SCall.data (fit9_D n p) rfl rfl ?_ | refine SCall.scal (fit9_D n p) rfl rfl ?_ | refine SCall.data (awake13_D) rfl rfl ?_ | refine SCall.scal (awake13_D) rfl rfl ?_ | refine SCall.empty h14 ?_ ?_ | refine SCall.data (h16) rfl rfl ?_ | refine SCall.scal (h16) rfl rfl ?_ | (refine SCall.scalT (h15) ?dwq rfl ?_; case dwq => (repeat' (first | refine DWl.cons ?_ ?_ | exact DWl.nil | exact DW.same _ rfl | exact DW.ref _ _ _ rfl | exact DW.arr _ _ _ rfl | exact DW.sub _ _ _ _ rfl | exact DW.nilLst _ | refine DW.aggl ?_ | refine DW.tupl ?_ | refine DW.clol ?_ ?_ | exact DW.pubM (l := []) rfl rfl rfl rfl (stpsRow _) rfl | exact DW.pubM (l := p) rfl (by simp) rfl rfl (mxsRow _) rfl | exact DW.pubM (l := p) rfl (by simp) rfl rfl (mxsRow _) (rowM_eq _) | refine DW.int ?_ | refine DW.bool ?_ | refine DW.str ?_))) | (refine SCall.scalT (h17) ?dwq rfl ?_; case dwq => (repeat' (first | refine DWl.cons ?_ ?_ | exact DWl.nil | exact DW.same _ rfl | exact DW.ref _ _ _ rfl | exact DW.arr _ _ _ rfl | exact DW.sub _ _ _ _ rfl | exact DW.nilLst _ | refine DW.aggl ?_ | refine DW.tupl ?_ | refine DW.clol ?_ ?_ | exact DW.pubM (l := []) rfl rfl rfl rfl (stpsRow _) rfl | exact DW.pubM (l := p) rfl (by simp) rfl rfl (mxsRow _) rfl | exact DW.pubM (l := p) rfl (by simp) rfl rfl (mxsRow _) (rowM_eq _) | refine DW.int ?_ | refine DW.bool ?_ | refine DW.str ?_)))) | ((with_reducible refine PCall.mark ?_); first | refine PCall.mk (fit9_D n p) rfl rfl ?_ | refine PCall.mk (awake13_D) rfl rfl ?_ | refine PCall.mk (h16) rfl rfl ?_) | ((with_reducible refine GCall.mark ?_); first | refine GCall.data (fun _ => fit9_D n p) rfl rfl ?_ | refine GCall.scal (fun _ => fit9_D n p) rfl rfl ?_ | refine GCall.data (fun _ => awake13_D) rfl rfl ?_ | refine GCall.scal (fun _ => awake13_D) rfl rfl ?_ | refine GCall.data (fun _ => h16) rfl rfl ?_ | refine GCall.scal (fun _ => h16) rfl rfl ?_ | (refine GCall.scalT (fun _ => h15) ?dwq rfl ?_; case dwq => (intro _; repeat' (first | refine DWl.cons ?_ ?_ | exact DWl.nil | exact DW.same _ rfl | exact DW.ref _ _ _ rfl | exact DW.arr _ _ _ rfl | exact DW.sub _ _ _ _ rfl | exact DW.nilLst _ | refine DW.aggl ?_ | refine DW.tupl ?_ | refine DW.clol ?_ ?_ | exact DW.pubM (l := []) rfl rfl rfl rfl (stpsRow _) rfl | exact DW.pubM (l := p) rfl (by simp) rfl rfl (mxsRow _) rfl | exact DW.pubM (l := p) rfl (by simp) rfl rfl (mxsRow _) (rowM_eq _) | refine DW.int ?_ | refine DW.bool ?_ | refine DW.str ?_))) | (refine GCall.scalT (fun _ => h17) ?dwq rfl ?_; case dwq => (intro _; repeat' (first | refine DWl.cons ?_ ?_ | exact DWl.nil | exact DW.same _ rfl | exact DW.ref _ _ _ rfl | exact DW.arr _ _ _ rfl | exact DW.sub _ _ _ _ rfl | exact DW.nilLst _ | refine DW.aggl ?_ | refine DW.tupl ?_ | refine DW.clol ?_ ?_ | exact DW.pubM (l := []) rfl rfl rfl rfl (stpsRow _) rfl | exact DW.pubM (l := p) rfl (by simp) rfl rfl (mxsRow _) rfl | exact DW.pubM (l := p) rfl (by simp) rfl rfl (mxsRow _) (rowM_eq _) | refine DW.int ?_ | refine DW.bool ?_ | refine DW.str ?_)))) | ((with_reducible refine MCall.mark ?_); first | refine MCall.data (fun _ => fit9_D n p) rfl rfl ?_ | refine MCall.plain (PCall.mk (fit9_D n p) rfl rfl ?_) | refine MCall.data (fun _ => awake13_D) rfl rfl ?_ | refine MCall.plain (PCall.mk (awake13_D) rfl rfl ?_) | refine MCall.data (fun _ => h16) rfl rfl ?_ | refine MCall.plain (PCall.mk (h16) rfl rfl ?_)) | ((with_reducible refine Tri.mark ?_); first | (refine Tri.at (12) (int1 0) (by rfl) ?_; refine Tri.loop (k4e p) (fun _ => True) (fun _ => 0) (()) (by kernel_rfl) (Weak.list [(0, some 1), (1, some 3)] [] ?_ ?_ ?_) ?_ ?_)) | ((with_reducible refine ECall.mark ?_); first | refine ECall.only ?_ (fun h => nomatch h) | refine ECall.only ?_ ?_) | ((with_reducible refine Drawn.mark ?_); first | refine Drawn.quiet (by kernel_rfl) ?_) | refine dcell_ok rfl ?_ | refine AppC.new ?_))
  all_goals first | (with_reducible refine enters_mark ?_; kernel_rfl) | (with_reducible refine boolT_mark ?_; kernel_rfl) | rfl | trivial | assumption | exact Nat.le_of_ble_eq_true rfl | (show entersB _ _ = true; kernel_rfl) | exact DW.same _ rfl | exact DW.ref _ _ _ rfl | exact DW.arr _ _ _ rfl | refine DW.int ?_ | refine dvb ?_ | refine dvi ?_ | exact OW.cells rfl rfl (DWl.same rfl) | exact Nat.zero_le _ | omega | skip
  all_goals repeat' (first | refine OW.cells rfl rfl ?_ | exact DW.nilArr _ rfl | refine DWl.cons ?_ ?_ | exact DWl.nil | exact DW.same _ rfl | exact DW.ref _ _ _ rfl | exact DW.arr _ _ _ rfl | exact DW.sub _ _ _ _ rfl | exact DW.nilLst _ | refine DW.aggl ?_ | refine DW.tupl ?_ | refine DW.clol ?_ ?_ | exact DW.pubM (l := []) rfl rfl rfl rfl (stpsRow _) rfl | exact DW.pubM (l := p) rfl (by simp) rfl rfl (mxsRow _) rfl | exact DW.pubM (l := p) rfl (by simp) rfl rfl (mxsRow _) (rowM_eq _))
  all_goals try ((conv => whnf); with_reducible first | refine Round.mark ?_ | refine Tells.mark ?_ | refine Retold.mark ?_)
  all_goals try first | (show (_ : Bool) = _; simp_all; done) | (show (_ : Int) < _; simp at *; omega) | (show (_ : Int) ≤ _; simp at *; omega) | (show (_ : Nat) < _; simp at *; omega) | (show (_ : Nat) ≤ _; simp at *; omega)
  · exact ap_p hp
  · rw [List.length_map]; simp only [maxLen]; omega
  · exact DW.arrE rfl (by simp)
  · exact DWl.eq (rowM_eq p).symm (rowM_all _)
  · conv => whnf
    exact Tells.mk (DW.bool rfl)
theorem lays4_D (n : Int) (l : List Stp) (p : List Mx) (x : Int) : DPure Tryd.prog 4 [int1 n, stps l, mxs p, u64 x] (bl true) := by
  by_cases h : FitP n p ∧ l.length ≤ 4096
  · cases l with
    | nil => exact lays4_E n p x h.1
    | cons a l => exact lays4_Y n (a :: l) p x h (Nat.succ_pos _)
  · exact lays4_N n l p x h
end Go.Proofs.YtgaghkchdiepoaaDoor


