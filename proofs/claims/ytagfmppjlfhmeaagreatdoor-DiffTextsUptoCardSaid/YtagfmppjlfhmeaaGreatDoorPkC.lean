/- The document's world of one node. -/
import Derived.Test.YtagfmppjlfhmeaaGreatDoorPkB
import Derived.Test.YtagfmppjlfhmeaaGreatDoorPkD
import Derived.Test.YtagfmppjlfhmeaaGreatDoorPkS
import Derived.Test.YtagfmppjlfhmeaaGreatDoorPkG
import Derived.Test.YtagfmppjlfhmeaaGreatDoorPkM

namespace Go.Proofs.YtagfmppjlfhmeaaGreatDoor
open Go.RowKit Go.Dl
attribute [local irreducible] Tri SCall TSem ECall Drawn DFun QSem PSem PCall GCall MCall Round Weak dloadE OW DWl Tells Retold ESem ESemW
attribute [local irreducible] recS
def zL : List Int := zrs 64
def dskL : List Int := (recA ++ zL.drop 16).take 16 ++ recB ++ (recA ++ zL.drop 16).drop 32
theorem zL_len : zL.length = 64 := rfl
theorem dskL_len : dskL.length = 64 := rfl
theorem le_1 : ((zL.map u8D).take (Int.toNat 32)).drop (Int.toNat 0) = (zrs 32).map u8D := rfl
theorem le_2 : ((zL.map u8D).take (Int.toNat 64)).drop (Int.toNat 32) = (zrs 32).map u8D := rfl
theorem next70_z : SCall Tryz.prog 70 [.ref 1 0] (.of [(0, byO zL), (1, dkO 0 0)] 2) fun r s => r = .tup [int1 1, int1 0] ∧ s = .of [(0, byO dskL), (1, dkO 0 2)] 2 :=
  next70_S zL zL_len (by rw [le_1]; exact stands139_D) (by rw [le_2]; exact stands139_D)
attribute [local irreducible] dskL
theorem one_row {r0 : List DV} {n : Nat} (h1 : r0.length = n) (h2 : r0.all isData1 = true) : ∀ r ∈ [r0], r.length = n ∧ r.all isData1 = true := by
  intro r hr
  rw [List.mem_singleton.1 hr]; exact ⟨h1, h2⟩
theorem nd_row : ∀ r ∈ [nodeD], r.length = 8 ∧ r.all isData1 = true := one_row rfl rfl
theorem up_row : ∀ r ∈ [[bl true]], r.length = 1 ∧ r.all isData1 = true := one_row rfl rfl
theorem dk_row : ∀ r ∈ [[DV.lst 1 (dskL.map u8D)]], r.length = 1 ∧ r.all isData1 = true := one_row rfl rfl
set_option maxRecDepth 20000 in
theorem nnew71_D : DPure Tryz.prog 71 [int1 0, int1 1] (.agg nodeD) := by
  refine DFun.data (DFun.body Tryz.func71 rfl (by kernel_rfl) ?_)
  repeat' (first | with_reducible rfl | ((conv => whnf); first | refine And.intro ?_ ?_ | (intro h; first | with_reducible exact tf_no h | with_reducible exact ft_no h | exact Bool.noConfusion h | with_reducible exact h | (have ht : true = true := h; clear ht h) | skip) | ((with_reducible refine ECall.mark ?_); first | refine ECall.only ?_ (fun h => nomatch h) | refine ECall.only ?_ ?_) | ((with_reducible refine Drawn.mark ?_); first | refine Drawn.quiet (by kernel_rfl) ?_) | refine dcell_ok rfl ?_ | refine AppC.new ?_))
  all_goals try first | ((with_reducible show Option.isSome (slElem _ _) = true); kernel_rfl) | ((with_reducible show slElem _ _ = some _); kernel_rfl) | ((with_reducible refine enters_mark ?_); kernel_rfl) | (with_reducible assumption) | ((with_reducible show List.all _ DV.one = true); rfl) | ((with_reducible show (_ : Nat) = _); rfl) | ((with_reducible show (_ == true) = true); first | (simp; done) | simpa using h) | ((with_reducible show (_ : Nat) ≤ _); exact Nat.le_of_ble_eq_true rfl) | ((with_reducible show (_ : Int) ≤ _); first | omega | decide) | ((with_reducible show (_ : Int) < _); first | omega | decide) | ((with_reducible show (_ : Nat) < _); omega) | ((with_reducible show (_ : Nat) ≤ _); omega)
  all_goals try ((with_reducible show (_ == false) = true); rfl)
  all_goals (conv => whnf)
  all_goals exact Tells.mk (DW.aggl (DWl.same rfl))
set_option maxRecDepth 100000 in
set_option maxHeartbeats 4000000 in
theorem new30_D : DPure Tryz.prog 30 [int1 1] (.tup [worldV (dskL.map u8D), int1 0]) := by
  refine DFun.data (DFun.body Tryz.func30 rfl (by kernel_rfl) ?_)
  repeat' (first | with_reducible rfl | ((conv => whnf); first | refine And.intro ?_ ?_ | (intro h; first | with_reducible exact tf_no h | with_reducible exact ft_no h | exact Bool.noConfusion h | with_reducible exact h | (have ht : true = true := h; clear ht h) | skip) | ((with_reducible refine SCall.mark ?_); first | refine SCall.run Tryz.func51 rfl (Nat.le_of_ble_eq_true rfl) (by kernel_rfl) ?_ | refine SCall.run Tryz.func52 rfl (Nat.le_of_ble_eq_true rfl) (by kernel_rfl) ?_) | ((with_reducible refine Tri.mark ?_); first | refine Tri.rounds 2 (by kernel_rfl) ?_) | ((with_reducible refine ECall.mark ?_); first | refine ECall.only ?_ (fun h => nomatch h) | refine ECall.only ?_ ?_) | ((with_reducible refine Drawn.mark ?_); first | refine Drawn.quiet (by kernel_rfl) ?_) | refine dcell_ok rfl ?_ | refine AppC.new ?_))
  all_goals try first | ((with_reducible show Option.isSome (slElem _ _) = true); kernel_rfl) | ((with_reducible show slElem _ _ = some _); kernel_rfl) | ((with_reducible refine enters_mark ?_); kernel_rfl) | (with_reducible assumption) | ((with_reducible show List.all _ DV.one = true); rfl) | ((with_reducible show (_ : Nat) = _); rfl) | ((with_reducible show (_ == true) = true); first | (simp; done) | simpa using h) | ((with_reducible show (_ : Nat) ≤ _); exact Nat.le_of_ble_eq_true rfl) | ((with_reducible show (_ : Int) ≤ _); first | omega | decide) | ((with_reducible show (_ : Int) < _); first | omega | decide) | ((with_reducible show (_ : Nat) < _); omega) | ((with_reducible show (_ : Nat) ≤ _); omega)
  all_goals try (first | ((with_reducible show (_ == false) = true); rfl) | (exact absurd h (by decide)) | (exact Nat.le_of_ble_eq_true rfl))
  conv => whnf
  refine SCall.at [2, 3] (fun _ => [(2, byO dskL), (3, dkO 2 2)]) (fun _ => .tup [int1 1, int1 0]) 0 next70_z (by kernel_rfl) ?_ (DWl.cons (DW.ref _ _ _ rfl) DWl.nil) (DW.tupl (DWl.cons (DW.same _ rfl) (DWl.cons (DW.same _ rfl) DWl.nil))) ⟨ow_by dskL, ow_dk rfl, trivial⟩ ?_
  · refine ⟨?_, ?_, trivial⟩
    · conv => whnf
      refine OW.cells (by kernel_rfl) (by kernel_rfl) (DWl.eq (by kernel_rfl) (u8_all zL))
    · exact ow_dk rfl
  repeat' (first | with_reducible rfl | ((conv => whnf); first | refine And.intro ?_ ?_ | (intro h; first | with_reducible exact tf_no h | with_reducible exact ft_no h | exact Bool.noConfusion h | with_reducible exact h | (have ht : true = true := h; clear ht h) | skip) | ((with_reducible refine ECall.mark ?_); first | refine ECall.only ?_ (fun h => nomatch h) | refine ECall.only ?_ ?_) | ((with_reducible refine Drawn.mark ?_); first | refine Drawn.quiet (by kernel_rfl) ?_) | refine dcell_ok rfl ?_ | refine AppC.new ?_))
  all_goals try first | ((with_reducible show Option.isSome (slElem _ _) = true); kernel_rfl) | ((with_reducible show slElem _ _ = some _); kernel_rfl) | ((with_reducible refine enters_mark ?_); kernel_rfl) | (with_reducible assumption) | ((with_reducible show List.all _ DV.one = true); rfl) | ((with_reducible show (_ : Nat) = _); rfl) | ((with_reducible show (_ == true) = true); first | (simp; done) | simpa using h) | ((with_reducible show (_ : Nat) ≤ _); exact Nat.le_of_ble_eq_true rfl) | ((with_reducible show (_ : Int) ≤ _); first | omega | decide) | ((with_reducible show (_ : Int) < _); first | omega | decide) | ((with_reducible show (_ : Nat) < _); omega) | ((with_reducible show (_ : Nat) ≤ _); omega)
  all_goals try (exact Nat.le_of_ble_eq_true rfl)
  conv => whnf
  refine SCall.data nnew71_D rfl rfl ?_
  repeat' (first | with_reducible rfl | ((conv => whnf); first | refine And.intro ?_ ?_ | (intro h; first | with_reducible exact tf_no h | with_reducible exact ft_no h | exact Bool.noConfusion h | with_reducible exact h | (have ht : true = true := h; clear ht h) | skip) | ((with_reducible refine ECall.mark ?_); first | refine ECall.only ?_ (fun h => nomatch h) | refine ECall.only ?_ ?_) | ((with_reducible refine Drawn.mark ?_); first | refine Drawn.quiet (by kernel_rfl) ?_) | refine dcell_ok rfl ?_ | refine AppC.new ?_))
  all_goals try first | ((with_reducible show (_ : Nat) ≤ _); exact Nat.le_of_ble_eq_true (by kernel_rfl)) | ((with_reducible show (_ : Nat) < _); exact Nat.le_of_ble_eq_true (by kernel_rfl)) | ((with_reducible show (_ : Nat) = _); kernel_rfl) | ((with_reducible show (_ : Bool) = _); kernel_rfl) | ((with_reducible show (_ : Option _) = _); kernel_rfl) | ((with_reducible refine enters_mark ?_); kernel_rfl) | ((with_reducible show (_ : Int) ≤ _); exact of_decide_eq_true (by kernel_rfl)) | ((with_reducible show (_ : Int) < _); exact of_decide_eq_true (by kernel_rfl))
  repeat' (first | with_reducible rfl | ((conv => whnf); first | refine And.intro ?_ ?_ | (intro h; first | with_reducible exact tf_no h | with_reducible exact ft_no h | exact Bool.noConfusion h | with_reducible exact h | (have ht : true = true := h; clear ht h) | skip) | ((with_reducible refine SCall.mark ?_); first | refine SCall.at [2, 3] (fun _ => [(2, byO dskL), (3, dkO 2 2)]) (fun _ => byts dskL) 0 (img53_S dskL dskL_len 2) (by kernel_rfl) ⟨ow_by dskL, ow_dk rfl, trivial⟩ (DWl.cons (DW.ref _ _ _ rfl) DWl.nil) (DW.same _ rfl) ⟨ow_by dskL, ow_dk rfl, trivial⟩ ?_) | ((with_reducible refine Tri.mark ?_); first | (refine Tri.treeX [1, 2, 3] (MX.mv 0 0 (MX.mv 0 2 (MX.two 1 1 (MX.mv 2 3 (MX.mv 1 4 (MX.mv 1 5 (MX.mv 1 6 (MX.mv 1 7 MX.done))))) 2 3 (MX.two 1 1 (MX.mv 1 4 (MX.mv 1 5 (MX.mv 1 6 (MX.mv 1 7 MX.done)))) 1 4 (MX.mv 1 1 (MX.mv 1 5 (MX.mv 1 6 (MX.mv 1 7 MX.done)))))))) ?_ (by kernel_rfl) ?_; rfl)) | ((with_reducible refine ECall.mark ?_); first | refine ECall.only ?_ (fun h => nomatch h) | refine ECall.only ?_ ?_) | ((with_reducible refine Drawn.mark ?_); first | (refine Drawn.tree ?_; refine Tri.treeX [1, 2, 3] (MX.mv 0 0 (MX.mv 0 2 (MX.two 1 1 (MX.mv 2 3 (MX.mv 1 4 (MX.mv 1 5 (MX.mv 1 6 (MX.mv 1 7 MX.done))))) 2 3 (MX.two 1 1 (MX.mv 1 4 (MX.mv 1 5 (MX.mv 1 6 (MX.mv 1 7 MX.done)))) 1 4 (MX.mv 1 1 (MX.mv 1 5 (MX.mv 1 6 (MX.mv 1 7 MX.done)))))))) ?_ (by kernel_rfl) ?_; rfl) | refine Drawn.quiet (by kernel_rfl) ?_) | refine dcell_ok rfl ?_ | refine AppC.new ?_))
  all_goals try ((with_reducible show Option.all _ _ = true); rfl)
  all_goals try first | ((with_reducible show (_ : Nat) ≤ _); exact Nat.le_of_ble_eq_true (by kernel_rfl)) | ((with_reducible show (_ : Nat) < _); exact Nat.le_of_ble_eq_true (by kernel_rfl)) | ((with_reducible show (_ : Nat) = _); kernel_rfl) | ((with_reducible show (_ : Bool) = _); kernel_rfl) | ((with_reducible show (_ : Option _) = _); kernel_rfl) | ((with_reducible refine enters_mark ?_); kernel_rfl) | ((with_reducible show (_ : Int) ≤ _); exact of_decide_eq_true (by kernel_rfl)) | ((with_reducible show (_ : Int) < _); exact of_decide_eq_true (by kernel_rfl))
  all_goals (conv => whnf)
  all_goals refine Tells.mk (DW.tupl (DWl.cons (DW.aggl (DWl.cons (DW.pubE (o := ⟨104, 8, nodeD⟩) ?_ rfl (Nat.zero_lt_succ _) trivial rfl nd_row rfl) (DWl.cons (DW.pubE (o := ⟨4, 1, [bl true]⟩) ?_ rfl (Nat.zero_lt_succ _) trivial rfl up_row rfl) (DWl.cons (DW.pubE (o := ⟨82, 1, [.lst 1 (dskL.map u8D)]⟩) ?_ rfl (Nat.zero_lt_succ _) trivial rfl dk_row rfl) (DWl.cons (DW.same _ rfl) (DWl.cons (DW.same _ rfl) (DWl.cons (DW.same _ rfl) (DWl.cons (DW.same _ rfl) DWl.nil)))))))) (DWl.cons (DW.same _ rfl) DWl.nil)))
  all_goals kernel_rfl
end Go.Proofs.YtagfmppjlfhmeaaGreatDoor

namespace Go.Proofs.YtagfmppjlfhmeaaGreatDoor
open Go.RowKit Go.Dl
def cB (x : UInt8) : ByteArray := ⟨#[x]⟩
def a0 : List Lf := [⟨cB 97, cB 49⟩, ⟨cB 98, cB 50⟩]
def b0 : List Lf := [⟨cB 98, cB 51⟩, ⟨cB 99, cB 52⟩]
def c0a : Ch := ⟨cB 97, true, cB 49, false, emB⟩
def c0b : Ch := ⟨cB 98, true, cB 50, true, cB 51⟩
def c0c : Ch := ⟨cB 99, false, emB, true, cB 52⟩
def c0 : List Ch := [c0a, c0b, c0c]
def p0 : Ch := ⟨cB 97, false, emB, true, cB 49⟩
theorem bet_0 : betT a0 b0 = c0 := by
  unfold betT mLL a0 b0
  rw [mrg_lt (by kernel_rfl), mrg_eq (by kernel_rfl) (by kernel_rfl), mrg_r, mrg_nil]
  kernel_rfl
theorem app_0 : (appT b0 c0).2 = 44 := by
  have e : errs (mLC b0 c0) = 44 := by
    unfold mLC b0 c0
    rw [mrg_gt (by kernel_rfl) (by kernel_rfl)]
    rfl
  unfold appT
  rw [e]; rfl
theorem fit_0 : fitLB a0 = true := by kernel_rfl
theorem fit_p : fitCB [p0] = true := by kernel_rfl
def t0B : ByteArray := ⟨#[43, 32, 97, 32, 61, 32, 49, 10]⟩
theorem txt_p : txt [p0] = t0B := by kernel_rfl
theorem par_0 : parseT t0B = ([p0], 0, 0) := by rw [← txt_p]; exact parse_print fit_p
def o0B : ByteArray := ⟨#[45, 32, 97, 32, 61, 32, 49, 10, 126, 32, 98, 32, 61, 32, 50, 32, 62, 32, 51, 10, 43, 32, 99, 32, 61, 32, 52, 10]⟩
theorem prt_0 : textP c0 c0.length = o0B := by rw [tp_all]; kernel_rfl
theorem sml_a : SmL a0 := ⟨by decide, fun x hx => by
  rcases List.mem_cons.1 hx with rfl | hx
  · decide
  · rw [List.mem_singleton.1 hx]; decide⟩
theorem smc_0 : SmC c0 := ⟨by decide, fun x hx => by
  rcases List.mem_cons.1 hx with rfl | hx
  · decide
  · rcases List.mem_cons.1 hx with rfl | hx
    · decide
    · rw [List.mem_singleton.1 hx]; decide⟩
end Go.Proofs.YtagfmppjlfhmeaaGreatDoor
namespace Go.Proofs.YtagfmppjlfhmeaaGreatDoor
open Go.RowKit Go.Dl
attribute [local irreducible] recS
theorem wrap8 (x : Int) : 0 ≤ IntKind.u8.wrap x ∧ IntKind.u8.wrap x < 256 := by
  simp [IntKind.wrap, IntKind.signed, IntKind.bits] <;> omega
theorem recA_r : ∀ x ∈ recA, 0 ≤ x ∧ x < 256 := by decide
theorem recB_r : ∀ x ∈ recB, 0 ≤ x ∧ x < 256 := by
  intro x hx
  rcases List.mem_append.1 hx with hx | hx
  · rcases List.mem_append.1 hx with hx | hx
    · rcases List.mem_cons.1 hx with rfl | hx
      · exact wrap8 _
      · rcases List.mem_cons.1 hx with rfl | hx
        · exact wrap8 _
        · rcases List.mem_cons.1 hx with rfl | hx
          · exact wrap8 _
          · rw [List.mem_singleton.1 hx]; exact wrap8 _
    · exact recA_r x (List.mem_append_left _ hx)
  · have : ∀ y ∈ ([0, 0, 0, 0] : List Int), 0 ≤ y ∧ y < 256 := by decide
    exact this x hx
theorem zL_r : ∀ x ∈ zL, 0 ≤ x ∧ x < 256 := by
  intro x hx
  rw [List.eq_of_mem_replicate hx]; decide
theorem dsk_r : ∀ x ∈ dskL, 0 ≤ x ∧ x < 256 := by
  intro x hx
  have h2 : ∀ y ∈ recA ++ zL.drop 16, 0 ≤ y ∧ y < 256 := fun y hy => by
    rcases List.mem_append.1 hy with hy | hy
    · exact recA_r y hy
    · exact zL_r y (List.mem_of_mem_drop hy)
  rcases List.mem_append.1 hx with hx | hx
  · rcases List.mem_append.1 hx with hx | hx
    · exact h2 x (List.mem_of_mem_take hx)
    · exact recB_r x hx
  · exact h2 x (List.mem_of_mem_drop hx)
theorem _root_.Go.Dl.Tri.cut [Inhabited GlobS] {P : Program} {N : Nat} {Y : YT} {c : Code} {st : St} {Q : DExit → St → Prop} (st1 : St) (h : Tri P N Y c st (fun e st' => e = .normal ∧ Weak st' st1)) (hK : Q .normal st1) : Tri P N Y c st Q :=
  Tri.weakQ h fun e st' ⟨he, hw⟩ => ⟨st1, hw, by subst he; exact hK⟩
theorem k38 : eqTK Tryz.prog 38 = some [.int, .int] := by kernel_rfl
theorem lfs_row {l : List Lf} : ∀ r ∈ l.map lfD, r.length = 2 ∧ r.all isData1 = true := lf_rows
attribute [local irreducible] Tri SCall TSem ECall Drawn DFun QSem PSem PCall GCall MCall Round Weak dloadE OW DWl Tells Retold ESem ESemW
attribute [local irreducible] dskL srt8 parseT textP betT appT fitLB
def aw1 : St := ⟨0, tmOf [(0, bl false), (1, lfs a0)], .of [] 0⟩
def aw2 : St := ⟨0, tmOf [(0, bl false), (1, lfs a0), (2, lfs b0)], .of [] 0⟩
set_option maxRecDepth 100000 in
set_option maxHeartbeats 4000000 in
theorem awake9_D : DPure Tryz.prog 9 [] (bl true) := by
  have h1 := between20_D a0 b0 (by decide) (by decide)
  rw [bet_0] at h1
  have h2 := apply11_D b0 c0 (by decide) (by decide)
  rw [app_0] at h2
  have h3 := parse15_D t0B (by decide)
  rw [par_0] at h3
  have h4 := new30_D
  have h5 := print18_D c0 smc_0
  rw [prt_0] at h5
  have h6 := fit14_D a0 sml_a
  rw [fit_0] at h6
  have h7 := leaves31_D dskL dskL_len dsk_r
  refine DFun.data (DFun.bodyT Tryz.func9 rfl (Nat.le_of_ble_eq_true rfl) ?_)
  refine Tri.seq (Tri.cut ⟨0, tmOf [(0, bl false)], .of [] 0⟩ (Tri.code (by kernel_rfl) ?_) ?_)
  · repeat' (first | with_reducible rfl | ((conv => whnf); first | refine And.intro ?_ ?_ | (intro h; first | with_reducible exact tf_no h | with_reducible exact ft_no h | exact Bool.noConfusion h | with_reducible exact h | (have ht : true = true := h; clear ht h) | skip) | ((with_reducible refine ECall.mark ?_); first | refine ECall.only ?_ (fun h => nomatch h) | refine ECall.only ?_ ?_) | ((with_reducible refine Drawn.mark ?_); first | refine Drawn.quiet (by kernel_rfl) ?_) | refine dcell_ok rfl ?_ | refine AppC.new ?_))
    exact Weak.list [] [] (by kernel_rfl) ⟨DW.same _ rfl, trivial⟩ trivial
  · refine Tri.seq (Tri.cut aw1 (Tri.code (by kernel_rfl) ?_) ?_)
    · repeat' (first | with_reducible rfl | ((conv => whnf); first | refine And.intro ?_ ?_ | (intro h; first | with_reducible exact tf_no h | with_reducible exact ft_no h | exact Bool.noConfusion h | with_reducible exact h | (have ht : true = true := h; clear ht h) | skip) | ((with_reducible refine ECall.mark ?_); first | refine ECall.only ?_ (fun h => nomatch h) | refine ECall.only ?_ ?_) | ((with_reducible refine Drawn.mark ?_); first | refine Drawn.quiet (by kernel_rfl) ?_) | refine dcell_ok rfl ?_ | refine AppC.new ?_))
      all_goals try first | ((with_reducible show Option.isSome (slElem _ _) = true); kernel_rfl) | ((with_reducible show slElem _ _ = some _); kernel_rfl) | ((with_reducible refine enters_mark ?_); kernel_rfl) | (with_reducible assumption) | ((with_reducible show List.all _ DV.one = true); rfl) | ((with_reducible show (_ : Nat) = _); rfl) | ((with_reducible show (_ == true) = true); first | (simp; done) | simpa using h) | ((with_reducible show (_ : Nat) ≤ _); exact Nat.le_of_ble_eq_true rfl) | ((with_reducible show (_ : Int) ≤ _); first | omega | decide) | ((with_reducible show (_ : Int) < _); first | omega | decide) | ((with_reducible show (_ : Nat) < _); omega) | ((with_reducible show (_ : Nat) ≤ _); omega)
      exact Weak.list [] [0] (by kernel_rfl) ⟨DW.same _ rfl, DW.pubE rfl rfl (Nat.zero_lt_succ _) (List.mem_singleton.2 rfl) rfl lfs_row rfl, trivial⟩ trivial
    · refine Tri.seq (Tri.cut aw2 (Tri.code (by kernel_rfl) ?_) ?_)
      · repeat' (first | with_reducible rfl | ((conv => whnf); first | refine And.intro ?_ ?_ | (intro h; first | with_reducible exact tf_no h | with_reducible exact ft_no h | exact Bool.noConfusion h | with_reducible exact h | (have ht : true = true := h; clear ht h) | skip) | ((with_reducible refine ECall.mark ?_); first | refine ECall.only ?_ (fun h => nomatch h) | refine ECall.only ?_ ?_) | ((with_reducible refine Drawn.mark ?_); first | refine Drawn.quiet (by kernel_rfl) ?_) | refine dcell_ok rfl ?_ | refine AppC.new ?_))
        all_goals try first | ((with_reducible show Option.isSome (slElem _ _) = true); kernel_rfl) | ((with_reducible show slElem _ _ = some _); kernel_rfl) | ((with_reducible refine enters_mark ?_); kernel_rfl) | (with_reducible assumption) | ((with_reducible show List.all _ DV.one = true); rfl) | ((with_reducible show (_ : Nat) = _); rfl) | ((with_reducible show (_ == true) = true); first | (simp; done) | simpa using h) | ((with_reducible show (_ : Nat) ≤ _); exact Nat.le_of_ble_eq_true rfl) | ((with_reducible show (_ : Int) ≤ _); first | omega | decide) | ((with_reducible show (_ : Int) < _); first | omega | decide) | ((with_reducible show (_ : Nat) < _); omega) | ((with_reducible show (_ : Nat) ≤ _); omega)
        exact Weak.list [] [0] (by kernel_rfl) ⟨DW.same _ rfl, DW.same _ rfl, DW.pubE rfl rfl (Nat.zero_lt_succ _) (List.mem_singleton.2 rfl) rfl lfs_row rfl, trivial⟩ trivial
      · refine Tri.code (by kernel_rfl) ?_
        repeat' (first | with_reducible rfl | ((conv => whnf); first | refine And.intro ?_ ?_ | (intro h; first | with_reducible exact tf_no h | with_reducible exact ft_no h | exact Bool.noConfusion h | with_reducible exact h | (have ht : true = true := h; clear ht h) | skip) | ((with_reducible refine SCall.mark ?_); first | refine SCall.data (h1) rfl rfl ?_ | refine SCall.scal (h1) rfl rfl ?_ | refine SCall.data (h2) rfl rfl ?_ | refine SCall.scal (h2) rfl rfl ?_ | refine SCall.data (h3) rfl rfl ?_ | refine SCall.scal (h3) rfl rfl ?_ | refine SCall.data (h4) rfl rfl ?_ | refine SCall.scal (h4) rfl rfl ?_ | refine SCall.data (h5) rfl rfl ?_ | refine SCall.scal (h5) rfl rfl ?_ | refine SCall.data (h6) rfl rfl ?_ | refine SCall.scal (h6) rfl rfl ?_ | refine SCall.data (h7) rfl rfl ?_ | refine SCall.scal (h7) rfl rfl ?_) | ((with_reducible refine PCall.mark ?_); first | refine PCall.mk (h1) rfl rfl ?_ | refine PCall.mk (h2) rfl rfl ?_ | refine PCall.mk (h3) rfl rfl ?_ | refine PCall.mk (h4) rfl rfl ?_ | refine PCall.mk (h5) rfl rfl ?_ | refine PCall.mk (h6) rfl rfl ?_ | refine PCall.mk (h7) rfl rfl ?_) | ((with_reducible refine GCall.mark ?_); first | refine GCall.data (fun _ => h1) rfl rfl ?_ | refine GCall.scal (fun _ => h1) rfl rfl ?_ | refine GCall.data (fun _ => h2) rfl rfl ?_ | refine GCall.scal (fun _ => h2) rfl rfl ?_ | refine GCall.data (fun _ => h3) rfl rfl ?_ | refine GCall.scal (fun _ => h3) rfl rfl ?_ | refine GCall.data (fun _ => h4) rfl rfl ?_ | refine GCall.scal (fun _ => h4) rfl rfl ?_ | refine GCall.data (fun _ => h5) rfl rfl ?_ | refine GCall.scal (fun _ => h5) rfl rfl ?_ | refine GCall.data (fun _ => h6) rfl rfl ?_ | refine GCall.scal (fun _ => h6) rfl rfl ?_ | refine GCall.data (fun _ => h7) rfl rfl ?_ | refine GCall.scal (fun _ => h7) rfl rfl ?_) | ((with_reducible refine MCall.mark ?_); first | refine MCall.data (fun _ => h1) rfl rfl ?_ | refine MCall.plain (PCall.mk (h1) rfl rfl ?_) | refine MCall.data (fun _ => h2) rfl rfl ?_ | refine MCall.plain (PCall.mk (h2) rfl rfl ?_) | refine MCall.data (fun _ => h3) rfl rfl ?_ | refine MCall.plain (PCall.mk (h3) rfl rfl ?_) | refine MCall.data (fun _ => h4) rfl rfl ?_ | refine MCall.plain (PCall.mk (h4) rfl rfl ?_) | refine MCall.data (fun _ => h5) rfl rfl ?_ | refine MCall.plain (PCall.mk (h5) rfl rfl ?_) | refine MCall.data (fun _ => h6) rfl rfl ?_ | refine MCall.plain (PCall.mk (h6) rfl rfl ?_) | refine MCall.data (fun _ => h7) rfl rfl ?_ | refine MCall.plain (PCall.mk (h7) rfl rfl ?_)) | ((with_reducible refine ex_mark ?_); first | refine dq_eql k38 ?_ rfl ?_ rfl rfl ?_ | refine dq_neq k38 ?_ rfl ?_ rfl rfl ?_) | ((with_reducible refine ECall.mark ?_); first | refine ECall.only ?_ (fun h => nomatch h) | refine ECall.only ?_ ?_) | ((with_reducible refine Drawn.mark ?_); first | refine Drawn.quiet (by kernel_rfl) ?_) | refine dcell_ok rfl ?_ | refine AppC.new ?_))
        all_goals try first | ((with_reducible show (_ : Nat) ≤ _); exact Nat.le_of_ble_eq_true (by kernel_rfl)) | ((with_reducible show (_ : Nat) < _); exact Nat.le_of_ble_eq_true (by kernel_rfl)) | ((with_reducible show (_ : Nat) = _); kernel_rfl) | ((with_reducible show (_ : Bool) = _); kernel_rfl) | ((with_reducible show (_ : Option _) = _); kernel_rfl) | ((with_reducible refine enters_mark ?_); kernel_rfl) | ((with_reducible show (_ : Int) ≤ _); exact of_decide_eq_true (by kernel_rfl)) | ((with_reducible show (_ : Int) < _); exact of_decide_eq_true (by kernel_rfl))
        all_goals try exact trivial
        all_goals (conv => whnf)
        refine Tells.mk (DW.bool ?_)
        rw [show (List.map lfD (srt8 (tb8 (digB dskL dskL.length)))).length = 8 by rw [List.length_map, srt8_len]]
        kernel_rfl
end Go.Proofs.YtagfmppjlfhmeaaGreatDoor
