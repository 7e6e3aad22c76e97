/- A disk's image, slots and writes, as data. -/
import Derived.Test.YtagfmppjlfhmeaaGreatDoorPkU

namespace Go.Proofs.YtagfmppjlfhmeaaGreatDoor
open Go.RowKit Go.Dl
attribute [local irreducible] Tri SCall TSem ECall Drawn DFun QSem PSem PCall GCall MCall Round Weak dloadE OW DWl Tells Retold ESem ESemW
attribute [local irreducible] recS
def dkO (id : Nat) (n : Int) : DObj := ⟨128, 6, [bl true, .arr id 64, bl false, int1 (-1), bl false, int1 n]⟩
def byO (L : List Int) : DObj := ⟨5, 1, L.map u8V⟩
theorem ow_by {ρ : Nat → Option Nat} {s : Sto} {pub : Nat → Prop} (L : List Int) : OW ρ s pub (byO L) (byO L) := OW.cells rfl rfl (DWl.same (u8_all L))
theorem ow_dk {ρ : Nat → Option Nat} {s : Sto} {pub : Nat → Prop} {a b : Nat} {n : Int} (h : ρ b = some a) : OW ρ s pub (dkO a n) (dkO b n) := OW.cells rfl rfl (DWl.cons (DW.same _ rfl) (DWl.cons (DW.arr _ _ _ h) (DWl.cons (DW.same _ rfl) (DWl.cons (DW.same _ rfl) (DWl.cons (DW.same _ rfl) (DWl.cons (DW.same _ rfl) DWl.nil))))))
theorem u8_one : ∀ (L : List Int) (k : Nat), ((L.map u8V).take k).all DV.one = true
  | [], k => by cases k <;> rfl
  | _ :: L, 0 => rfl
  | _ :: L, k + 1 => u8_one L k
theorem u8_flat : ∀ L : List Int, (L.map u8D).flatten = L.map u8V
  | [] => rfl
  | _ :: L => congrArg (_ :: ·) (u8_flat L)
theorem im_c {L : List Int} (h : L.length = 64) : (L.map u8V).take (64 * 1) = (L.map u8D).flatten := by
  rw [u8_flat, List.take_of_length_le (by rw [List.length_map, h]; decide)]
theorem byts_map (R : List Int) : byts R = .lst 1 ((R.map u8V).map fun d => [d]) := by
  show DV.lst 1 _ = _
  rw [List.map_map]; rfl
set_option maxRecDepth 100000 in
set_option maxHeartbeats 2000000 in
theorem img53_S (L : List Int) (hL : L.length = 64) (n : Int) : SCall Tryz.prog 53 [.ref 1 0] (.of [(0, byO L), (1, dkO 0 n)] 2) fun r s => r = byts L ∧ s = .of [(0, byO L), (1, dkO 0 n)] 2 := by
  refine SCall.retell (SCall.run Tryz.func53 rfl (Nat.le_of_ble_eq_true rfl) (by kernel_rfl) ?_)
  repeat' (first | with_reducible rfl | ((conv => whnf); first | refine And.intro ?_ ?_ | (intro h; first | with_reducible exact tf_no h | with_reducible exact ft_no h | exact Bool.noConfusion h | with_reducible exact h | (have ht : true = true := h; clear ht h) | skip) | ((with_reducible refine ECall.mark ?_); first | refine ECall.only ?_ (fun h => nomatch h) | refine ECall.only ?_ ?_) | ((with_reducible refine Drawn.mark ?_); first | refine Drawn.quiet (by kernel_rfl) ?_) | refine dcell_ok rfl ?_ | refine AppC.new ?_))
  all_goals try first | ((with_reducible show Option.isSome (slElem _ _) = true); kernel_rfl) | ((with_reducible show slElem _ _ = some _); kernel_rfl) | ((with_reducible refine enters_mark ?_); kernel_rfl) | (with_reducible assumption) | ((with_reducible show List.all _ DV.one = true); rfl) | ((with_reducible show (_ : Nat) = _); rfl) | ((with_reducible show (_ == true) = true); first | (simp; done) | simpa using h) | ((with_reducible show (_ : Nat) ≤ _); exact Nat.le_of_ble_eq_true rfl) | ((with_reducible show (_ : Int) ≤ _); first | omega | decide) | ((with_reducible show (_ : Int) < _); first | omega | decide) | ((with_reducible show (_ : Nat) < _); omega) | ((with_reducible show (_ : Nat) ≤ _); omega)
  · show 64 * 1 ≤ (L.map u8V).length
    rw [List.length_map, hL]; decide
  · exact u8_one L _
  · conv => whnf
    refine Retold.list [] [2] (byts L) [(0, byO L), (1, dkO 0 n)] 2 (by kernel_rfl) ?_ ?_ ⟨rfl, rfl⟩
    · exact DW.pubE rfl rfl (Nat.zero_lt_succ _) (List.mem_singleton.2 rfl) (by rw [List.length_map, hL]) u8Row (im_c hL)
    · exact ⟨ow_by L, ow_dk rfl, trivial⟩
set_option maxRecDepth 100000 in
set_option maxHeartbeats 4000000 in
theorem slots90_S (L : List Int) (hL : L.length = 64) (n : Int) (h1 : DPure Tryz.prog 139 [.lst 1 (((L.map u8D).take (Int.toNat 32)).drop (Int.toNat 0))] (int1 0)) (h2 : DPure Tryz.prog 139 [.lst 1 (((L.map u8D).take (Int.toNat 64)).drop (Int.toNat 32))] (int1 0)) : SCall Tryz.prog 90 [.ref 1 0] (.of [(0, byO L), (1, dkO 0 n)] 2) fun r s => r = .tup [int1 0, int1 0, int1 0] ∧ s = .of [(0, byO L), (1, dkO 0 n)] 2 := by
  have hl : ((L.map u8D).length : Int) = 64 := by rw [List.length_map, hL]; rfl
  refine SCall.retell (SCall.run Tryz.func90 rfl (Nat.le_of_ble_eq_true rfl) (by kernel_rfl) ?_)
  repeat' (first | with_reducible rfl | ((conv => whnf); first | refine And.intro ?_ ?_ | (intro h; first | with_reducible exact tf_no h | with_reducible exact ft_no h | exact Bool.noConfusion h | with_reducible exact h | (have ht : true = true := h; clear ht h) | skip) | ((with_reducible refine SCall.mark ?_); first | refine SCall.run Tryz.func137 rfl (Nat.le_of_ble_eq_true rfl) (by kernel_rfl) ?_ | refine SCall.run Tryz.func138 rfl (Nat.le_of_ble_eq_true rfl) (by kernel_rfl) ?_ | refine SCall.at [0, 1] (fun _ => [(0, byO L), (1, dkO 0 n)]) (fun _ => byts L) 0 (img53_S L hL n) (by kernel_rfl) ⟨ow_by L, ow_dk rfl, trivial⟩ (DWl.cons (DW.ref _ _ _ rfl) DWl.nil) (DW.same _ rfl) ⟨ow_by L, ow_dk rfl, trivial⟩ ?_) | ((with_reducible refine ECall.mark ?_); first | refine ECall.only ?_ (fun h => nomatch h) | refine ECall.only ?_ ?_) | ((with_reducible refine Drawn.mark ?_); first | refine Drawn.quiet (by kernel_rfl) ?_) | refine dcell_ok rfl ?_ | refine AppC.new ?_))
  all_goals try first | ((with_reducible show Option.isSome (slElem _ _) = true); kernel_rfl) | ((with_reducible show slElem _ _ = some _); kernel_rfl) | ((with_reducible refine enters_mark ?_); kernel_rfl) | (with_reducible assumption) | ((with_reducible show List.all _ DV.one = true); rfl) | ((with_reducible show (_ : Nat) = _); rfl) | ((with_reducible show (_ == true) = true); first | (simp; done) | simpa using h) | ((with_reducible show (_ : Nat) ≤ _); exact Nat.le_of_ble_eq_true rfl) | ((with_reducible show (_ : Int) ≤ _); first | omega | decide) | ((with_reducible show (_ : Int) < _); first | omega | decide) | ((with_reducible show (_ : Nat) < _); omega) | ((with_reducible show (_ : Nat) ≤ _); omega)
  all_goals try (first | ((with_reducible show (_ == false) = true); rfl) | (exact absurd h (by decide)))
  conv => whnf
  refine PCall.tell (fun _ => h1) (fun _ => DWl.cons (DW.lstE ?e) DWl.nil) rfl ?_
  case e => with_reducible rfl
  repeat' (first | with_reducible rfl | ((conv => whnf); first | refine And.intro ?_ ?_ | (intro h; first | with_reducible exact tf_no h | with_reducible exact ft_no h | exact Bool.noConfusion h | with_reducible exact h | (have ht : true = true := h; clear ht h) | skip) | ((with_reducible refine ECall.mark ?_); first | refine ECall.only ?_ (fun h => nomatch h) | refine ECall.only ?_ ?_) | ((with_reducible refine Drawn.mark ?_); first | refine Drawn.quiet (by kernel_rfl) ?_) | refine dcell_ok rfl ?_ | refine AppC.new ?_))
  all_goals try first | ((with_reducible show Option.isSome (slElem _ _) = true); kernel_rfl) | ((with_reducible show slElem _ _ = some _); kernel_rfl) | ((with_reducible refine enters_mark ?_); kernel_rfl) | (with_reducible assumption) | ((with_reducible show List.all _ DV.one = true); rfl) | ((with_reducible show (_ : Nat) = _); rfl) | ((with_reducible show (_ == true) = true); first | (simp; done) | simpa using h) | ((with_reducible show (_ : Nat) ≤ _); exact Nat.le_of_ble_eq_true rfl) | ((with_reducible show (_ : Int) ≤ _); first | omega | decide) | ((with_reducible show (_ : Int) < _); first | omega | decide) | ((with_reducible show (_ : Nat) < _); omega) | ((with_reducible show (_ : Nat) ≤ _); omega)
  conv => whnf
  refine PCall.tell (fun _ => h2) (fun _ => DWl.cons (DW.lstE ?e) DWl.nil) rfl ?_
  case e => with_reducible rfl
  repeat' (first | with_reducible rfl | ((conv => whnf); first | refine And.intro ?_ ?_ | (intro h; first | with_reducible exact tf_no h | with_reducible exact ft_no h | exact Bool.noConfusion h | with_reducible exact h | (have ht : true = true := h; clear ht h) | skip) | ((with_reducible refine ECall.mark ?_); first | refine ECall.only ?_ (fun h => nomatch h) | refine ECall.only ?_ ?_) | ((with_reducible refine Drawn.mark ?_); first | refine Drawn.quiet (by kernel_rfl) ?_) | refine dcell_ok rfl ?_ | refine AppC.new ?_))
  all_goals try first | ((with_reducible show Option.isSome (slElem _ _) = true); kernel_rfl) | ((with_reducible show slElem _ _ = some _); kernel_rfl) | ((with_reducible refine enters_mark ?_); kernel_rfl) | (with_reducible assumption) | ((with_reducible show List.all _ DV.one = true); rfl) | ((with_reducible show (_ : Nat) = _); rfl) | ((with_reducible show (_ == true) = true); first | (simp; done) | simpa using h) | ((with_reducible show (_ : Nat) ≤ _); exact Nat.le_of_ble_eq_true rfl) | ((with_reducible show (_ : Int) ≤ _); first | omega | decide) | ((with_reducible show (_ : Int) < _); first | omega | decide) | ((with_reducible show (_ : Nat) < _); omega) | ((with_reducible show (_ : Nat) ≤ _); omega)
  conv => whnf
  refine Retold.list [] [] (.tup [int1 0, int1 0, int1 0]) [(0, byO L), (1, dkO 0 n)] 2 (by kernel_rfl) ?_ ?_ ⟨rfl, rfl⟩
  · exact DW.tupl (DWl.cons (DW.same _ rfl) (DWl.cons (DW.same _ rfl) (DWl.cons (DW.same _ rfl) DWl.nil)))
  · exact ⟨ow_by L, ow_dk rfl, trivial⟩
theorem wr_0 (L R : List Int) (hR : R.length = 16) : (L.map u8V).take 0 ++ R.map u8V ++ (L.map u8V).drop (0 + (R.map u8V).length) = (R ++ L.drop 16).map u8V := by
  rw [List.length_map, hR, List.map_append, List.map_drop]; rfl
theorem wr_1 (L R : List Int) (hR : R.length = 16) : (L.map u8V).take 16 ++ R.map u8V ++ (L.map u8V).drop (16 + (R.map u8V).length) = (L.take 16 ++ R ++ L.drop 32).map u8V := by
  rw [List.length_map, hR, List.map_append, List.map_append, List.map_drop, List.map_take]
set_option maxRecDepth 100000 in
set_option maxHeartbeats 4000000 in
theorem write92_0 (L R : List Int) (hL : L.length = 64) (hR : R.length = 16) : SCall Tryz.prog 92 [.ref 1 0, int1 0, byts R] (.of [(0, byO L), (1, dkO 0 0)] 2) fun r s => r = int1 0 ∧ s = .of [(0, byO (R ++ L.drop 16)), (1, dkO 0 1)] 2 := by
  have hn : (((R.map u8D).length : Int) != 16) = false := by rw [List.length_map, hR]; rfl
  have hr : (R.map u8V).length = 16 := by rw [List.length_map, hR]
  have hl : (L.map u8V).length = 64 := by rw [List.length_map, hL]
  refine SCall.retell (SCall.run Tryz.func92 rfl (Nat.le_of_ble_eq_true rfl) (by kernel_rfl) ?_)
  repeat' (first | with_reducible rfl | ((conv => whnf); first | refine And.intro ?_ ?_ | (intro h; first | with_reducible exact tf_no h | with_reducible exact ft_no h | exact Bool.noConfusion h | with_reducible exact h | (exfalso; exact bt_x hn h) | (have ht : true = true := h; clear ht h) | skip) | ((with_reducible refine SCall.mark ?_); first | refine SCall.run Tryz.func138 rfl (Nat.le_of_ble_eq_true rfl) (by kernel_rfl) ?_) | ((with_reducible refine GCall.mark ?_); first | refine GCall.split (fun _ => SCall.run Tryz.func138 rfl (Nat.le_of_ble_eq_true rfl) (by kernel_rfl) ?_) (fun h => absurd h (by decide))) | ((with_reducible refine ECall.mark ?_); first | refine ECall.only ?_ (fun h => nomatch h) | refine ECall.only ?_ ?_) | ((with_reducible refine Drawn.mark ?_); first | refine Drawn.quiet (by kernel_rfl) ?_) | refine esem_copy (l := R.map u8V) Tryz.underlying82 (by kernel_rfl) rfl (byts_map R) rfl rfl rfl ?_ ?_ ?_ ?_ | refine dcell_ok rfl ?_ | refine AppC.new ?_))
  all_goals try first | ((with_reducible show Option.isSome (slElem _ _) = true); kernel_rfl) | ((with_reducible show slElem _ _ = some _); kernel_rfl) | ((with_reducible refine enters_mark ?_); kernel_rfl) | (with_reducible assumption) | ((with_reducible show List.all _ DV.one = true); rfl) | ((with_reducible show (_ : Nat) = _); rfl) | ((with_reducible show (_ == true) = true); first | (simp; done) | simpa using h) | ((with_reducible show (_ : Nat) ≤ _); exact Nat.le_of_ble_eq_true rfl) | ((with_reducible show (_ : Int) ≤ _); first | omega | decide) | ((with_reducible show (_ : Int) < _); first | omega | decide) | ((with_reducible show (_ : Nat) < _); omega) | ((with_reducible show (_ : Nat) ≤ _); omega)
  all_goals try (first | ((with_reducible show (_ == false) = true); rfl) | (exact absurd h (by decide)))
  all_goals (conv => whnf)
  · exact Or.inl (Int.le_refl _)
  · show (R.map u8V).length ≤ 64
    rw [hr]; decide
  · show 0 * 1 + (R.map u8V).length ≤ (L.map u8V).length
    rw [hr, hl]; decide
  · refine Retold.list [] [] (int1 0) [(0, byO (R ++ L.drop 16)), (1, dkO 0 1)] 2 (by kernel_rfl) (DW.same _ rfl) ?_ ⟨rfl, rfl⟩
    exact ⟨OW.cells rfl rfl (DWl.eq (wr_0 L R hR) (u8_all _)), ow_dk rfl, trivial⟩
set_option maxRecDepth 100000 in
set_option maxHeartbeats 4000000 in
theorem write92_1 (L R : List Int) (hL : L.length = 64) (hR : R.length = 16) : SCall Tryz.prog 92 [.ref 1 0, int1 1, byts R] (.of [(0, byO L), (1, dkO 0 1)] 2) fun r s => r = int1 0 ∧ s = .of [(0, byO (L.take 16 ++ R ++ L.drop 32)), (1, dkO 0 2)] 2 := by
  have hn : (((R.map u8D).length : Int) != 16) = false := by rw [List.length_map, hR]; rfl
  have hr : (R.map u8V).length = 16 := by rw [List.length_map, hR]
  have hl : (L.map u8V).length = 64 := by rw [List.length_map, hL]
  refine SCall.retell (SCall.run Tryz.func92 rfl (Nat.le_of_ble_eq_true rfl) (by kernel_rfl) ?_)
  repeat' (first | with_reducible rfl | ((conv => whnf); first | refine And.intro ?_ ?_ | (intro h; first | with_reducible exact tf_no h | with_reducible exact ft_no h | exact Bool.noConfusion h | with_reducible exact h | (exfalso; exact bt_x hn h) | (have ht : true = true := h; clear ht h) | skip) | ((with_reducible refine SCall.mark ?_); first | refine SCall.run Tryz.func138 rfl (Nat.le_of_ble_eq_true rfl) (by kernel_rfl) ?_) | ((with_reducible refine GCall.mark ?_); first | refine GCall.split (fun _ => SCall.run Tryz.func138 rfl (Nat.le_of_ble_eq_true rfl) (by kernel_rfl) ?_) (fun h => absurd h (by decide))) | ((with_reducible refine ECall.mark ?_); first | refine ECall.only ?_ (fun h => nomatch h) | refine ECall.only ?_ ?_) | ((with_reducible refine Drawn.mark ?_); first | refine Drawn.quiet (by kernel_rfl) ?_) | refine esem_copy (l := R.map u8V) Tryz.underlying82 (by kernel_rfl) rfl (byts_map R) rfl rfl rfl ?_ ?_ ?_ ?_ | refine dcell_ok rfl ?_ | refine AppC.new ?_))
  all_goals try first | ((with_reducible show Option.isSome (slElem _ _) = true); kernel_rfl) | ((with_reducible show slElem _ _ = some _); kernel_rfl) | ((with_reducible refine enters_mark ?_); kernel_rfl) | (with_reducible assumption) | ((with_reducible show List.all _ DV.one = true); rfl) | ((with_reducible show (_ : Nat) = _); rfl) | ((with_reducible show (_ == true) = true); first | (simp; done) | simpa using h) | ((with_reducible show (_ : Nat) ≤ _); exact Nat.le_of_ble_eq_true rfl) | ((with_reducible show (_ : Int) ≤ _); first | omega | decide) | ((with_reducible show (_ : Int) < _); first | omega | decide) | ((with_reducible show (_ : Nat) < _); omega) | ((with_reducible show (_ : Nat) ≤ _); omega)
  all_goals try (first | ((with_reducible show (_ == false) = true); rfl) | (exact absurd h (by decide)))
  all_goals (conv => whnf)
  · exact Or.inl (Int.le_refl _)
  · show (R.map u8V).length ≤ 48
    rw [hr]; decide
  · show 16 * 1 + (R.map u8V).length ≤ (L.map u8V).length
    rw [hr, hl]; decide
  · refine Retold.list [] [] (int1 0) [(0, byO (L.take 16 ++ R ++ L.drop 32)), (1, dkO 0 2)] 2 (by kernel_rfl) (DW.same _ rfl) ?_ ⟨rfl, rfl⟩
    exact ⟨OW.cells rfl rfl (DWl.eq (wr_1 L R hR) (u8_all _)), ow_dk rfl, trivial⟩
set_option maxRecDepth 100000 in
set_option maxHeartbeats 4000000 in
theorem next70_S (L : List Int) (hL : L.length = 64) (h1 : DPure Tryz.prog 139 [.lst 1 (((L.map u8D).take (Int.toNat 32)).drop (Int.toNat 0))] (int1 0)) (h2 : DPure Tryz.prog 139 [.lst 1 (((L.map u8D).take (Int.toNat 64)).drop (Int.toNat 32))] (int1 0)) :
    SCall Tryz.prog 70 [.ref 1 0] (.of [(0, byO L), (1, dkO 0 0)] 2) fun r s => r = .tup [int1 1, int1 0] ∧ s = .of [(0, byO ((recA ++ L.drop 16).take 16 ++ recB ++ (recA ++ L.drop 16).drop 32)), (1, dkO 0 2)] 2 := by
  have hL2 : (recA ++ L.drop 16).length = 64 := by rw [List.length_append, List.length_drop, hL]; rfl
  refine SCall.retell (SCall.run Tryz.func70 rfl (Nat.le_of_ble_eq_true rfl) (by kernel_rfl) ?_)
  repeat' (first | with_reducible rfl | ((conv => whnf); first | refine And.intro ?_ ?_ | (intro h; first | with_reducible exact tf_no h | with_reducible exact ft_no h | exact Bool.noConfusion h | with_reducible exact h | (have ht : true = true := h; clear ht h) | skip) | ((with_reducible refine SCall.mark ?_); first | refine SCall.at [0, 1] (fun _ => [(0, byO L), (1, dkO 0 0)]) (fun _ => .tup [int1 0, int1 0, int1 0]) 0 (slots90_S L hL 0 h1 h2) (by kernel_rfl) ⟨ow_by L, ow_dk rfl, trivial⟩ (DWl.cons (DW.ref _ _ _ rfl) DWl.nil) (DW.tupl (DWl.cons (DW.same _ rfl) (DWl.cons (DW.same _ rfl) (DWl.cons (DW.same _ rfl) DWl.nil)))) ⟨ow_by L, ow_dk rfl, trivial⟩ ?_) | ((with_reducible refine ECall.mark ?_); first | refine ECall.only ?_ (fun h => nomatch h) | refine ECall.only ?_ ?_) | ((with_reducible refine Drawn.mark ?_); first | refine Drawn.quiet (by kernel_rfl) ?_) | refine dcell_ok rfl ?_ | refine AppC.new ?_))
  all_goals try first | ((with_reducible show Option.isSome (slElem _ _) = true); kernel_rfl) | ((with_reducible show slElem _ _ = some _); kernel_rfl) | ((with_reducible refine enters_mark ?_); kernel_rfl) | (with_reducible assumption) | ((with_reducible show List.all _ DV.one = true); rfl) | ((with_reducible show (_ : Nat) = _); rfl) | ((with_reducible show (_ == true) = true); first | (simp; done) | simpa using h) | ((with_reducible show (_ : Nat) ≤ _); exact Nat.le_of_ble_eq_true rfl) | ((with_reducible show (_ : Int) ≤ _); first | omega | decide) | ((with_reducible show (_ : Int) < _); first | omega | decide) | ((with_reducible show (_ : Nat) < _); omega) | ((with_reducible show (_ : Nat) ≤ _); omega)
  all_goals try (first | ((with_reducible show (_ == false) = true); rfl) | (exact absurd h (by decide)) | (exact Nat.le_of_ble_eq_true rfl))
  refine SCall.tell [] rec91_D (DWl.cons (DW.int ?e) DWl.nil) rfl rfl ?_
  case e => decide
  repeat' (first | with_reducible rfl | ((conv => whnf); first | refine And.intro ?_ ?_ | (intro h; first | with_reducible exact tf_no h | with_reducible exact ft_no h | exact Bool.noConfusion h | with_reducible exact h | (have ht : true = true := h; clear ht h) | skip) | ((with_reducible refine SCall.mark ?_); first | refine SCall.at [0, 1] (fun _ => [(0, byO (recA ++ L.drop 16)), (1, dkO 0 1)]) (fun _ => int1 0) 0 (write92_0 L recA hL rfl) (by kernel_rfl) ⟨ow_by L, ow_dk rfl, trivial⟩ (DWl.cons (DW.ref _ _ _ rfl) (DWl.cons (DW.int ?e) (DWl.cons (DW.same _ rfl) DWl.nil))) (DW.same _ rfl) ⟨ow_by _, ow_dk rfl, trivial⟩ ?_) | ((with_reducible refine ECall.mark ?_); first | refine ECall.only ?_ (fun h => nomatch h) | refine ECall.only ?_ ?_) | ((with_reducible refine Drawn.mark ?_); first | refine Drawn.quiet (by kernel_rfl) ?_) | refine dcell_ok rfl ?_ | refine AppC.new ?_))
  all_goals try first | ((with_reducible show Option.isSome (slElem _ _) = true); kernel_rfl) | ((with_reducible show slElem _ _ = some _); kernel_rfl) | ((with_reducible refine enters_mark ?_); kernel_rfl) | (with_reducible assumption) | ((with_reducible show List.all _ DV.one = true); rfl) | ((with_reducible show (_ : Nat) = _); rfl) | ((with_reducible show (_ == true) = true); first | (simp; done) | simpa using h) | ((with_reducible show (_ : Nat) ≤ _); exact Nat.le_of_ble_eq_true rfl) | ((with_reducible show (_ : Int) ≤ _); first | omega | decide) | ((with_reducible show (_ : Int) < _); first | omega | decide) | ((with_reducible show (_ : Nat) < _); omega) | ((with_reducible show (_ : Nat) ≤ _); omega)
  all_goals try (first | ((with_reducible show (_ == false) = true); rfl) | (exact absurd h (by decide)) | (exact Nat.le_of_ble_eq_true rfl))
  all_goals (conv => whnf)
  refine SCall.at [0, 1] (fun _ => [(0, byO ((recA ++ L.drop 16).take 16 ++ recB ++ (recA ++ L.drop 16).drop 32)), (1, dkO 0 2)]) (fun _ => int1 0) 0 (write92_1 (recA ++ L.drop 16) recB hL2 rfl) (by kernel_rfl) ⟨ow_by _, ow_dk rfl, trivial⟩ (DWl.cons (DW.ref _ _ _ rfl) (DWl.cons (DW.int ?e2) (DWl.cons (DW.same _ rfl) DWl.nil))) (DW.same _ rfl) ⟨ow_by _, ow_dk rfl, trivial⟩ ?_
  case e2 => decide
  repeat' (first | with_reducible rfl | ((conv => whnf); first | refine And.intro ?_ ?_ | (intro h; first | with_reducible exact tf_no h | with_reducible exact ft_no h | exact Bool.noConfusion h | with_reducible exact h | (have ht : true = true := h; clear ht h) | skip) | ((with_reducible refine ECall.mark ?_); first | refine ECall.only ?_ (fun h => nomatch h) | refine ECall.only ?_ ?_) | ((with_reducible refine Drawn.mark ?_); first | refine Drawn.quiet (by kernel_rfl) ?_) | refine dcell_ok rfl ?_ | refine AppC.new ?_))
  all_goals try first | ((with_reducible show Option.isSome (slElem _ _) = true); kernel_rfl) | ((with_reducible show slElem _ _ = some _); kernel_rfl) | ((with_reducible refine enters_mark ?_); kernel_rfl) | (with_reducible assumption) | ((with_reducible show List.all _ DV.one = true); rfl) | ((with_reducible show (_ : Nat) = _); rfl) | ((with_reducible show (_ == true) = true); first | (simp; done) | simpa using h) | ((with_reducible show (_ : Nat) ≤ _); exact Nat.le_of_ble_eq_true rfl) | ((with_reducible show (_ : Int) ≤ _); first | omega | decide) | ((with_reducible show (_ : Int) < _); first | omega | decide) | ((with_reducible show (_ : Nat) < _); omega) | ((with_reducible show (_ : Nat) ≤ _); omega)
  all_goals (conv => whnf)
  refine Retold.list [] [] (.tup [int1 1, int1 0]) [(0, byO ((recA ++ L.drop 16).take 16 ++ recB ++ (recA ++ L.drop 16).drop 32)), (1, dkO 0 2)] 2 (by kernel_rfl) ?_ ?_ ⟨rfl, rfl⟩
  · exact DW.tupl (DWl.cons (DW.int (by decide)) (DWl.cons (DW.same _ rfl) DWl.nil))
  · exact ⟨ow_by _, ow_dk rfl, trivial⟩
end Go.Proofs.YtagfmppjlfhmeaaGreatDoor


