/- The document's Number. -/
import Derived.Test.YtlchjjchgebfiaaGreatDoorPkU
import Derived.Test.YtlchjjchgebfiaaGreatDoorPkA
import Derived.Test.YtlchjjchgebfiaaGreatDoorPkK
import Derived.Lib.ItoaMem
import Derived.Lib.ParseIntBCases
import Derived.Test.YtlchjjchgebfiaaGreatDoorDp33

namespace Go.Proofs.YtlchjjchgebfiaaGreatDoor
open Go.RowKit Go.Dl
attribute [local irreducible] Tri SCall TSem ECall Drawn DFun QSem PSem PCall GCall MCall Round Weak dloadE OW DWl Tells IntKind.wrap Retold ESem
def negB (s : ByteArray) : Bool := bif decide ((0 : Int) < (s.size : Int)) then byteAt s (Int.toNat 0) == 45 else false
def digB (s : ByteArray) : ByteArray := bif negB s then s.extract 1 s.size else s
def isD (c : UInt8) : Bool := decide (48 ≤ c.toNat) && decide (c.toNat ≤ 57)
def valL (x : Nat) : List UInt8 → Nat
  | [] => x
  | c :: r => valL (x * 10 + (c.toNat - 48)) r
theorem valL_app (x : Nat) (l r : List UInt8) : valL x (l ++ r) = valL (valL x l) r := by
  induction l generalizing x with
  | nil => rfl
  | cons c l ih => exact ih _
theorem valL_lt {l : List UInt8} (h : ∀ c ∈ l, isD c = true) : ∀ {x : Nat} {m : Nat}, x < 10 ^ m → valL x l < 10 ^ (m + l.length) := by
  induction l with
  | nil => intro x m hx; exact hx
  | cons c l ih =>
    intro x m hx
    have hc := h c (List.mem_cons_self ..)
    unfold isD at hc
    rw [Bool.and_eq_true, decide_eq_true_eq, decide_eq_true_eq] at hc
    have h1 : x * 10 + (c.toNat - 48) < 10 ^ (m + 1) := by rw [Nat.pow_succ]; omega
    have := ih (fun y hy => h y (List.mem_cons_of_mem _ hy)) h1
    rw [List.length_cons]
    rw [show m + (l.length + 1) = m + 1 + l.length by omega]
    exact this
def badF (s : ByteArray) : Bool := bif bif digB s == emB then true else decide ((19 : Int) < ((digB s).size : Int)) then true else bif byteAt (digB s) (Int.toNat 0) == 48 then (bif decide ((1 : Int) < ((digB s).size : Int)) then true else negB s) else false
def numD (s : ByteArray) : Int × Bool :=
  bif badF s then (0, false)
  else bif !(digB s).data.toList.all isD then (0, false)
  else bif negB s then (IntKind.i64.wrap (0 - IntKind.i64.wrap (valL 0 (digB s).data.toList : Nat)), decide ((valL 0 (digB s).data.toList : Nat) ≤ (9223372036854775808 : Int)))
  else (IntKind.i64.wrap (valL 0 (digB s).data.toList : Nat), decide (((valL 0 (digB s).data.toList : Nat) : Int) < 9223372036854775808))
def nSt (s : ByteArray) (i : Nat) : St := ⟨0, tmOf [(0, strV s), (2, int1 0), (3, bl false), (4, strV (digB s)), (5, bl (negB s)), (6, .v (.int .u64 (valL 0 ((digB s).data.toList.take i) : Nat))), (7, int1 i)], .of [] 0⟩
structure NOk (s : ByteArray) (i : Nat) : Prop where
  at_ : i ≤ (digB s).size
  dig : ∀ k, k < i → k < (digB s).data.toList.length → isD ((digB s).data.toList.getD k 0) = true
theorem dig_t {s : ByteArray} (h : (bif decide ((0 : Int) < (s.size : Int)) then byteAt s (Int.toNat 0) == 45 else false) = true) : s.extract (Int.toNat 1) (s.size : Int).toNat = digB s := by
  unfold digB
  rw [show negB s = true from h]; rfl
theorem dig_f {s : ByteArray} (h : (bif decide ((0 : Int) < (s.size : Int)) then byteAt s (Int.toNat 0) == 45 else false) = false) : s = digB s := by
  unfold digB
  rw [show negB s = false from h]; rfl
theorem bad_of {s d : ByteArray} {b : Bool} (hd : d = digB s) (h : (bif bif d == ⟨#[]⟩ then true else decide ((19 : Int) < (d.size : Int)) then true else bif byteAt d (Int.toNat 0) == 48 then (bif decide ((1 : Int) < (d.size : Int)) then true else (bif decide ((0 : Int) < (s.size : Int)) then byteAt s (Int.toNat 0) == 45 else false)) else false) = b) : badF s = b := by
  subst hd
  exact h
theorem num_bad {s : ByteArray} (h : badF s = true) : numD s = (0, false) := by rw [numD, h]; rfl
theorem dig_pos {d : ByteArray} (h : ((bif d == ⟨#[]⟩ then true else decide ((19 : Int) < (d.size : Int))) == false) = true) : (0 : Int) < (d.size : Int) := by
  rcases Nat.eq_zero_or_pos d.size with h1 | h1
  · have e : d = ⟨#[]⟩ := by
      apply ByteArray.ext
      exact Array.eq_empty_of_size_eq_zero h1
    subst e
    rw [show ((⟨#[]⟩ : ByteArray) == ⟨#[]⟩) = true from rfl] at h
    cases h
  · omega
theorem bad_19 {s : ByteArray} (h : badF s = false) : (digB s).size ≤ 19 := by
  unfold badF at h
  cases h1 : digB s == emB with
  | true => rw [h1] at h; cases h
  | false =>
    cases h2 : decide ((19 : Int) < ((digB s).size : Int)) with
    | true => rw [h1, h2] at h; cases h
    | false => have := of_decide_eq_false h2; omega
theorem n_start (s : ByteArray) : NOk s 0 := ⟨Nat.zero_le _, fun k hk => by omega⟩
theorem isD_of {s : ByteArray} {i : Nat} (h : (bif decide (byteAt s (i : Int).toNat < 48) then true else decide (57 < byteAt s (i : Int).toNat)) = false) : isD (s.data.toList.getD i 0) = true ∧ 48 ≤ byteAt s i ∧ byteAt s i ≤ 57 := by
  rw [Int.toNat_natCast] at h
  cases h1 : decide (byteAt s i < 48) with
  | true => rw [h1] at h; cases h
  | false =>
    rw [h1] at h
    have h2 := of_decide_eq_false h1
    have h3 := of_decide_eq_false (show decide (57 < byteAt s i) = false from h)
    refine ⟨?_, by omega, by omega⟩
    unfold byteAt at h2 h3
    unfold isD
    rw [decide_eq_true (by omega), decide_eq_true (by omega)]; rfl
theorem isD_no {s : ByteArray} {i : Nat} (h : (bif decide (byteAt s (i : Int).toNat < 48) then true else decide (57 < byteAt s (i : Int).toNat)) = true) : isD (s.data.toList.getD i 0) = false := by
  rw [Int.toNat_natCast] at h
  unfold isD
  cases h1 : decide (byteAt s i < 48) with
  | true =>
    have h2 := of_decide_eq_true h1
    unfold byteAt at h2
    rw [decide_eq_false (by omega)]; rfl
  | false =>
    rw [h1] at h
    have h3 := of_decide_eq_true (show decide (57 < byteAt s i) = true from h)
    unfold byteAt at h3
    rw [decide_eq_false (p := (s.data.toList.getD i 0).toNat ≤ 57) (by omega), Bool.and_false]
theorem num_no {s : ByteArray} {i : Nat} (hb : badF s = false) (hi : i < (digB s).size) (h : (bif decide (byteAt (digB s) (i : Int).toNat < 48) then true else decide (57 < byteAt (digB s) (i : Int).toNat)) = true) : numD s = (0, false) := by
  rw [numD, hb, all_no (d := 0) (by rw [sz_len]; exact hi) (isD_no h)]; rfl
theorem n_next {s : ByteArray} {i : Nat} (hk : NOk s i) (hi : i < (digB s).size) (h : (bif decide (byteAt (digB s) (i : Int).toNat < 48) then true else decide (57 < byteAt (digB s) (i : Int).toNat)) = false) : NOk s (i + 1) :=
  ⟨hi, all_next hk.dig (isD_of h).1⟩
theorem val_lt {s : ByteArray} {i : Nat} (hk : NOk s i) : valL 0 ((digB s).data.toList.take i) < 10 ^ i := by
  have hl : ((digB s).data.toList.take i).length = i := by rw [List.length_take, sz_len]; have := hk.at_; omega
  have := valL_lt (l := (digB s).data.toList.take i) (fun c hc => by
    obtain ⟨k, hk1, rfl⟩ := List.getElem_of_mem hc
    rw [hl] at hk1
    have h2 : k < (digB s).data.toList.length := by rw [sz_len]; have := hk.at_; omega
    have := hk.dig k hk1 h2
    rw [List.getElem_take]
    rw [getD_lt h2] at this
    exact this) (x := 0) (m := 0) (by decide)
  rw [hl, Nat.zero_add] at this
  exact this
theorem pow_le {i : Nat} (h : i ≤ 18) : 10 ^ i ≤ 1000000000000000000 := by
  have := Nat.pow_le_pow_right (n := 10) (by decide) h
  exact this
theorem val_step {s : ByteArray} {i : Nat} (hb : badF s = false) (hk : NOk s i) (hi : i < (digB s).size) (h : (bif decide (byteAt (digB s) (i : Int).toNat < 48) then true else decide (57 < byteAt (digB s) (i : Int).toNat)) = false) : IntKind.u64.wrap (IntKind.u64.wrap (((valL 0 ((digB s).data.toList.take i) : Nat) : Int) * 10) + IntKind.u64.wrap (IntKind.u8.wrap (byteAt (digB s) (i : Int).toNat - 48))) = ((valL 0 ((digB s).data.toList.take (i + 1)) : Nat) : Int) := by
  obtain ⟨_, h1, h2⟩ := isD_of h
  have h3 := val_lt hk
  have h4 := pow_le (i := i) (by have := bad_19 hb; omega)
  rw [Int.toNat_natCast]
  have e : ((valL 0 ((digB s).data.toList.take (i + 1)) : Nat) : Int) = ((valL 0 ((digB s).data.toList.take i) : Nat) : Int) * 10 + (byteAt (digB s) i - 48) := by
    rw [take_at hi, valL_app]
    unfold byteAt at h1 ⊢
    show ((valL 0 ((digB s).data.toList.take i) * 10 + (((digB s).data.toList.getD i 0).toNat - 48) : Nat) : Int) = _
    omega
  rw [e]
  generalize valL 0 ((digB s).data.toList.take i) = x at h3
  rw [IntKind.wrap_u8, IntKind.wrap_u64, IntKind.wrap_u64, IntKind.wrap_u64]
  omega
theorem n_all {s : ByteArray} {i : Nat} (hk : NOk s i) (hge : (digB s).size ≤ i) : (digB s).data.toList.all isD = true ∧ (digB s).data.toList.take i = (digB s).data.toList :=
  ⟨all_end hk.dig (by rw [sz_len]; exact hge), List.take_of_length_le (by rw [sz_len]; exact hge)⟩
theorem num_t {s : ByteArray} {i : Nat} (hb : badF s = false) (hk : NOk s i) (hge : (digB s).size ≤ i) (hn : negB s = true) : numD s = (IntKind.i64.wrap (0 - IntKind.i64.wrap (valL 0 ((digB s).data.toList.take i) : Nat)), decide ((valL 0 ((digB s).data.toList.take i) : Nat) ≤ (9223372036854775808 : Int))) := by
  obtain ⟨h1, h2⟩ := n_all hk hge
  rw [numD, hb, h1, h2, hn]; rfl
theorem num_f {s : ByteArray} {i : Nat} (hb : badF s = false) (hk : NOk s i) (hge : (digB s).size ≤ i) (hn : negB s = false) : numD s = (IntKind.i64.wrap (valL 0 ((digB s).data.toList.take i) : Nat), decide (((valL 0 ((digB s).data.toList.take i) : Nat) : Int) < 9223372036854775808)) := by
  obtain ⟨h1, h2⟩ := n_all hk hge
  rw [numD, hb, h1, h2, hn]; rfl
theorem neg_raw (s : ByteArray) : (bif decide ((0 : Int) < (s.size : Int)) then byteAt s (Int.toNat 0) == 45 else false) = negB s := rfl
def numV (s : ByteArray) : DV := .tup [int1 (numD s).1, bl (numD s).2]
theorem numV_of {s : ByteArray} {x : Int} {b : Bool} (h : numD s = (x, b)) : numV s = .tup [int1 x, bl b] := by rw [numV, h]
end Go.Proofs.YtlchjjchgebfiaaGreatDoor

namespace Go.Proofs.YtlchjjchgebfiaaGreatDoor
open Go.RowKit Go.Dl
attribute [local irreducible] Tri SCall TSem ECall Drawn DFun QSem PSem PCall GCall MCall Round Weak dloadE OW DWl Tells IntKind.wrap Retold ESem
theorem val_0 (s : ByteArray) : (0 : Int) = ((valL 0 ((digB s).data.toList.take 0) : Nat) : Int) := rfl
attribute [local irreducible] byteAt digB negB valL numD
set_option maxRecDepth 20000 in
set_option maxHeartbeats 16000000 in
theorem number25_D (s : ByteArray) (hs : s.size ≤ 1024) : DPure Tryz.prog 25 [strV s] (numV s) := by
  refine DFun.data (DFun.body Tryz.func25 rfl (by kernel_rfl) ?_)
  repeat' (first | with_reducible rfl | ((conv => whnf); first | refine And.intro ?_ ?_ | (intro h; first | with_reducible exact tf_no h | with_reducible exact ft_no h | exact Bool.noConfusion h | with_reducible exact h | (have ht : true = true := h; clear ht h) | skip) | ((with_reducible refine ECall.mark ?_); first | refine ECall.only ?_ (fun h => nomatch h) | refine ECall.only ?_ ?_) | ((with_reducible refine Drawn.mark ?_); first | refine Drawn.quiet (by kernel_rfl) ?_) | refine dcell_ok rfl ?_ | refine AppC.new ?_))
  all_goals first | (with_reducible refine enters_mark ?_; kernel_rfl) | (with_reducible refine boolT_mark ?_; kernel_rfl) | rfl | trivial | assumption | exact Nat.le_of_ble_eq_true rfl | (show entersB _ _ = true; kernel_rfl) | exact DW.same _ rfl | exact DW.ref _ _ _ rfl | exact DW.arr _ _ _ rfl | refine DW.int ?_ | refine dvb ?_ | refine dvi ?_ | exact OW.cells rfl rfl (DWl.same rfl) | exact Nat.zero_le _ | omega | skip
  all_goals repeat' (first | refine OW.cells rfl rfl ?_ | exact DW.nilArr _ rfl | refine DWl.cons ?_ ?_ | exact DWl.nil | exact DW.same _ rfl | exact DW.ref _ _ _ rfl | exact DW.arr _ _ _ rfl | exact DW.sub _ _ _ _ rfl | exact DW.mo _ _ rfl | exact DW.nilLst _ | refine DW.aggl ?_ | refine DW.tupl ?_ | refine DW.clol ?_ ?_)
  all_goals try ((conv => whnf); with_reducible first | refine Round.mark ?_ | refine Tells.mark ?_ | refine Retold.mark ?_)
  all_goals try first | (show (_ : Bool) = _; simp_all; done) | (show (_ : Int) < _; simp at *; omega) | (show (_ : Int) ≤ _; simp at *; omega) | (show (_ : Nat) < _; simp at *; omega) | (show (_ : Nat) ≤ _; simp at *; omega)
  · exact dig_pos h
  · rename_i hn
    conv => whnf
    exact Tells.of (r1 := .tup [int1 0, bl false]) (numV_of (num_bad (bad_of (dig_t hn) h))) (Tells.mk (DW.tupl (DWl.cons (DW.int rfl) (DWl.cons (DW.bool rfl) DWl.nil))))
  · rename_i hn
    have hd := dig_t hn
    have hb := bad_of hd h
    conv => whnf
    refine Tri.loop (nSt s) (NOk s) (fun i => (digB s).size - i) 0 (by kernel_rfl) (Weak.list [] [] (by kernel_rfl) ?_ ?_) (n_start s) ?_
    iterate 2 · repeat' (first | exact hd | exact neg_raw s | exact val_0 s | exact DW.same _ rfl | exact DW.ref _ _ _ rfl | exact DW.arr _ _ _ rfl | exact OW.cells rfl rfl (DWl.same rfl) | refine OW.cells rfl rfl ?_ | refine DWl.cons ?_ ?_ | exact DWl.nil | exact DW.nilArr _ rfl | exact DW.nilLst _ | refine DW.clol ?_ ?_ | refine DW.aggl ?_ | refine DW.tupl ?_ | refine DW.int ?_ | refine DW.bool ?_ | refine DW.str ?_ | refine DW.arrE rfl ?_ | ((conv => whnf); first | refine And.intro ?_ ?_ | trivial))
    intro i hi
    show dcode _ _ _ _ (nSt s i) _
    repeat' (first | with_reducible rfl | ((conv => whnf); first | refine And.intro ?_ ?_ | (intro h; first | with_reducible exact tf_no h | with_reducible exact ft_no h | exact Bool.noConfusion h | with_reducible exact h | (have ht : true = true := h; clear ht h) | skip) | ((with_reducible refine ECall.mark ?_); first | refine ECall.only ?_ (fun h => nomatch h) | refine ECall.only ?_ ?_) | ((with_reducible refine Drawn.mark ?_); first | refine Drawn.quiet (by kernel_rfl) ?_) | refine dcell_ok rfl ?_ | refine AppC.new ?_))
    all_goals try ((conv => whnf); with_reducible refine Round.mark ?_)
    all_goals try first | ((with_reducible show Option.isSome (slElem _ _) = true); kernel_rfl) | ((with_reducible show slElem _ _ = some _); kernel_rfl) | ((with_reducible refine enters_mark ?_); kernel_rfl) | (with_reducible assumption) | ((with_reducible show List.all _ DV.one = true); rfl) | ((with_reducible show (_ : Nat) = _); rfl) | ((with_reducible show (_ == true) = true); simpa using h) | ((with_reducible show (_ : Nat) ≤ _); exact Nat.le_of_ble_eq_true rfl) | ((with_reducible show (_ : Int) ≤ _); first | omega | decide) | ((with_reducible show (_ : Int) < _); first | omega | decide) | ((with_reducible show (_ : Nat) < _); omega) | ((with_reducible show (_ : Nat) ≤ _); omega)
    all_goals try (first | (rfl; done) | (exact of_decide_eq_true (by assumption); done) | ((with_reducible show isKnown _ _ = true); kernel_rfl) | ((with_reducible show (_ == false) = true); simpa using h))
    · rename_i e0
      have hlt := lt_int e0
      conv => whnf
      exact Tells.of (r1 := .tup [int1 0, bl false]) (numV_of (num_no hb hlt h)) (Tells.mk (DW.tupl (DWl.cons (DW.int rfl) (DWl.cons (DW.bool rfl) DWl.nil))))
    · rename_i e0
      have hlt := lt_int e0
      have h19 := bad_19 hb
      refine Round.go (fun _ => i + 1) (n_next hi hlt h) (by show (digB s).size - (i + 1) < (digB s).size - i; omega) (Weak.list [] [] (by kernel_rfl) ?_ ?_)
      iterate 2 · repeat' (first | exact wsucc hlt (by omega) | exact val_step hb hi hlt h | exact DW.same _ rfl | exact DW.ref _ _ _ rfl | exact DW.arr _ _ _ rfl | exact OW.cells rfl rfl (DWl.same rfl) | refine OW.cells rfl rfl ?_ | refine DWl.cons ?_ ?_ | exact DWl.nil | exact DW.nilArr _ rfl | exact DW.nilLst _ | refine DW.clol ?_ ?_ | refine DW.aggl ?_ | refine DW.tupl ?_ | refine DW.int ?_ | refine DW.bool ?_ | refine DW.str ?_ | refine DW.arrE rfl ?_ | ((conv => whnf); first | refine And.intro ?_ ?_ | trivial))
    · rename_i e0
      repeat' (first | with_reducible rfl | ((conv => whnf); first | refine And.intro ?_ ?_ | (intro h; first | with_reducible exact tf_no h | with_reducible exact ft_no h | exact Bool.noConfusion h | with_reducible exact h | (have ht : true = true := h; clear ht h) | skip) | ((with_reducible refine ECall.mark ?_); first | refine ECall.only ?_ (fun h => nomatch h) | refine ECall.only ?_ ?_) | ((with_reducible refine Drawn.mark ?_); first | refine Drawn.quiet (by kernel_rfl) ?_) | refine dcell_ok rfl ?_ | refine AppC.new ?_))
      conv => whnf
      exact Tells.of (numV_of (num_t hb hi (ge_int e0) h)) (Tells.mk (DW.tupl (DWl.cons (DW.int rfl) (DWl.cons (DW.bool rfl) DWl.nil))))
    · rename_i e0
      repeat' (first | with_reducible rfl | ((conv => whnf); first | refine And.intro ?_ ?_ | (intro h; first | with_reducible exact tf_no h | with_reducible exact ft_no h | exact Bool.noConfusion h | with_reducible exact h | (have ht : true = true := h; clear ht h) | skip) | ((with_reducible refine ECall.mark ?_); first | refine ECall.only ?_ (fun h => nomatch h) | refine ECall.only ?_ ?_) | ((with_reducible refine Drawn.mark ?_); first | refine Drawn.quiet (by kernel_rfl) ?_) | refine dcell_ok rfl ?_ | refine AppC.new ?_))
      conv => whnf
      exact Tells.of (numV_of (num_f hb hi (ge_int e0) h)) (Tells.mk (DW.tupl (DWl.cons (DW.int rfl) (DWl.cons (DW.bool rfl) DWl.nil))))
  · exact dig_pos h
  · rename_i hn
    conv => whnf
    exact Tells.of (r1 := .tup [int1 0, bl false]) (numV_of (num_bad (bad_of (dig_f hn) h))) (Tells.mk (DW.tupl (DWl.cons (DW.int rfl) (DWl.cons (DW.bool rfl) DWl.nil))))
  · rename_i hn
    have hd := dig_f hn
    have hb := bad_of hd h
    conv => whnf
    refine Tri.loop (nSt s) (NOk s) (fun i => (digB s).size - i) 0 (by kernel_rfl) (Weak.list [] [] (by kernel_rfl) ?_ ?_) (n_start s) ?_
    iterate 2 · repeat' (first | exact hd | exact neg_raw s | exact val_0 s | exact DW.same _ rfl | exact DW.ref _ _ _ rfl | exact DW.arr _ _ _ rfl | exact OW.cells rfl rfl (DWl.same rfl) | refine OW.cells rfl rfl ?_ | refine DWl.cons ?_ ?_ | exact DWl.nil | exact DW.nilArr _ rfl | exact DW.nilLst _ | refine DW.clol ?_ ?_ | refine DW.aggl ?_ | refine DW.tupl ?_ | refine DW.int ?_ | refine DW.bool ?_ | refine DW.str ?_ | refine DW.arrE rfl ?_ | ((conv => whnf); first | refine And.intro ?_ ?_ | trivial))
    intro i hi
    show dcode _ _ _ _ (nSt s i) _
    repeat' (first | with_reducible rfl | ((conv => whnf); first | refine And.intro ?_ ?_ | (intro h; first | with_reducible exact tf_no h | with_reducible exact ft_no h | exact Bool.noConfusion h | with_reducible exact h | (have ht : true = true := h; clear ht h) | skip) | ((with_reducible refine ECall.mark ?_); first | refine ECall.only ?_ (fun h => nomatch h) | refine ECall.only ?_ ?_) | ((with_reducible refine Drawn.mark ?_); first | refine Drawn.quiet (by kernel_rfl) ?_) | refine dcell_ok rfl ?_ | refine AppC.new ?_))
    all_goals try ((conv => whnf); with_reducible refine Round.mark ?_)
    all_goals try first | ((with_reducible show Option.isSome (slElem _ _) = true); kernel_rfl) | ((with_reducible show slElem _ _ = some _); kernel_rfl) | ((with_reducible refine enters_mark ?_); kernel_rfl) | (with_reducible assumption) | ((with_reducible show List.all _ DV.one = true); rfl) | ((with_reducible show (_ : Nat) = _); rfl) | ((with_reducible show (_ == true) = true); simpa using h) | ((with_reducible show (_ : Nat) ≤ _); exact Nat.le_of_ble_eq_true rfl) | ((with_reducible show (_ : Int) ≤ _); first | omega | decide) | ((with_reducible show (_ : Int) < _); first | omega | decide) | ((with_reducible show (_ : Nat) < _); omega) | ((with_reducible show (_ : Nat) ≤ _); omega)
    all_goals try (first | (rfl; done) | (exact of_decide_eq_true (by assumption); done) | ((with_reducible show isKnown _ _ = true); kernel_rfl) | ((with_reducible show (_ == false) = true); simpa using h))
    · rename_i e0
      have hlt := lt_int e0
      conv => whnf
      exact Tells.of (r1 := .tup [int1 0, bl false]) (numV_of (num_no hb hlt h)) (Tells.mk (DW.tupl (DWl.cons (DW.int rfl) (DWl.cons (DW.bool rfl) DWl.nil))))
    · rename_i e0
      have hlt := lt_int e0
      have h19 := bad_19 hb
      refine Round.go (fun _ => i + 1) (n_next hi hlt h) (by show (digB s).size - (i + 1) < (digB s).size - i; omega) (Weak.list [] [] (by kernel_rfl) ?_ ?_)
      iterate 2 · repeat' (first | exact wsucc hlt (by omega) | exact val_step hb hi hlt h | exact DW.same _ rfl | exact DW.ref _ _ _ rfl | exact DW.arr _ _ _ rfl | exact OW.cells rfl rfl (DWl.same rfl) | refine OW.cells rfl rfl ?_ | refine DWl.cons ?_ ?_ | exact DWl.nil | exact DW.nilArr _ rfl | exact DW.nilLst _ | refine DW.clol ?_ ?_ | refine DW.aggl ?_ | refine DW.tupl ?_ | refine DW.int ?_ | refine DW.bool ?_ | refine DW.str ?_ | refine DW.arrE rfl ?_ | ((conv => whnf); first | refine And.intro ?_ ?_ | trivial))
    · rename_i e0
      repeat' (first | with_reducible rfl | ((conv => whnf); first | refine And.intro ?_ ?_ | (intro h; first | with_reducible exact tf_no h | with_reducible exact ft_no h | exact Bool.noConfusion h | with_reducible exact h | (have ht : true = true := h; clear ht h) | skip) | ((with_reducible refine ECall.mark ?_); first | refine ECall.only ?_ (fun h => nomatch h) | refine ECall.only ?_ ?_) | ((with_reducible refine Drawn.mark ?_); first | refine Drawn.quiet (by kernel_rfl) ?_) | refine dcell_ok rfl ?_ | refine AppC.new ?_))
      conv => whnf
      exact Tells.of (numV_of (num_t hb hi (ge_int e0) h)) (Tells.mk (DW.tupl (DWl.cons (DW.int rfl) (DWl.cons (DW.bool rfl) DWl.nil))))
    · rename_i e0
      repeat' (first | with_reducible rfl | ((conv => whnf); first | refine And.intro ?_ ?_ | (intro h; first | with_reducible exact tf_no h | with_reducible exact ft_no h | exact Bool.noConfusion h | with_reducible exact h | (have ht : true = true := h; clear ht h) | skip) | ((with_reducible refine ECall.mark ?_); first | refine ECall.only ?_ (fun h => nomatch h) | refine ECall.only ?_ ?_) | ((with_reducible refine Drawn.mark ?_); first | refine Drawn.quiet (by kernel_rfl) ?_) | refine dcell_ok rfl ?_ | refine AppC.new ?_))
      conv => whnf
      exact Tells.of (numV_of (num_f hb hi (ge_int e0) h)) (Tells.mk (DW.tupl (DWl.cons (DW.int rfl) (DWl.cons (DW.bool rfl) DWl.nil))))
end Go.Proofs.YtlchjjchgebfiaaGreatDoor
namespace Go.Proofs.YtlchjjchgebfiaaGreatDoor
open Go.RowKit Go.Dl
theorem dig_val {d : Nat} (h : d < 10) : (UInt8.ofNat (48 + d)).toNat = 48 + d := by
  rw [UInt8.toNat_ofNat']; omega
theorem dec_rec {u : Nat} (h : ¬ u < 10) : Lib.decDigits u = Lib.decDigits (u / 10) ++ [UInt8.ofNat (48 + u % 10)] := by
  rw [Lib.decDigits, dif_neg h]
theorem dec_head (u : Nat) : ∃ c r, Lib.decDigits u = c :: r ∧ 48 ≤ c.toNat ∧ c.toNat ≤ 57 ∧ (c.toNat = 48 → u = 0 ∧ r = []) := by
  induction u using Nat.strongRecOn with
  | ind u ih =>
    by_cases h : u < 10
    · refine ⟨_, _, Lib.decDigits_one h, ?_⟩
      rw [dig_val h]
      exact ⟨by omega, by omega, fun e => ⟨by omega, rfl⟩⟩
    · obtain ⟨c, r, e, h1, h2, h3⟩ := ih (u / 10) (by omega)
      refine ⟨c, r ++ [UInt8.ofNat (48 + u % 10)], by rw [dec_rec h, e]; rfl, h1, h2, fun e => ?_⟩
      have := (h3 e).1
      omega
theorem dec_mem (u : Nat) : ∀ c ∈ Lib.decDigits u, 48 ≤ c.toNat ∧ c.toNat ≤ 57 := by
  induction u using Nat.strongRecOn with
  | ind u ih =>
    intro c hc
    by_cases h : u < 10
    · rw [Lib.decDigits_one h, List.mem_singleton] at hc
      subst hc
      rw [dig_val h]; omega
    · rw [dec_rec h] at hc
      rcases List.mem_append.1 hc with hc | hc
      · exact ih (u / 10) (by omega) c hc
      · rw [List.mem_singleton] at hc
        subst hc
        rw [dig_val (by omega)]; omega
theorem parse_dec (u : Nat) (r : List UInt8) (hu : u ≤ 18446744073709551615) : Lib.parseUintM 18446744073709551615 0 (Lib.decDigits u ++ r) = Lib.parseUintM 18446744073709551615 u r := by
  induction u using Nat.strongRecOn generalizing r with
  | ind u ih =>
    by_cases h : u < 10
    · rw [Lib.decDigits_one h, List.singleton_append, Lib.parseUintM, dig_val h, if_pos (by omega), if_neg (by omega), if_neg (by omega)]
      congr 1; omega
    · rw [dec_rec h, List.append_assoc, ih (u / 10) (by omega) _ (by omega), List.singleton_append, Lib.parseUintM, dig_val (by omega), if_pos (by omega), if_neg (by omega), if_neg (by omega)]
      congr 1; omega
theorem val_dec (u : Nat) : valL 0 (Lib.decDigits u) = u := by
  induction u using Nat.strongRecOn with
  | ind u ih =>
    by_cases h : u < 10
    · rw [Lib.decDigits_one h]
      show 0 * 10 + ((UInt8.ofNat (48 + u)).toNat - 48) = u
      rw [dig_val h]; omega
    · rw [dec_rec h, valL_app, ih (u / 10) (by omega)]
      show u / 10 * 10 + ((UInt8.ofNat (48 + u % 10)).toNat - 48) = u
      rw [dig_val (by omega)]; omega
theorem dec_len : ∀ (k u : Nat), u < 10 ^ (k + 1) → (Lib.decDigits u).length ≤ k + 1
  | 0, u, h => by
    rw [Lib.decDigits_one (by simpa using h)]; exact Nat.le_refl _
  | k + 1, u, h => by
    by_cases h1 : u < 10
    · rw [Lib.decDigits_one h1, List.length_singleton]; omega
    · rw [dec_rec h1, List.length_append, List.length_singleton]
      have := dec_len k (u / 10) (by rw [Nat.pow_succ] at h; omega)
      omega
theorem valL_ge (l : List UInt8) : ∀ x, x ≤ valL x l := by
  induction l with
  | nil => intro x; exact Nat.le_refl _
  | cons c l ih => intro x; exact Nat.le_trans (by omega) (ih _)
theorem isD_iff {c : UInt8} : isD c = true ↔ 48 ≤ c.toNat ∧ c.toNat ≤ 57 := by
  unfold isD
  rw [Bool.and_eq_true, decide_eq_true_eq, decide_eq_true_eq]
theorem val_pos {c : UInt8} {l : List UInt8} (h : isD c = true) (h0 : c.toNat ≠ 48) : 1 ≤ valL 0 (c :: l) := by
  have := isD_iff.1 h
  exact Nat.le_trans (show 1 ≤ 0 * 10 + (c.toNat - 48) by omega) (valL_ge l _)
theorem u8_eq {a b : UInt8} (h : a.toNat = b.toNat) : a = b := UInt8.toNat_inj.1 h
theorem canon : ∀ (n : Nat) (d : List UInt8), d.length = n → 1 ≤ n → (∀ c ∈ d, isD c = true) → ((d.getD 0 0).toNat = 48 → n = 1) → d = Lib.decDigits (valL 0 d)
  | 0, d, _, h1, _, _ => by omega
  | n + 1, d, hn, _, hd, h0 => by
    obtain ⟨d', c, rfl⟩ : ∃ d' c, d = d' ++ [c] := by
      rcases List.eq_nil_or_concat d with h | ⟨d', c, h⟩
      · subst h; cases hn
      · exact ⟨d', c, by rw [h, List.concat_eq_append]⟩
    have hl : d'.length = n := by rw [List.length_append, List.length_singleton] at hn; omega
    have hc := isD_iff.1 (hd c (List.mem_append_right _ (List.mem_singleton.2 rfl)))
    rw [valL_app]
    show d' ++ [c] = Lib.decDigits (valL 0 d' * 10 + (c.toNat - 48))
    rcases Nat.eq_zero_or_pos n with hz | hz
    · subst hz
      obtain rfl := List.eq_nil_of_length_eq_zero hl
      show [c] = Lib.decDigits (0 * 10 + (c.toNat - 48))
      rw [Lib.decDigits_one (by omega)]
      congr 1
      exact u8_eq (by rw [dig_val (by omega)]; omega)
    · have hne : d'.getD 0 0 = (d' ++ [c]).getD 0 0 := by
        rw [List.getD_eq_getElem?_getD, List.getD_eq_getElem?_getD, List.getElem?_append_left (by omega)]
      have ih := canon n d' hl hz (fun x hx => hd x (List.mem_append_left _ hx)) (fun e => by rw [hne] at e; have := h0 e; omega)
      have hpos : 1 ≤ valL 0 d' := by
        cases d' with
        | nil => simp at hl; omega
        | cons a r =>
          refine val_pos (hd a (by simp)) fun e => ?_
          have := h0 e
          omega
      rw [dec_rec (by omega), show (valL 0 d' * 10 + (c.toNat - 48)) / 10 = valL 0 d' by omega, ← ih]
      congr 2
      exact u8_eq (by rw [dig_val (by omega)]; omega)
theorem parse_mag (u : Nat) (hu : u ≤ 9223372036854775808) : Lib.parseUintB 64 (Lib.decDigits u) = .ok u := by
  obtain ⟨c, r, e, _⟩ := dec_head u
  unfold Lib.parseUintB
  rw [if_neg (by rw [e]; exact List.cons_ne_nil _ _)]
  have := parse_dec u [] (by omega)
  rw [List.append_nil] at this
  exact this
theorem ba_data {a b : ByteArray} (h : a.data.toList = b.data.toList) : a = b := by
  apply ByteArray.ext
  exact Array.ext' h
theorem numB_eq {v : Int} {s : ByteArray} : (numB v == s) = true ↔ s.data.toList = Lib.itoa v := by
  rw [ba_eq]
  exact ⟨fun h => by rw [← h]; rfl, fun h => ba_data (by rw [h]; rfl)⟩
theorem parse_neg (u : Nat) (h1 : 1 ≤ u) (hu : u ≤ 9223372036854775808) {s : ByteArray} (hs : s.data.toList = 45 :: Lib.decDigits u) : numOk s = true ∧ numN s = -(u : Int) := by
  have hp : Lib.parseIntB 64 s.data.toList = .ok (-(u : Int)) := by
    rw [hs, Lib.parseIntB_minus, parse_mag u hu]
    show (if 2 ^ (64 - 1) < u then _ else _) = _
    rw [if_neg (by omega)]
  refine ⟨?_, by rw [numN, hp]⟩
  rw [numOk, hp]
  exact numB_eq.2 (by rw [hs, Lib.itoa_neg u h1])
theorem parse_pos (u : Nat) (hu : u < 9223372036854775808) {s : ByteArray} (hs : s.data.toList = Lib.decDigits u) : numOk s = true ∧ numN s = (u : Int) := by
  have hp : Lib.parseIntB 64 s.data.toList = .ok (u : Int) := by
    obtain ⟨c, r, e, h1, h2, _⟩ := dec_head u
    have := parse_mag u (by omega)
    rw [hs]
    rw [e] at this ⊢
    rw [Lib.parseIntB_plain _ _ _ (by omega) (by omega), this]
    show (if 2 ^ (64 - 1) ≤ u then _ else _) = _
    rw [if_neg (by omega)]
  refine ⟨?_, by rw [numN, hp]⟩
  rw [numOk, hp]
  exact numB_eq.2 (by rw [hs, Lib.itoa_nonneg u])
theorem neg_iff {s : ByteArray} : negB s = true ↔ ∃ r, s.data.toList = 45 :: r := by
  unfold negB
  cases e : s.data.toList with
  | nil =>
    have : s.size = 0 := by rw [← sz_len, e]; rfl
    rw [this]
    exact ⟨fun h => (by cases h), fun ⟨r, h⟩ => (by cases h)⟩
  | cons a r =>
    have : s.size = r.length + 1 := by rw [← sz_len, e]; rfl
    rw [decide_eq_true (by omega)]
    show (byteAt s 0 == 45) = true ↔ _
    rw [show (byteAt s 0 == 45) = (s.data.toList.getD 0 0 == UInt8.ofNat 45) from u8_int _ 45 (by decide), e]
    show (a == 45) = true ↔ _
    rw [beq_iff_eq]
    exact ⟨fun h => ⟨r, by rw [h]⟩, fun ⟨r', h⟩ => by cases h; rfl⟩
theorem dig_data {s : ByteArray} {r : List UInt8} (h : s.data.toList = 45 :: r) : (digB s).data.toList = r := by
  unfold digB
  rw [neg_iff.2 ⟨r, h⟩]
  show (s.extract 1 s.size).data.toList = r
  rw [ext_list, h]; rfl
theorem dig_same {s : ByteArray} (h : negB s = false) : digB s = s := by unfold digB; rw [h]; rfl
theorem b48 {d : ByteArray} : (byteAt d (Int.toNat 0) == 48) = ((d.data.toList.getD 0 0) == UInt8.ofNat 48) := u8_int _ 48 (by decide)
theorem form_ok {s : ByteArray} (h : badF s = false) : 1 ≤ (digB s).data.toList.length ∧ (digB s).data.toList.length ≤ 19 ∧ (((digB s).data.toList.getD 0 0).toNat = 48 → (digB s).data.toList.length = 1 ∧ negB s = false) := by
  have h19 := bad_19 h
  unfold badF at h
  cases h1 : digB s == emB with
  | true => rw [h1] at h; cases h
  | false =>
    rw [sz_len]
    refine ⟨?_, h19, fun e => ?_⟩
    · rcases Nat.eq_zero_or_pos (digB s).size with hz | hz
      · have : digB s = emB := by
          apply ByteArray.ext
          exact Array.eq_empty_of_size_eq_zero hz
        rw [this] at h1; cases h1
      · exact hz
    · have e2 : (byteAt (digB s) (Int.toNat 0) == 48) = true := by
        rw [b48, beq_iff_eq]
        exact u8_eq (by rw [e]; rfl)
      have h3 : decide ((19 : Int) < ((digB s).size : Int)) = false := decide_eq_false (by omega)
      rw [h1, h3, e2] at h
      have h : (bif decide ((1 : Int) < ((digB s).size : Int)) then true else negB s) = false := h
      cases h4 : decide ((1 : Int) < ((digB s).size : Int)) with
      | true => rw [h4] at h; cases h
      | false =>
        rw [h4] at h
        have h5 := of_decide_eq_false h4
        have hne : (digB s).size ≠ 0 := fun hz => by
          have : digB s = emB := by
            apply ByteArray.ext
            exact Array.eq_empty_of_size_eq_zero hz
          rw [this] at h1; cases h1
        exact ⟨by omega, h⟩
theorem ok_form {s : ByteArray} (h1 : 1 ≤ (digB s).data.toList.length) (h2 : (digB s).data.toList.length ≤ 19) (h3 : ((digB s).data.toList.getD 0 0).toNat = 48 → (digB s).data.toList.length = 1 ∧ negB s = false) : badF s = false := by
  unfold badF
  rw [sz_len] at h1 h2 h3
  have e1 : (digB s == emB) = false := by
    cases e : digB s == emB with
    | false => rfl
    | true => rw [ba_eq.1 e] at h1; cases h1
  rw [e1, decide_eq_false (show ¬ (19 : Int) < ((digB s).size : Int) by omega)]
  show (bif byteAt (digB s) (Int.toNat 0) == 48 then _ else false) = false
  cases e : byteAt (digB s) (Int.toNat 0) == 48 with
  | false => rfl
  | true =>
    rw [b48, beq_iff_eq] at e
    obtain ⟨h4, h5⟩ := h3 (by rw [e]; rfl)
    rw [h4, h5]; rfl
theorem wrap_neg {u : Nat} (h1 : 1 ≤ u) (hu : u ≤ 9223372036854775808) : IntKind.i64.wrap (0 - IntKind.i64.wrap (u : Int)) = -(u : Int) := by
  rw [IntKind.wrap_i64, IntKind.wrap_i64]; omega
set_option maxRecDepth 20000 in
theorem num_to {s : ByteArray} (h : (numD s).2 = true) : numOk s = true ∧ numN s = (numD s).1 := by
  unfold numD at h ⊢
  cases hb : badF s with
  | true => rw [hb] at h; cases h
  | false =>
    cases hd : (digB s).data.toList.all isD with
    | false => rw [hb, hd] at h; cases h
    | true =>
      obtain ⟨f1, f2, f3⟩ := form_ok hb
      have hc := canon _ (digB s).data.toList rfl f1 (fun c hc => List.all_eq_true.1 hd c hc) (fun e => (f3 e).1)
      generalize hu : valL 0 (digB s).data.toList = u at hc h ⊢
      cases hn : negB s with
      | true =>
        rw [hb, hd, hn] at h
        have h : decide ((u : Int) ≤ 9223372036854775808) = true := h
        have hle := of_decide_eq_true h
        obtain ⟨r, hr⟩ := neg_iff.1 hn
        have hdr := dig_data hr
        have h1 : 1 ≤ u := by
          rcases Nat.eq_zero_or_pos u with hz | hz
          · subst hz
            have e : (digB s).data.toList = [48] := by rw [hc, Lib.decDigits_one (by omega)]; rfl
            have := (f3 (by rw [e]; rfl)).2
            rw [hn] at this; cases this
          · exact hz
        obtain ⟨k1, k2⟩ := parse_neg u h1 (by omega) (s := s) (by rw [hr, ← hdr, ← hc])
        exact ⟨k1, k2.trans (wrap_neg h1 (by omega)).symm⟩
      | false =>
        rw [hb, hd, hn] at h
        simp only [Bool.cond_false, Bool.not_true] at h
        have hlt := of_decide_eq_true h
        rw [dig_same hn] at hc
        obtain ⟨k1, k2⟩ := parse_pos u (by omega) hc
        exact ⟨k1, k2.trans (wrapI (by omega) (by omega)).symm⟩
set_option maxRecDepth 20000 in
theorem dec_19 {u : Nat} (hu : u ≤ 9223372036854775808) : (Lib.decDigits u).length ≤ 19 := dec_len 18 u (by omega)
theorem dec_all (u : Nat) : (Lib.decDigits u).all isD = true := by
  rw [List.all_eq_true]
  intro c hc
  exact isD_iff.2 (dec_mem u c hc)
set_option maxRecDepth 20000 in
theorem num_from {s : ByteArray} (h : numOk s = true) : (numD s).2 = true := by
  unfold numOk at h
  split at h
  · rename_i v hv
    have hs := numB_eq.1 h
    have hb := Lib.parseIntB_bounds hv
    rcases Int.lt_or_le v 0 with hneg | hpos
    · obtain ⟨u, hu, h1, h2⟩ : ∃ u : Nat, v = -(u : Int) ∧ 1 ≤ u ∧ u ≤ 9223372036854775808 := ⟨v.natAbs, by omega, by omega, by omega⟩
      rw [hu, Lib.itoa_neg u h1] at hs
      have hn := neg_iff.2 ⟨_, hs⟩
      have hd := dig_data hs
      obtain ⟨c, r, e, c1, c2, c3⟩ := dec_head u
      have hf : badF s = false := ok_form (by rw [hd, e]; exact Nat.succ_le_succ (Nat.zero_le _)) (by rw [hd]; exact dec_19 h2) (fun e2 => by
        rw [hd, e] at e2
        have := (c3 e2).1
        omega)
      rw [numD, hf, hd, dec_all, val_dec, hn]
      show decide _ = true
      exact decide_eq_true (by omega)
    · obtain ⟨u, hu, h2⟩ : ∃ u : Nat, v = (u : Int) ∧ u < 9223372036854775808 := ⟨v.toNat, by omega, by omega⟩
      rw [hu, Lib.itoa_nonneg u] at hs
      obtain ⟨c, r, e, c1, c2, c3⟩ := dec_head u
      have hn : negB s = false := by
        cases hn : negB s with
        | false => rfl
        | true =>
          obtain ⟨r', hr⟩ := neg_iff.1 hn
          rw [hs, e] at hr
          cases hr
          exact absurd c1 (by decide)
      have hd := dig_same hn
      have hf : badF s = false := ok_form (by rw [hd, hs, e]; exact Nat.succ_le_succ (Nat.zero_le _)) (by rw [hd, hs]; exact dec_19 (by omega)) (fun e2 => by
        rw [hd, hs, e] at e2
        refine ⟨?_, hn⟩
        rw [hd, hs, e, (c3 e2).2]; rfl)
      rw [numD, hf, hd, hs, dec_all, val_dec, hn]
      simp only [Bool.cond_false, Bool.not_true]
      exact decide_eq_true (by omega)
  · cases h
theorem num_ok (s : ByteArray) : (numD s).2 = numOk s := by
  cases e : numOk s with
  | true => exact num_from e
  | false =>
    cases e2 : (numD s).2 with
    | false => rfl
    | true => have := (num_to e2).1; rw [e] at this; cases this
end Go.Proofs.YtlchjjchgebfiaaGreatDoor
namespace Go.Proofs.YtlchjjchgebfiaaGreatDoor
open Go.RowKit Go.Dl
attribute [local irreducible] Tri SCall TSem ECall Drawn DFun QSem PSem PCall GCall MCall Round Weak dloadE OW DWl Tells IntKind.wrap Retold ESem
theorem number25_E (s : ByteArray) (hs : s.size ≤ 1024) : DPure Tryz.prog 25 [strV s] (.tup [int1 (numD s).1, bl (numOk s)]) := by
  have := number25_D s hs
  rw [numV, num_ok] at this
  exact this
end Go.Proofs.YtlchjjchgebfiaaGreatDoor
namespace Go.Proofs.YtlchjjchgebfiaaGreatDoor
open Go.RowKit Go.Dl
attribute [local irreducible] Tri SCall TSem ECall Drawn DFun QSem PSem PCall GCall MCall Round Weak dloadE OW DWl Tells IntKind.wrap Retold ESem
set_option maxRecDepth 20000 in
theorem copied31_D (l : List ByteArray) (h1 : 1 ≤ l.length) (hl : l.length ≤ 4096) : DPure Tryz.prog 31 [strs l] (strs l) := by
  have hne : l.map strD ≠ [] := fun e => by have : (l.map strD).length = 0 := by rw [e]; rfl
                                            rw [List.length_map] at this; omega
  refine DFun.data (DFun.body Tryz.func31 rfl (by kernel_rfl) ?_)
  repeat' (first | with_reducible rfl | ((conv => whnf); first | refine And.intro ?_ ?_ | (intro h; first | with_reducible exact tf_no h | with_reducible exact ft_no h | exact Bool.noConfusion h | with_reducible exact h | (have ht : true = true := h; clear ht h) | skip) | ((with_reducible refine ECall.mark ?_); first | refine ECall.only ?_ (fun h => nomatch h) | refine ECall.only ?_ ?_) | ((with_reducible refine Drawn.mark ?_); first | refine Drawn.quiet (by kernel_rfl) ?_) | refine dq_nilL rfl (fun _ => hne) ?_ rfl ?_ rfl ?_ | refine dcell_ok rfl ?_ | refine AppC.new ?_))
  all_goals first | (with_reducible refine enters_mark ?_; kernel_rfl) | (with_reducible refine boolT_mark ?_; kernel_rfl) | rfl | trivial | assumption | exact Nat.le_of_ble_eq_true rfl | (show entersB _ _ = true; kernel_rfl) | exact DW.same _ rfl | exact DW.ref _ _ _ rfl | exact DW.arr _ _ _ rfl | refine DW.int ?_ | refine dvb ?_ | refine dvi ?_ | exact OW.cells rfl rfl (DWl.same rfl) | exact Nat.zero_le _ | omega | skip
  all_goals repeat' (first | refine OW.cells rfl rfl ?_ | exact DW.nilArr _ rfl | refine DWl.cons ?_ ?_ | exact DWl.nil | exact DW.same _ rfl | exact DW.ref _ _ _ rfl | exact DW.arr _ _ _ rfl | exact DW.sub _ _ _ _ rfl | exact DW.mo _ _ rfl | exact DW.nilLst _ | refine DW.aggl ?_ | refine DW.tupl ?_ | refine DW.clol ?_ ?_)
  all_goals try ((conv => whnf); with_reducible first | refine Round.mark ?_ | refine Tells.mark ?_ | refine Retold.mark ?_)
  all_goals try first | (show (_ : Bool) = _; simp_all; done) | (show (_ : Int) < _; simp at *; omega) | (show (_ : Int) ≤ _; simp at *; omega) | (show (_ : Nat) < _; simp at *; omega) | (show (_ : Nat) ≤ _; simp at *; omega)
  · show ((l.map strD).length) * 16 ≤ 140737488355328
    rw [List.length_map]; omega
  · rw [List.length_map]; simp only [maxLen]; omega
  · conv => whnf
    exact Tells.mk (DW.pubM rfl (by first | rw [List.length_map] | rw [Nat.zero_add, List.length_map]) rfl rfl strRow rfl)
structure CpOk (t : Tb) : Prop where
  rows : t.rows.length ≤ 4096
  all : ∀ l, l = t.head ∨ l ∈ t.rows → 1 ≤ l.length ∧ l.length ≤ 4096
def cpSt (t : Tb) (i : Nat) : St := ⟨0, tmOf [(1, .ref 0 0), (2, .ref 1 0), (3, .ref 2 0), (4, int1 i)], .of [(0, ⟨25, 2, tbD t⟩), (1, ⟨25, 2, [.v (.slice none 0 0), .v (.slice none 0 0)]⟩), (2, ⟨25, 2, [strs t.head, .arr 3 i]⟩), (3, ⟨22, 1, rowsC (t.rows.take i)⟩)] 4⟩
theorem cp_all (t : Tb) : rowsC (t.rows.take t.rows.length) = (t.rows.map rowD).flatten := by rw [List.take_length]; rfl
theorem cp_mu {t : Tb} {i : Nat} (h : decide ((i : Int) < ((t.rows.map rowD).length : Nat)) = true) : t.rows.length - (i + 1) < t.rows.length - i := by
  have := lt_of_test h; omega
attribute [local irreducible] rowsC
set_option maxRecDepth 20000 in
set_option maxHeartbeats 2000000 in
theorem copy11_D (t : Tb) (ht : CpOk t) : DPure Tryz.prog 11 [tab t] (tab t) := by
  have hh := ht.all _ (.inl rfl)
  have hc := fun i (h : i < t.rows.length) => copied31_D (t.rows.getD (i : Int).toNat []) (ht.all _ (.inr (mem_at h))).1 (ht.all _ (.inr (mem_at h))).2
  refine DFun.data (DFun.body Tryz.func11 rfl (by kernel_rfl) ?_)
  repeat' (first | with_reducible rfl | ((conv => whnf); first | refine And.intro ?_ ?_ | (intro h; first | with_reducible exact tf_no h | with_reducible exact ft_no h | exact Bool.noConfusion h | with_reducible exact h | (have ht : true = true := h; clear ht h) | skip) | ((with_reducible refine SCall.mark ?_); first | refine SCall.data (copied31_D t.head hh.1 hh.2) rfl rfl ?_ | refine SCall.scal (copied31_D t.head hh.1 hh.2) rfl rfl ?_) | ((with_reducible refine PCall.mark ?_); first | refine PCall.mk (copied31_D t.head hh.1 hh.2) rfl rfl ?_) | ((with_reducible refine GCall.mark ?_); first | refine GCall.data (fun _ => copied31_D t.head hh.1 hh.2) rfl rfl ?_ | refine GCall.scal (fun _ => copied31_D t.head hh.1 hh.2) rfl rfl ?_) | ((with_reducible refine MCall.mark ?_); first | refine MCall.data (fun _ => copied31_D t.head hh.1 hh.2) rfl rfl ?_ | refine MCall.plain (PCall.mk (copied31_D t.head hh.1 hh.2) rfl rfl ?_)) | ((with_reducible refine ECall.mark ?_); first | refine ECall.only ?_ (fun h => nomatch h) | refine ECall.only ?_ ?_) | ((with_reducible refine Drawn.mark ?_); first | refine Drawn.quiet (by kernel_rfl) ?_) | refine dcell_ok rfl ?_ | refine AppC.new ?_))
  all_goals first | (with_reducible refine enters_mark ?_; kernel_rfl) | (with_reducible refine boolT_mark ?_; kernel_rfl) | rfl | trivial | assumption | exact Nat.le_of_ble_eq_true rfl | (show entersB _ _ = true; kernel_rfl) | exact DW.same _ rfl | exact DW.ref _ _ _ rfl | exact DW.arr _ _ _ rfl | refine DW.int ?_ | refine dvb ?_ | refine dvi ?_ | exact OW.cells rfl rfl (DWl.same rfl) | exact Nat.zero_le _ | omega | skip
  all_goals repeat' (first | refine OW.cells rfl rfl ?_ | exact DW.nilArr _ rfl | refine DWl.cons ?_ ?_ | exact DWl.nil | exact DW.same _ rfl | exact DW.ref _ _ _ rfl | exact DW.arr _ _ _ rfl | exact DW.sub _ _ _ _ rfl | exact DW.mo _ _ rfl | exact DW.nilLst _ | refine DW.aggl ?_ | refine DW.tupl ?_ | refine DW.clol ?_ ?_)
  all_goals try ((conv => whnf); with_reducible first | refine Round.mark ?_ | refine Tells.mark ?_ | refine Retold.mark ?_)
  all_goals try first | (show (_ : Bool) = _; simp_all; done) | (show (_ : Int) < _; simp at *; omega) | (show (_ : Int) ≤ _; simp at *; omega) | (show (_ : Nat) < _; simp at *; omega) | (show (_ : Nat) ≤ _; simp at *; omega)
  conv => whnf
  refine Tri.loop (cpSt t) (fun i => i ≤ t.rows.length) (fun i => t.rows.length - i) 0 (by kernel_rfl) (Weak.list [(0, some 0), (1, some 1), (2, some 2), (3, none)] [] (by kernel_rfl) ?_ ?_) (Nat.zero_le _) ?_
  iterate 2 · repeat' (first | exact rowsC_nil | exact DW.nilArr _ rfl | exact DWl.same rfl | exact DW.same _ rfl | exact DW.ref _ _ _ rfl | exact DW.arr _ _ _ rfl | exact OW.cells rfl rfl (DWl.same rfl) | refine OW.cells rfl rfl ?_ | refine DWl.cons ?_ ?_ | exact DWl.nil | exact DW.nilArr _ rfl | exact DW.nilLst _ | refine DW.clol ?_ ?_ | refine DW.aggl ?_ | refine DW.tupl ?_ | refine DW.int ?_ | refine DW.bool ?_ | refine DW.str ?_ | refine DW.arrE rfl ?_ | ((conv => whnf); first | refine And.intro ?_ ?_ | trivial))
  intro i hi
  have hi : i ≤ t.rows.length := hi
  show dcode _ _ _ _ (cpSt t i) _
  repeat' (first | with_reducible rfl | ((conv => whnf); first | refine And.intro ?_ ?_ | (intro h; first | with_reducible exact tf_no h | with_reducible exact ft_no h | exact Bool.noConfusion h | with_reducible exact h | (have ht : true = true := h; clear ht h) | skip) | ((with_reducible refine SCall.mark ?_); first | refine SCall.data (hc _ ?_) rfl rfl ?_ | refine SCall.scal (hc _ ?_) rfl rfl ?_) | ((with_reducible refine PCall.mark ?_); first | refine PCall.mk (hc _ ?_) rfl rfl ?_) | ((with_reducible refine GCall.mark ?_); first | refine GCall.data (fun _ => hc _ ?_) rfl rfl ?_ | refine GCall.scal (fun _ => hc _ ?_) rfl rfl ?_) | ((with_reducible refine MCall.mark ?_); first | refine MCall.data (fun _ => hc _ ?_) rfl rfl ?_ | refine MCall.plain (PCall.mk (hc _ ?_) rfl rfl ?_)) | ((with_reducible refine Tri.mark ?_); first | (refine Tri.treeX [0, 1, 2, 3] (MX.mv 0 0 (MX.mv 0 2 (MX.mv 0 4 (MX.two 1 1 (MX.mv 1 3 (MX.mv 1 5 (MX.mv 1 6 (MX.mv 2 7 (MX.mv 1 8 (MX.mv 1 9 (MX.mv 1 10 (MX.mv 1 11 MX.done)))))))) 1 3 (MX.two 1 1 (MX.mv 1 5 (MX.mv 1 6 (MX.mv 2 7 (MX.mv 1 8 (MX.mv 1 9 (MX.mv 1 10 (MX.mv 1 11 MX.done))))))) 1 5 (MX.two 1 1 (MX.mv 1 6 (MX.mv 2 7 (MX.mv 1 8 (MX.mv 1 9 (MX.mv 1 10 (MX.mv 1 11 MX.done)))))) 1 6 (MX.two 1 1 (MX.mv 2 7 (MX.mv 1 8 (MX.mv 1 9 (MX.mv 1 10 (MX.mv 1 11 MX.done))))) 2 7 (MX.two 1 1 (MX.mv 1 8 (MX.mv 1 9 (MX.mv 1 10 (MX.mv 1 11 MX.done)))) 1 8 (MX.mv 1 1 (MX.mv 1 9 (MX.mv 1 10 (MX.mv 1 11 MX.done)))))))))))) ?_ (by kernel_rfl) ?_; rfl)) | ((with_reducible refine ECall.mark ?_); first | refine ECall.only ?_ (fun h => nomatch h) | refine ECall.only ?_ ?_) | ((with_reducible refine Drawn.mark ?_); first | (refine Drawn.tree ?_; refine Tri.treeX [0, 1, 2, 3] (MX.mv 0 0 (MX.mv 0 2 (MX.mv 0 4 (MX.two 1 1 (MX.mv 1 3 (MX.mv 1 5 (MX.mv 1 6 (MX.mv 2 7 (MX.mv 1 8 (MX.mv 1 9 (MX.mv 1 10 (MX.mv 1 11 MX.done)))))))) 1 3 (MX.two 1 1 (MX.mv 1 5 (MX.mv 1 6 (MX.mv 2 7 (MX.mv 1 8 (MX.mv 1 9 (MX.mv 1 10 (MX.mv 1 11 MX.done))))))) 1 5 (MX.two 1 1 (MX.mv 1 6 (MX.mv 2 7 (MX.mv 1 8 (MX.mv 1 9 (MX.mv 1 10 (MX.mv 1 11 MX.done)))))) 1 6 (MX.two 1 1 (MX.mv 2 7 (MX.mv 1 8 (MX.mv 1 9 (MX.mv 1 10 (MX.mv 1 11 MX.done))))) 2 7 (MX.two 1 1 (MX.mv 1 8 (MX.mv 1 9 (MX.mv 1 10 (MX.mv 1 11 MX.done)))) 1 8 (MX.mv 1 1 (MX.mv 1 9 (MX.mv 1 10 (MX.mv 1 11 MX.done)))))))))))) ?_ (by kernel_rfl) ?_; rfl) | refine Drawn.quiet (by kernel_rfl) ?_) | refine dloadE_map (([] : List ByteArray)) ?_ ?_ | refine dcell_ok rfl ?_ | refine AppC.new ?_))
  all_goals try ((conv => whnf); with_reducible refine Round.mark ?_)
  all_goals try first | ((with_reducible show Option.isSome (slElem _ _) = true); kernel_rfl) | ((with_reducible show slElem _ _ = some _); kernel_rfl) | ((with_reducible refine enters_mark ?_); kernel_rfl) | (with_reducible assumption) | ((with_reducible show List.all _ DV.one = true); rfl) | ((with_reducible show (_ : Nat) = _); rfl) | ((with_reducible show (_ == true) = true); simpa using h) | ((with_reducible show (_ : Nat) ≤ _); exact Nat.le_of_ble_eq_true rfl) | ((with_reducible show (_ : Int) ≤ _); first | omega | decide) | ((with_reducible show (_ : Int) < _); first | omega | decide) | ((with_reducible show (_ : Nat) < _); omega) | ((with_reducible show (_ : Nat) ≤ _); omega)
  all_goals try (first | (exact of_decide_eq_true (by assumption); done) | (exact lt_of_test (by assumption); done) | ((with_reducible show Option.all _ _ = true); rfl) | (exact rc_c1 (lt_of_test (by assumption)); done) | (exact rc_b2 (Nat.le_trans hi ht.rows); done) | (exact rc_b3 (Nat.le_trans hi ht.rows); done))
  all_goals try (refine Round.go (fun _ => i + 1) (lt_of_test (by assumption)) (cp_mu (by assumption)) (Weak.list [(0, some 0), (1, some 1), (2, some 2), (3, some 5)] [] (by kernel_rfl) ?_ ?_))
  repeat' (first | with_reducible rfl | ((conv => whnf); first | refine And.intro ?_ ?_ | (intro h; first | with_reducible exact tf_no h | with_reducible exact ft_no h | exact Bool.noConfusion h | with_reducible exact h | (have ht : true = true := h; clear ht h) | skip) | ((with_reducible refine ECall.mark ?_); first | refine ECall.only ?_ (fun h => nomatch h) | refine ECall.only ?_ ?_) | ((with_reducible refine Drawn.mark ?_); first | refine Drawn.quiet (by kernel_rfl) ?_) | refine dcell_ok rfl ?_ | refine AppC.new ?_))
  all_goals first | (with_reducible refine enters_mark ?_; kernel_rfl) | (with_reducible refine boolT_mark ?_; kernel_rfl) | rfl | trivial | assumption | exact Nat.le_of_ble_eq_true rfl | (show entersB _ _ = true; kernel_rfl) | exact DW.same _ rfl | exact DW.ref _ _ _ rfl | exact DW.arr _ _ _ rfl | refine DW.int ?_ | refine dvb ?_ | refine dvi ?_ | exact OW.cells rfl rfl (DWl.same rfl) | exact Nat.zero_le _ | omega | skip
  all_goals repeat' (first | refine OW.cells rfl rfl ?_ | exact DW.nilArr _ rfl | refine DWl.cons ?_ ?_ | exact DWl.nil | exact DW.same _ rfl | exact DW.ref _ _ _ rfl | exact DW.arr _ _ _ rfl | exact DW.sub _ _ _ _ rfl | exact DW.mo _ _ rfl | exact DW.nilLst _ | refine DW.aggl ?_ | refine DW.tupl ?_ | refine DW.clol ?_ ?_)
  all_goals try ((conv => whnf); with_reducible first | refine Round.mark ?_ | refine Tells.mark ?_ | refine Retold.mark ?_)
  all_goals try first | (show (_ : Bool) = _; simp_all; done) | (show (_ : Int) < _; simp at *; omega) | (show (_ : Int) ≤ _; simp at *; omega) | (show (_ : Nat) < _; simp at *; omega) | (show (_ : Nat) ≤ _; simp at *; omega)
  all_goals try (first | (exact wsucc (lt_of_test (by assumption)) (Nat.le_trans ht.rows (by decide)); done) | (exact DWl.eq (rowsC_next (lt_of_test (by assumption))) (rowsC_all _); done))
  have hi2 : i = t.rows.length := by have := ge_of_test h; omega
  subst hi2
  conv => whnf
  exact Tells.mk (DW.aggl (DWl.cons (DW.same _ rfl) (DWl.cons (DW.pubM rfl rfl rfl rfl rowRow (cp_all t)) DWl.nil)))
end Go.Proofs.YtlchjjchgebfiaaGreatDoor
namespace Go.Proofs.YtlchjjchgebfiaaGreatDoor
open Go.RowKit Go.Dl
attribute [local irreducible] Tri SCall TSem ECall Drawn DFun QSem PSem PCall GCall MCall Round Weak dloadE OW DWl Tells IntKind.wrap Retold ESem
theorem rowB_len {l : List ByteArray} {n : Int} (h : rowB l n = true) : (l.length : Int) = n ∧ ∀ s ∈ l, s.size ≤ 1024 ∧ s.data.toList.all nz = true := by
  unfold rowB at h
  rw [Bool.and_eq_true] at h
  refine ⟨of_decide_eq_true h.1, fun s hs => ?_⟩
  have h2 := List.all_eq_true.1 h.2 s hs
  unfold cellB at h2
  rw [Bool.and_eq_true] at h2
  exact ⟨of_decide_eq_true h2.2, h2.1⟩
structure Fitt (t : Tb) : Prop where
  rows : t.rows.length ≤ 4096
  head : 1 ≤ t.head.length ∧ t.head.length ≤ 64
  rowB_h : rowB t.head t.head.length = true
  rowB_r : ∀ r ∈ t.rows, rowB r t.head.length = true
theorem nott_t {b : Bool} (h : (!b) = true) : b = true → False := fun e => by rw [e] at h; cases h
theorem fit_iff {t : Tb} : fitB t = true ↔ Fitt t := by
  have hn : (t.head.map strD).length = t.head.length := List.length_map _
  have hr : (t.rows.map rowD).length = t.rows.length := List.length_map _
  unfold fitB badH
  rw [hn, hr]
  constructor
  · intro h
    rw [Bool.and_eq_true] at h
    have h1 := nott_t h.1
    rcases Nat.lt_or_ge t.head.length 1 with a | a
    · exact absurd (by rw [decide_eq_true (show (t.head.length : Int) < 1 by omega)]; rfl) h1
    rw [decide_eq_false (show ¬ (t.head.length : Int) < 1 by omega)] at h1
    rcases Nat.lt_or_ge 64 t.head.length with b | b
    · exact absurd (by rw [decide_eq_true (show (64 : Int) < (t.head.length : Int) by omega)]; rfl) h1
    rw [decide_eq_false (show ¬ (64 : Int) < (t.head.length : Int) by omega)] at h1
    rcases Nat.lt_or_ge 4096 t.rows.length with c | c
    · exact absurd (by rw [decide_eq_true (show (4096 : Int) < (t.rows.length : Int) by omega)]; rfl) h1
    rw [decide_eq_false (show ¬ (4096 : Int) < (t.rows.length : Int) by omega)] at h1
    refine ⟨c, ⟨a, b⟩, ?_, fun r hr => List.all_eq_true.1 h.2 r hr⟩
    cases e : rowB t.head (t.head.length : Nat) with
    | true => rfl
    | false => exact absurd (by rw [e]; rfl) h1
  · intro h
    have h1 := h.rows
    have h2 := h.head
    rw [decide_eq_false (show ¬ (t.head.length : Int) < 1 by omega), decide_eq_false (show ¬ (64 : Int) < (t.head.length : Int) by omega), decide_eq_false (show ¬ (4096 : Int) < (t.rows.length : Int) by omega), h.rowB_h, Bool.and_eq_true]
    exact ⟨rfl, List.all_eq_true.2 h.rowB_r⟩
theorem Fitt.len {t : Tb} (h : Fitt t) : ∀ r ∈ t.rows, r.length = t.head.length := fun r hr => by
  have := (rowB_len (h.rowB_r r hr)).1; omega
theorem Fitt.cell {t : Tb} (h : Fitt t) : ∀ l, l = t.head ∨ l ∈ t.rows → ∀ s ∈ l, s.size ≤ 1024 := fun l hl s hs => by
  rcases hl with rfl | hl
  · exact ((rowB_len h.rowB_h).2 s hs).1
  · exact ((rowB_len (h.rowB_r l hl)).2 s hs).1
theorem Fitt.tbl {t : Tb} (h : Fitt t) : Tbl t := ⟨h.rows, h.head, h.len, h.cell⟩
theorem Fitt.wr {t : Tb} (h : Fitt t) : WrG t := ⟨h.rows, fun l hl => ⟨by
  have h1 := h.head
  rcases hl with rfl | hl
  · omega
  · have := h.len l hl; omega, h.cell l hl⟩⟩
theorem Fitt.cp {t : Tb} (h : Fitt t) : CpOk t := ⟨h.rows, fun l hl => by
  have h1 := h.head
  rcases hl with rfl | hl
  · omega
  · have := h.len l hl; omega⟩
def lightB (t : Tb) : Bool := bif fitB t then decide (((t.rows.map rowD).length : Int) ≤ 300) else false
attribute [local irreducible] fitB
set_option maxRecDepth 20000 in
theorem light9_D (t : Tb) (ht : SmlT t) : DPure Tryz.prog 9 [tab t] (bl (lightB t)) := by
  have h2 := fit20_D t ht
  refine DFun.body Tryz.func9 rfl (by kernel_rfl) ?_
  repeat' (first | with_reducible rfl | ((conv => whnf); first | refine And.intro ?_ ?_ | (intro h; first | with_reducible exact tf_no h | with_reducible exact ft_no h | exact Bool.noConfusion h | with_reducible exact h | (have ht : true = true := h; clear ht h) | skip) | ((with_reducible refine SCall.mark ?_); first | refine SCall.data (h2) rfl rfl ?_ | refine SCall.scal (h2) rfl rfl ?_) | ((with_reducible refine PCall.mark ?_); first | refine PCall.mk (h2) rfl rfl ?_) | ((with_reducible refine GCall.mark ?_); first | refine GCall.data (fun _ => h2) rfl rfl ?_ | refine GCall.scal (fun _ => h2) rfl rfl ?_) | ((with_reducible refine MCall.mark ?_); first | refine MCall.data (fun _ => h2) rfl rfl ?_ | refine MCall.plain (PCall.mk (h2) rfl rfl ?_)) | ((with_reducible refine ECall.mark ?_); first | refine ECall.only ?_ (fun h => nomatch h) | refine ECall.only ?_ ?_) | ((with_reducible refine Drawn.mark ?_); first | refine Drawn.quiet (by kernel_rfl) ?_) | refine dcell_ok rfl ?_ | refine AppC.new ?_))
  all_goals first | (with_reducible refine enters_mark ?_; kernel_rfl) | (with_reducible refine boolT_mark ?_; kernel_rfl) | rfl | trivial | assumption | exact Nat.le_of_ble_eq_true rfl | (show entersB _ _ = true; kernel_rfl) | exact DW.same _ rfl | exact DW.ref _ _ _ rfl | exact DW.arr _ _ _ rfl | refine DW.int ?_ | refine dvb ?_ | refine dvi ?_ | exact OW.cells rfl rfl (DWl.same rfl) | exact Nat.zero_le _ | omega | skip
  all_goals repeat' (first | refine OW.cells rfl rfl ?_ | exact DW.nilArr _ rfl | refine DWl.cons ?_ ?_ | exact DWl.nil | exact DW.same _ rfl | exact DW.ref _ _ _ rfl | exact DW.arr _ _ _ rfl | exact DW.sub _ _ _ _ rfl | exact DW.mo _ _ rfl | exact DW.nilLst _ | refine DW.aggl ?_ | refine DW.tupl ?_ | refine DW.clol ?_ ?_)
  all_goals try ((conv => whnf); with_reducible first | refine Round.mark ?_ | refine Tells.mark ?_ | refine Retold.mark ?_)
  all_goals try first | (show (_ : Bool) = _; simp_all; done) | (show (_ : Int) < _; simp at *; omega) | (show (_ : Int) ≤ _; simp at *; omega) | (show (_ : Nat) < _; simp at *; omega) | (show (_ : Nat) ≤ _; simp at *; omega)
theorem light_fit {t : Tb} (h : lightB t = true) : Fitt t ∧ t.rows.length ≤ 300 := by
  unfold lightB at h
  cases e : fitB t with
  | false => rw [e] at h; cases h
  | true =>
    rw [e] at h
    have h := of_decide_eq_true h
    rw [List.length_map] at h
    exact ⟨fit_iff.1 e, by omega⟩
end Go.Proofs.YtlchjjchgebfiaaGreatDoor
namespace Go.Proofs.YtlchjjchgebfiaaGreatDoor
open Go.RowKit Go.Dl
attribute [local irreducible] Tri SCall TSem ECall Drawn DFun QSem PSem PCall GCall MCall Round Weak dloadE OW DWl Tells IntKind.wrap Retold ESem
def colI (t : Tb) (k : Nat) : Nat → List ByteArray
  | 0 => [t.head.getD k emB]
  | i + 1 => colI t k i ++ [celA t k i]
def colL (t : Tb) (k : Nat) : List ByteArray := colI t k t.rows.length
def apSt (t : Tb) (k lb : Nat) : Nat → St
  | 0 => ⟨⟨4, [.normal]⟩, tmOf [(0, .clo (.yield lb) [] []), (1, .ref 1 0), (2, .ref 2 0), (7, rowsD t.rows), (8, int1 (t.rows.map rowD).length), (9, int1 0)], .of [(0, ⟨9, 1, [strV (t.head.getD k emB)]⟩), (1, ⟨25, 2, tbD t⟩), (2, ⟨3, 1, [int1 k]⟩), (3, ⟨22, 1, [.arr 0 1]⟩)] 4⟩
  | i + 1 => ⟨⟨4, [.normal]⟩, tmOf [(0, .clo (.yield lb) [] []), (1, .ref 1 0), (2, .ref 2 0), (7, rowsD t.rows), (8, int1 (t.rows.map rowD).length), (9, int1 (i + 1 : Nat))], .of [(1, ⟨25, 2, tbD t⟩), (2, ⟨3, 1, [int1 k]⟩), (3, ⟨22, 1, [.arr 4 (i + 2)]⟩), (4, ⟨9, 1, rowS (colI t k (i + 1))⟩)] 5⟩
theorem colI_len (t : Tb) (k : Nat) : ∀ i, (colI t k i).length = i + 1
  | 0 => rfl
  | i + 1 => by rw [colI, List.length_append, colI_len t k i]; rfl
theorem rowS_map (l : List ByteArray) : rowS l = (l.map strD).flatten := rfl
set_option maxRecDepth 20000 in
theorem co_1 (t : Tb) (k i : Nat) : (i + 2) * Tryz.prog.types[9].size ≤ (rowS (colI t k (i + 1))).length := by
  rw [rowS_len, colI_len]
  show (i + 2) * 1 ≤ _
  omega
set_option maxRecDepth 20000 in
theorem co_2 {i : Nat} (h : i ≤ 4096) : (i + 2 + 1) * Tryz.prog.types[9].bytes ≤ 140737488355328 := by
  show (i + 2 + 1) * 16 ≤ _
  omega
theorem co_3 {i : Nat} (h : i ≤ 4096) : i + 2 + 1 ≤ maxLen := by simp only [maxLen]; omega
theorem co_push (t : Tb) (k i : Nat) : (rowS (colI t k (i + 1))).take ((i + 2) * 1) ++ [.v (.string ((t.rows.getD ((i + 1 : Nat) : Int).toNat []).getD (k : Int).toNat emB))] = rowS (colI t k (i + 1 + 1)) := by
  have := rowS_push (colI t k (i + 1)) (celA t k (i + 1))
  rw [colI_len] at this
  exact this
theorem co_0 (t : Tb) (k : Nat) : ([strV (t.head.getD k emB)] : List DV).take (1 * 1) ++ [.v (.string ((t.rows.getD (Int.toNat 0) []).getD (k : Int).toNat emB))] = rowS (colI t k (0 + 1)) := rfl
attribute [local irreducible] rowS
set_option maxRecDepth 100000 in
set_option maxHeartbeats 1000000 in
theorem app54_S (t : Tb) (ht : Tbl t) (k : Nat) (hk : k < t.head.length) : SCall Tryz.prog 54 [.arr 0 1, .clo (.func 88) [] [.ref 1 0, .ref 2 0]] (.of [(0, ⟨9, 1, [strV (t.head.getD k emB)]⟩), (1, ⟨25, 2, tbD t⟩), (2, ⟨3, 1, [int1 k]⟩)] 3) fun r' s' => r' = strs (colL t k) ∧ s' = .of [] 3 := by
  refine SCall.retell (SCall.run Tryz.func54 rfl (Nat.le_of_ble_eq_true rfl) (by kernel_rfl) ?_)
  repeat' (first | with_reducible rfl | ((conv => whnf); first | refine And.intro ?_ ?_ | (intro h; first | with_reducible exact tf_no h | with_reducible exact ft_no h | exact Bool.noConfusion h | with_reducible exact h | (have ht : true = true := h; clear ht h) | skip) | ((with_reducible refine ECall.mark ?_); first | refine ECall.only ?_ (fun h => nomatch h) | refine ECall.only ?_ ?_) | ((with_reducible refine Drawn.mark ?_); first | refine Drawn.quiet (by kernel_rfl) ?_) | refine dcell_ok rfl ?_ | refine AppC.new ?_))
  all_goals first | (with_reducible refine enters_mark ?_; kernel_rfl) | (with_reducible refine boolT_mark ?_; kernel_rfl) | rfl | trivial | assumption | exact Nat.le_of_ble_eq_true rfl | (show entersB _ _ = true; kernel_rfl) | exact DW.same _ rfl | exact DW.ref _ _ _ rfl | exact DW.arr _ _ _ rfl | refine DW.int ?_ | refine dvb ?_ | refine dvi ?_ | exact OW.cells rfl rfl (DWl.same rfl) | exact Nat.zero_le _ | omega | skip
  all_goals repeat' (first | refine OW.cells rfl rfl ?_ | exact DW.nilArr _ rfl | refine DWl.cons ?_ ?_ | exact DWl.nil | exact DW.same _ rfl | exact DW.ref _ _ _ rfl | exact DW.arr _ _ _ rfl | exact DW.sub _ _ _ _ rfl | exact DW.mo _ _ rfl | exact DW.nilLst _ | refine DW.aggl ?_ | refine DW.tupl ?_ | refine DW.clol ?_ ?_)
  all_goals try ((conv => whnf); with_reducible first | refine Round.mark ?_ | refine Tells.mark ?_ | refine Retold.mark ?_)
  all_goals try first | (show (_ : Bool) = _; simp_all; done) | (show (_ : Int) < _; simp at *; omega) | (show (_ : Int) ≤ _; simp at *; omega) | (show (_ : Nat) < _; simp at *; omega) | (show (_ : Nat) ≤ _; simp at *; omega)
  conv => whnf
  refine Tri.range rfl (by kernel_rfl) rfl rfl (by rfl) (by kernel_rfl) fun lb => ?_
  repeat' (first | with_reducible rfl | ((conv => whnf); first | refine And.intro ?_ ?_ | (intro h; first | with_reducible exact tf_no h | with_reducible exact ft_no h | exact Bool.noConfusion h | with_reducible exact h | (have ht : true = true := h; clear ht h) | skip) | ((with_reducible refine ECall.mark ?_); first | refine ECall.only ?_ (fun h => nomatch h) | refine ECall.only ?_ ?_) | ((with_reducible refine Drawn.mark ?_); first | refine Drawn.quiet (by kernel_rfl) ?_) | refine dloadE_map (emB) ?_ ?_ | refine dcell_ok rfl ?_ | refine AppC.new ?_))
  all_goals first | (with_reducible refine enters_mark ?_; kernel_rfl) | (with_reducible refine boolT_mark ?_; kernel_rfl) | rfl | trivial | assumption | exact Nat.le_of_ble_eq_true rfl | (show entersB _ _ = true; kernel_rfl) | exact DW.same _ rfl | exact DW.ref _ _ _ rfl | exact DW.arr _ _ _ rfl | refine DW.int ?_ | refine dvb ?_ | refine dvi ?_ | exact OW.cells rfl rfl (DWl.same rfl) | exact Nat.zero_le _ | omega | skip
  all_goals repeat' (first | refine OW.cells rfl rfl ?_ | exact DW.nilArr _ rfl | refine DWl.cons ?_ ?_ | exact DWl.nil | exact DW.same _ rfl | exact DW.ref _ _ _ rfl | exact DW.arr _ _ _ rfl | exact DW.sub _ _ _ _ rfl | exact DW.mo _ _ rfl | exact DW.nilLst _ | refine DW.aggl ?_ | refine DW.tupl ?_ | refine DW.clol ?_ ?_)
  all_goals try ((conv => whnf); with_reducible first | refine Round.mark ?_ | refine Tells.mark ?_ | refine Retold.mark ?_)
  all_goals try first | (show (_ : Bool) = _; simp_all; done) | (show (_ : Int) < _; simp at *; omega) | (show (_ : Int) ≤ _; simp at *; omega) | (show (_ : Nat) < _; simp at *; omega) | (show (_ : Nat) ≤ _; simp at *; omega)
  conv => whnf
  refine Tri.loop (apSt t k lb) (· ≤ t.rows.length) (fun i => t.rows.length - i) 0 (by kernel_rfl) (Weak.list [] [] (by kernel_rfl) ?_ ?_) (Nat.zero_le _) ?_
  iterate 2 · repeat' (first | exact DWl.same rfl | exact DW.same _ rfl | exact DW.ref _ _ _ rfl | exact DW.arr _ _ _ rfl | exact OW.cells rfl rfl (DWl.same rfl) | refine OW.cells rfl rfl ?_ | refine DWl.cons ?_ ?_ | exact DWl.nil | exact DW.nilArr _ rfl | exact DW.nilLst _ | refine DW.clol ?_ ?_ | refine DW.aggl ?_ | refine DW.tupl ?_ | refine DW.int ?_ | refine DW.bool ?_ | refine DW.str ?_ | refine DW.arrE rfl ?_ | ((conv => whnf); first | refine And.intro ?_ ?_ | trivial))
  intro i hi
  have hi : i ≤ t.rows.length := hi
  cases i with
  | zero =>
    show dcode _ _ _ _ (apSt t k lb 0) _
    repeat' (first | with_reducible rfl | ((conv => whnf); first | refine And.intro ?_ ?_ | (intro h; first | with_reducible exact tf_no h | with_reducible exact ft_no h | exact Bool.noConfusion h | with_reducible exact h | (have ht : true = true := h; clear ht h) | skip) | ((with_reducible refine ECall.mark ?_); first | refine ECall.only ?_ (fun h => nomatch h) | refine ECall.only ?_ ?_) | ((with_reducible refine Drawn.mark ?_); first | refine Drawn.quiet (by kernel_rfl) ?_) | refine dloadE_map (([] : List ByteArray)) ?_ ?_ | refine dloadE_map (emB) ?_ ?_ | refine dcell_ok rfl ?_ | refine AppC.new ?_))
    all_goals try ((conv => whnf); with_reducible refine Round.mark ?_)
    all_goals try first | ((with_reducible show Option.isSome (slElem _ _) = true); kernel_rfl) | ((with_reducible show slElem _ _ = some _); kernel_rfl) | ((with_reducible refine enters_mark ?_); kernel_rfl) | (with_reducible assumption) | ((with_reducible show List.all _ DV.one = true); rfl) | ((with_reducible show (_ : Nat) = _); rfl) | ((with_reducible show (_ == true) = true); simpa using h) | ((with_reducible show (_ : Nat) ≤ _); exact Nat.le_of_ble_eq_true rfl) | ((with_reducible show (_ : Int) ≤ _); first | omega | decide) | ((with_reducible show (_ : Int) < _); first | omega | decide) | ((with_reducible show (_ : Nat) < _); omega) | ((with_reducible show (_ : Nat) ≤ _); omega)
    all_goals try (first | (exact of_decide_eq_true (by assumption); done) | (exact lt_of_test (k := 0) (by assumption); done) | (exact col_in ht hk (lt_of_test (k := 0) (by assumption)); done) | (exact col_at ht hk (lt_of_test (k := 0) (by assumption)); done))
    · rename_i e0
      have hlt : 0 < t.rows.length := lt_of_test (k := 0) e0
      refine Round.go (fun _ => 0 + 1) hlt (by show t.rows.length - (0 + 1) < t.rows.length - 0; omega) (Weak.list [(4, some 5)] [] (by kernel_rfl) ?_ ?_)
      iterate 2 · repeat' (first | exact wsucc (k := 0) hlt (by have := ht.rows; omega) | exact DWl.eq (co_0 t k) (rowS_all _) | exact DW.same _ rfl | exact DW.ref _ _ _ rfl | exact DW.arr _ _ _ rfl | exact OW.cells rfl rfl (DWl.same rfl) | refine OW.cells rfl rfl ?_ | refine DWl.cons ?_ ?_ | exact DWl.nil | exact DW.nilArr _ rfl | exact DW.nilLst _ | refine DW.clol ?_ ?_ | refine DW.aggl ?_ | refine DW.tupl ?_ | refine DW.int ?_ | refine DW.bool ?_ | refine DW.str ?_ | refine DW.arrE rfl ?_ | ((conv => whnf); first | refine And.intro ?_ ?_ | trivial))
    · have h0 : t.rows.length = 0 := by have := ge_of_test (k := 0) h; omega
      repeat' (first | with_reducible rfl | ((conv => whnf); first | refine And.intro ?_ ?_ | (intro h; first | with_reducible exact tf_no h | with_reducible exact ft_no h | exact Bool.noConfusion h | with_reducible exact h | (have ht : true = true := h; clear ht h) | skip) | ((with_reducible refine ECall.mark ?_); first | refine ECall.only ?_ (fun h => nomatch h) | refine ECall.only ?_ ?_) | ((with_reducible refine Drawn.mark ?_); first | refine Drawn.quiet (by kernel_rfl) ?_) | refine dcell_ok rfl ?_ | refine AppC.new ?_))
      conv => whnf
      refine Retold.list [] [0] (strs (colL t k)) [] 3 (by kernel_rfl) ?_ trivial ⟨rfl, rfl⟩
      exact DW.pubE rfl rfl (Nat.zero_lt_succ _) (List.mem_singleton.2 rfl) (by rw [colL, h0]; rfl) strRow (by rw [colL, h0]; rfl)
  | succ i =>
    have hlt0 : i < t.rows.length := hi
    have hr := ht.rows
    show dcode _ _ _ _ (apSt t k lb (i + 1)) _
    repeat' (first | with_reducible rfl | ((conv => whnf); first | refine And.intro ?_ ?_ | (intro h; first | with_reducible exact tf_no h | with_reducible exact ft_no h | exact Bool.noConfusion h | with_reducible exact h | (have ht : true = true := h; clear ht h) | skip) | ((with_reducible refine ECall.mark ?_); first | refine ECall.only ?_ (fun h => nomatch h) | refine ECall.only ?_ ?_) | ((with_reducible refine Drawn.mark ?_); first | refine Drawn.quiet (by kernel_rfl) ?_) | refine dloadE_map (([] : List ByteArray)) ?_ ?_ | refine dloadE_map (emB) ?_ ?_ | refine dcell_ok rfl ?_ | refine AppC.new ?_))
    all_goals try ((conv => whnf); with_reducible refine Round.mark ?_)
    all_goals try first | ((with_reducible show Option.isSome (slElem _ _) = true); kernel_rfl) | ((with_reducible show slElem _ _ = some _); kernel_rfl) | ((with_reducible refine enters_mark ?_); kernel_rfl) | (with_reducible assumption) | ((with_reducible show List.all _ DV.one = true); rfl) | ((with_reducible show (_ : Nat) = _); rfl) | ((with_reducible show (_ == true) = true); simpa using h) | ((with_reducible show (_ : Nat) ≤ _); exact Nat.le_of_ble_eq_true rfl) | ((with_reducible show (_ : Int) ≤ _); first | omega | decide) | ((with_reducible show (_ : Int) < _); first | omega | decide) | ((with_reducible show (_ : Nat) < _); omega) | ((with_reducible show (_ : Nat) ≤ _); omega)
    all_goals try (first | (exact of_decide_eq_true (by assumption); done) | (exact lt_of_test (k := i + 1) (by assumption); done) | (exact col_in ht hk (lt_of_test (k := i + 1) (by assumption)); done) | (exact col_at ht hk (lt_of_test (k := i + 1) (by assumption)); done) | (exact co_1 t k i; done) | (exact co_2 (by omega); done) | (exact co_3 (by omega); done))
    · rename_i e0
      have hlt : i + 1 < t.rows.length := lt_of_test (k := i + 1) e0
      refine Round.go (fun _ => i + 1 + 1) hlt (by show t.rows.length - (i + 1 + 1) < t.rows.length - (i + 1); omega) (Weak.list [(4, some 6)] [] (by kernel_rfl) ?_ ?_)
      iterate 2 · repeat' (first | exact wsucc hlt (by omega) | exact DWl.eq (co_push t k i) (rowS_all _) | exact DW.same _ rfl | exact DW.ref _ _ _ rfl | exact DW.arr _ _ _ rfl | exact OW.cells rfl rfl (DWl.same rfl) | refine OW.cells rfl rfl ?_ | refine DWl.cons ?_ ?_ | exact DWl.nil | exact DW.nilArr _ rfl | exact DW.nilLst _ | refine DW.clol ?_ ?_ | refine DW.aggl ?_ | refine DW.tupl ?_ | refine DW.int ?_ | refine DW.bool ?_ | refine DW.str ?_ | refine DW.arrE rfl ?_ | ((conv => whnf); first | refine And.intro ?_ ?_ | trivial))
    · have h0 : t.rows.length = i + 1 := by have := ge_of_test (k := i + 1) h; omega
      repeat' (first | with_reducible rfl | ((conv => whnf); first | refine And.intro ?_ ?_ | (intro h; first | with_reducible exact tf_no h | with_reducible exact ft_no h | exact Bool.noConfusion h | with_reducible exact h | (have ht : true = true := h; clear ht h) | skip) | ((with_reducible refine ECall.mark ?_); first | refine ECall.only ?_ (fun h => nomatch h) | refine ECall.only ?_ ?_) | ((with_reducible refine Drawn.mark ?_); first | refine Drawn.quiet (by kernel_rfl) ?_) | refine dcell_ok rfl ?_ | refine AppC.new ?_))
      conv => whnf
      refine Retold.list [] [4] (strs (colL t k)) [] 3 (by kernel_rfl) ?_ trivial ⟨rfl, rfl⟩
      exact DW.pubE rfl rfl (Nat.zero_lt_succ _) (List.mem_singleton.2 rfl) (by rw [colL, h0, List.length_map, colI_len]) strRow (by rw [colL, h0]; exact rowS_map _)
end Go.Proofs.YtlchjjchgebfiaaGreatDoor
namespace Go.Proofs.YtlchjjchgebfiaaGreatDoor
open Go.RowKit Go.Dl
attribute [local irreducible] Tri SCall TSem ECall Drawn DFun QSem PSem PCall GCall MCall Round Weak dloadE OW DWl Tells IntKind.wrap Retold ESem
def turnR (t : Tb) (k : Nat) : List (List ByteArray) := (List.range (k - 1)).map fun j => colL t (j + 1)
def turnT (t : Tb) : Tb := ⟨colL t 0, turnR t t.head.length⟩
def turnV (t : Tb) : DV := bif decide (64 ≤ ((t.rows.map rowD).length : Int)) then .tup [tab ⟨[], []⟩, int1 30] else .tup [tab (turnT t), int1 0]
def headL (t : Tb) : Nat → List ByteArray
  | 0 => []
  | _ + 1 => colL t 0
theorem headL_pos (t : Tb) {k : Nat} (h : ((k : Int) == 0) = false) : (headL t k).map strD = (headL t (k + 1)).map strD := by
  cases k with
  | zero => cases h
  | succ k => rfl
theorem headL_fin (t : Tb) (h : 1 ≤ t.head.length) : (headL t t.head.length).map strD = (turnT t).head.map strD := by
  obtain ⟨n, hn⟩ : ∃ n, t.head.length = n + 1 := ⟨t.head.length - 1, by omega⟩
  rw [hn]; rfl
theorem headL_z (_ : Tb) {k : Nat} (h : ((k : Int) == 0) = true) : k = 0 := by
  have := eq_of_beq h; omega
set_option maxRecDepth 20000 in
theorem tr_1 (t : Tb) (k : Nat) : (k - 1) * Tryz.prog.types[22].size ≤ (rowsC (turnR t k)).length := by
  rw [rowsC_len, turnR, List.length_map, List.length_range]
  show (k - 1) * 1 ≤ _
  omega
set_option maxRecDepth 20000 in
theorem tr_2 {k n : Nat} (h : k < n) (hn : n ≤ 64) : (k - 1 + 1) * Tryz.prog.types[22].bytes ≤ 140737488355328 := by
  show (k - 1 + 1) * 24 ≤ _
  omega
theorem tr_3 {k n : Nat} (h : k < n) (hn : n ≤ 64) : k - 1 + 1 ≤ maxLen := by simp only [maxLen]; omega
theorem tr_push (t : Tb) {k : Nat} (h : ((k : Int) == 0) = false) : (rowsC (turnR t k)).take ((k - 1) * 1) ++ [strs (colL t k)] = rowsC (turnR t (k + 1)) := by
  cases k with
  | zero => cases h
  | succ k =>
    have := rowsC_push (turnR t (k + 1)) (colL t (k + 1))
    rw [show (turnR t (k + 1)).length = k by rw [turnR, List.length_map, List.length_range]; rfl] at this
    show (rowsC (turnR t (k + 1))).take (k * 1) ++ [strs (colL t (k + 1))] = _
    rw [this]
    unfold turnR
    rw [show k + 1 + 1 - 1 = (k + 1 - 1) + 1 from rfl, List.range_succ, List.map_append]; rfl
theorem tr_len {k : Nat} (h : ((k : Int) == 0) = false) : k - 1 + 1 = k + 1 - 1 := by
  cases k with
  | zero => cases h
  | succ k => rfl
theorem tr_zero (t : Tb) : rowsC (turnR t 0) = rowsC (turnR t (0 + 1)) := rfl
theorem tr_r0 (t : Tb) : rowsC (turnR t 0) = [] := rfl
theorem turnR_len (t : Tb) (k : Nat) : (turnR t k).length = k - 1 := by rw [turnR, List.length_map, List.length_range]
def trSt21 (t : Tb) (k : Nat) : St := ⟨0, tmOf [(1, .ref 0 0), (2, .ref 1 0), (3, int1 0), (4, .ref 2 0), (14, strs t.head), (15, int1 (t.head.map strD).length), (16, int1 k)], .of [(0, ⟨25, 2, tbD t⟩), (1, ⟨25, 2, [.v (.slice none 0 0), .v (.slice none 0 0)]⟩), (2, ⟨25, 2, [strs (headL t k), .arr 3 (k - 1)]⟩), (3, ⟨22, 1, rowsC (turnR t k)⟩)] 4⟩
attribute [local irreducible] rowsC colL
set_option maxRecDepth 20000 in
set_option maxHeartbeats 2000000 in
theorem turn21_D (t : Tb) (ht : Tbl t) : DPure Tryz.prog 21 [tab t] (turnV t) := by
  refine DFun.data (DFun.body Tryz.func21 rfl (by kernel_rfl) ?_)
  repeat' (first | with_reducible rfl | ((conv => whnf); first | refine And.intro ?_ ?_ | (intro h; first | with_reducible exact tf_no h | with_reducible exact ft_no h | exact Bool.noConfusion h | with_reducible exact h | (have ht : true = true := h; clear ht h) | skip) | ((with_reducible refine ECall.mark ?_); first | refine ECall.only ?_ (fun h => nomatch h) | refine ECall.only ?_ ?_) | ((with_reducible refine Drawn.mark ?_); first | refine Drawn.quiet (by kernel_rfl) ?_) | refine dcell_ok rfl ?_ | refine AppC.new ?_))
  all_goals first | (with_reducible refine enters_mark ?_; kernel_rfl) | (with_reducible refine boolT_mark ?_; kernel_rfl) | rfl | trivial | assumption | exact Nat.le_of_ble_eq_true rfl | (show entersB _ _ = true; kernel_rfl) | exact DW.same _ rfl | exact DW.ref _ _ _ rfl | exact DW.arr _ _ _ rfl | refine DW.int ?_ | refine dvb ?_ | refine dvi ?_ | exact OW.cells rfl rfl (DWl.same rfl) | exact Nat.zero_le _ | omega | skip
  all_goals repeat' (first | refine OW.cells rfl rfl ?_ | exact DW.nilArr _ rfl | refine DWl.cons ?_ ?_ | exact DWl.nil | exact DW.same _ rfl | exact DW.ref _ _ _ rfl | exact DW.arr _ _ _ rfl | exact DW.sub _ _ _ _ rfl | exact DW.mo _ _ rfl | exact DW.nilLst _ | refine DW.aggl ?_ | refine DW.tupl ?_ | refine DW.clol ?_ ?_)
  all_goals try ((conv => whnf); with_reducible first | refine Round.mark ?_ | refine Tells.mark ?_ | refine Retold.mark ?_)
  all_goals try first | (show (_ : Bool) = _; simp_all; done) | (show (_ : Int) < _; simp at *; omega) | (show (_ : Int) ≤ _; simp at *; omega) | (show (_ : Nat) < _; simp at *; omega) | (show (_ : Nat) ≤ _; simp at *; omega)
  · conv => whnf
    refine Tells.of (r1 := .tup [tab ⟨[], []⟩, int1 30]) (by unfold turnV; rw [show decide (64 ≤ ((t.rows.map rowD).length : Int)) = true from h]; rfl) ?_
    exact Tells.mk (DW.tupl (DWl.cons (DW.aggl (DWl.cons (DW.nilLst _) (DWl.cons (DW.nilLst _) DWl.nil))) (DWl.cons (DW.same _ rfl) DWl.nil)))
  · refine Tri.loop (trSt21 t) (fun k => k ≤ t.head.length) (fun k => t.head.length - k) 0 (by kernel_rfl) (Weak.list [(0, some 0), (1, some 1), (2, some 2), (3, none)] [] (by kernel_rfl) ?_ ?_) (Nat.zero_le _) ?_
    iterate 2 · repeat' (first | exact DW.nilArr _ rfl | exact tr_r0 t | rfl | exact DW.same _ rfl | exact DW.ref _ _ _ rfl | exact DW.arr _ _ _ rfl | exact OW.cells rfl rfl (DWl.same rfl) | refine OW.cells rfl rfl ?_ | refine DWl.cons ?_ ?_ | exact DWl.nil | exact DW.nilArr _ rfl | exact DW.nilLst _ | refine DW.clol ?_ ?_ | refine DW.aggl ?_ | refine DW.tupl ?_ | refine DW.int ?_ | refine DW.bool ?_ | refine DW.str ?_ | refine DW.arrE rfl ?_ | ((conv => whnf); first | refine And.intro ?_ ?_ | trivial))
    intro k hk
    have hk : k ≤ t.head.length := hk
    show dcode _ _ _ _ (trSt21 t k) _
    repeat' (first | with_reducible rfl | ((conv => whnf); first | refine And.intro ?_ ?_ | (intro h; first | with_reducible exact tf_no h | with_reducible exact ft_no h | exact Bool.noConfusion h | with_reducible exact h | (have ht : true = true := h; clear ht h) | skip) | ((with_reducible refine SCall.mark ?_); first | refine SCall.run Tryz.func55 rfl (Nat.le_of_ble_eq_true rfl) (by kernel_rfl) ?_ | refine SCall.at [4, 5, 6] (fun _ => []) (fun _ => strs (colL t k)) 0 (app54_S t ht k ?_) (by kernel_rfl) ⟨OW.cells rfl rfl (DWl.same rfl), OW.cells rfl rfl (DWl.same rfl), OW.cells rfl rfl (DWl.same rfl), trivial⟩ (DWl.cons (DW.arr _ _ _ rfl) (DWl.cons (DW.clol DWl.nil (DWl.cons (DW.ref _ _ _ rfl) (DWl.cons (DW.ref _ _ _ rfl) DWl.nil))) DWl.nil)) (DW.same _ rfl) trivial ?_) | ((with_reducible refine ECall.mark ?_); first | refine ECall.only ?_ (fun h => nomatch h) | refine ECall.only ?_ ?_) | ((with_reducible refine Drawn.mark ?_); first | refine Drawn.quiet (by kernel_rfl) ?_) | refine dloadE_map (emB) ?_ ?_ | refine dcell_ok rfl ?_ | refine AppC.new ?_))
    all_goals try ((conv => whnf); with_reducible refine Round.mark ?_)
    all_goals try first | ((with_reducible show Option.isSome (slElem _ _) = true); kernel_rfl) | ((with_reducible show slElem _ _ = some _); kernel_rfl) | ((with_reducible refine enters_mark ?_); kernel_rfl) | (with_reducible assumption) | ((with_reducible show List.all _ DV.one = true); rfl) | ((with_reducible show (_ : Nat) = _); rfl) | ((with_reducible show (_ == true) = true); simpa using h) | ((with_reducible show (_ : Nat) ≤ _); exact Nat.le_of_ble_eq_true rfl) | ((with_reducible show (_ : Int) ≤ _); first | omega | decide) | ((with_reducible show (_ : Int) < _); first | omega | decide) | ((with_reducible show (_ : Nat) < _); omega) | ((with_reducible show (_ : Nat) ≤ _); omega)
    all_goals try (first | (exact of_decide_eq_true (by assumption); done) | (exact lt_of_test (by assumption); done) | (exact tr_1 t k; done) | (exact tr_2 (lt_of_test (by assumption)) ht.head.2; done) | (exact tr_3 (lt_of_test (by assumption)) ht.head.2; done))
    · rename_i e0
      have hlt := lt_of_test e0
      have hz := headL_z t h
      subst hz
      refine Round.go (fun _ => 0 + 1) hlt (by show t.head.length - (0 + 1) < t.head.length - 0; omega) (Weak.list [(0, some 0), (1, some 1), (2, some 2), (3, some 3)] [] (by kernel_rfl) ?_ ?_)
      iterate 2 · repeat' (first | exact wsucc (k := 0) hlt (by have := ht.head.2; omega) | exact DWl.eq (tr_zero t) (rowsC_all _) | exact DW.same _ rfl | exact DW.ref _ _ _ rfl | exact DW.arr _ _ _ rfl | exact OW.cells rfl rfl (DWl.same rfl) | refine OW.cells rfl rfl ?_ | refine DWl.cons ?_ ?_ | exact DWl.nil | exact DW.nilArr _ rfl | exact DW.nilLst _ | refine DW.clol ?_ ?_ | refine DW.aggl ?_ | refine DW.tupl ?_ | refine DW.int ?_ | refine DW.bool ?_ | refine DW.str ?_ | refine DW.arrE rfl ?_ | ((conv => whnf); first | refine And.intro ?_ ?_ | trivial))
    · rename_i e0
      have hlt := lt_of_test e0
      refine Round.go (fun _ => k + 1) hlt (by show t.head.length - (k + 1) < t.head.length - k; omega) (Weak.list [(0, some 0), (1, some 1), (2, some 2), (3, some 8)] [] (by kernel_rfl) ?_ ?_)
      iterate 2 · repeat' (first | exact wsucc hlt (by have := ht.head.2; omega) | exact DW.lstE (headL_pos t h) | exact tr_len h | exact DWl.eq (tr_push t h) (rowsC_all _) | exact DW.same _ rfl | exact DW.ref _ _ _ rfl | exact DW.arr _ _ _ rfl | exact OW.cells rfl rfl (DWl.same rfl) | refine OW.cells rfl rfl ?_ | refine DWl.cons ?_ ?_ | exact DWl.nil | exact DW.nilArr _ rfl | exact DW.nilLst _ | refine DW.clol ?_ ?_ | refine DW.aggl ?_ | refine DW.tupl ?_ | refine DW.int ?_ | refine DW.bool ?_ | refine DW.str ?_ | refine DW.arrE rfl ?_ | ((conv => whnf); first | refine And.intro ?_ ?_ | trivial))
    · have h0 : t.head.length = k := by have := ge_of_test h; omega
      subst h0
      repeat' (first | with_reducible rfl | ((conv => whnf); first | refine And.intro ?_ ?_ | (intro h; first | with_reducible exact tf_no h | with_reducible exact ft_no h | exact Bool.noConfusion h | with_reducible exact h | (have ht : true = true := h; clear ht h) | skip) | ((with_reducible refine ECall.mark ?_); first | refine ECall.only ?_ (fun h => nomatch h) | refine ECall.only ?_ ?_) | ((with_reducible refine Drawn.mark ?_); first | refine Drawn.quiet (by kernel_rfl) ?_) | refine dcell_ok rfl ?_ | refine AppC.new ?_))
      conv => whnf
      refine Tells.of (r1 := .tup [tab (turnT t), int1 0]) (by unfold turnV; rw [show decide (64 ≤ ((t.rows.map rowD).length : Int)) = false by assumption]; rfl) ?_
      exact Tells.mk (DW.tupl (DWl.cons (DW.aggl (DWl.cons (DW.lstE (headL_fin t ht.head.1)) (DWl.cons (DW.pubM rfl (turnR_len t _) rfl rfl rowRow (rowsC_eq _)) DWl.nil))) (DWl.cons (DW.same _ rfl) DWl.nil)))
end Go.Proofs.YtlchjjchgebfiaaGreatDoor
namespace Go.Proofs.YtlchjjchgebfiaaGreatDoor
open Go.RowKit Go.Dl
attribute [local irreducible] Tri SCall TSem ECall Drawn DFun QSem PSem PCall GCall MCall Round Weak dloadE OW DWl Tells IntKind.wrap Retold ESem
def trSt29 (t : Tb) (k : Nat) : St := ⟨0, tmOf [(1, .ref 0 0), (2, .ref 1 0), (3, int1 0), (4, .ref 2 0), (5, int1 k)], .of [(0, ⟨25, 2, tbD t⟩), (1, ⟨25, 2, [.v (.slice none 0 0), .v (.slice none 0 0)]⟩), (2, ⟨25, 2, [strs (headL t k), .arr 3 (k - 1)]⟩), (3, ⟨22, 1, rowsC (turnR t k)⟩)] 4⟩
def trIn29 (t : Tb) (k i : Nat) : St := ⟨0, tmOf [(1, .ref 0 0), (2, .ref 1 0), (3, int1 0), (4, .ref 2 0), (5, int1 k), (6, .arr 4 (i + 1)), (7, int1 i)], .of [(0, ⟨25, 2, tbD t⟩), (1, ⟨25, 2, [.v (.slice none 0 0), .v (.slice none 0 0)]⟩), (2, ⟨25, 2, [strs (headL t k), .arr 3 (k - 1)]⟩), (3, ⟨22, 1, rowsC (turnR t k)⟩), (4, ⟨9, 1, rowS (colI t k i)⟩)] 5⟩
theorem tn_1 {n : Nat} : decide (63 < (n : Int)) = decide (64 ≤ (n : Int)) := decide_eq_decide.2 ⟨fun h => h, fun h => h⟩
set_option maxRecDepth 20000 in
theorem cp_1 (t : Tb) (k i : Nat) : (i + 1) * Tryz.prog.types[9].size ≤ (rowS (colI t k i)).length := by
  rw [rowS_len, colI_len]
  show (i + 1) * 1 ≤ _
  omega
set_option maxRecDepth 20000 in
theorem cp_2 {i n : Nat} (h : i < n) (hn : n ≤ 4096) : (i + 1 + 1) * Tryz.prog.types[9].bytes ≤ 140737488355328 := by
  show (i + 1 + 1) * 16 ≤ _
  omega
theorem cp_3 {i n : Nat} (h : i < n) (hn : n ≤ 4096) : i + 1 + 1 ≤ maxLen := by simp only [maxLen]; omega
theorem cp_push (t : Tb) (k i : Nat) : (rowS (colI t k i)).take ((i + 1) * 1) ++ [.v (.string ((t.rows.getD (i : Int).toNat []).getD (k : Int).toNat emB))] = rowS (colI t k (i + 1)) := by
  have := rowS_push (colI t k i) (celA t k i)
  rw [colI_len] at this
  exact this
theorem cp_0 (t : Tb) (k : Nat) : [DV.v (.string (t.head.getD (k : Int).toNat emB))] = rowS (colI t k 0) := rfl
theorem col_fl (t : Tb) (k : Nat) : rowS (colI t k t.rows.length) = ((colL t k).map strD).flatten := rfl
theorem col_ln (t : Tb) (k : Nat) : (colL t k).length = t.rows.length + 1 := colI_len t k _
theorem col_l0 (t : Tb) : ((headL t (0 + 1)).map strD).length = t.rows.length + 1 := by rw [List.length_map]; exact col_ln t 0
theorem col_f0 (t : Tb) : rowS (colI t 0 t.rows.length) = ((headL t (0 + 1)).map strD).flatten := rfl
theorem take_all {l : List DV} (h : l.all noId1 = true) (n : Nat) : (l.take n).all noId1 = true := by
  rw [List.all_eq_true] at h ⊢
  exact fun x hx => h x (List.mem_of_mem_take hx)
attribute [local irreducible] rowsC colL rowS
set_option maxRecDepth 20000 in
set_option maxHeartbeats 2000000 in
theorem turn29_D (t : Tb) (ht : Tbl t) : DPure Tryz.prog 29 [tab t] (turnV t) := by
  refine DFun.data (DFun.body Tryz.func29 rfl (by kernel_rfl) ?_)
  repeat' (first | with_reducible rfl | ((conv => whnf); first | refine And.intro ?_ ?_ | (intro h; first | with_reducible exact tf_no h | with_reducible exact ft_no h | exact Bool.noConfusion h | with_reducible exact h | (have ht : true = true := h; clear ht h) | skip) | ((with_reducible refine ECall.mark ?_); first | refine ECall.only ?_ (fun h => nomatch h) | refine ECall.only ?_ ?_) | ((with_reducible refine Drawn.mark ?_); first | refine Drawn.quiet (by kernel_rfl) ?_) | refine dcell_ok rfl ?_ | refine AppC.new ?_))
  all_goals first | (with_reducible refine enters_mark ?_; kernel_rfl) | (with_reducible refine boolT_mark ?_; kernel_rfl) | rfl | trivial | assumption | exact Nat.le_of_ble_eq_true rfl | (show entersB _ _ = true; kernel_rfl) | exact DW.same _ rfl | exact DW.ref _ _ _ rfl | exact DW.arr _ _ _ rfl | refine DW.int ?_ | refine dvb ?_ | refine dvi ?_ | exact OW.cells rfl rfl (DWl.same rfl) | exact Nat.zero_le _ | omega | skip
  all_goals repeat' (first | refine OW.cells rfl rfl ?_ | exact DW.nilArr _ rfl | refine DWl.cons ?_ ?_ | exact DWl.nil | exact DW.same _ rfl | exact DW.ref _ _ _ rfl | exact DW.arr _ _ _ rfl | exact DW.sub _ _ _ _ rfl | exact DW.mo _ _ rfl | exact DW.nilLst _ | refine DW.aggl ?_ | refine DW.tupl ?_ | refine DW.clol ?_ ?_)
  all_goals try ((conv => whnf); with_reducible first | refine Round.mark ?_ | refine Tells.mark ?_ | refine Retold.mark ?_)
  all_goals try first | (show (_ : Bool) = _; simp_all; done) | (show (_ : Int) < _; simp at *; omega) | (show (_ : Int) ≤ _; simp at *; omega) | (show (_ : Nat) < _; simp at *; omega) | (show (_ : Nat) ≤ _; simp at *; omega)
  · conv => whnf
    refine Tells.of (r1 := .tup [tab ⟨[], []⟩, int1 30]) (by unfold turnV; rw [← tn_1, show decide (63 < ((t.rows.map rowD).length : Int)) = true from h]; rfl) ?_
    exact Tells.mk (DW.tupl (DWl.cons (DW.aggl (DWl.cons (DW.nilLst _) (DWl.cons (DW.nilLst _) DWl.nil))) (DWl.cons (DW.same _ rfl) DWl.nil)))
  · refine Tri.loop (trSt29 t) (fun k => k ≤ t.head.length) (fun k => t.head.length - k) 0 (by kernel_rfl) (Weak.list [(0, some 0), (1, some 1), (2, some 2), (3, none)] [] (by kernel_rfl) ?_ ?_) (Nat.zero_le _) ?_
    iterate 2 · repeat' (first | exact DW.nilArr _ rfl | exact tr_r0 t | rfl | exact DW.same _ rfl | exact DW.ref _ _ _ rfl | exact DW.arr _ _ _ rfl | exact OW.cells rfl rfl (DWl.same rfl) | refine OW.cells rfl rfl ?_ | refine DWl.cons ?_ ?_ | exact DWl.nil | exact DW.nilArr _ rfl | exact DW.nilLst _ | refine DW.clol ?_ ?_ | refine DW.aggl ?_ | refine DW.tupl ?_ | refine DW.int ?_ | refine DW.bool ?_ | refine DW.str ?_ | refine DW.arrE rfl ?_ | ((conv => whnf); first | refine And.intro ?_ ?_ | trivial))
    intro k hk
    have hk : k ≤ t.head.length := hk
    show dcode _ _ _ _ (trSt29 t k) _
    repeat' (first | with_reducible rfl | ((conv => whnf); first | refine And.intro ?_ ?_ | (intro h; first | with_reducible exact tf_no h | with_reducible exact ft_no h | exact Bool.noConfusion h | with_reducible exact h | (have ht : true = true := h; clear ht h) | skip) | ((with_reducible refine ECall.mark ?_); first | refine ECall.only ?_ (fun h => nomatch h) | refine ECall.only ?_ ?_) | ((with_reducible refine Drawn.mark ?_); first | refine Drawn.quiet (by kernel_rfl) ?_) | refine dloadE_map (emB) ?_ ?_ | refine dcell_ok rfl ?_ | refine AppC.new ?_))
    all_goals try ((conv => whnf); with_reducible refine Round.mark ?_)
    all_goals try first | ((with_reducible show Option.isSome (slElem _ _) = true); kernel_rfl) | ((with_reducible show slElem _ _ = some _); kernel_rfl) | ((with_reducible refine enters_mark ?_); kernel_rfl) | (with_reducible assumption) | ((with_reducible show List.all _ DV.one = true); rfl) | ((with_reducible show (_ : Nat) = _); rfl) | ((with_reducible show (_ == true) = true); simpa using h) | ((with_reducible show (_ : Nat) ≤ _); exact Nat.le_of_ble_eq_true rfl) | ((with_reducible show (_ : Int) ≤ _); first | omega | decide) | ((with_reducible show (_ : Int) < _); first | omega | decide) | ((with_reducible show (_ : Nat) < _); omega) | ((with_reducible show (_ : Nat) ≤ _); omega)
    all_goals try (first | (exact of_decide_eq_true (by assumption); done) | (exact lt_of_test (by assumption); done))
    · have hlt : k < t.head.length := lt_of_test h
      conv => whnf
      refine Tri.loop (trIn29 t k) (fun i => i ≤ t.rows.length) (fun i => t.rows.length - i) 0 (by kernel_rfl) (Weak.list [(0, some 0), (1, some 1), (2, some 2), (3, some 3), (4, some 4)] [] (by kernel_rfl) ?_ ?_) (Nat.zero_le _) ?_
      iterate 2 · repeat' (first | exact DWl.eq rfl (rowsC_all _) | exact DWl.eq (cp_0 t k) (rowS_all _) | exact DW.same _ rfl | exact DW.ref _ _ _ rfl | exact DW.arr _ _ _ rfl | exact OW.cells rfl rfl (DWl.same rfl) | refine OW.cells rfl rfl ?_ | refine DWl.cons ?_ ?_ | exact DWl.nil | exact DW.nilArr _ rfl | exact DW.nilLst _ | refine DW.clol ?_ ?_ | refine DW.aggl ?_ | refine DW.tupl ?_ | refine DW.int ?_ | refine DW.bool ?_ | refine DW.str ?_ | refine DW.arrE rfl ?_ | ((conv => whnf); first | refine And.intro ?_ ?_ | trivial))
      intro i hi
      have hi : i ≤ t.rows.length := hi
      show dcode _ _ _ _ (trIn29 t k i) _
      repeat' (first | with_reducible rfl | ((conv => whnf); first | refine And.intro ?_ ?_ | (intro h; first | with_reducible exact tf_no h | with_reducible exact ft_no h | exact Bool.noConfusion h | with_reducible exact h | (have ht : true = true := h; clear ht h) | skip) | ((with_reducible refine ECall.mark ?_); first | refine ECall.only ?_ (fun h => nomatch h) | refine ECall.only ?_ ?_) | ((with_reducible refine Drawn.mark ?_); first | refine Drawn.quiet (by kernel_rfl) ?_) | refine dloadE_map (([] : List ByteArray)) ?_ ?_ | refine dloadE_map (emB) ?_ ?_ | refine dcell_ok rfl ?_ | refine AppC.new ?_))
      all_goals try ((conv => whnf); with_reducible refine Round.mark ?_)
      all_goals try first | ((with_reducible show Option.isSome (slElem _ _) = true); kernel_rfl) | ((with_reducible show slElem _ _ = some _); kernel_rfl) | ((with_reducible refine enters_mark ?_); kernel_rfl) | (with_reducible assumption) | ((with_reducible show List.all _ DV.one = true); rfl) | ((with_reducible show (_ : Nat) = _); rfl) | ((with_reducible show (_ == true) = true); simpa using h) | ((with_reducible show (_ : Nat) ≤ _); exact Nat.le_of_ble_eq_true rfl) | ((with_reducible show (_ : Int) ≤ _); first | omega | decide) | ((with_reducible show (_ : Int) < _); first | omega | decide) | ((with_reducible show (_ : Nat) < _); omega) | ((with_reducible show (_ : Nat) ≤ _); omega)
      · exact of_decide_eq_true h
      · exact lt_of_test h
      · exact col_in ht hlt (lt_of_test h)
      · exact col_at ht hlt (lt_of_test h)
      · exact cp_1 t k i
      · exact cp_2 (lt_of_test h) ht.rows
      · exact cp_3 (lt_of_test h) ht.rows
      · have hlt2 := lt_of_test h
        refine Round.go (fun _ => i + 1) hlt2 (by show t.rows.length - (i + 1) < t.rows.length - i; omega) (Weak.list [(0, some 0), (1, some 1), (2, some 2), (3, some 3), (4, some 6)] [] (by kernel_rfl) ?_ ?_)
        iterate 2 · repeat' (first | exact wsucc hlt2 (by have := ht.rows; omega) | exact DWl.eq rfl (rowsC_all _) | exact DWl.eq (cp_push t k i) (rowS_all _) | exact DW.same _ rfl | exact DW.ref _ _ _ rfl | exact DW.arr _ _ _ rfl | exact OW.cells rfl rfl (DWl.same rfl) | refine OW.cells rfl rfl ?_ | refine DWl.cons ?_ ?_ | exact DWl.nil | exact DW.nilArr _ rfl | exact DW.nilLst _ | refine DW.clol ?_ ?_ | refine DW.aggl ?_ | refine DW.tupl ?_ | refine DW.int ?_ | refine DW.bool ?_ | refine DW.str ?_ | refine DW.arrE rfl ?_ | ((conv => whnf); first | refine And.intro ?_ ?_ | trivial))
      · rename_i e0
        have hi2 : i = t.rows.length := by have := ge_of_test e0; omega
        subst hi2
        have hz := headL_z t h
        subst hz
        refine Round.go (fun _ => 0 + 1) hlt (by show t.head.length - (0 + 1) < t.head.length - 0; omega) (Weak.list [(0, some 0), (1, some 1), (2, some 2), (3, some 3)] [4] (by kernel_rfl) ?_ ?_)
        iterate 2 · repeat' (first | exact wsucc (k := 0) hlt (by have := ht.head.2; omega) | exact DW.pubE rfl rfl (Nat.zero_lt_succ _) (List.mem_singleton.2 rfl) (col_l0 t) strRow (col_f0 t) | exact DWl.eq (tr_zero t) (rowsC_all _) | exact DW.same _ rfl | exact DW.ref _ _ _ rfl | exact DW.arr _ _ _ rfl | exact OW.cells rfl rfl (DWl.same rfl) | refine OW.cells rfl rfl ?_ | refine DWl.cons ?_ ?_ | exact DWl.nil | exact DW.nilArr _ rfl | exact DW.nilLst _ | refine DW.clol ?_ ?_ | refine DW.aggl ?_ | refine DW.tupl ?_ | refine DW.int ?_ | refine DW.bool ?_ | refine DW.str ?_ | refine DW.arrE rfl ?_ | ((conv => whnf); first | refine And.intro ?_ ?_ | trivial))
      · exact tr_1 t k
      · exact tr_2 hlt ht.head.2
      · exact tr_3 hlt ht.head.2
      · rename_i e0
        have hi2 : i = t.rows.length := by have := ge_of_test e0; omega
        subst hi2
        refine Round.go (fun _ => k + 1) hlt (by show t.head.length - (k + 1) < t.head.length - k; omega) (Weak.list [(0, some 0), (1, some 1), (2, some 2), (3, some 6)] [4] (by kernel_rfl) ?_ ?_)
        iterate 2 · repeat' (first | exact wsucc hlt (by have := ht.head.2; omega) | exact DW.lstE (headL_pos t h) | exact tr_len h | exact DWl.snocE (tr_push t h) (take_all (rowsC_all _) _) (DW.pubE rfl rfl (Nat.zero_lt_succ _) (List.mem_singleton.2 rfl) (by rw [List.length_map, col_ln]) strRow (col_fl t k)) | exact DW.same _ rfl | exact DW.ref _ _ _ rfl | exact DW.arr _ _ _ rfl | exact OW.cells rfl rfl (DWl.same rfl) | refine OW.cells rfl rfl ?_ | refine DWl.cons ?_ ?_ | exact DWl.nil | exact DW.nilArr _ rfl | exact DW.nilLst _ | refine DW.clol ?_ ?_ | refine DW.aggl ?_ | refine DW.tupl ?_ | refine DW.int ?_ | refine DW.bool ?_ | refine DW.str ?_ | refine DW.arrE rfl ?_ | ((conv => whnf); first | refine And.intro ?_ ?_ | trivial))
    · have h0 : t.head.length = k := by have := ge_of_test h; omega
      subst h0
      repeat' (first | with_reducible rfl | ((conv => whnf); first | refine And.intro ?_ ?_ | (intro h; first | with_reducible exact tf_no h | with_reducible exact ft_no h | exact Bool.noConfusion h | with_reducible exact h | (have ht : true = true := h; clear ht h) | skip) | ((with_reducible refine ECall.mark ?_); first | refine ECall.only ?_ (fun h => nomatch h) | refine ECall.only ?_ ?_) | ((with_reducible refine Drawn.mark ?_); first | refine Drawn.quiet (by kernel_rfl) ?_) | refine dcell_ok rfl ?_ | refine AppC.new ?_))
      conv => whnf
      refine Tells.of (r1 := .tup [tab (turnT t), int1 0]) (by unfold turnV; rw [← tn_1, show decide (63 < ((t.rows.map rowD).length : Int)) = false by assumption]; rfl) ?_
      exact Tells.mk (DW.tupl (DWl.cons (DW.aggl (DWl.cons (DW.lstE (headL_fin t ht.head.1)) (DWl.cons (DW.pubM rfl (turnR_len t _) rfl rfl rowRow (rowsC_eq _)) DWl.nil))) (DWl.cons (DW.same _ rfl) DWl.nil)))
end Go.Proofs.YtlchjjchgebfiaaGreatDoor
namespace Go.Proofs.YtlchjjchgebfiaaGreatDoor
open Go.RowKit Go.Dl
theorem colI_is (t : Tb) (k : Nat) : ∀ i, i ≤ t.rows.length → colI t k i = t.head.getD k emB :: (t.rows.take i).map fun r => r.getD k emB
  | 0, _ => rfl
  | i + 1, h => by
    rw [colI, colI_is t k i (by omega), List.take_add_one, List.getElem?_eq_getElem (show i < t.rows.length by omega), List.map_append]
    show _ ++ [(t.rows.getD i []).getD k emB] = _
    rw [List.getD_eq_getElem?_getD (l := t.rows), List.getElem?_eq_getElem (show i < t.rows.length by omega)]; rfl
theorem colL_is (t : Tb) (k : Nat) : colL t k = t.head.getD k emB :: t.rows.map fun r => r.getD k emB := by
  rw [colL, colI_is t k _ (Nat.le_refl _), List.take_length]
theorem rowB_mk {l : List ByteArray} {n : Nat} (h1 : l.length = n) (h2 : ∀ s ∈ l, cellB s = true) : rowB l (n : Nat) = true := by
  unfold rowB
  rw [decide_eq_true (show (l.length : Int) = (n : Nat) by omega), List.all_eq_true.2 h2]; rfl
theorem rowB_mem {l : List ByteArray} {n : Int} (h : rowB l n = true) : ∀ s ∈ l, cellB s = true := by
  unfold rowB at h
  rw [Bool.and_eq_true] at h
  exact List.all_eq_true.1 h.2
theorem emB_cell : cellB emB = true := rfl
theorem getD_cell {l : List ByteArray} (h : ∀ s ∈ l, cellB s = true) (k : Nat) : cellB (l.getD k emB) = true := by
  rw [List.getD_eq_getElem?_getD]
  rcases Nat.lt_or_ge k l.length with h1 | h1
  · rw [List.getElem?_eq_getElem h1]; exact h _ (List.getElem_mem h1)
  · rw [List.getElem?_eq_none h1]; exact emB_cell
theorem colL_row {t : Tb} (ht : Fitt t) (k : Nat) : rowB (colL t k) ((t.rows.length + 1 : Nat) : Int) = true := by
  refine rowB_mk (col_ln t k) fun s hs => ?_
  rw [colL_is] at hs
  rcases List.mem_cons.1 hs with rfl | hs
  · exact getD_cell (rowB_mem ht.rowB_h) k
  · obtain ⟨r, hr, rfl⟩ := List.mem_map.1 hs
    exact getD_cell (rowB_mem (ht.rowB_r r hr)) k
theorem turn_fit {t : Tb} (ht : Fitt t) (h : t.rows.length < 64) : Fitt (turnT t) := by
  have hl : (turnT t).head.length = t.rows.length + 1 := col_ln t 0
  refine ⟨?_, by omega, by rw [hl]; exact colL_row ht 0, fun r hr => ?_⟩
  · have := turnR_len t t.head.length
    have := ht.head
    show (turnR t t.head.length).length ≤ _
    omega
  · obtain ⟨j, _, rfl⟩ := List.mem_map.1 (show r ∈ (List.range (t.head.length - 1)).map fun j => colL t (j + 1) from hr)
    rw [hl]; exact colL_row ht _
theorem sml_fit {t : Tb} (h : Fitt t) : SmlT t := by
  have hc := h.cell
  have hl : ∀ l, l = t.head ∨ l ∈ t.rows → l.length ≤ 64 := fun l hl => (h.wr.2 l hl).1
  have hs : ∀ l, l = t.head ∨ l ∈ t.rows → Sml l := fun l h1 => ⟨by have := hl l h1; omega, fun s hs => by have := hc l h1 s hs; omega⟩
  exact ⟨hs _ (.inl rfl), by have := h.rows; omega, fun r hr => hs r (.inr hr)⟩
end Go.Proofs.YtlchjjchgebfiaaGreatDoor
namespace Go.Proofs.YtlchjjchgebfiaaGreatDoor
open Go.RowKit Go.Dl
attribute [local irreducible] Tri SCall TSem ECall Drawn DFun QSem PSem PCall GCall MCall Round Weak dloadE OW DWl Tells IntKind.wrap Retold ESem
theorem turnV_no {t : Tb} (h : 64 ≤ t.rows.length) : turnV t = .tup [tab ⟨[], []⟩, int1 30] := by
  unfold turnV
  rw [List.length_map, decide_eq_true (show (64 : Int) ≤ (t.rows.length : Nat) by omega)]; rfl
theorem turnV_yes {t : Tb} (h : t.rows.length < 64) : turnV t = .tup [tab (turnT t), int1 0] := by
  unfold turnV
  rw [List.length_map, decide_eq_false (show ¬ (64 : Int) ≤ (t.rows.length : Nat) by omega)]; rfl
attribute [local irreducible] fitB turnT
end Go.Proofs.YtlchjjchgebfiaaGreatDoor
