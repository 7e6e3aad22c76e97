/- The document's Number. -/
import Derived.Test.YtlchjjchgebfiaaGreatDoorPkM
import Derived.Test.YtlchjjchgebfiaaGreatDoorPkA
import Derived.Test.YtlchjjchgebfiaaGreatDoorPkK
import Derived.Test.YtlchjjchgebfiaaGreatDoorPkX
import Derived.Lib.ItoaMem
import Derived.Lib.ParseIntBCases

namespace Go.Proofs.YtlchjjchgebfiaaGreatDoor
open Go.RowKit Go.Dl
attribute [local irreducible] Tri SCall TSem ECall Drawn DFun QSem PSem PCall GCall MCall Round Weak dloadE OW DWl Tells IntKind.wrap Retold ESem
def negB (s : ByteArray) : Bool := bif decide ((0 : Int) < (s.size : Int)) then byteAt s (Int.toNat 0) == 45 else false
def digB (s : ByteArray) : ByteArray := bif negB s then s.extract 1 s.size else s
def isD (c : UInt8) : Bool := decide (48 ≤ c.toNat) && decide (c.toNat ≤ 57)
def valL (x : Nat) : List UInt8 → Nat
  | [] => x
  | c :: r => valL (x * 10 + (c.toNat - 48)) r
theorem valL_app (x : Nat) (l r : List UInt8) : valL x (l ++ r) = valL (valL x l) r := by
  induction l generalizing x with
  | nil => rfl
  | cons c l ih => exact ih _
theorem valL_lt {l : List UInt8} (h : ∀ c ∈ l, isD c = true) : ∀ {x : Nat} {m : Nat}, x < 10 ^ m → valL x l < 10 ^ (m + l.length) := by
  induction l with
  | nil => intro x m hx; exact hx
  | cons c l ih =>
    intro x m hx
    have hc := h c (List.mem_cons_self ..)
    unfold isD at hc
    rw [Bool.and_eq_true, decide_eq_true_eq, decide_eq_true_eq] at hc
    have h1 : x * 10 + (c.toNat - 48) < 10 ^ (m + 1) := by rw [Nat.pow_succ]; omega
    have := ih (fun y hy => h y (List.mem_cons_of_mem _ hy)) h1
    rw [List.length_cons]
    rw [show m + (l.length + 1) = m + 1 + l.length by omega]
    exact this
/-- What is not a number by its form. -/
def badF (s : ByteArray) : Bool := bif bif digB s == emB then true else decide ((19 : Int) < ((digB s).size : Int)) then true else bif byteAt (digB s) (Int.toNat 0) == 48 then (bif decide ((1 : Int) < ((digB s).size : Int)) then true else negB s) else false
def numD (s : ByteArray) : Int × Bool :=
  bif badF s then (0, false)
  else bif !(digB s).data.toList.all isD then (0, false)
  else bif negB s then (IntKind.i64.wrap (0 - IntKind.i64.wrap (valL 0 (digB s).data.toList : Nat)), decide ((valL 0 (digB s).data.toList : Nat) ≤ (9223372036854775808 : Int)))
  else (IntKind.i64.wrap (valL 0 (digB s).data.toList : Nat), decide (((valL 0 (digB s).data.toList : Nat) : Int) < 9223372036854775808))
def nSt (s : ByteArray) (i : Nat) : St := ⟨0, tmOf [(0, strV s), (2, int1 0), (3, bl false), (4, strV (digB s)), (5, bl (negB s)), (6, .v (.int .u64 (valL 0 ((digB s).data.toList.take i) : Nat))), (7, int1 i)], .of [] 0⟩
structure NOk (s : ByteArray) (i : Nat) : Prop where
  at_ : i ≤ (digB s).size
  dig : ∀ k, k < i → k < (digB s).data.toList.length → isD ((digB s).data.toList.getD k 0) = true
theorem dig_t {s : ByteArray} (h : (bif decide ((0 : Int) < (s.size : Int)) then byteAt s (Int.toNat 0) == 45 else false) = true) : s.extract (Int.toNat 1) (s.size : Int).toNat = digB s := by
  unfold digB
  rw [show negB s = true from h]; rfl
theorem dig_f {s : ByteArray} (h : (bif decide ((0 : Int) < (s.size : Int)) then byteAt s (Int.toNat 0) == 45 else false) = false) : s = digB s := by
  unfold digB
  rw [show negB s = false from h]; rfl
theorem bad_of {s d : ByteArray} {b : Bool} (hd : d = digB s) (h : (bif bif d == ⟨#[]⟩ then true else decide ((19 : Int) < (d.size : Int)) then true else bif byteAt d (Int.toNat 0) == 48 then (bif decide ((1 : Int) < (d.size : Int)) then true else (bif decide ((0 : Int) < (s.size : Int)) then byteAt s (Int.toNat 0) == 45 else false)) else false) = b) : badF s = b := by
  subst hd
  exact h
theorem num_bad {s : ByteArray} (h : badF s = true) : numD s = (0, false) := by rw [numD, h]; rfl
theorem dig_pos {d : ByteArray} (h : ((bif d == ⟨#[]⟩ then true else decide ((19 : Int) < (d.size : Int))) == false) = true) : (0 : Int) < (d.size : Int) := by
  rcases Nat.eq_zero_or_pos d.size with h1 | h1
  · have e : d = ⟨#[]⟩ := by
      apply ByteArray.ext
      exact Array.eq_empty_of_size_eq_zero h1
    subst e
    rw [show ((⟨#[]⟩ : ByteArray) == ⟨#[]⟩) = true from rfl] at h
    cases h
  · omega
theorem bad_19 {s : ByteArray} (h : badF s = false) : (digB s).size ≤ 19 := by
  unfold badF at h
  cases h1 : digB s == emB with
  | true => rw [h1] at h; cases h
  | false =>
    cases h2 : decide ((19 : Int) < ((digB s).size : Int)) with
    | true => rw [h1, h2] at h; cases h
    | false => have := of_decide_eq_false h2; omega
theorem n_start (s : ByteArray) : NOk s 0 := ⟨Nat.zero_le _, fun k hk => by omega⟩
theorem isD_of {s : ByteArray} {i : Nat} (h : (bif decide (byteAt s (i : Int).toNat < 48) then true else decide (57 < byteAt s (i : Int).toNat)) = false) : isD (s.data.toList.getD i 0) = true ∧ 48 ≤ byteAt s i ∧ byteAt s i ≤ 57 := by
  rw [Int.toNat_natCast] at h
  cases h1 : decide (byteAt s i < 48) with
  | true => rw [h1] at h; cases h
  | false =>
    rw [h1] at h
    have h2 := of_decide_eq_false h1
    have h3 := of_decide_eq_false (show decide (57 < byteAt s i) = false from h)
    refine ⟨?_, by omega, by omega⟩
    unfold byteAt at h2 h3
    unfold isD
    rw [decide_eq_true (by omega), decide_eq_true (by omega)]; rfl
theorem isD_no {s : ByteArray} {i : Nat} (h : (bif decide (byteAt s (i : Int).toNat < 48) then true else decide (57 < byteAt s (i : Int).toNat)) = true) : isD (s.data.toList.getD i 0) = false := by
  rw [Int.toNat_natCast] at h
  unfold isD
  cases h1 : decide (byteAt s i < 48) with
  | true =>
    have h2 := of_decide_eq_true h1
    unfold byteAt at h2
    rw [decide_eq_false (by omega)]; rfl
  | false =>
    rw [h1] at h
    have h3 := of_decide_eq_true (show decide (57 < byteAt s i) = true from h)
    unfold byteAt at h3
    rw [decide_eq_false (p := (s.data.toList.getD i 0).toNat ≤ 57) (by omega), Bool.and_false]
theorem num_no {s : ByteArray} {i : Nat} (hb : badF s = false) (hi : i < (digB s).size) (h : (bif decide (byteAt (digB s) (i : Int).toNat < 48) then true else decide (57 < byteAt (digB s) (i : Int).toNat)) = true) : numD s = (0, false) := by
  rw [numD, hb, all_no (d := 0) (by rw [sz_len]; exact hi) (isD_no h)]; rfl
theorem n_next {s : ByteArray} {i : Nat} (hk : NOk s i) (hi : i < (digB s).size) (h : (bif decide (byteAt (digB s) (i : Int).toNat < 48) then true else decide (57 < byteAt (digB s) (i : Int).toNat)) = false) : NOk s (i + 1) :=
  ⟨hi, all_next hk.dig (isD_of h).1⟩
theorem val_lt {s : ByteArray} {i : Nat} (hk : NOk s i) : valL 0 ((digB s).data.toList.take i) < 10 ^ i := by
  have hl : ((digB s).data.toList.take i).length = i := by rw [List.length_take, sz_len]; have := hk.at_; omega
  have := valL_lt (l := (digB s).data.toList.take i) (fun c hc => by
    obtain ⟨k, hk1, rfl⟩ := List.getElem_of_mem hc
    rw [hl] at hk1
    have h2 : k < (digB s).data.toList.length := by rw [sz_len]; have := hk.at_; omega
    have := hk.dig k hk1 h2
    rw [List.getElem_take]
    rw [getD_lt h2] at this
    exact this) (x := 0) (m := 0) (by decide)
  rw [hl, Nat.zero_add] at this
  exact this
theorem pow_le {i : Nat} (h : i ≤ 18) : 10 ^ i ≤ 1000000000000000000 := by
  have := Nat.pow_le_pow_right (n := 10) (by decide) h
  exact this
theorem val_step {s : ByteArray} {i : Nat} (hb : badF s = false) (hk : NOk s i) (hi : i < (digB s).size) (h : (bif decide (byteAt (digB s) (i : Int).toNat < 48) then true else decide (57 < byteAt (digB s) (i : Int).toNat)) = false) : IntKind.u64.wrap (IntKind.u64.wrap (((valL 0 ((digB s).data.toList.take i) : Nat) : Int) * 10) + IntKind.u64.wrap (IntKind.u8.wrap (byteAt (digB s) (i : Int).toNat - 48))) = ((valL 0 ((digB s).data.toList.take (i + 1)) : Nat) : Int) := by
  obtain ⟨_, h1, h2⟩ := isD_of h
  have h3 := val_lt hk
  have h4 := pow_le (i := i) (by have := bad_19 hb; omega)
  rw [Int.toNat_natCast]
  have e : ((valL 0 ((digB s).data.toList.take (i + 1)) : Nat) : Int) = ((valL 0 ((digB s).data.toList.take i) : Nat) : Int) * 10 + (byteAt (digB s) i - 48) := by
    rw [take_at hi, valL_app]
    unfold byteAt at h1 ⊢
    show ((valL 0 ((digB s).data.toList.take i) * 10 + (((digB s).data.toList.getD i 0).toNat - 48) : Nat) : Int) = _
    omega
  rw [e]
  generalize valL 0 ((digB s).data.toList.take i) = x at h3
  rw [IntKind.wrap_u8, IntKind.wrap_u64, IntKind.wrap_u64, IntKind.wrap_u64]
  omega
theorem n_all {s : ByteArray} {i : Nat} (hk : NOk s i) (hge : (digB s).size ≤ i) : (digB s).data.toList.all isD = true ∧ (digB s).data.toList.take i = (digB s).data.toList :=
  ⟨all_end hk.dig (by rw [sz_len]; exact hge), List.take_of_length_le (by rw [sz_len]; exact hge)⟩
theorem num_t {s : ByteArray} {i : Nat} (hb : badF s = false) (hk : NOk s i) (hge : (digB s).size ≤ i) (hn : negB s = true) : numD s = (IntKind.i64.wrap (0 - IntKind.i64.wrap (valL 0 ((digB s).data.toList.take i) : Nat)), decide ((valL 0 ((digB s).data.toList.take i) : Nat) ≤ (9223372036854775808 : Int))) := by
  obtain ⟨h1, h2⟩ := n_all hk hge
  rw [numD, hb, h1, h2, hn]; rfl
theorem num_f {s : ByteArray} {i : Nat} (hb : badF s = false) (hk : NOk s i) (hge : (digB s).size ≤ i) (hn : negB s = false) : numD s = (IntKind.i64.wrap (valL 0 ((digB s).data.toList.take i) : Nat), decide (((valL 0 ((digB s).data.toList.take i) : Nat) : Int) < 9223372036854775808)) := by
  obtain ⟨h1, h2⟩ := n_all hk hge
  rw [numD, hb, h1, h2, hn]; rfl
theorem neg_raw (s : ByteArray) : (bif decide ((0 : Int) < (s.size : Int)) then byteAt s (Int.toNat 0) == 45 else false) = negB s := rfl
def numV (s : ByteArray) : DV := .tup [int1 (numD s).1, bl (numD s).2]
theorem numV_of {s : ByteArray} {x : Int} {b : Bool} (h : numD s = (x, b)) : numV s = .tup [int1 x, bl b] := by rw [numV, h]
end Go.Proofs.YtlchjjchgebfiaaGreatDoor

/- The document's Number: the walk. -/
namespace Go.Proofs.YtlchjjchgebfiaaGreatDoor
open Go.RowKit Go.Dl
attribute [local irreducible] Tri SCall TSem ECall Drawn DFun QSem PSem PCall GCall MCall Round Weak dloadE OW DWl Tells IntKind.wrap Retold ESem
theorem val_0 (s : ByteArray) : (0 : Int) = ((valL 0 ((digB s).data.toList.take 0) : Nat) : Int) := rfl
attribute [local irreducible] byteAt digB negB valL numD
set_option maxRecDepth 20000 in
set_option maxHeartbeats 16000000 in
set_option pp.maxSteps 800 in
theorem number25_D (s : ByteArray) (hs : s.size ≤ 1024) : DPure Tryz.prog 25 [strV s] (numV s) := by
  refine DFun.data (DFun.body Tryz.func25 rfl (by kernel_rfl) ?_)
  repeat' (first | with_reducible rfl | ((conv => whnf); first | refine And.intro ?_ ?_ | (intro h; first | with_reducible exact tf_no h | with_reducible exact ft_no h | exact Bool.noConfusion h | with_reducible exact h | (have ht : true = true := h; clear ht h) | skip) | ((with_reducible refine DWl.mark ?_); repeat' (first | refine DWl.cons ?_ ?_ | exact DWl.nil | exact DW.same _ rfl | exact DW.ref _ _ _ rfl | exact DW.arr _ _ _ rfl | exact DW.sub _ _ _ _ rfl | exact DW.nilLst _ | refine DW.aggl ?_ | refine DW.tupl ?_ | refine DW.clol ?_ ?_ | refine DW.int ?_ | refine DW.bool ?_ | refine DW.str ?_)) | ((with_reducible refine ECall.mark ?_); first | refine ECall.only ?_ (fun h => nomatch h) | refine ECall.only ?_ ?_) | ((with_reducible refine Drawn.mark ?_); first | refine Drawn.quiet (by kernel_rfl) ?_) | refine dcell_ok rfl ?_ | refine AppC.new ?_))
  all_goals first | (with_reducible refine enters_mark ?_; kernel_rfl) | (with_reducible refine boolT_mark ?_; kernel_rfl) | rfl | trivial | assumption | exact Nat.le_of_ble_eq_true rfl | (show entersB _ _ = true; kernel_rfl) | exact DW.same _ rfl | exact DW.ref _ _ _ rfl | exact DW.arr _ _ _ rfl | refine DW.int ?_ | refine dvb ?_ | refine dvi ?_ | exact OW.cells rfl rfl (DWl.same rfl) | exact Nat.zero_le _ | omega | skip
  all_goals repeat' (first | refine OW.cells rfl rfl ?_ | exact DW.nilArr _ rfl | refine DWl.cons ?_ ?_ | exact DWl.nil | exact DW.same _ rfl | exact DW.ref _ _ _ rfl | exact DW.arr _ _ _ rfl | exact DW.sub _ _ _ _ rfl | exact DW.nilLst _ | refine DW.aggl ?_ | refine DW.tupl ?_ | refine DW.clol ?_ ?_)
  all_goals try ((conv => whnf); with_reducible first | refine Round.mark ?_ | refine Tells.mark ?_ | refine Retold.mark ?_)
  all_goals try first | (show (_ : Bool) = _; simp_all; done) | (show (_ : Int) < _; simp at *; omega) | (show (_ : Int) ≤ _; simp at *; omega) | (show (_ : Nat) < _; simp at *; omega) | (show (_ : Nat) ≤ _; simp at *; omega)
  · exact dig_pos h
  · rename_i hn
    conv => whnf
    exact Tells.of (r1 := .tup [int1 0, bl false]) (numV_of (num_bad (bad_of (dig_t hn) h))) (Tells.mk (DW.tupl (DWl.cons (DW.int rfl) (DWl.cons (DW.bool rfl) DWl.nil))))
  · rename_i hn
    have hd := dig_t hn
    have hb := bad_of hd h
    conv => whnf
    refine Tri.loop (nSt s) (NOk s) (fun i => (digB s).size - i) 0 (by kernel_rfl) (Weak.list [] [] (by kernel_rfl) ?_ ?_) (n_start s) ?_
    · repeat' (first | exact hd | exact neg_raw s | exact val_0 s | exact DW.same _ rfl | exact DW.ref _ _ _ rfl | exact DW.arr _ _ _ rfl | exact OW.cells rfl rfl (DWl.same rfl) | refine OW.cells rfl rfl ?_ | refine DWl.cons ?_ ?_ | exact DWl.nil | exact DW.nilArr _ rfl | exact DW.nilLst _ | refine DW.clol ?_ ?_ | refine DW.aggl ?_ | refine DW.tupl ?_ | refine DW.int ?_ | refine DW.bool ?_ | refine DW.str ?_ | refine DW.arrE rfl ?_ | ((conv => whnf); first | refine And.intro ?_ ?_ | trivial))
    · repeat' (first | exact hd | exact neg_raw s | exact val_0 s | exact DW.same _ rfl | exact DW.ref _ _ _ rfl | exact DW.arr _ _ _ rfl | exact OW.cells rfl rfl (DWl.same rfl) | refine OW.cells rfl rfl ?_ | refine DWl.cons ?_ ?_ | exact DWl.nil | exact DW.nilArr _ rfl | exact DW.nilLst _ | refine DW.clol ?_ ?_ | refine DW.aggl ?_ | refine DW.tupl ?_ | refine DW.int ?_ | refine DW.bool ?_ | refine DW.str ?_ | refine DW.arrE rfl ?_ | ((conv => whnf); first | refine And.intro ?_ ?_ | trivial))
    intro i hi
    show dcode _ _ _ _ (nSt s i) _
    repeat' (first | with_reducible rfl | ((conv => whnf); first | refine And.intro ?_ ?_ | (intro h; first | with_reducible exact tf_no h | with_reducible exact ft_no h | exact Bool.noConfusion h | with_reducible exact h | (have ht : true = true := h; clear ht h) | skip) | ((with_reducible refine DWl.mark ?_); repeat' (first | refine DWl.cons ?_ ?_ | exact DWl.nil | exact DW.same _ rfl | exact DW.ref _ _ _ rfl | exact DW.arr _ _ _ rfl | exact DW.sub _ _ _ _ rfl | exact DW.nilLst _ | refine DW.aggl ?_ | refine DW.tupl ?_ | refine DW.clol ?_ ?_ | refine DW.int ?_ | refine DW.bool ?_ | refine DW.str ?_)) | ((with_reducible refine ECall.mark ?_); first | refine ECall.only ?_ (fun h => nomatch h) | refine ECall.only ?_ ?_) | ((with_reducible refine Drawn.mark ?_); first | refine Drawn.quiet (by kernel_rfl) ?_) | refine dcell_ok rfl ?_ | refine AppC.new ?_))
    all_goals try ((conv => whnf); with_reducible refine Round.mark ?_)
    all_goals try first | ((with_reducible show Option.isSome (slElem _ _) = true); kernel_rfl) | ((with_reducible show slElem _ _ = some _); kernel_rfl) | ((with_reducible refine enters_mark ?_); kernel_rfl) | (with_reducible assumption) | ((with_reducible show List.all _ DV.one = true); rfl) | ((with_reducible show (_ : Nat) = _); rfl) | ((with_reducible show (_ == true) = true); simpa using h) | ((with_reducible show (_ : Nat) ≤ _); exact Nat.le_of_ble_eq_true rfl) | ((with_reducible show (_ : Int) ≤ _); first | omega | decide) | ((with_reducible show (_ : Int) < _); first | omega | decide) | ((with_reducible show (_ : Nat) < _); omega) | ((with_reducible show (_ : Nat) ≤ _); omega)
    all_goals try (first | (rfl; done) | (exact of_decide_eq_true (by assumption); done) | ((with_reducible show isKnown _ _ = true); kernel_rfl) | ((with_reducible show (_ == false) = true); simpa using h))
    · rename_i e0
      have hlt := lt_int e0
      conv => whnf
      exact Tells.of (r1 := .tup [int1 0, bl false]) (numV_of (num_no hb hlt h)) (Tells.mk (DW.tupl (DWl.cons (DW.int rfl) (DWl.cons (DW.bool rfl) DWl.nil))))
    · rename_i e0
      have hlt := lt_int e0
      have h19 := bad_19 hb
      refine Round.go (fun _ => i + 1) (n_next hi hlt h) (by show (digB s).size - (i + 1) < (digB s).size - i; omega) (Weak.list [] [] (by kernel_rfl) ?_ ?_)
      · repeat' (first | exact wsucc hlt (by omega) | exact val_step hb hi hlt h | exact DW.same _ rfl | exact DW.ref _ _ _ rfl | exact DW.arr _ _ _ rfl | exact OW.cells rfl rfl (DWl.same rfl) | refine OW.cells rfl rfl ?_ | refine DWl.cons ?_ ?_ | exact DWl.nil | exact DW.nilArr _ rfl | exact DW.nilLst _ | refine DW.clol ?_ ?_ | refine DW.aggl ?_ | refine DW.tupl ?_ | refine DW.int ?_ | refine DW.bool ?_ | refine DW.str ?_ | refine DW.arrE rfl ?_ | ((conv => whnf); first | refine And.intro ?_ ?_ | trivial))
      · repeat' (first | exact wsucc hlt (by omega) | exact val_step hb hi hlt h | exact DW.same _ rfl | exact DW.ref _ _ _ rfl | exact DW.arr _ _ _ rfl | exact OW.cells rfl rfl (DWl.same rfl) | refine OW.cells rfl rfl ?_ | refine DWl.cons ?_ ?_ | exact DWl.nil | exact DW.nilArr _ rfl | exact DW.nilLst _ | refine DW.clol ?_ ?_ | refine DW.aggl ?_ | refine DW.tupl ?_ | refine DW.int ?_ | refine DW.bool ?_ | refine DW.str ?_ | refine DW.arrE rfl ?_ | ((conv => whnf); first | refine And.intro ?_ ?_ | trivial))
    · rename_i e0
      repeat' (first | with_reducible rfl | ((conv => whnf); first | refine And.intro ?_ ?_ | (intro h; first | with_reducible exact tf_no h | with_reducible exact ft_no h | exact Bool.noConfusion h | with_reducible exact h | (have ht : true = true := h; clear ht h) | skip) | ((with_reducible refine DWl.mark ?_); repeat' (first | refine DWl.cons ?_ ?_ | exact DWl.nil | exact DW.same _ rfl | exact DW.ref _ _ _ rfl | exact DW.arr _ _ _ rfl | exact DW.sub _ _ _ _ rfl | exact DW.nilLst _ | refine DW.aggl ?_ | refine DW.tupl ?_ | refine DW.clol ?_ ?_ | refine DW.int ?_ | refine DW.bool ?_ | refine DW.str ?_)) | ((with_reducible refine ECall.mark ?_); first | refine ECall.only ?_ (fun h => nomatch h) | refine ECall.only ?_ ?_) | ((with_reducible refine Drawn.mark ?_); first | refine Drawn.quiet (by kernel_rfl) ?_) | refine dcell_ok rfl ?_ | refine AppC.new ?_))
      conv => whnf
      exact Tells.of (numV_of (num_t hb hi (ge_int e0) h)) (Tells.mk (DW.tupl (DWl.cons (DW.int rfl) (DWl.cons (DW.bool rfl) DWl.nil))))
    · rename_i e0
      repeat' (first | with_reducible rfl | ((conv => whnf); first | refine And.intro ?_ ?_ | (intro h; first | with_reducible exact tf_no h | with_reducible exact ft_no h | exact Bool.noConfusion h | with_reducible exact h | (have ht : true = true := h; clear ht h) | skip) | ((with_reducible refine DWl.mark ?_); repeat' (first | refine DWl.cons ?_ ?_ | exact DWl.nil | exact DW.same _ rfl | exact DW.ref _ _ _ rfl | exact DW.arr _ _ _ rfl | exact DW.sub _ _ _ _ rfl | exact DW.nilLst _ | refine DW.aggl ?_ | refine DW.tupl ?_ | refine DW.clol ?_ ?_ | refine DW.int ?_ | refine DW.bool ?_ | refine DW.str ?_)) | ((with_reducible refine ECall.mark ?_); first | refine ECall.only ?_ (fun h => nomatch h) | refine ECall.only ?_ ?_) | ((with_reducible refine Drawn.mark ?_); first | refine Drawn.quiet (by kernel_rfl) ?_) | refine dcell_ok rfl ?_ | refine AppC.new ?_))
      conv => whnf
      exact Tells.of (numV_of (num_f hb hi (ge_int e0) h)) (Tells.mk (DW.tupl (DWl.cons (DW.int rfl) (DWl.cons (DW.bool rfl) DWl.nil))))
  · exact dig_pos h
  · rename_i hn
    conv => whnf
    exact Tells.of (r1 := .tup [int1 0, bl false]) (numV_of (num_bad (bad_of (dig_f hn) h))) (Tells.mk (DW.tupl (DWl.cons (DW.int rfl) (DWl.cons (DW.bool rfl) DWl.nil))))
  · rename_i hn
    have hd := dig_f hn
    have hb := bad_of hd h
    conv => whnf
    refine Tri.loop (nSt s) (NOk s) (fun i => (digB s).size - i) 0 (by kernel_rfl) (Weak.list [] [] (by kernel_rfl) ?_ ?_) (n_start s) ?_
    · repeat' (first | exact hd | exact neg_raw s | exact val_0 s | exact DW.same _ rfl | exact DW.ref _ _ _ rfl | exact DW.arr _ _ _ rfl | exact OW.cells rfl rfl (DWl.same rfl) | refine OW.cells rfl rfl ?_ | refine DWl.cons ?_ ?_ | exact DWl.nil | exact DW.nilArr _ rfl | exact DW.nilLst _ | refine DW.clol ?_ ?_ | refine DW.aggl ?_ | refine DW.tupl ?_ | refine DW.int ?_ | refine DW.bool ?_ | refine DW.str ?_ | refine DW.arrE rfl ?_ | ((conv => whnf); first | refine And.intro ?_ ?_ | trivial))
    · repeat' (first | exact hd | exact neg_raw s | exact val_0 s | exact DW.same _ rfl | exact DW.ref _ _ _ rfl | exact DW.arr _ _ _ rfl | exact OW.cells rfl rfl (DWl.same rfl) | refine OW.cells rfl rfl ?_ | refine DWl.cons ?_ ?_ | exact DWl.nil | exact DW.nilArr _ rfl | exact DW.nilLst _ | refine DW.clol ?_ ?_ | refine DW.aggl ?_ | refine DW.tupl ?_ | refine DW.int ?_ | refine DW.bool ?_ | refine DW.str ?_ | refine DW.arrE rfl ?_ | ((conv => whnf); first | refine And.intro ?_ ?_ | trivial))
    intro i hi
    show dcode _ _ _ _ (nSt s i) _
    repeat' (first | with_reducible rfl | ((conv => whnf); first | refine And.intro ?_ ?_ | (intro h; first | with_reducible exact tf_no h | with_reducible exact ft_no h | exact Bool.noConfusion h | with_reducible exact h | (have ht : true = true := h; clear ht h) | skip) | ((with_reducible refine DWl.mark ?_); repeat' (first | refine DWl.cons ?_ ?_ | exact DWl.nil | exact DW.same _ rfl | exact DW.ref _ _ _ rfl | exact DW.arr _ _ _ rfl | exact DW.sub _ _ _ _ rfl | exact DW.nilLst _ | refine DW.aggl ?_ | refine DW.tupl ?_ | refine DW.clol ?_ ?_ | refine DW.int ?_ | refine DW.bool ?_ | refine DW.str ?_)) | ((with_reducible refine ECall.mark ?_); first | refine ECall.only ?_ (fun h => nomatch h) | refine ECall.only ?_ ?_) | ((with_reducible refine Drawn.mark ?_); first | refine Drawn.quiet (by kernel_rfl) ?_) | refine dcell_ok rfl ?_ | refine AppC.new ?_))
    all_goals try ((conv => whnf); with_reducible refine Round.mark ?_)
    all_goals try first | ((with_reducible show Option.isSome (slElem _ _) = true); kernel_rfl) | ((with_reducible show slElem _ _ = some _); kernel_rfl) | ((with_reducible refine enters_mark ?_); kernel_rfl) | (with_reducible assumption) | ((with_reducible show List.all _ DV.one = true); rfl) | ((with_reducible show (_ : Nat) = _); rfl) | ((with_reducible show (_ == true) = true); simpa using h) | ((with_reducible show (_ : Nat) ≤ _); exact Nat.le_of_ble_eq_true rfl) | ((with_reducible show (_ : Int) ≤ _); first | omega | decide) | ((with_reducible show (_ : Int) < _); first | omega | decide) | ((with_reducible show (_ : Nat) < _); omega) | ((with_reducible show (_ : Nat) ≤ _); omega)
    all_goals try (first | (rfl; done) | (exact of_decide_eq_true (by assumption); done) | ((with_reducible show isKnown _ _ = true); kernel_rfl) | ((with_reducible show (_ == false) = true); simpa using h))
    · rename_i e0
      have hlt := lt_int e0
      conv => whnf
      exact Tells.of (r1 := .tup [int1 0, bl false]) (numV_of (num_no hb hlt h)) (Tells.mk (DW.tupl (DWl.cons (DW.int rfl) (DWl.cons (DW.bool rfl) DWl.nil))))
    · rename_i e0
      have hlt := lt_int e0
      have h19 := bad_19 hb
      refine Round.go (fun _ => i + 1) (n_next hi hlt h) (by show (digB s).size - (i + 1) < (digB s).size - i; omega) (Weak.list [] [] (by kernel_rfl) ?_ ?_)
      · repeat' (first | exact wsucc hlt (by omega) | exact val_step hb hi hlt h | exact DW.same _ rfl | exact DW.ref _ _ _ rfl | exact DW.arr _ _ _ rfl | exact OW.cells rfl rfl (DWl.same rfl) | refine OW.cells rfl rfl ?_ | refine DWl.cons ?_ ?_ | exact DWl.nil | exact DW.nilArr _ rfl | exact DW.nilLst _ | refine DW.clol ?_ ?_ | refine DW.aggl ?_ | refine DW.tupl ?_ | refine DW.int ?_ | refine DW.bool ?_ | refine DW.str ?_ | refine DW.arrE rfl ?_ | ((conv => whnf); first | refine And.intro ?_ ?_ | trivial))
      · repeat' (first | exact wsucc hlt (by omega) | exact val_step hb hi hlt h | exact DW.same _ rfl | exact DW.ref _ _ _ rfl | exact DW.arr _ _ _ rfl | exact OW.cells rfl rfl (DWl.same rfl) | refine OW.cells rfl rfl ?_ | refine DWl.cons ?_ ?_ | exact DWl.nil | exact DW.nilArr _ rfl | exact DW.nilLst _ | refine DW.clol ?_ ?_ | refine DW.aggl ?_ | refine DW.tupl ?_ | refine DW.int ?_ | refine DW.bool ?_ | refine DW.str ?_ | refine DW.arrE rfl ?_ | ((conv => whnf); first | refine And.intro ?_ ?_ | trivial))
    · rename_i e0
      repeat' (first | with_reducible rfl | ((conv => whnf); first | refine And.intro ?_ ?_ | (intro h; first | with_reducible exact tf_no h | with_reducible exact ft_no h | exact Bool.noConfusion h | with_reducible exact h | (have ht : true = true := h; clear ht h) | skip) | ((with_reducible refine DWl.mark ?_); repeat' (first | refine DWl.cons ?_ ?_ | exact DWl.nil | exact DW.same _ rfl | exact DW.ref _ _ _ rfl | exact DW.arr _ _ _ rfl | exact DW.sub _ _ _ _ rfl | exact DW.nilLst _ | refine DW.aggl ?_ | refine DW.tupl ?_ | refine DW.clol ?_ ?_ | refine DW.int ?_ | refine DW.bool ?_ | refine DW.str ?_)) | ((with_reducible refine ECall.mark ?_); first | refine ECall.only ?_ (fun h => nomatch h) | refine ECall.only ?_ ?_) | ((with_reducible refine Drawn.mark ?_); first | refine Drawn.quiet (by kernel_rfl) ?_) | refine dcell_ok rfl ?_ | refine AppC.new ?_))
      conv => whnf
      exact Tells.of (numV_of (num_t hb hi (ge_int e0) h)) (Tells.mk (DW.tupl (DWl.cons (DW.int rfl) (DWl.cons (DW.bool rfl) DWl.nil))))
    · rename_i e0
      repeat' (first | with_reducible rfl | ((conv => whnf); first | refine And.intro ?_ ?_ | (intro h; first | with_reducible exact tf_no h | with_reducible exact ft_no h | exact Bool.noConfusion h | with_reducible exact h | (have ht : true = true := h; clear ht h) | skip) | ((with_reducible refine DWl.mark ?_); repeat' (first | refine DWl.cons ?_ ?_ | exact DWl.nil | exact DW.same _ rfl | exact DW.ref _ _ _ rfl | exact DW.arr _ _ _ rfl | exact DW.sub _ _ _ _ rfl | exact DW.nilLst _ | refine DW.aggl ?_ | refine DW.tupl ?_ | refine DW.clol ?_ ?_ | refine DW.int ?_ | refine DW.bool ?_ | refine DW.str ?_)) | ((with_reducible refine ECall.mark ?_); first | refine ECall.only ?_ (fun h => nomatch h) | refine ECall.only ?_ ?_) | ((with_reducible refine Drawn.mark ?_); first | refine Drawn.quiet (by kernel_rfl) ?_) | refine dcell_ok rfl ?_ | refine AppC.new ?_))
      conv => whnf
      exact Tells.of (numV_of (num_f hb hi (ge_int e0) h)) (Tells.mk (DW.tupl (DWl.cons (DW.int rfl) (DWl.cons (DW.bool rfl) DWl.nil))))
end Go.Proofs.YtlchjjchgebfiaaGreatDoor

/- Draw, as the document draws: blanks at the end. -/
namespace Go.Proofs.YtlchjjchgebfiaaGreatDoor
open Go.RowKit Go.Dl
attribute [local irreducible] Tri SCall TSem ECall Drawn DFun QSem PSem PCall GCall MCall Round Weak dloadE OW DWl Tells IntKind.wrap Retold ESem
structure TrOk (s : ByteArray) (i : Nat) : Prop where
  at_ : i ≤ s.size
  sp : ∀ (j : Nat) b, i ≤ j → s.data.toList[j]? = some b → b = 32
def trSt (s : ByteArray) (i : Nat) : St := ⟨0, tmOf [(0, strV s), (2, strV emB), (3, int1 i)], .of [] 0⟩
theorem tr_start (s : ByteArray) : TrOk s s.size := ⟨Nat.le_refl _, fun j b hj hb => by
  have := (List.getElem?_eq_some_iff.1 hb).1
  rw [sz_len] at this; omega⟩
theorem w_sub {i n : Nat} (h : 0 < i) (h1 : i ≤ n) (hn : n ≤ 9223372036854775807) : IntKind.i64.wrap ((i : Int) - 1) = ((i - 1 : Nat) : Int) := by
  rw [wrapI (by omega) (by omega)]; omega
theorem byte_get {s : ByteArray} {i : Nat} {b : UInt8} (h : s.data.toList[i]? = some b) : s.data.toList.getD i 0 = b := by
  rw [List.getD_eq_getElem?_getD, h]; rfl
theorem at_32 {s : ByteArray} {i : Nat} (h : (byteAt s i == 32) = true) : s.data.toList.getD i 0 = 32 := by
  rw [show (byteAt s i == 32) = (s.data.toList.getD i 0 == UInt8.ofNat 32) from u8_int _ 32 (by decide)] at h
  exact eq_of_beq h
theorem ne_32 {s : ByteArray} {i : Nat} (h : (byteAt s i == 32) = false) : s.data.toList.getD i 0 ≠ 32 := by
  rw [show (byteAt s i == 32) = (s.data.toList.getD i 0 == UInt8.ofNat 32) from u8_int _ 32 (by decide)] at h
  exact fun e => by rw [e] at h; cases h
theorem tr_step {s : ByteArray} {i : Nat} (hi : TrOk s i) (h0 : 0 < i) (h : (byteAt s (i - 1) == 32) = true) : TrOk s (i - 1) :=
  ⟨by have := hi.at_; omega, fun j b hj hb => by
    rcases Nat.lt_or_ge j i with h1 | h1
    · obtain rfl : j = i - 1 := by omega
      rw [← byte_get hb]; exact at_32 h
    · exact hi.sp j b h1 hb⟩
theorem tr_end {s : ByteArray} {i : Nat} (hi : TrOk s i) (h : 0 < i → (byteAt s (i - 1) == 32) = false) : s.extract 0 i = trimB s := by
  rw [trimB, Lib.trimRightB_take s.data.toList 32 i (by rw [sz_len]; exact hi.at_) hi.sp fun b h0 hb => by rw [← byte_get hb]; exact ne_32 (h h0)]
  apply ByteArray.ext
  rw [ByteArray.data_extract]
  apply Array.ext'
  rw [Array.toList_extract, List.extract_eq_take_drop]
  show _ = (s.data.toList.take i)
  rw [Nat.sub_zero, List.drop_zero]
theorem tr_cond {s : ByteArray} {i : Nat} {b : Bool} (hs : s.size ≤ 1099511627776) (hi : TrOk s i) (h : (bif decide ((0 : Int) < (i : Int)) then byteAt s (IntKind.i64.wrap ((i : Int) - 1)).toNat == 32 else false) = b) (h0 : 0 < i) : (byteAt s (i - 1) == 32) = b := by
  rw [decide_eq_true (by omega), w_sub h0 hi.at_ (by omega), Int.toNat_natCast] at h
  exact h
theorem tr_pos {s : ByteArray} {i : Nat} (h : (bif decide ((0 : Int) < (i : Int)) then byteAt s (IntKind.i64.wrap ((i : Int) - 1)).toNat == 32 else false) = true) : 0 < i := by
  rcases Nat.eq_zero_or_pos i with h1 | h1
  · subst h1; cases h
  · exact h1
attribute [local irreducible] byteAt
set_option maxRecDepth 20000 in
set_option maxHeartbeats 1000000 in
set_option pp.maxSteps 800 in
theorem trimmed76_D (s : ByteArray) (hs : s.size ≤ 1099511627776) : DPure Tryz.prog 76 [strV s] (strV (trimB s)) := by
  refine DFun.body Tryz.func76 rfl (by kernel_rfl) ?_
  repeat' (first | with_reducible rfl | ((conv => whnf); first | refine And.intro ?_ ?_ | (intro h; first | with_reducible exact tf_no h | with_reducible exact ft_no h | exact Bool.noConfusion h | with_reducible exact h | (have ht : true = true := h; clear ht h) | skip) | ((with_reducible refine DWl.mark ?_); repeat' (first | refine DWl.cons ?_ ?_ | exact DWl.nil | exact DW.same _ rfl | exact DW.ref _ _ _ rfl | exact DW.arr _ _ _ rfl | exact DW.sub _ _ _ _ rfl | exact DW.nilLst _ | refine DW.aggl ?_ | refine DW.tupl ?_ | refine DW.clol ?_ ?_ | refine DW.int ?_ | refine DW.bool ?_ | refine DW.str ?_)) | ((with_reducible refine ECall.mark ?_); first | refine ECall.only ?_ (fun h => nomatch h) | refine ECall.only ?_ ?_) | ((with_reducible refine Drawn.mark ?_); first | refine Drawn.quiet (by kernel_rfl) ?_) | refine dcell_ok rfl ?_ | refine AppC.new ?_))
  all_goals first | (with_reducible refine enters_mark ?_; kernel_rfl) | (with_reducible refine boolT_mark ?_; kernel_rfl) | rfl | trivial | assumption | exact Nat.le_of_ble_eq_true rfl | (show entersB _ _ = true; kernel_rfl) | exact DW.same _ rfl | exact DW.ref _ _ _ rfl | exact DW.arr _ _ _ rfl | refine DW.int ?_ | refine dvb ?_ | refine dvi ?_ | exact OW.cells rfl rfl (DWl.same rfl) | exact Nat.zero_le _ | omega | skip
  all_goals repeat' (first | refine OW.cells rfl rfl ?_ | exact DW.nilArr _ rfl | refine DWl.cons ?_ ?_ | exact DWl.nil | exact DW.same _ rfl | exact DW.ref _ _ _ rfl | exact DW.arr _ _ _ rfl | exact DW.sub _ _ _ _ rfl | exact DW.nilLst _ | refine DW.aggl ?_ | refine DW.tupl ?_ | refine DW.clol ?_ ?_)
  all_goals try ((conv => whnf); with_reducible first | refine Round.mark ?_ | refine Tells.mark ?_ | refine Retold.mark ?_)
  all_goals try first | (show (_ : Bool) = _; simp_all; done) | (show (_ : Int) < _; simp at *; omega) | (show (_ : Int) ≤ _; simp at *; omega) | (show (_ : Nat) < _; simp at *; omega) | (show (_ : Nat) ≤ _; simp at *; omega)
  conv => whnf
  refine Tri.loop (trSt s) (TrOk s) (fun i => i) s.size (by kernel_rfl) (Weak.list [] [] (by kernel_rfl) ?_ ?_) (tr_start s) ?_
  · repeat' (first | rfl | exact DW.same _ rfl | exact DW.ref _ _ _ rfl | exact DW.arr _ _ _ rfl | exact OW.cells rfl rfl (DWl.same rfl) | refine OW.cells rfl rfl ?_ | refine DWl.cons ?_ ?_ | exact DWl.nil | exact DW.nilArr _ rfl | exact DW.nilLst _ | refine DW.clol ?_ ?_ | refine DW.aggl ?_ | refine DW.tupl ?_ | refine DW.int ?_ | refine DW.bool ?_ | refine DW.str ?_ | refine DW.arrE rfl ?_ | ((conv => whnf); first | refine And.intro ?_ ?_ | trivial))
  · repeat' (first | rfl | exact DW.same _ rfl | exact DW.ref _ _ _ rfl | exact DW.arr _ _ _ rfl | exact OW.cells rfl rfl (DWl.same rfl) | refine OW.cells rfl rfl ?_ | refine DWl.cons ?_ ?_ | exact DWl.nil | exact DW.nilArr _ rfl | exact DW.nilLst _ | refine DW.clol ?_ ?_ | refine DW.aggl ?_ | refine DW.tupl ?_ | refine DW.int ?_ | refine DW.bool ?_ | refine DW.str ?_ | refine DW.arrE rfl ?_ | ((conv => whnf); first | refine And.intro ?_ ?_ | trivial))
  intro i hi
  show dcode _ _ _ _ (trSt s i) _
  repeat' (first | with_reducible rfl | ((conv => whnf); first | refine And.intro ?_ ?_ | (intro h; first | with_reducible exact tf_no h | with_reducible exact ft_no h | exact Bool.noConfusion h | with_reducible exact h | (have ht : true = true := h; clear ht h) | skip) | ((with_reducible refine DWl.mark ?_); repeat' (first | refine DWl.cons ?_ ?_ | exact DWl.nil | exact DW.same _ rfl | exact DW.ref _ _ _ rfl | exact DW.arr _ _ _ rfl | exact DW.sub _ _ _ _ rfl | exact DW.nilLst _ | refine DW.aggl ?_ | refine DW.tupl ?_ | refine DW.clol ?_ ?_ | refine DW.int ?_ | refine DW.bool ?_ | refine DW.str ?_)) | ((with_reducible refine ECall.mark ?_); first | refine ECall.only ?_ (fun h => nomatch h) | refine ECall.only ?_ ?_) | ((with_reducible refine Drawn.mark ?_); first | refine Drawn.quiet (by kernel_rfl) ?_) | refine dcell_ok rfl ?_ | refine AppC.new ?_))
  all_goals try ((conv => whnf); with_reducible refine Round.mark ?_)
  all_goals try first | ((with_reducible show Option.isSome (slElem _ _) = true); kernel_rfl) | ((with_reducible show slElem _ _ = some _); kernel_rfl) | ((with_reducible refine enters_mark ?_); kernel_rfl) | (with_reducible assumption) | ((with_reducible show List.all _ DV.one = true); rfl) | ((with_reducible show (_ : Nat) = _); rfl) | ((with_reducible show (_ == true) = true); simpa using h) | ((with_reducible show (_ : Nat) ≤ _); exact Nat.le_of_ble_eq_true rfl) | ((with_reducible show (_ : Int) ≤ _); first | omega | decide) | ((with_reducible show (_ : Int) < _); first | omega | decide) | ((with_reducible show (_ : Nat) < _); omega) | ((with_reducible show (_ : Nat) ≤ _); omega)
  · rfl
  · have h0 : 0 < i := by have := of_decide_eq_true (eq_of_beq h); omega
    have := hi.at_
    rw [w_sub h0 hi.at_ (by omega)]; omega
  · have h0 : 0 < i := by have := of_decide_eq_true (eq_of_beq h); omega
    have := hi.at_
    rw [w_sub h0 hi.at_ (by omega)]; omega
  · have h0 := tr_pos h
    have h1 := hi.at_
    refine Round.go (fun _ => i - 1) (tr_step hi h0 (tr_cond hs hi h h0)) (by show i - 1 < i; omega) (Weak.list [] [] (by kernel_rfl) ?_ ?_)
    · repeat' (first | exact w_sub h0 h1 (by omega) | exact DW.same _ rfl | exact DW.ref _ _ _ rfl | exact DW.arr _ _ _ rfl | exact OW.cells rfl rfl (DWl.same rfl) | refine OW.cells rfl rfl ?_ | refine DWl.cons ?_ ?_ | exact DWl.nil | exact DW.nilArr _ rfl | exact DW.nilLst _ | refine DW.clol ?_ ?_ | refine DW.aggl ?_ | refine DW.tupl ?_ | refine DW.int ?_ | refine DW.bool ?_ | refine DW.str ?_ | refine DW.arrE rfl ?_ | ((conv => whnf); first | refine And.intro ?_ ?_ | trivial))
    · repeat' (first | exact w_sub h0 h1 (by omega) | exact DW.same _ rfl | exact DW.ref _ _ _ rfl | exact DW.arr _ _ _ rfl | exact OW.cells rfl rfl (DWl.same rfl) | refine OW.cells rfl rfl ?_ | refine DWl.cons ?_ ?_ | exact DWl.nil | exact DW.nilArr _ rfl | exact DW.nilLst _ | refine DW.clol ?_ ?_ | refine DW.aggl ?_ | refine DW.tupl ?_ | refine DW.int ?_ | refine DW.bool ?_ | refine DW.str ?_ | refine DW.arrE rfl ?_ | ((conv => whnf); first | refine And.intro ?_ ?_ | trivial))
  · rfl
  · have := hi.at_; omega
  · conv => whnf
    exact congrArg (fun x => strV x) (tr_end hi fun h0 => tr_cond hs hi h h0)
end Go.Proofs.YtlchjjchgebfiaaGreatDoor

/- Draw, as the document draws: a line. -/
namespace Go.Proofs.YtlchjjchgebfiaaGreatDoor
open Go.RowKit Go.Dl
attribute [local irreducible] Tri SCall TSem ECall Drawn DFun QSem PSem PCall GCall MCall Round Weak dloadE OW DWl Tells IntKind.wrap Retold ESem
def wsD (cs : List Col) : List DV := cs.map fun c => int1 c.w
def rsD (cs : List Col) : List DV := cs.map fun c => bl c.r
theorem join_snoc (ps : List ByteArray) (x : ByteArray) (h : ps ≠ []) : joinB twoB (ps ++ [x]) = joinB twoB ps ++ twoB ++ x := by
  unfold joinB
  rw [List.map_append]
  cases ps with
  | nil => exact absurd rfl h
  | cons a ps =>
    rw [List.map_cons, List.cons_append, Lib.join_cons, Lib.join_cons]
    have e : ∀ (r : List (List UInt8)) (y : List UInt8), Lib.joinTail twoB.data.toList (r ++ [y]) = Lib.joinTail twoB.data.toList r ++ (twoB.data.toList ++ y) := by
      intro r y
      induction r with
      | nil => show (twoB.data.toList ++ y) ++ [] = [] ++ (twoB.data.toList ++ y)
               simp
      | cons b r ih => show (twoB.data.toList ++ b) ++ Lib.joinTail twoB.data.toList (r ++ [y]) = ((twoB.data.toList ++ b) ++ Lib.joinTail twoB.data.toList r) ++ _
                       rw [ih]; simp
    rw [List.map_cons, List.map_nil, e, ← List.append_assoc, bs_app, bs_app twoB.data.toList, app_asc]
    rfl
theorem join_one (x : ByteArray) : joinB twoB [x] = x := by
  unfold joinB
  rw [List.map_cons, List.map_nil, Lib.join_cons]
  show bs (x.data.toList ++ []) = x
  rw [List.append_nil]; rfl
def sI (cs : List Col) (l : List ByteArray) (i : Nat) : ByteArray := joinB twoB (piecesI cs l i)
theorem sI_0 (cs : List Col) (l : List ByteArray) : (⟨#[]⟩ : ByteArray) = sI cs l 0 := rfl
theorem sI_yes {cs : List Col} {l : List ByteArray} {i : Nat} (h : decide (0 < (i : Int)) = true) : sI cs l i ++ twoB ++ pieceB (cs.getD i c0) (l.getD i emB) = sI cs l (i + 1) := by
  unfold sI
  rw [piecesI, join_snoc _ _ (fun e => by have h1 := pieces_len cs l i; rw [e] at h1; have := of_decide_eq_true h; simp at h1; omega)]
theorem sI_no {cs : List Col} {l : List ByteArray} {i : Nat} (h : decide (0 < (i : Int)) = false) : sI cs l i ++ pieceB (cs.getD i c0) (l.getD i emB) = sI cs l (i + 1) := by
  obtain rfl : i = 0 := by have := of_decide_eq_false h; omega
  unfold sI
  rw [show piecesI cs l (0 + 1) = [pieceB (cs.getD 0 c0) (l.getD 0 emB)] from rfl, join_one]
  exact emB_app _
theorem rep_sp (n : Nat) : repB spaceB n = bs (List.replicate n 32) := by
  unfold repB
  congr 1
  induction n with
  | zero => rfl
  | succ n ih => rw [List.replicate_succ, ← ih]; rfl
theorem fill_gap (c : Col) (s : ByteArray) (n : Int) (hn : n.toNat = c.w - s.size) : fillB emB 32 n = gapB c s := by
  rw [fillB, gapB, rep_sp, hn, emB_app]; rfl
theorem fill_after (c : Col) (s : ByteArray) : fillB (drawnB s) 32 c.w = drawnB s ++ gapB c s := by
  rw [fillB, gapB, rep_sp, drawnB_size, Int.toNat_natCast]
def lnSt42 (cs : List Col) (l : List ByteArray) (i : Nat) : St := ⟨⟨2, []⟩, tmOf [(0, strs l), (1, .arr 0 cs.length), (2, .arr 1 cs.length), (6, strV emB), (7, strV (sI cs l i)), (8, int1 i)], .of [(0, ⟨3, 1, wsD cs⟩), (1, ⟨4, 1, rsD cs⟩)] 2⟩
def gap42 (cs : List Col) (l : List ByteArray) (i : Nat) : Int := IntKind.i64.wrap ((((cs.getD ((i : Int).toNat * 1) c0).w : Nat) : Int) - (((drawnB (l.getD i emB)).size : Nat) : Int))
theorem gap42_D {cs : List Col} {l : List ByteArray} (h : Lin cs l) {i : Nat} (hi : i < l.length) : DPure Tryz.prog 41 [strV emB, .v (.int .u8 32), int1 (gap42 cs l i)] (strV (gapB (cs.getD i c0) (l.getD i emB))) := by
  obtain ⟨h1, h2⟩ := h.wid i hi
  have e : gap42 cs l i = (((cs.getD i c0).w - (l.getD i emB).size : Nat) : Int) := by
    unfold gap42
    rw [Int.toNat_natCast, Nat.mul_one, drawnB_size, wrapI (by omega) (by omega)]; omega
  rw [← fill_gap _ _ (gap42 cs l i) (by rw [e, Int.toNat_natCast])]
  exact fill41_D emB 32 _ (Nat.zero_le _) (by rw [e]; omega)
theorem aft42_D {cs : List Col} {l : List ByteArray} (h : Lin cs l) {i : Nat} (hi : i < l.length) : DPure Tryz.prog 41 [strV (drawnB (l.getD i emB)), .v (.int .u8 32), int1 (((cs.getD ((i : Int).toNat * 1) c0).w : Nat) : Int)] (strV (drawnB (l.getD i emB) ++ gapB (cs.getD i c0) (l.getD i emB))) := by
  obtain ⟨h1, h2⟩ := h.wid i hi
  rw [Int.toNat_natCast, Nat.mul_one, ← fill_after]
  exact fill41_D _ 32 _ (by rw [drawnB_size]; omega) (by omega)
theorem dr75_D {cs : List Col} {l : List ByteArray} (h : Lin cs l) (i : Nat) (hi : i < l.length) : DPure Tryz.prog 75 [strV (l.getD (i : Int).toNat emB)] (strV (drawnB (l.getD i emB))) := by
  obtain ⟨h1, h2⟩ := h.wid i hi
  rw [Int.toNat_natCast]
  exact drawn75_D _ (by omega)
theorem ws_len (cs : List Col) : (wsD cs).length = cs.length := List.length_map _
theorem rs_len (cs : List Col) : (rsD cs).length = cs.length := List.length_map _
theorem ws_at {cs : List Col} {l : List ByteArray} (hL : Lin cs l) {k : Nat} (h : k < l.length) : (wsD cs)[k]? = some (int1 (cs.getD k c0).w) := by
  rw [hL.len] at h
  rw [wsD, List.getElem?_map, List.getElem?_eq_getElem h, List.getD_eq_getElem?_getD, List.getElem?_eq_getElem h]; rfl
theorem rs_at {cs : List Col} {l : List ByteArray} (hL : Lin cs l) {k : Nat} (h : k < l.length) : (rsD cs)[k]? = some (bl (cs.getD k c0).r) := by
  rw [hL.len] at h
  rw [rsD, List.getElem?_map, List.getElem?_eq_getElem h, List.getD_eq_getElem?_getD, List.getElem?_eq_getElem h]; rfl
theorem ws_all (cs : List Col) : (wsD cs).all noId1 = true := by
  induction cs with
  | nil => rfl
  | cons a l ih => exact ih
theorem rs_all (cs : List Col) : (rsD cs).all noId1 = true := by
  induction cs with
  | nil => rfl
  | cons a l ih => exact ih
theorem c_lt {cs : List Col} {l : List ByteArray} (hL : Lin cs l) {i : Nat} (h : decide ((i : Int) < ((l.map strD).length : Nat)) = true) : (i : Int) < (cs.length : Nat) := by
  have := lt_of_test h; have := hL.len; omega
theorem c_to {l : List ByteArray} {i : Nat} (h : decide ((i : Int) < ((l.map strD).length : Nat)) = true) : (i : Int).toNat * 1 < l.length := by
  have := lt_of_test h
  rw [Int.toNat_natCast, Nat.mul_one]; exact this
theorem sI_size {cs : List Col} {l : List ByteArray} (hL : Lin cs l) {i : Nat} (hi : i ≤ l.length) : (sI cs l i).size ≤ 65664 := by
  have h1 := join_size (sep := twoB) (pieces_small hL hi)
  rw [pieces_len] at h1
  have h2 : l.length ≤ 64 := by rw [hL.len]; exact hL.one.2
  have : twoB.size = 2 := rfl
  rw [this] at h1
  have h3 : i * (1024 + 2) ≤ 64 * (1024 + 2) := Nat.mul_le_mul_right _ (by omega)
  unfold sI
  omega
theorem pc_size {cs : List Col} {l : List ByteArray} (hL : Lin cs l) {i : Nat} (h : decide ((i : Int) < ((l.map strD).length : Nat)) = true) : (gapB (cs.getD i c0) (l.getD i emB)).size + (drawnB (l.getD i emB)).size ≤ 1024 := by
  obtain ⟨h1, h2⟩ := hL.wid i (lt_of_test h)
  rw [gapB, repB_size, show spaceB.size = 1 from rfl, drawnB_size]; omega
theorem c_s1 {cs : List Col} {l : List ByteArray} (hL : Lin cs l) {i : Nat} (hi : i ≤ l.length) : (sI cs l i).size + (⟨#[32, 32]⟩ : ByteArray).size ≤ 9223372036854775807 := by
  have := sI_size hL hi
  show (sI cs l i).size + 2 ≤ _
  omega
theorem c_s0 {cs : List Col} {l : List ByteArray} (hL : Lin cs l) {i : Nat} (h : decide ((i : Int) < ((l.map strD).length : Nat)) = true) : (gapB (cs.getD i c0) (l.getD i emB)).size + (drawnB (l.getD i emB)).size ≤ 9223372036854775807 := by
  have := pc_size hL h; omega
theorem c_s2 {cs : List Col} {l : List ByteArray} (hL : Lin cs l) {i : Nat} (hi : i ≤ l.length) (h : decide ((i : Int) < ((l.map strD).length : Nat)) = true) : (sI cs l i ++ ⟨#[32, 32]⟩).size + (gapB (cs.getD i c0) (l.getD i emB) ++ drawnB (l.getD i emB)).size ≤ 9223372036854775807 := by
  have h1 := sI_size hL hi
  have h2 := pc_size hL h
  rw [ByteArray.size_append, ByteArray.size_append]
  show (sI cs l i).size + 2 + _ ≤ _
  omega
theorem c_s3 {cs : List Col} {l : List ByteArray} (hL : Lin cs l) {i : Nat} (hi : i ≤ l.length) (h : decide ((i : Int) < ((l.map strD).length : Nat)) = true) : (sI cs l i ++ ⟨#[32, 32]⟩).size + (drawnB (l.getD i emB) ++ gapB (cs.getD i c0) (l.getD i emB)).size ≤ 9223372036854775807 := by
  have h1 := sI_size hL hi
  have h2 := pc_size hL h
  rw [ByteArray.size_append, ByteArray.size_append]
  show (sI cs l i).size + 2 + _ ≤ _
  omega
theorem c_s4 {cs : List Col} {l : List ByteArray} (hL : Lin cs l) {i : Nat} (hi : i ≤ l.length) (h : decide ((i : Int) < ((l.map strD).length : Nat)) = true) : (sI cs l i).size + (gapB (cs.getD i c0) (l.getD i emB) ++ drawnB (l.getD i emB)).size ≤ 9223372036854775807 := by
  have h1 := sI_size hL hi
  have h2 := pc_size hL h
  rw [ByteArray.size_append]
  omega
theorem c_s5 {cs : List Col} {l : List ByteArray} (hL : Lin cs l) {i : Nat} (hi : i ≤ l.length) (h : decide ((i : Int) < ((l.map strD).length : Nat)) = true) : (sI cs l i).size + (drawnB (l.getD i emB) ++ gapB (cs.getD i c0) (l.getD i emB)).size ≤ 9223372036854775807 := by
  have h1 := sI_size hL hi
  have h2 := pc_size hL h
  rw [ByteArray.size_append]
  omega
theorem c_s6 {cs : List Col} {l : List ByteArray} (hL : Lin cs l) {i : Nat} (hi : i ≤ l.length) : (trimB (sI cs l i)).size + (⟨#[10]⟩ : ByteArray).size ≤ 9223372036854775807 := by
  have h1 := sI_size hL hi
  have h2 := trim_size (sI cs l i)
  show (trimB (sI cs l i)).size + 1 ≤ _
  omega
theorem pc_r {c : Col} {s : ByteArray} (h : c.r = true) : gapB c s ++ drawnB s = pieceB c s := by rw [pieceB, h]; rfl
theorem pc_l {c : Col} {s : ByteArray} (h : c.r = false) : drawnB s ++ gapB c s = pieceB c s := by rw [pieceB, h]; rfl
theorem c_r {cs : List Col} {i : Nat} {b : Bool} (h : (cs.getD ((i : Int).toNat * 1) c0).r = b) : (cs.getD i c0).r = b := by
  rw [Int.toNat_natCast, Nat.mul_one] at h; exact h
theorem rd_yr {cs : List Col} {l : List ByteArray} {i : Nat} (h : decide (0 < (i : Int)) = true) (hr : (cs.getD ((i : Int).toNat * 1) c0).r = true) : sI cs l i ++ ⟨#[32, 32]⟩ ++ (gapB (cs.getD i c0) (l.getD i emB) ++ drawnB (l.getD i emB)) = sI cs l (i + 1) := by
  rw [pc_r (c_r hr)]; exact sI_yes h
theorem rd_yl {cs : List Col} {l : List ByteArray} {i : Nat} (h : decide (0 < (i : Int)) = true) (hr : (cs.getD ((i : Int).toNat * 1) c0).r = false) : sI cs l i ++ ⟨#[32, 32]⟩ ++ (drawnB (l.getD i emB) ++ gapB (cs.getD i c0) (l.getD i emB)) = sI cs l (i + 1) := by
  rw [pc_l (c_r hr)]; exact sI_yes h
theorem rd_nr {cs : List Col} {l : List ByteArray} {i : Nat} (h : decide (0 < (i : Int)) = false) (hr : (cs.getD ((i : Int).toNat * 1) c0).r = true) : sI cs l i ++ (gapB (cs.getD i c0) (l.getD i emB) ++ drawnB (l.getD i emB)) = sI cs l (i + 1) := by
  rw [pc_r (c_r hr)]; exact sI_no h
theorem rd_nl {cs : List Col} {l : List ByteArray} {i : Nat} (h : decide (0 < (i : Int)) = false) (hr : (cs.getD ((i : Int).toNat * 1) c0).r = false) : sI cs l i ++ (drawnB (l.getD i emB) ++ gapB (cs.getD i c0) (l.getD i emB)) = sI cs l (i + 1) := by
  rw [pc_l (c_r hr)]; exact sI_no h
theorem ln_fin {cs : List Col} {l : List ByteArray} {i : Nat} (hi : i ≤ l.length) (h : decide ((i : Int) < ((l.map strD).length : Nat)) = false) : trimB (sI cs l i) ++ ⟨#[10]⟩ = dlineB cs l := by
  obtain rfl : i = l.length := by have := ge_of_test h; omega
  rfl
attribute [local irreducible] sI drawnB gapB trimB wsD rsD
set_option maxRecDepth 20000 in
set_option maxHeartbeats 2000000 in
set_option pp.maxSteps 800 in
theorem line42_S (cs : List Col) (l : List ByteArray) (hL : Lin cs l) : SCall Tryz.prog 42 [strs l, .arr 0 cs.length, .arr 1 cs.length] (.of [(0, ⟨3, 1, wsD cs⟩), (1, ⟨4, 1, rsD cs⟩)] 2) fun r' s' => r' = strV (dlineB cs l) ∧ s' = .of [(0, ⟨3, 1, wsD cs⟩), (1, ⟨4, 1, rsD cs⟩)] 2 := by
  refine SCall.retell (SCall.run Tryz.func42 rfl (Nat.le_of_ble_eq_true rfl) (by kernel_rfl) ?_)
  repeat' (first | with_reducible rfl | ((conv => whnf); first | refine And.intro ?_ ?_ | (intro h; first | with_reducible exact tf_no h | with_reducible exact ft_no h | exact Bool.noConfusion h | with_reducible exact h | (have ht : true = true := h; clear ht h) | skip) | ((with_reducible refine DWl.mark ?_); repeat' (first | refine DWl.cons ?_ ?_ | exact DWl.nil | exact DW.same _ rfl | exact DW.ref _ _ _ rfl | exact DW.arr _ _ _ rfl | exact DW.sub _ _ _ _ rfl | exact DW.nilLst _ | refine DW.aggl ?_ | refine DW.tupl ?_ | refine DW.clol ?_ ?_ | refine DW.int ?_ | refine DW.bool ?_ | refine DW.str ?_)) | ((with_reducible refine ECall.mark ?_); first | refine ECall.only ?_ (fun h => nomatch h) | refine ECall.only ?_ ?_) | ((with_reducible refine Drawn.mark ?_); first | refine Drawn.quiet (by kernel_rfl) ?_) | refine dcell_ok rfl ?_ | refine AppC.new ?_))
  all_goals first | (with_reducible refine enters_mark ?_; kernel_rfl) | (with_reducible refine boolT_mark ?_; kernel_rfl) | rfl | trivial | assumption | exact Nat.le_of_ble_eq_true rfl | (show entersB _ _ = true; kernel_rfl) | exact DW.same _ rfl | exact DW.ref _ _ _ rfl | exact DW.arr _ _ _ rfl | refine DW.int ?_ | refine dvb ?_ | refine dvi ?_ | exact OW.cells rfl rfl (DWl.same rfl) | exact Nat.zero_le _ | omega | skip
  all_goals repeat' (first | refine OW.cells rfl rfl ?_ | exact DW.nilArr _ rfl | refine DWl.cons ?_ ?_ | exact DWl.nil | exact DW.same _ rfl | exact DW.ref _ _ _ rfl | exact DW.arr _ _ _ rfl | exact DW.sub _ _ _ _ rfl | exact DW.nilLst _ | refine DW.aggl ?_ | refine DW.tupl ?_ | refine DW.clol ?_ ?_)
  all_goals try ((conv => whnf); with_reducible first | refine Round.mark ?_ | refine Tells.mark ?_ | refine Retold.mark ?_)
  all_goals try first | (show (_ : Bool) = _; simp_all; done) | (show (_ : Int) < _; simp at *; omega) | (show (_ : Int) ≤ _; simp at *; omega) | (show (_ : Nat) < _; simp at *; omega) | (show (_ : Nat) ≤ _; simp at *; omega)
  conv => whnf
  refine Tri.loop (lnSt42 cs l) (fun i => i ≤ l.length) (fun i => l.length - i) 0 (by kernel_rfl) (Weak.list [] [] (by kernel_rfl) ?_ ?_) (Nat.zero_le _) ?_
  · repeat' (first | exact sI_0 cs l | exact DWl.eq rfl (ws_all _) | exact DWl.eq rfl (rs_all _) | exact DW.same _ rfl | exact DW.ref _ _ _ rfl | exact DW.arr _ _ _ rfl | exact OW.cells rfl rfl (DWl.same rfl) | refine OW.cells rfl rfl ?_ | refine DWl.cons ?_ ?_ | exact DWl.nil | exact DW.nilArr _ rfl | exact DW.nilLst _ | refine DW.clol ?_ ?_ | refine DW.aggl ?_ | refine DW.tupl ?_ | refine DW.int ?_ | refine DW.bool ?_ | refine DW.str ?_ | refine DW.arrE rfl ?_ | ((conv => whnf); first | refine And.intro ?_ ?_ | trivial))
  · repeat' (first | exact sI_0 cs l | exact DWl.eq rfl (ws_all _) | exact DWl.eq rfl (rs_all _) | exact DW.same _ rfl | exact DW.ref _ _ _ rfl | exact DW.arr _ _ _ rfl | exact OW.cells rfl rfl (DWl.same rfl) | refine OW.cells rfl rfl ?_ | refine DWl.cons ?_ ?_ | exact DWl.nil | exact DW.nilArr _ rfl | exact DW.nilLst _ | refine DW.clol ?_ ?_ | refine DW.aggl ?_ | refine DW.tupl ?_ | refine DW.int ?_ | refine DW.bool ?_ | refine DW.str ?_ | refine DW.arrE rfl ?_ | ((conv => whnf); first | refine And.intro ?_ ?_ | trivial))
  intro i hi
  show dcode _ _ _ _ (lnSt42 cs l i) _
  repeat' (first | with_reducible rfl | ((conv => whnf); first | refine And.intro ?_ ?_ | (intro h; first | with_reducible exact tf_no h | with_reducible exact ft_no h | exact Bool.noConfusion h | with_reducible exact h | (have ht : true = true := h; clear ht h) | skip) | ((with_reducible refine DWl.mark ?_); repeat' (first | refine DWl.cons ?_ ?_ | exact DWl.nil | exact DW.same _ rfl | exact DW.ref _ _ _ rfl | exact DW.arr _ _ _ rfl | exact DW.sub _ _ _ _ rfl | exact DW.nilLst _ | refine DW.aggl ?_ | refine DW.tupl ?_ | refine DW.clol ?_ ?_ | refine DW.int ?_ | refine DW.bool ?_ | refine DW.str ?_)) | ((with_reducible refine SCall.mark ?_); first | refine SCall.data (dr75_D hL _ ?_) rfl rfl ?_ | refine SCall.scal (dr75_D hL _ ?_) rfl rfl ?_ | refine SCall.data (gap42_D hL ?_) rfl rfl ?_ | refine SCall.scal (gap42_D hL ?_) rfl rfl ?_ | refine SCall.data (aft42_D hL ?_) rfl rfl ?_ | refine SCall.scal (aft42_D hL ?_) rfl rfl ?_ | refine SCall.data (trimmed76_D _ ?_) rfl rfl ?_ | refine SCall.scal (trimmed76_D _ ?_) rfl rfl ?_) | ((with_reducible refine PCall.mark ?_); first | refine PCall.mk (dr75_D hL _ ?_) rfl rfl ?_ | refine PCall.mk (gap42_D hL ?_) rfl rfl ?_ | refine PCall.mk (aft42_D hL ?_) rfl rfl ?_ | refine PCall.mk (trimmed76_D _ ?_) rfl rfl ?_) | ((with_reducible refine GCall.mark ?_); first | refine GCall.data (fun _ => dr75_D hL _ ?_) rfl rfl ?_ | refine GCall.scal (fun _ => dr75_D hL _ ?_) rfl rfl ?_ | refine GCall.data (fun _ => gap42_D hL ?_) rfl rfl ?_ | refine GCall.scal (fun _ => gap42_D hL ?_) rfl rfl ?_ | refine GCall.data (fun _ => aft42_D hL ?_) rfl rfl ?_ | refine GCall.scal (fun _ => aft42_D hL ?_) rfl rfl ?_ | refine GCall.data (fun _ => trimmed76_D _ ?_) rfl rfl ?_ | refine GCall.scal (fun _ => trimmed76_D _ ?_) rfl rfl ?_) | ((with_reducible refine MCall.mark ?_); first | refine MCall.data (fun _ => dr75_D hL _ ?_) rfl rfl ?_ | refine MCall.plain (PCall.mk (dr75_D hL _ ?_) rfl rfl ?_) | refine MCall.data (fun _ => gap42_D hL ?_) rfl rfl ?_ | refine MCall.plain (PCall.mk (gap42_D hL ?_) rfl rfl ?_) | refine MCall.data (fun _ => aft42_D hL ?_) rfl rfl ?_ | refine MCall.plain (PCall.mk (aft42_D hL ?_) rfl rfl ?_) | refine MCall.data (fun _ => trimmed76_D _ ?_) rfl rfl ?_ | refine MCall.plain (PCall.mk (trimmed76_D _ ?_) rfl rfl ?_)) | ((with_reducible refine ECall.mark ?_); first | refine ECall.only ?_ (fun h => nomatch h) | refine ECall.only ?_ ?_) | ((with_reducible refine Drawn.mark ?_); first | refine Drawn.quiet (by kernel_rfl) ?_) | refine dloadE_map (emB) ?_ ?_ | refine dcell_ok (rs_at hL ?_) ?_ | refine dcell_ok (ws_at hL ?_) ?_ | refine dcell_ok rfl ?_ | refine AppC.new ?_))
  all_goals try ((conv => whnf); with_reducible refine Round.mark ?_)
  all_goals try first | ((with_reducible show Option.isSome (slElem _ _) = true); kernel_rfl) | ((with_reducible show slElem _ _ = some _); kernel_rfl) | ((with_reducible refine enters_mark ?_); kernel_rfl) | (with_reducible assumption) | ((with_reducible show List.all _ DV.one = true); rfl) | ((with_reducible show (_ : Nat) = _); rfl) | ((with_reducible show (_ == true) = true); simpa using h) | ((with_reducible show (_ : Nat) ≤ _); exact Nat.le_of_ble_eq_true rfl) | ((with_reducible show (_ : Int) ≤ _); first | omega | decide) | ((with_reducible show (_ : Int) < _); first | omega | decide) | ((with_reducible show (_ : Nat) < _); omega) | ((with_reducible show (_ : Nat) ≤ _); omega)
  all_goals try (first | (rfl; done) | (exact of_decide_eq_true (by assumption); done) | (exact lt_of_test (by assumption); done) | (exact c_lt hL (by assumption); done) | (exact c_to (by assumption); done) | (exact c_s0 hL (by assumption); done) | (exact c_s1 hL hi; done) | (exact c_s2 hL hi (by assumption); done) | (exact c_s3 hL hi (by assumption); done) | (exact c_s4 hL hi (by assumption); done) | (exact c_s5 hL hi (by assumption); done) | (exact c_s6 hL hi; done) | (exact Nat.le_trans (sI_size hL hi) (by decide); done))
  · rename_i e0 e1
    have hlt := lt_of_test e0
    have h64 : l.length ≤ 64 := by rw [hL.len]; exact hL.one.2
    refine Round.go (fun _ => i + 1) hlt (by show l.length - (i + 1) < l.length - i; omega) (Weak.list [] [] (by kernel_rfl) ?_ ?_)
    · repeat' (first | exact wsucc hlt (by omega) | exact rd_yr e1 h | exact DWl.eq rfl (ws_all _) | exact DWl.eq rfl (rs_all _) | exact DW.same _ rfl | exact DW.ref _ _ _ rfl | exact DW.arr _ _ _ rfl | exact OW.cells rfl rfl (DWl.same rfl) | refine OW.cells rfl rfl ?_ | refine DWl.cons ?_ ?_ | exact DWl.nil | exact DW.nilArr _ rfl | exact DW.nilLst _ | refine DW.clol ?_ ?_ | refine DW.aggl ?_ | refine DW.tupl ?_ | refine DW.int ?_ | refine DW.bool ?_ | refine DW.str ?_ | refine DW.arrE rfl ?_ | ((conv => whnf); first | refine And.intro ?_ ?_ | trivial))
    · repeat' (first | exact wsucc hlt (by omega) | exact rd_yr e1 h | exact DWl.eq rfl (ws_all _) | exact DWl.eq rfl (rs_all _) | exact DW.same _ rfl | exact DW.ref _ _ _ rfl | exact DW.arr _ _ _ rfl | exact OW.cells rfl rfl (DWl.same rfl) | refine OW.cells rfl rfl ?_ | refine DWl.cons ?_ ?_ | exact DWl.nil | exact DW.nilArr _ rfl | exact DW.nilLst _ | refine DW.clol ?_ ?_ | refine DW.aggl ?_ | refine DW.tupl ?_ | refine DW.int ?_ | refine DW.bool ?_ | refine DW.str ?_ | refine DW.arrE rfl ?_ | ((conv => whnf); first | refine And.intro ?_ ?_ | trivial))
  · rename_i e0 e1
    have hlt := lt_of_test e0
    have h64 : l.length ≤ 64 := by rw [hL.len]; exact hL.one.2
    refine Round.go (fun _ => i + 1) hlt (by show l.length - (i + 1) < l.length - i; omega) (Weak.list [] [] (by kernel_rfl) ?_ ?_)
    · repeat' (first | exact wsucc hlt (by omega) | exact rd_yl e1 h | exact DWl.eq rfl (ws_all _) | exact DWl.eq rfl (rs_all _) | exact DW.same _ rfl | exact DW.ref _ _ _ rfl | exact DW.arr _ _ _ rfl | exact OW.cells rfl rfl (DWl.same rfl) | refine OW.cells rfl rfl ?_ | refine DWl.cons ?_ ?_ | exact DWl.nil | exact DW.nilArr _ rfl | exact DW.nilLst _ | refine DW.clol ?_ ?_ | refine DW.aggl ?_ | refine DW.tupl ?_ | refine DW.int ?_ | refine DW.bool ?_ | refine DW.str ?_ | refine DW.arrE rfl ?_ | ((conv => whnf); first | refine And.intro ?_ ?_ | trivial))
    · repeat' (first | exact wsucc hlt (by omega) | exact rd_yl e1 h | exact DWl.eq rfl (ws_all _) | exact DWl.eq rfl (rs_all _) | exact DW.same _ rfl | exact DW.ref _ _ _ rfl | exact DW.arr _ _ _ rfl | exact OW.cells rfl rfl (DWl.same rfl) | refine OW.cells rfl rfl ?_ | refine DWl.cons ?_ ?_ | exact DWl.nil | exact DW.nilArr _ rfl | exact DW.nilLst _ | refine DW.clol ?_ ?_ | refine DW.aggl ?_ | refine DW.tupl ?_ | refine DW.int ?_ | refine DW.bool ?_ | refine DW.str ?_ | refine DW.arrE rfl ?_ | ((conv => whnf); first | refine And.intro ?_ ?_ | trivial))
  · rename_i e0 e1
    have hlt := lt_of_test e0
    have h64 : l.length ≤ 64 := by rw [hL.len]; exact hL.one.2
    refine Round.go (fun _ => i + 1) hlt (by show l.length - (i + 1) < l.length - i; omega) (Weak.list [] [] (by kernel_rfl) ?_ ?_)
    · repeat' (first | exact wsucc hlt (by omega) | exact rd_nr e1 h | exact DWl.eq rfl (ws_all _) | exact DWl.eq rfl (rs_all _) | exact DW.same _ rfl | exact DW.ref _ _ _ rfl | exact DW.arr _ _ _ rfl | exact OW.cells rfl rfl (DWl.same rfl) | refine OW.cells rfl rfl ?_ | refine DWl.cons ?_ ?_ | exact DWl.nil | exact DW.nilArr _ rfl | exact DW.nilLst _ | refine DW.clol ?_ ?_ | refine DW.aggl ?_ | refine DW.tupl ?_ | refine DW.int ?_ | refine DW.bool ?_ | refine DW.str ?_ | refine DW.arrE rfl ?_ | ((conv => whnf); first | refine And.intro ?_ ?_ | trivial))
    · repeat' (first | exact wsucc hlt (by omega) | exact rd_nr e1 h | exact DWl.eq rfl (ws_all _) | exact DWl.eq rfl (rs_all _) | exact DW.same _ rfl | exact DW.ref _ _ _ rfl | exact DW.arr _ _ _ rfl | exact OW.cells rfl rfl (DWl.same rfl) | refine OW.cells rfl rfl ?_ | refine DWl.cons ?_ ?_ | exact DWl.nil | exact DW.nilArr _ rfl | exact DW.nilLst _ | refine DW.clol ?_ ?_ | refine DW.aggl ?_ | refine DW.tupl ?_ | refine DW.int ?_ | refine DW.bool ?_ | refine DW.str ?_ | refine DW.arrE rfl ?_ | ((conv => whnf); first | refine And.intro ?_ ?_ | trivial))
  · rename_i e0 e1
    have hlt := lt_of_test e0
    have h64 : l.length ≤ 64 := by rw [hL.len]; exact hL.one.2
    refine Round.go (fun _ => i + 1) hlt (by show l.length - (i + 1) < l.length - i; omega) (Weak.list [] [] (by kernel_rfl) ?_ ?_)
    · repeat' (first | exact wsucc hlt (by omega) | exact rd_nl e1 h | exact DWl.eq rfl (ws_all _) | exact DWl.eq rfl (rs_all _) | exact DW.same _ rfl | exact DW.ref _ _ _ rfl | exact DW.arr _ _ _ rfl | exact OW.cells rfl rfl (DWl.same rfl) | refine OW.cells rfl rfl ?_ | refine DWl.cons ?_ ?_ | exact DWl.nil | exact DW.nilArr _ rfl | exact DW.nilLst _ | refine DW.clol ?_ ?_ | refine DW.aggl ?_ | refine DW.tupl ?_ | refine DW.int ?_ | refine DW.bool ?_ | refine DW.str ?_ | refine DW.arrE rfl ?_ | ((conv => whnf); first | refine And.intro ?_ ?_ | trivial))
    · repeat' (first | exact wsucc hlt (by omega) | exact rd_nl e1 h | exact DWl.eq rfl (ws_all _) | exact DWl.eq rfl (rs_all _) | exact DW.same _ rfl | exact DW.ref _ _ _ rfl | exact DW.arr _ _ _ rfl | exact OW.cells rfl rfl (DWl.same rfl) | refine OW.cells rfl rfl ?_ | refine DWl.cons ?_ ?_ | exact DWl.nil | exact DW.nilArr _ rfl | exact DW.nilLst _ | refine DW.clol ?_ ?_ | refine DW.aggl ?_ | refine DW.tupl ?_ | refine DW.int ?_ | refine DW.bool ?_ | refine DW.str ?_ | refine DW.arrE rfl ?_ | ((conv => whnf); first | refine And.intro ?_ ?_ | trivial))
  · conv => whnf
    refine Retold.list [] [] (strV (dlineB cs l)) [(0, ⟨3, 1, wsD cs⟩), (1, ⟨4, 1, rsD cs⟩)] 2 (by kernel_rfl) ?_ ?_ ⟨rfl, rfl⟩
    · repeat' (first | exact ln_fin hi h | exact DWl.eq rfl (ws_all _) | exact DWl.eq rfl (rs_all _) | exact DW.same _ rfl | exact DW.ref _ _ _ rfl | exact DW.arr _ _ _ rfl | exact OW.cells rfl rfl (DWl.same rfl) | refine OW.cells rfl rfl ?_ | refine DWl.cons ?_ ?_ | exact DWl.nil | exact DW.nilArr _ rfl | exact DW.nilLst _ | refine DW.clol ?_ ?_ | refine DW.aggl ?_ | refine DW.tupl ?_ | refine DW.int ?_ | refine DW.bool ?_ | refine DW.str ?_ | refine DW.arrE rfl ?_ | ((conv => whnf); first | refine And.intro ?_ ?_ | trivial))
    · repeat' (first | exact ln_fin hi h | exact DWl.eq rfl (ws_all _) | exact DWl.eq rfl (rs_all _) | exact DW.same _ rfl | exact DW.ref _ _ _ rfl | exact DW.arr _ _ _ rfl | exact OW.cells rfl rfl (DWl.same rfl) | refine OW.cells rfl rfl ?_ | refine DWl.cons ?_ ?_ | exact DWl.nil | exact DW.nilArr _ rfl | exact DW.nilLst _ | refine DW.clol ?_ ?_ | refine DW.aggl ?_ | refine DW.tupl ?_ | refine DW.int ?_ | refine DW.bool ?_ | refine DW.str ?_ | refine DW.arrE rfl ?_ | ((conv => whnf); first | refine And.intro ?_ ?_ | trivial))
end Go.Proofs.YtlchjjchgebfiaaGreatDoor

/- The document's Number is the program's: plain lists. -/
namespace Go.Proofs.YtlchjjchgebfiaaGreatDoor
open Go.RowKit Go.Dl
theorem dig_val {d : Nat} (h : d < 10) : (UInt8.ofNat (48 + d)).toNat = 48 + d := by
  rw [UInt8.toNat_ofNat']; omega
theorem dec_rec {u : Nat} (h : ¬ u < 10) : Lib.decDigits u = Lib.decDigits (u / 10) ++ [UInt8.ofNat (48 + u % 10)] := by
  rw [Lib.decDigits, dif_neg h]
theorem dec_head (u : Nat) : ∃ c r, Lib.decDigits u = c :: r ∧ 48 ≤ c.toNat ∧ c.toNat ≤ 57 ∧ (c.toNat = 48 → u = 0 ∧ r = []) := by
  induction u using Nat.strongRecOn with
  | ind u ih =>
    by_cases h : u < 10
    · refine ⟨_, _, Lib.decDigits_one h, ?_⟩
      rw [dig_val h]
      exact ⟨by omega, by omega, fun e => ⟨by omega, rfl⟩⟩
    · obtain ⟨c, r, e, h1, h2, h3⟩ := ih (u / 10) (by omega)
      refine ⟨c, r ++ [UInt8.ofNat (48 + u % 10)], by rw [dec_rec h, e]; rfl, h1, h2, fun e => ?_⟩
      have := (h3 e).1
      omega
theorem dec_mem (u : Nat) : ∀ c ∈ Lib.decDigits u, 48 ≤ c.toNat ∧ c.toNat ≤ 57 := by
  induction u using Nat.strongRecOn with
  | ind u ih =>
    intro c hc
    by_cases h : u < 10
    · rw [Lib.decDigits_one h, List.mem_singleton] at hc
      subst hc
      rw [dig_val h]; omega
    · rw [dec_rec h] at hc
      rcases List.mem_append.1 hc with hc | hc
      · exact ih (u / 10) (by omega) c hc
      · rw [List.mem_singleton] at hc
        subst hc
        rw [dig_val (by omega)]; omega
theorem parse_dec (u : Nat) (r : List UInt8) (hu : u ≤ 18446744073709551615) : Lib.parseUintM 18446744073709551615 0 (Lib.decDigits u ++ r) = Lib.parseUintM 18446744073709551615 u r := by
  induction u using Nat.strongRecOn generalizing r with
  | ind u ih =>
    by_cases h : u < 10
    · rw [Lib.decDigits_one h, List.singleton_append, Lib.parseUintM, dig_val h, if_pos (by omega), if_neg (by omega), if_neg (by omega)]
      congr 1; omega
    · rw [dec_rec h, List.append_assoc, ih (u / 10) (by omega) _ (by omega), List.singleton_append, Lib.parseUintM, dig_val (by omega), if_pos (by omega), if_neg (by omega), if_neg (by omega)]
      congr 1; omega
theorem val_dec (u : Nat) : valL 0 (Lib.decDigits u) = u := by
  induction u using Nat.strongRecOn with
  | ind u ih =>
    by_cases h : u < 10
    · rw [Lib.decDigits_one h]
      show 0 * 10 + ((UInt8.ofNat (48 + u)).toNat - 48) = u
      rw [dig_val h]; omega
    · rw [dec_rec h, valL_app, ih (u / 10) (by omega)]
      show u / 10 * 10 + ((UInt8.ofNat (48 + u % 10)).toNat - 48) = u
      rw [dig_val (by omega)]; omega
theorem dec_len : ∀ (k u : Nat), u < 10 ^ (k + 1) → (Lib.decDigits u).length ≤ k + 1
  | 0, u, h => by
    rw [Lib.decDigits_one (by simpa using h)]; exact Nat.le_refl _
  | k + 1, u, h => by
    by_cases h1 : u < 10
    · rw [Lib.decDigits_one h1, List.length_singleton]; omega
    · rw [dec_rec h1, List.length_append, List.length_singleton]
      have := dec_len k (u / 10) (by rw [Nat.pow_succ] at h; omega)
      omega
theorem valL_ge (l : List UInt8) : ∀ x, x ≤ valL x l := by
  induction l with
  | nil => intro x; exact Nat.le_refl _
  | cons c l ih => intro x; exact Nat.le_trans (by omega) (ih _)
theorem isD_iff {c : UInt8} : isD c = true ↔ 48 ≤ c.toNat ∧ c.toNat ≤ 57 := by
  unfold isD
  rw [Bool.and_eq_true, decide_eq_true_eq, decide_eq_true_eq]
theorem val_pos {c : UInt8} {l : List UInt8} (h : isD c = true) (h0 : c.toNat ≠ 48) : 1 ≤ valL 0 (c :: l) := by
  have := isD_iff.1 h
  exact Nat.le_trans (show 1 ≤ 0 * 10 + (c.toNat - 48) by omega) (valL_ge l _)
theorem u8_eq {a b : UInt8} (h : a.toNat = b.toNat) : a = b := UInt8.toNat_inj.1 h
/-- Digits without a zero ahead are a number's. -/
theorem canon : ∀ (n : Nat) (d : List UInt8), d.length = n → 1 ≤ n → (∀ c ∈ d, isD c = true) → ((d.getD 0 0).toNat = 48 → n = 1) → d = Lib.decDigits (valL 0 d)
  | 0, d, _, h1, _, _ => by omega
  | n + 1, d, hn, _, hd, h0 => by
    obtain ⟨d', c, rfl⟩ : ∃ d' c, d = d' ++ [c] := by
      rcases List.eq_nil_or_concat d with h | ⟨d', c, h⟩
      · subst h; cases hn
      · exact ⟨d', c, by rw [h, List.concat_eq_append]⟩
    have hl : d'.length = n := by rw [List.length_append, List.length_singleton] at hn; omega
    have hc := isD_iff.1 (hd c (List.mem_append_right _ (List.mem_singleton.2 rfl)))
    rw [valL_app]
    show d' ++ [c] = Lib.decDigits (valL 0 d' * 10 + (c.toNat - 48))
    rcases Nat.eq_zero_or_pos n with hz | hz
    · subst hz
      obtain rfl := List.eq_nil_of_length_eq_zero hl
      show [c] = Lib.decDigits (0 * 10 + (c.toNat - 48))
      rw [Lib.decDigits_one (by omega)]
      congr 1
      exact u8_eq (by rw [dig_val (by omega)]; omega)
    · have hne : d'.getD 0 0 = (d' ++ [c]).getD 0 0 := by
        rw [List.getD_eq_getElem?_getD, List.getD_eq_getElem?_getD, List.getElem?_append_left (by omega)]
      have ih := canon n d' hl hz (fun x hx => hd x (List.mem_append_left _ hx)) (fun e => by rw [hne] at e; have := h0 e; omega)
      have hpos : 1 ≤ valL 0 d' := by
        cases d' with
        | nil => simp at hl; omega
        | cons a r =>
          refine val_pos (hd a (by simp)) fun e => ?_
          have := h0 e
          omega
      rw [dec_rec (by omega), show (valL 0 d' * 10 + (c.toNat - 48)) / 10 = valL 0 d' by omega, ← ih]
      congr 2
      exact u8_eq (by rw [dig_val (by omega)]; omega)
theorem parse_mag (u : Nat) (hu : u ≤ 9223372036854775808) : Lib.parseUintB 64 (Lib.decDigits u) = .ok u := by
  obtain ⟨c, r, e, _⟩ := dec_head u
  unfold Lib.parseUintB
  rw [if_neg (by rw [e]; exact List.cons_ne_nil _ _)]
  have := parse_dec u [] (by omega)
  rw [List.append_nil] at this
  exact this
theorem ba_data {a b : ByteArray} (h : a.data.toList = b.data.toList) : a = b := by
  apply ByteArray.ext
  exact Array.ext' h
theorem numB_data (n : Int) : (numB n).data.toList = Lib.itoa n := rfl
theorem numB_eq {v : Int} {s : ByteArray} : (numB v == s) = true ↔ s.data.toList = Lib.itoa v := by
  rw [ba_eq]
  exact ⟨fun h => by rw [← h]; rfl, fun h => ba_data (by rw [h]; rfl)⟩
/-- What a sign ahead of digits says. -/
theorem parse_neg (u : Nat) (h1 : 1 ≤ u) (hu : u ≤ 9223372036854775808) {s : ByteArray} (hs : s.data.toList = 45 :: Lib.decDigits u) : numOk s = true ∧ numN s = -(u : Int) := by
  have hp : Lib.parseIntB 64 s.data.toList = .ok (-(u : Int)) := by
    rw [hs, Lib.parseIntB_minus, parse_mag u hu]
    show (if 2 ^ (64 - 1) < u then _ else _) = _
    rw [if_neg (by omega)]
  refine ⟨?_, by rw [numN, hp]⟩
  rw [numOk, hp]
  exact numB_eq.2 (by rw [hs, Lib.itoa_neg u h1])
theorem parse_pos (u : Nat) (hu : u < 9223372036854775808) {s : ByteArray} (hs : s.data.toList = Lib.decDigits u) : numOk s = true ∧ numN s = (u : Int) := by
  have hp : Lib.parseIntB 64 s.data.toList = .ok (u : Int) := by
    obtain ⟨c, r, e, h1, h2, _⟩ := dec_head u
    have := parse_mag u (by omega)
    rw [hs]
    rw [e] at this ⊢
    rw [Lib.parseIntB_plain _ _ _ (by omega) (by omega), this]
    show (if 2 ^ (64 - 1) ≤ u then _ else _) = _
    rw [if_neg (by omega)]
  refine ⟨?_, by rw [numN, hp]⟩
  rw [numOk, hp]
  exact numB_eq.2 (by rw [hs, Lib.itoa_nonneg u])
theorem neg_iff {s : ByteArray} : negB s = true ↔ ∃ r, s.data.toList = 45 :: r := by
  unfold negB
  cases e : s.data.toList with
  | nil =>
    have : s.size = 0 := by rw [← sz_len, e]; rfl
    rw [this]
    exact ⟨fun h => (by cases h), fun ⟨r, h⟩ => (by cases h)⟩
  | cons a r =>
    have : s.size = r.length + 1 := by rw [← sz_len, e]; rfl
    rw [decide_eq_true (by omega)]
    show (byteAt s 0 == 45) = true ↔ _
    rw [show (byteAt s 0 == 45) = (s.data.toList.getD 0 0 == UInt8.ofNat 45) from u8_int _ 45 (by decide), e]
    show (a == 45) = true ↔ _
    rw [beq_iff_eq]
    exact ⟨fun h => ⟨r, by rw [h]⟩, fun ⟨r', h⟩ => by cases h; rfl⟩
theorem dig_data {s : ByteArray} {r : List UInt8} (h : s.data.toList = 45 :: r) : (digB s).data.toList = r := by
  unfold digB
  rw [neg_iff.2 ⟨r, h⟩]
  show (s.extract 1 s.size).data.toList = r
  rw [ext_list, h]; rfl
theorem dig_same {s : ByteArray} (h : negB s = false) : digB s = s := by unfold digB; rw [h]; rfl
theorem b48 {d : ByteArray} : (byteAt d (Int.toNat 0) == 48) = ((d.data.toList.getD 0 0) == UInt8.ofNat 48) := u8_int _ 48 (by decide)
/-- A number by its form. -/
theorem form_ok {s : ByteArray} (h : badF s = false) : 1 ≤ (digB s).data.toList.length ∧ (digB s).data.toList.length ≤ 19 ∧ (((digB s).data.toList.getD 0 0).toNat = 48 → (digB s).data.toList.length = 1 ∧ negB s = false) := by
  have h19 := bad_19 h
  unfold badF at h
  cases h1 : digB s == emB with
  | true => rw [h1] at h; cases h
  | false =>
    rw [sz_len]
    refine ⟨?_, h19, fun e => ?_⟩
    · rcases Nat.eq_zero_or_pos (digB s).size with hz | hz
      · have : digB s = emB := by
          apply ByteArray.ext
          exact Array.eq_empty_of_size_eq_zero hz
        rw [this] at h1; cases h1
      · exact hz
    · have e2 : (byteAt (digB s) (Int.toNat 0) == 48) = true := by
        rw [b48, beq_iff_eq]
        exact u8_eq (by rw [e]; rfl)
      have h3 : decide ((19 : Int) < ((digB s).size : Int)) = false := decide_eq_false (by omega)
      rw [h1, h3, e2] at h
      have h : (bif decide ((1 : Int) < ((digB s).size : Int)) then true else negB s) = false := h
      cases h4 : decide ((1 : Int) < ((digB s).size : Int)) with
      | true => rw [h4] at h; cases h
      | false =>
        rw [h4] at h
        have h5 := of_decide_eq_false h4
        have hne : (digB s).size ≠ 0 := fun hz => by
          have : digB s = emB := by
            apply ByteArray.ext
            exact Array.eq_empty_of_size_eq_zero hz
          rw [this] at h1; cases h1
        exact ⟨by omega, h⟩
theorem ok_form {s : ByteArray} (h1 : 1 ≤ (digB s).data.toList.length) (h2 : (digB s).data.toList.length ≤ 19) (h3 : ((digB s).data.toList.getD 0 0).toNat = 48 → (digB s).data.toList.length = 1 ∧ negB s = false) : badF s = false := by
  unfold badF
  rw [sz_len] at h1 h2 h3
  have e1 : (digB s == emB) = false := by
    cases e : digB s == emB with
    | false => rfl
    | true => rw [ba_eq.1 e] at h1; cases h1
  rw [e1, decide_eq_false (show ¬ (19 : Int) < ((digB s).size : Int) by omega)]
  show (bif byteAt (digB s) (Int.toNat 0) == 48 then _ else false) = false
  cases e : byteAt (digB s) (Int.toNat 0) == 48 with
  | false => rfl
  | true =>
    rw [b48, beq_iff_eq] at e
    obtain ⟨h4, h5⟩ := h3 (by rw [e]; rfl)
    rw [h4, h5]; rfl
theorem wrap_neg {u : Nat} (h1 : 1 ≤ u) (hu : u ≤ 9223372036854775808) : IntKind.i64.wrap (0 - IntKind.i64.wrap (u : Int)) = -(u : Int) := by
  rw [IntKind.wrap_i64, IntKind.wrap_i64]; omega
set_option maxRecDepth 20000 in
theorem num_to {s : ByteArray} (h : (numD s).2 = true) : numOk s = true ∧ numN s = (numD s).1 := by
  unfold numD at h ⊢
  cases hb : badF s with
  | true => rw [hb] at h; cases h
  | false =>
    cases hd : (digB s).data.toList.all isD with
    | false => rw [hb, hd] at h; cases h
    | true =>
      obtain ⟨f1, f2, f3⟩ := form_ok hb
      have hc := canon _ (digB s).data.toList rfl f1 (fun c hc => List.all_eq_true.1 hd c hc) (fun e => (f3 e).1)
      generalize hu : valL 0 (digB s).data.toList = u at hc h ⊢
      cases hn : negB s with
      | true =>
        rw [hb, hd, hn] at h
        have h : decide ((u : Int) ≤ 9223372036854775808) = true := h
        have hle := of_decide_eq_true h
        obtain ⟨r, hr⟩ := neg_iff.1 hn
        have hdr := dig_data hr
        have h1 : 1 ≤ u := by
          rcases Nat.eq_zero_or_pos u with hz | hz
          · subst hz
            have e : (digB s).data.toList = [48] := by rw [hc, Lib.decDigits_one (by omega)]; rfl
            have := (f3 (by rw [e]; rfl)).2
            rw [hn] at this; cases this
          · exact hz
        obtain ⟨k1, k2⟩ := parse_neg u h1 (by omega) (s := s) (by rw [hr, ← hdr, ← hc])
        exact ⟨k1, k2.trans (wrap_neg h1 (by omega)).symm⟩
      | false =>
        rw [hb, hd, hn] at h
        simp only [Bool.cond_false, Bool.not_true] at h
        have hlt := of_decide_eq_true h
        rw [dig_same hn] at hc
        obtain ⟨k1, k2⟩ := parse_pos u (by omega) hc
        exact ⟨k1, k2.trans (wrapI (by omega) (by omega)).symm⟩
set_option maxRecDepth 20000 in
theorem dec_19 {u : Nat} (hu : u ≤ 9223372036854775808) : (Lib.decDigits u).length ≤ 19 := dec_len 18 u (by omega)
theorem dec_all (u : Nat) : (Lib.decDigits u).all isD = true := by
  rw [List.all_eq_true]
  intro c hc
  exact isD_iff.2 (dec_mem u c hc)
set_option maxRecDepth 20000 in
theorem num_from {s : ByteArray} (h : numOk s = true) : (numD s).2 = true := by
  unfold numOk at h
  split at h
  · rename_i v hv
    have hs := numB_eq.1 h
    have hb := Lib.parseIntB_bounds hv
    rcases Int.lt_or_le v 0 with hneg | hpos
    · obtain ⟨u, hu, h1, h2⟩ : ∃ u : Nat, v = -(u : Int) ∧ 1 ≤ u ∧ u ≤ 9223372036854775808 := ⟨v.natAbs, by omega, by omega, by omega⟩
      rw [hu, Lib.itoa_neg u h1] at hs
      have hn := neg_iff.2 ⟨_, hs⟩
      have hd := dig_data hs
      obtain ⟨c, r, e, c1, c2, c3⟩ := dec_head u
      have hf : badF s = false := ok_form (by rw [hd, e]; exact Nat.succ_le_succ (Nat.zero_le _)) (by rw [hd]; exact dec_19 h2) (fun e2 => by
        rw [hd, e] at e2
        have := (c3 e2).1
        omega)
      rw [numD, hf, hd, dec_all, val_dec, hn]
      show decide _ = true
      exact decide_eq_true (by omega)
    · obtain ⟨u, hu, h2⟩ : ∃ u : Nat, v = (u : Int) ∧ u < 9223372036854775808 := ⟨v.toNat, by omega, by omega⟩
      rw [hu, Lib.itoa_nonneg u] at hs
      obtain ⟨c, r, e, c1, c2, c3⟩ := dec_head u
      have hn : negB s = false := by
        cases hn : negB s with
        | false => rfl
        | true =>
          obtain ⟨r', hr⟩ := neg_iff.1 hn
          rw [hs, e] at hr
          cases hr
          exact absurd c1 (by decide)
      have hd := dig_same hn
      have hf : badF s = false := ok_form (by rw [hd, hs, e]; exact Nat.succ_le_succ (Nat.zero_le _)) (by rw [hd, hs]; exact dec_19 (by omega)) (fun e2 => by
        rw [hd, hs, e] at e2
        refine ⟨?_, hn⟩
        rw [hd, hs, e, (c3 e2).2]; rfl)
      rw [numD, hf, hd, hs, dec_all, val_dec, hn]
      simp only [Bool.cond_false, Bool.not_true]
      exact decide_eq_true (by omega)
  · cases h
theorem num_ok (s : ByteArray) : (numD s).2 = numOk s := by
  cases e : numOk s with
  | true => exact num_from e
  | false =>
    cases e2 : (numD s).2 with
    | false => rfl
    | true => have := (num_to e2).1; rw [e] at this; cases this
end Go.Proofs.YtlchjjchgebfiaaGreatDoor

/- Draw, as the document draws: which columns are numbers. -/
namespace Go.Proofs.YtlchjjchgebfiaaGreatDoor
open Go.RowKit Go.Dl
attribute [local irreducible] Tri SCall TSem ECall Drawn DFun QSem PSem PCall GCall MCall Round Weak dloadE OW DWl Tells IntKind.wrap Retold ESem
theorem number25_E (s : ByteArray) (hs : s.size ≤ 1024) : DPure Tryz.prog 25 [strV s] (.tup [int1 (numD s).1, bl (numOk s)]) := by
  have := number25_D s hs
  rw [numV, num_ok] at this
  exact this
structure NmOk (t : Tb) (k i : Nat) : Prop where
  at_ : i ≤ t.rows.length
  all : ∀ j, j < i → numOk (celA t k j) = true
theorem rI_all {t : Tb} {k : Nat} : ∀ {i : Nat}, (∀ j, j < i → numOk (celA t k j) = true) → rI t k i = decide (0 < ((t.rows.map rowD).length : Int))
  | 0, _ => rfl
  | i + 1, h => by
    rw [rI, h i (Nat.lt_succ_self _)]
    exact rI_all fun j hj => h j (by omega)
theorem rI_no {t : Tb} {k j : Nat} (h : numOk (celA t k j) = false) : ∀ {i : Nat}, j < i → rI t k i = false
  | 0, hj => by omega
  | i + 1, hj => by
    rw [rI]
    rcases Nat.lt_succ_iff_lt_or_eq.1 hj with h1 | h1
    · rw [rI_no h h1]; cases numOk (celA t k i) <;> rfl
    · subst h1; rw [h]; rfl
def nmSt (t : Tb) (k i : Nat) : St := ⟨0, tmOf [(1, int1 k), (2, .ref 0 0), (4, bl false), (5, int1 i)], .of [(0, ⟨25, 2, tbD t⟩)] 1⟩
theorem nm_no {t : Tb} {k i : Nat} (hi : i < t.rows.length) (h : (!numOk (celA t k i)) = true) : false = rI t k t.rows.length := (rI_no (by simpa using h) hi).symm
theorem nm_next {t : Tb} {k i : Nat} (hk : NmOk t k i) (hi : i < t.rows.length) (h : (!numOk (celA t k i)) = false) : NmOk t k (i + 1) :=
  ⟨hi, fun j hj => by
    rcases Nat.lt_succ_iff_lt_or_eq.1 hj with h1 | h1
    · exact hk.all j h1
    · subst h1; simpa using h⟩
theorem nm_end {t : Tb} {k i : Nat} (hk : NmOk t k i) (hi : t.rows.length ≤ i) : decide (0 < ((t.rows.map rowD).length : Int)) = rI t k t.rows.length := by
  obtain rfl : i = t.rows.length := by have := hk.at_; omega
  exact (rI_all hk.all).symm
attribute [local irreducible] numOk numD
set_option maxRecDepth 20000 in
set_option maxHeartbeats 1000000 in
set_option pp.maxSteps 800 in
theorem numbers40_D (t : Tb) (ht : Tbl t) (k : Nat) (hk : k < t.head.length) : DPure Tryz.prog 40 [tab t, int1 k] (bl (rI t k t.rows.length)) := by
  have hn := fun i (h : i < t.rows.length) => number25_E (celA t k i) (cel_size ht hk h)
  refine DFun.body Tryz.func40 rfl (by kernel_rfl) ?_
  repeat' (first | with_reducible rfl | ((conv => whnf); first | refine And.intro ?_ ?_ | (intro h; first | with_reducible exact tf_no h | with_reducible exact ft_no h | exact Bool.noConfusion h | with_reducible exact h | (have ht : true = true := h; clear ht h) | skip) | ((with_reducible refine DWl.mark ?_); repeat' (first | refine DWl.cons ?_ ?_ | exact DWl.nil | exact DW.same _ rfl | exact DW.ref _ _ _ rfl | exact DW.arr _ _ _ rfl | exact DW.sub _ _ _ _ rfl | exact DW.nilLst _ | refine DW.aggl ?_ | refine DW.tupl ?_ | refine DW.clol ?_ ?_ | refine DW.int ?_ | refine DW.bool ?_ | refine DW.str ?_)) | ((with_reducible refine ECall.mark ?_); first | refine ECall.only ?_ (fun h => nomatch h) | refine ECall.only ?_ ?_) | ((with_reducible refine Drawn.mark ?_); first | refine Drawn.quiet (by kernel_rfl) ?_) | refine dcell_ok rfl ?_ | refine AppC.new ?_))
  all_goals first | (with_reducible refine enters_mark ?_; kernel_rfl) | (with_reducible refine boolT_mark ?_; kernel_rfl) | rfl | trivial | assumption | exact Nat.le_of_ble_eq_true rfl | (show entersB _ _ = true; kernel_rfl) | exact DW.same _ rfl | exact DW.ref _ _ _ rfl | exact DW.arr _ _ _ rfl | refine DW.int ?_ | refine dvb ?_ | refine dvi ?_ | exact OW.cells rfl rfl (DWl.same rfl) | exact Nat.zero_le _ | omega | skip
  all_goals repeat' (first | refine OW.cells rfl rfl ?_ | exact DW.nilArr _ rfl | refine DWl.cons ?_ ?_ | exact DWl.nil | exact DW.same _ rfl | exact DW.ref _ _ _ rfl | exact DW.arr _ _ _ rfl | exact DW.sub _ _ _ _ rfl | exact DW.nilLst _ | refine DW.aggl ?_ | refine DW.tupl ?_ | refine DW.clol ?_ ?_)
  all_goals try ((conv => whnf); with_reducible first | refine Round.mark ?_ | refine Tells.mark ?_ | refine Retold.mark ?_)
  all_goals try first | (show (_ : Bool) = _; simp_all; done) | (show (_ : Int) < _; simp at *; omega) | (show (_ : Int) ≤ _; simp at *; omega) | (show (_ : Nat) < _; simp at *; omega) | (show (_ : Nat) ≤ _; simp at *; omega)
  conv => whnf
  refine Tri.loop (nmSt t k) (NmOk t k) (fun i => t.rows.length - i) 0 (by kernel_rfl) (Weak.list [(0, some 0)] [] (by kernel_rfl) ?_ ?_) ⟨Nat.zero_le _, fun j hj => absurd hj (Nat.not_lt_zero _)⟩ ?_
  · repeat' (first | rfl | exact DW.same _ rfl | exact DW.ref _ _ _ rfl | exact DW.arr _ _ _ rfl | exact OW.cells rfl rfl (DWl.same rfl) | refine OW.cells rfl rfl ?_ | refine DWl.cons ?_ ?_ | exact DWl.nil | exact DW.nilArr _ rfl | exact DW.nilLst _ | refine DW.clol ?_ ?_ | refine DW.aggl ?_ | refine DW.tupl ?_ | refine DW.int ?_ | refine DW.bool ?_ | refine DW.str ?_ | refine DW.arrE rfl ?_ | ((conv => whnf); first | refine And.intro ?_ ?_ | trivial))
  · repeat' (first | rfl | exact DW.same _ rfl | exact DW.ref _ _ _ rfl | exact DW.arr _ _ _ rfl | exact OW.cells rfl rfl (DWl.same rfl) | refine OW.cells rfl rfl ?_ | refine DWl.cons ?_ ?_ | exact DWl.nil | exact DW.nilArr _ rfl | exact DW.nilLst _ | refine DW.clol ?_ ?_ | refine DW.aggl ?_ | refine DW.tupl ?_ | refine DW.int ?_ | refine DW.bool ?_ | refine DW.str ?_ | refine DW.arrE rfl ?_ | ((conv => whnf); first | refine And.intro ?_ ?_ | trivial))
  intro i hi
  show dcode _ _ _ _ (nmSt t k i) _
  repeat' (first | with_reducible rfl | ((conv => whnf); first | refine And.intro ?_ ?_ | (intro h; first | with_reducible exact tf_no h | with_reducible exact ft_no h | exact Bool.noConfusion h | with_reducible exact h | (have ht : true = true := h; clear ht h) | skip) | ((with_reducible refine DWl.mark ?_); repeat' (first | refine DWl.cons ?_ ?_ | exact DWl.nil | exact DW.same _ rfl | exact DW.ref _ _ _ rfl | exact DW.arr _ _ _ rfl | exact DW.sub _ _ _ _ rfl | exact DW.nilLst _ | refine DW.aggl ?_ | refine DW.tupl ?_ | refine DW.clol ?_ ?_ | refine DW.int ?_ | refine DW.bool ?_ | refine DW.str ?_)) | ((with_reducible refine SCall.mark ?_); first | refine SCall.data (hn i ?_) rfl rfl ?_ | refine SCall.scal (hn i ?_) rfl rfl ?_) | ((with_reducible refine PCall.mark ?_); first | refine PCall.mk (hn i ?_) rfl rfl ?_) | ((with_reducible refine GCall.mark ?_); first | refine GCall.data (fun _ => hn i ?_) rfl rfl ?_ | refine GCall.scal (fun _ => hn i ?_) rfl rfl ?_) | ((with_reducible refine MCall.mark ?_); first | refine MCall.data (fun _ => hn i ?_) rfl rfl ?_ | refine MCall.plain (PCall.mk (hn i ?_) rfl rfl ?_)) | ((with_reducible refine ECall.mark ?_); first | refine ECall.only ?_ (fun h => nomatch h) | refine ECall.only ?_ ?_) | ((with_reducible refine Drawn.mark ?_); first | refine Drawn.quiet (by kernel_rfl) ?_) | refine dloadE_map (([] : List ByteArray)) ?_ ?_ | refine dloadE_map (emB) ?_ ?_ | refine dcell_ok rfl ?_ | refine AppC.new ?_))
  all_goals try ((conv => whnf); with_reducible refine Round.mark ?_)
  all_goals try first | ((with_reducible show Option.isSome (slElem _ _) = true); kernel_rfl) | ((with_reducible show slElem _ _ = some _); kernel_rfl) | ((with_reducible refine enters_mark ?_); kernel_rfl) | (with_reducible assumption) | ((with_reducible show List.all _ DV.one = true); rfl) | ((with_reducible show (_ : Nat) = _); rfl) | ((with_reducible show (_ == true) = true); simpa using h) | ((with_reducible show (_ : Nat) ≤ _); exact Nat.le_of_ble_eq_true rfl) | ((with_reducible show (_ : Int) ≤ _); first | omega | decide) | ((with_reducible show (_ : Int) < _); first | omega | decide) | ((with_reducible show (_ : Nat) < _); omega) | ((with_reducible show (_ : Nat) ≤ _); omega)
  all_goals try (first | (exact of_decide_eq_true (by assumption); done) | (exact lt_of_test (by assumption); done) | (exact col_in ht hk (lt_of_test (by assumption)); done) | (exact col_at ht hk (lt_of_test (by assumption)); done) | (exact Nat.zero_lt_succ _; done) | (exact Nat.lt_succ_self _; done))
  · rename_i e0
    have hlt := lt_of_test e0
    conv => whnf
    exact congrArg (fun b => bl b) (nm_no hlt h)
  · rename_i e0
    have hlt := lt_of_test e0
    refine Round.go (fun _ => i + 1) (nm_next hi hlt h) (by show t.rows.length - (i + 1) < t.rows.length - i; omega) (Weak.list [(0, some 0)] [] (by kernel_rfl) ?_ ?_)
    · repeat' (first | exact wsucc hlt (by have := ht.rows; omega) | exact DW.same _ rfl | exact DW.ref _ _ _ rfl | exact DW.arr _ _ _ rfl | exact OW.cells rfl rfl (DWl.same rfl) | refine OW.cells rfl rfl ?_ | refine DWl.cons ?_ ?_ | exact DWl.nil | exact DW.nilArr _ rfl | exact DW.nilLst _ | refine DW.clol ?_ ?_ | refine DW.aggl ?_ | refine DW.tupl ?_ | refine DW.int ?_ | refine DW.bool ?_ | refine DW.str ?_ | refine DW.arrE rfl ?_ | ((conv => whnf); first | refine And.intro ?_ ?_ | trivial))
    · repeat' (first | exact wsucc hlt (by have := ht.rows; omega) | exact DW.same _ rfl | exact DW.ref _ _ _ rfl | exact DW.arr _ _ _ rfl | exact OW.cells rfl rfl (DWl.same rfl) | refine OW.cells rfl rfl ?_ | refine DWl.cons ?_ ?_ | exact DWl.nil | exact DW.nilArr _ rfl | exact DW.nilLst _ | refine DW.clol ?_ ?_ | refine DW.aggl ?_ | refine DW.tupl ?_ | refine DW.int ?_ | refine DW.bool ?_ | refine DW.str ?_ | refine DW.arrE rfl ?_ | ((conv => whnf); first | refine And.intro ?_ ?_ | trivial))
  · have hge := ge_of_test h
    conv => whnf
    exact congrArg (fun b => bl b) (nm_end hi hge)
end Go.Proofs.YtlchjjchgebfiaaGreatDoor

/- Draw, as the document draws a table. -/
namespace Go.Proofs.YtlchjjchgebfiaaGreatDoor
open Go.RowKit Go.Dl
attribute [local irreducible] Tri SCall TSem ECall Drawn DFun QSem PSem PCall GCall MCall Round Weak dloadE OW DWl Tells IntKind.wrap Retold ESem
def drA (t : Tb) (k : Nat) : St := ⟨0, tmOf [(1, .ref 0 0), (2, strV emB), (3, .arr 1 k), (4, .arr 2 k), (5, .arr 3 k), (6, int1 k)], .of [(0, ⟨25, 2, tbD t⟩), (1, ⟨3, 1, wsD ((cols t).take k)⟩), (2, ⟨4, 1, rsD ((cols t).take k)⟩), (3, ⟨9, 1, rowS ((rule t).take k)⟩)] 4⟩
def drW (t : Tb) (k i : Nat) : St := ⟨0, tmOf [(1, .ref 0 0), (2, strV emB), (3, .arr 1 k), (4, .arr 2 k), (5, .arr 3 k), (6, int1 k), (7, int1 (wI t k i)), (8, int1 i)], .of [(0, ⟨25, 2, tbD t⟩), (1, ⟨3, 1, wsD ((cols t).take k)⟩), (2, ⟨4, 1, rsD ((cols t).take k)⟩), (3, ⟨9, 1, rowS ((rule t).take k)⟩)] 4⟩
def drL (t : Tb) (i : Nat) : St := ⟨0, tmOf [(1, .ref 0 0), (2, strV emB), (3, .arr 1 (cols t).length), (4, .arr 2 (cols t).length), (9, strV (drawI t i)), (10, int1 i)], .of [(0, ⟨25, 2, tbD t⟩), (1, ⟨3, 1, wsD (cols t)⟩), (2, ⟨4, 1, rsD (cols t)⟩)] 3⟩
theorem dr_0 (t : Tb) : wsD ((cols t).take 0) = [] ∧ rsD ((cols t).take 0) = [] ∧ rowS ((rule t).take 0) = [] := ⟨rfl, rfl, rfl⟩
theorem rep_dash (n : Nat) : repB dashB n = bs (List.replicate n 45) := by
  unfold repB
  congr 1
  induction n with
  | zero => rfl
  | succ n ih => rw [List.replicate_succ, ← ih]; rfl
theorem dash41_D (t : Tb) (ht : Tbl t) (k : Nat) (hk : k < t.head.length) : DPure Tryz.prog 41 [strV emB, .v (.int .u8 45), int1 (wI t k t.rows.length)] (strV (rulA t k)) := by
  have h1 := wN_le ht hk (Nat.le_refl _)
  have := fill41_D emB 45 (wI t k t.rows.length) (Nat.zero_le _) (by rw [wI_eq]; omega)
  have e : fillB emB 45 (wI t k t.rows.length) = rulA t k := by
    rw [fillB, emB_app, wI_eq, Int.toNat_natCast, rulA, rep_dash]; rfl
  rw [e] at this
  exact this
theorem dash41_E (t : Tb) (ht : Tbl t) (k : Nat) (hk : k < t.head.length) (i : Nat) (hi : i ≤ t.rows.length) (hge : decide ((i : Int) < ((t.rows.map rowD).length : Nat)) = false) : DPure Tryz.prog 41 [strV emB, .v (.int .u8 45), int1 (wI t k i)] (strV (rulA t k)) := by
  obtain rfl : i = t.rows.length := by have := ge_of_test hge; omega
  exact dash41_D t ht k hk
set_option maxRecDepth 20000 in
theorem a_b1 {t : Tb} {k : Nat} (hk : k < t.head.length) : k * Tryz.prog.types[3].size ≤ (wsD ((cols t).take k)).length := by
  show k * 1 ≤ _
  rw [ws_len, List.length_take, cols_len]; omega
set_option maxRecDepth 20000 in
theorem a_b2 {k n : Nat} (h : k < n) (hn : n ≤ 64) : (k + 1) * Tryz.prog.types[3].bytes ≤ 140737488355328 := by
  show (k + 1) * 8 ≤ _
  omega
set_option maxRecDepth 20000 in
theorem a_b4 {t : Tb} {k : Nat} (hk : k < t.head.length) : k * Tryz.prog.types[4].size ≤ (rsD ((cols t).take k)).length := by
  show k * 1 ≤ _
  rw [rs_len, List.length_take, cols_len]; omega
set_option maxRecDepth 20000 in
theorem a_b5 {k n : Nat} (h : k < n) (hn : n ≤ 64) : (k + 1) * Tryz.prog.types[4].bytes ≤ 140737488355328 := by
  show (k + 1) * 1 ≤ _
  omega
theorem take_ws {t : Tb} {k : Nat} (hk : k < t.head.length) : (wsD ((cols t).take k)).take (k * 1) ++ [int1 (wI t k t.rows.length)] = wsD ((cols t).take (k + 1)) := by
  have hl : ((cols t).take k).length = k := by rw [List.length_take, cols_len]; omega
  rw [List.take_of_length_le (by rw [ws_len, hl]; omega), take_succ (d := c0) (by rw [cols_len]; exact hk), cols_at hk, wI_eq]
  simp [wsD, colA]
theorem take_rs {t : Tb} {k : Nat} (hk : k < t.head.length) : (rsD ((cols t).take k)).take (k * 1) ++ [bl (rI t k t.rows.length)] = rsD ((cols t).take (k + 1)) := by
  have hl : ((cols t).take k).length = k := by rw [List.length_take, cols_len]; omega
  rw [List.take_of_length_le (by rw [rs_len, hl]; omega), take_succ (d := c0) (by rw [cols_len]; exact hk), cols_at hk]
  simp [rsD, colA]
theorem full_ws (t : Tb) : wsD ((cols t).take t.head.length) = wsD (cols t) := by rw [List.take_of_length_le (by rw [cols_len]; exact Nat.le_refl _)]
theorem full_rs (t : Tb) : rsD ((cols t).take t.head.length) = rsD (cols t) := by rw [List.take_of_length_le (by rw [cols_len]; exact Nat.le_refl _)]
theorem lin_rowI {t : Tb} (ht : Tbl t) {i : Nat} (hi : i < t.rows.length) : Lin (cols t) (t.rows.getD (i : Int).toNat []) := lin_row ht hi
theorem dr_z (t : Tb) : dlineB (cols t) t.head ++ dlineB (cols t) (rule t) = drawI t 0 := by rw [drawI, emB_app]
theorem dr_n (t : Tb) (i : Nat) : drawI t i ++ dlineB (cols t) (t.rows.getD (i : Int).toNat []) = drawI t (i + 1) := rfl
theorem lin_rowT {t : Tb} (ht : Tbl t) {i : Nat} (h : decide ((i : Int) < ((t.rows.map rowD).length : Nat)) = true) : Lin (cols t) (t.rows.getD (i : Int).toNat []) := lin_row ht (lt_of_test h)
theorem w_zero (t : Tb) (k : Nat) : (((t.head.getD (k : Int).toNat emB).size : Nat) : Int) = wI t k 0 := rfl
attribute [local irreducible] wsD rsD cols rule rulA rowS wI rI drawI dlineB
set_option maxRecDepth 20000 in
set_option maxHeartbeats 2000000 in
set_option pp.maxSteps 800 in
theorem draw13_D (t : Tb) (ht : Tbl t) : DPure Tryz.prog 13 [tab t] (strV (drawT t)) := by
  refine DFun.body Tryz.func13 rfl (by kernel_rfl) ?_
  repeat' (first | with_reducible rfl | ((conv => whnf); first | refine And.intro ?_ ?_ | (intro h; first | with_reducible exact tf_no h | with_reducible exact ft_no h | exact Bool.noConfusion h | with_reducible exact h | (have ht : true = true := h; clear ht h) | skip) | ((with_reducible refine DWl.mark ?_); repeat' (first | refine DWl.cons ?_ ?_ | exact DWl.nil | exact DW.same _ rfl | exact DW.ref _ _ _ rfl | exact DW.arr _ _ _ rfl | exact DW.sub _ _ _ _ rfl | exact DW.nilLst _ | refine DW.aggl ?_ | refine DW.tupl ?_ | refine DW.clol ?_ ?_ | refine DW.int ?_ | refine DW.bool ?_ | refine DW.str ?_)) | ((with_reducible refine ECall.mark ?_); first | refine ECall.only ?_ (fun h => nomatch h) | refine ECall.only ?_ ?_) | ((with_reducible refine Drawn.mark ?_); first | refine Drawn.quiet (by kernel_rfl) ?_) | refine dcell_ok rfl ?_ | refine AppC.new ?_))
  all_goals first | (with_reducible refine enters_mark ?_; kernel_rfl) | (with_reducible refine boolT_mark ?_; kernel_rfl) | rfl | trivial | assumption | exact Nat.le_of_ble_eq_true rfl | (show entersB _ _ = true; kernel_rfl) | exact DW.same _ rfl | exact DW.ref _ _ _ rfl | exact DW.arr _ _ _ rfl | refine DW.int ?_ | refine dvb ?_ | refine dvi ?_ | exact OW.cells rfl rfl (DWl.same rfl) | exact Nat.zero_le _ | omega | skip
  all_goals repeat' (first | refine OW.cells rfl rfl ?_ | exact DW.nilArr _ rfl | refine DWl.cons ?_ ?_ | exact DWl.nil | exact DW.same _ rfl | exact DW.ref _ _ _ rfl | exact DW.arr _ _ _ rfl | exact DW.sub _ _ _ _ rfl | exact DW.nilLst _ | refine DW.aggl ?_ | refine DW.tupl ?_ | refine DW.clol ?_ ?_)
  all_goals try ((conv => whnf); with_reducible first | refine Round.mark ?_ | refine Tells.mark ?_ | refine Retold.mark ?_)
  all_goals try first | (show (_ : Bool) = _; simp_all; done) | (show (_ : Int) < _; simp at *; omega) | (show (_ : Int) ≤ _; simp at *; omega) | (show (_ : Nat) < _; simp at *; omega) | (show (_ : Nat) ≤ _; simp at *; omega)
  conv => whnf
  refine Tri.loop (drA t) (fun k => k ≤ t.head.length) (fun k => t.head.length - k) 0 (by kernel_rfl) (Weak.list [(0, some 0), (1, none), (2, none), (3, none)] [] (by kernel_rfl) ?_ ?_) (Nat.zero_le _) ?_
  · repeat' (first | exact (dr_0 t).1 | exact (dr_0 t).2.1 | exact (dr_0 t).2.2 | exact DW.nilArr _ rfl | exact DW.same _ rfl | exact DW.ref _ _ _ rfl | exact DW.arr _ _ _ rfl | exact OW.cells rfl rfl (DWl.same rfl) | refine OW.cells rfl rfl ?_ | refine DWl.cons ?_ ?_ | exact DWl.nil | exact DW.nilArr _ rfl | exact DW.nilLst _ | refine DW.clol ?_ ?_ | refine DW.aggl ?_ | refine DW.tupl ?_ | refine DW.int ?_ | refine DW.bool ?_ | refine DW.str ?_ | refine DW.arrE rfl ?_ | ((conv => whnf); first | refine And.intro ?_ ?_ | trivial))
  · repeat' (first | exact (dr_0 t).1 | exact (dr_0 t).2.1 | exact (dr_0 t).2.2 | exact DW.nilArr _ rfl | exact DW.same _ rfl | exact DW.ref _ _ _ rfl | exact DW.arr _ _ _ rfl | exact OW.cells rfl rfl (DWl.same rfl) | refine OW.cells rfl rfl ?_ | refine DWl.cons ?_ ?_ | exact DWl.nil | exact DW.nilArr _ rfl | exact DW.nilLst _ | refine DW.clol ?_ ?_ | refine DW.aggl ?_ | refine DW.tupl ?_ | refine DW.int ?_ | refine DW.bool ?_ | refine DW.str ?_ | refine DW.arrE rfl ?_ | ((conv => whnf); first | refine And.intro ?_ ?_ | trivial))
  intro k hk
  have hk : k ≤ t.head.length := hk
  show dcode _ _ _ _ (drA t k) _
  repeat' (first | with_reducible rfl | ((conv => whnf); first | refine And.intro ?_ ?_ | (intro h; first | with_reducible exact tf_no h | with_reducible exact ft_no h | exact Bool.noConfusion h | with_reducible exact h | (have ht : true = true := h; clear ht h) | skip) | ((with_reducible refine DWl.mark ?_); repeat' (first | refine DWl.cons ?_ ?_ | exact DWl.nil | exact DW.same _ rfl | exact DW.ref _ _ _ rfl | exact DW.arr _ _ _ rfl | exact DW.sub _ _ _ _ rfl | exact DW.nilLst _ | refine DW.aggl ?_ | refine DW.tupl ?_ | refine DW.clol ?_ ?_ | refine DW.int ?_ | refine DW.bool ?_ | refine DW.str ?_)) | ((with_reducible refine ECall.mark ?_); first | refine ECall.only ?_ (fun h => nomatch h) | refine ECall.only ?_ ?_) | ((with_reducible refine Drawn.mark ?_); first | refine Drawn.quiet (by kernel_rfl) ?_) | refine dloadE_map (emB) ?_ ?_ | refine dcell_ok rfl ?_ | refine AppC.new ?_))
  all_goals try ((conv => whnf); with_reducible refine Round.mark ?_)
  all_goals try first | ((with_reducible show Option.isSome (slElem _ _) = true); kernel_rfl) | ((with_reducible show slElem _ _ = some _); kernel_rfl) | ((with_reducible refine enters_mark ?_); kernel_rfl) | (with_reducible assumption) | ((with_reducible show List.all _ DV.one = true); rfl) | ((with_reducible show (_ : Nat) = _); rfl) | ((with_reducible show (_ == true) = true); simpa using h) | ((with_reducible show (_ : Nat) ≤ _); exact Nat.le_of_ble_eq_true rfl) | ((with_reducible show (_ : Int) ≤ _); first | omega | decide) | ((with_reducible show (_ : Int) < _); first | omega | decide) | ((with_reducible show (_ : Nat) < _); omega) | ((with_reducible show (_ : Nat) ≤ _); omega)
  · exact of_decide_eq_true h
  · exact lt_of_test h
  · rfl
  · have hlt : k < t.head.length := lt_of_test h
    conv => whnf
    refine Tri.loop (drW t k) (fun i => i ≤ t.rows.length) (fun i => t.rows.length - i) 0 (by kernel_rfl) (Weak.list [(0, some 0), (1, some 1), (2, some 2), (3, some 3)] [] (by kernel_rfl) ?_ ?_) (Nat.zero_le _) ?_
    · repeat' (first | exact w_zero t k | exact DWl.eq rfl (ws_all _) | exact DWl.eq rfl (rs_all _) | exact DWl.eq rfl (rowS_all _) | exact DW.same _ rfl | exact DW.ref _ _ _ rfl | exact DW.arr _ _ _ rfl | exact OW.cells rfl rfl (DWl.same rfl) | refine OW.cells rfl rfl ?_ | refine DWl.cons ?_ ?_ | exact DWl.nil | exact DW.nilArr _ rfl | exact DW.nilLst _ | refine DW.clol ?_ ?_ | refine DW.aggl ?_ | refine DW.tupl ?_ | refine DW.int ?_ | refine DW.bool ?_ | refine DW.str ?_ | refine DW.arrE rfl ?_ | ((conv => whnf); first | refine And.intro ?_ ?_ | trivial))
    · repeat' (first | exact w_zero t k | exact DWl.eq rfl (ws_all _) | exact DWl.eq rfl (rs_all _) | exact DWl.eq rfl (rowS_all _) | exact DW.same _ rfl | exact DW.ref _ _ _ rfl | exact DW.arr _ _ _ rfl | exact OW.cells rfl rfl (DWl.same rfl) | refine OW.cells rfl rfl ?_ | refine DWl.cons ?_ ?_ | exact DWl.nil | exact DW.nilArr _ rfl | exact DW.nilLst _ | refine DW.clol ?_ ?_ | refine DW.aggl ?_ | refine DW.tupl ?_ | refine DW.int ?_ | refine DW.bool ?_ | refine DW.str ?_ | refine DW.arrE rfl ?_ | ((conv => whnf); first | refine And.intro ?_ ?_ | trivial))
    intro i hi
    have hi : i ≤ t.rows.length := hi
    show dcode _ _ _ _ (drW t k i) _
    repeat' (first | with_reducible rfl | ((conv => whnf); first | refine And.intro ?_ ?_ | (intro h; first | with_reducible exact tf_no h | with_reducible exact ft_no h | exact Bool.noConfusion h | with_reducible exact h | (have ht : true = true := h; clear ht h) | skip) | ((with_reducible refine DWl.mark ?_); repeat' (first | refine DWl.cons ?_ ?_ | exact DWl.nil | exact DW.same _ rfl | exact DW.ref _ _ _ rfl | exact DW.arr _ _ _ rfl | exact DW.sub _ _ _ _ rfl | exact DW.nilLst _ | refine DW.aggl ?_ | refine DW.tupl ?_ | refine DW.clol ?_ ?_ | refine DW.int ?_ | refine DW.bool ?_ | refine DW.str ?_)) | ((with_reducible refine SCall.mark ?_); first | refine SCall.data (numbers40_D t ht k hlt) rfl rfl ?_ | refine SCall.scal (numbers40_D t ht k hlt) rfl rfl ?_ | refine SCall.data (dash41_E t ht k hlt i hi ?_) rfl rfl ?_ | refine SCall.scal (dash41_E t ht k hlt i hi ?_) rfl rfl ?_) | ((with_reducible refine PCall.mark ?_); first | refine PCall.mk (numbers40_D t ht k hlt) rfl rfl ?_ | refine PCall.mk (dash41_E t ht k hlt i hi ?_) rfl rfl ?_) | ((with_reducible refine GCall.mark ?_); first | refine GCall.data (fun _ => numbers40_D t ht k hlt) rfl rfl ?_ | refine GCall.scal (fun _ => numbers40_D t ht k hlt) rfl rfl ?_ | refine GCall.data (fun _ => dash41_E t ht k hlt i hi ?_) rfl rfl ?_ | refine GCall.scal (fun _ => dash41_E t ht k hlt i hi ?_) rfl rfl ?_) | ((with_reducible refine MCall.mark ?_); first | refine MCall.data (fun _ => numbers40_D t ht k hlt) rfl rfl ?_ | refine MCall.plain (PCall.mk (numbers40_D t ht k hlt) rfl rfl ?_) | refine MCall.data (fun _ => dash41_E t ht k hlt i hi ?_) rfl rfl ?_ | refine MCall.plain (PCall.mk (dash41_E t ht k hlt i hi ?_) rfl rfl ?_)) | ((with_reducible refine ECall.mark ?_); first | refine ECall.only ?_ (fun h => nomatch h) | refine ECall.only ?_ ?_) | ((with_reducible refine Drawn.mark ?_); first | refine Drawn.quiet (by kernel_rfl) ?_) | refine dloadE_map (([] : List ByteArray)) ?_ ?_ | refine dloadE_map (emB) ?_ ?_ | refine dcell_ok rfl ?_ | refine AppC.new ?_))
    all_goals try ((conv => whnf); with_reducible refine Round.mark ?_)
    all_goals try first | ((with_reducible show Option.isSome (slElem _ _) = true); kernel_rfl) | ((with_reducible show slElem _ _ = some _); kernel_rfl) | ((with_reducible refine enters_mark ?_); kernel_rfl) | (with_reducible assumption) | ((with_reducible show List.all _ DV.one = true); rfl) | ((with_reducible show (_ : Nat) = _); rfl) | ((with_reducible show (_ == true) = true); simpa using h) | ((with_reducible show (_ : Nat) ≤ _); exact Nat.le_of_ble_eq_true rfl) | ((with_reducible show (_ : Int) ≤ _); first | omega | decide) | ((with_reducible show (_ : Int) < _); first | omega | decide) | ((with_reducible show (_ : Nat) < _); omega) | ((with_reducible show (_ : Nat) ≤ _); omega)
    all_goals try (first | (rfl; done) | (exact of_decide_eq_true (by assumption); done) | (exact lt_of_test (by assumption); done) | (exact a_b1 hlt; done) | (exact a_b2 hlt ht.head.2; done) | (exact dl_b3 hlt ht.head.2; done) | (exact a_b4 hlt; done) | (exact a_b5 hlt ht.head.2; done) | (exact cl_b3 hlt; done) | (exact dl_b2 hlt ht.head.2; done) | (exact col_in ht hlt (lt_of_test (by assumption)); done) | (exact col_at ht hlt (lt_of_test (by assumption)); done))
    · have hlt2 := lt_of_test h
      refine Round.go (fun _ => i + 1) hlt2 (by show t.rows.length - (i + 1) < t.rows.length - i; omega) (Weak.list [(0, some 0), (1, some 1), (2, some 2), (3, some 3)] [] (by kernel_rfl) ?_ ?_)
      · repeat' (first | exact wsucc hlt2 (by have := ht.rows; omega) | exact look_w t k i | exact DWl.eq rfl (ws_all _) | exact DWl.eq rfl (rs_all _) | exact DWl.eq rfl (rowS_all _) | exact DW.same _ rfl | exact DW.ref _ _ _ rfl | exact DW.arr _ _ _ rfl | exact OW.cells rfl rfl (DWl.same rfl) | refine OW.cells rfl rfl ?_ | refine DWl.cons ?_ ?_ | exact DWl.nil | exact DW.nilArr _ rfl | exact DW.nilLst _ | refine DW.clol ?_ ?_ | refine DW.aggl ?_ | refine DW.tupl ?_ | refine DW.int ?_ | refine DW.bool ?_ | refine DW.str ?_ | refine DW.arrE rfl ?_ | ((conv => whnf); first | refine And.intro ?_ ?_ | trivial))
      · repeat' (first | exact wsucc hlt2 (by have := ht.rows; omega) | exact look_w t k i | exact DWl.eq rfl (ws_all _) | exact DWl.eq rfl (rs_all _) | exact DWl.eq rfl (rowS_all _) | exact DW.same _ rfl | exact DW.ref _ _ _ rfl | exact DW.arr _ _ _ rfl | exact OW.cells rfl rfl (DWl.same rfl) | refine OW.cells rfl rfl ?_ | refine DWl.cons ?_ ?_ | exact DWl.nil | exact DW.nilArr _ rfl | exact DW.nilLst _ | refine DW.clol ?_ ?_ | refine DW.aggl ?_ | refine DW.tupl ?_ | refine DW.int ?_ | refine DW.bool ?_ | refine DW.str ?_ | refine DW.arrE rfl ?_ | ((conv => whnf); first | refine And.intro ?_ ?_ | trivial))
    · have hi2 : i = t.rows.length := by have := ge_of_test h; omega
      subst hi2
      refine Round.go (fun _ => k + 1) hlt (by show t.head.length - (k + 1) < t.head.length - k; omega) (Weak.list [(0, some 0), (1, some 5), (2, some 7), (3, some 9)] [] (by kernel_rfl) ?_ ?_)
      · repeat' (first | exact wsucc hlt (by have := ht.head.2; omega) | exact DWl.eq (take_ws hlt) (ws_all _) | exact DWl.eq (take_rs hlt) (rs_all _) | exact DWl.eq (take_rowR hlt) (rowS_all _) | exact DW.same _ rfl | exact DW.ref _ _ _ rfl | exact DW.arr _ _ _ rfl | exact OW.cells rfl rfl (DWl.same rfl) | refine OW.cells rfl rfl ?_ | refine DWl.cons ?_ ?_ | exact DWl.nil | exact DW.nilArr _ rfl | exact DW.nilLst _ | refine DW.clol ?_ ?_ | refine DW.aggl ?_ | refine DW.tupl ?_ | refine DW.int ?_ | refine DW.bool ?_ | refine DW.str ?_ | refine DW.arrE rfl ?_ | ((conv => whnf); first | refine And.intro ?_ ?_ | trivial))
      · repeat' (first | exact wsucc hlt (by have := ht.head.2; omega) | exact DWl.eq (take_ws hlt) (ws_all _) | exact DWl.eq (take_rs hlt) (rs_all _) | exact DWl.eq (take_rowR hlt) (rowS_all _) | exact DW.same _ rfl | exact DW.ref _ _ _ rfl | exact DW.arr _ _ _ rfl | exact OW.cells rfl rfl (DWl.same rfl) | refine OW.cells rfl rfl ?_ | refine DWl.cons ?_ ?_ | exact DWl.nil | exact DW.nilArr _ rfl | exact DW.nilLst _ | refine DW.clol ?_ ?_ | refine DW.aggl ?_ | refine DW.tupl ?_ | refine DW.int ?_ | refine DW.bool ?_ | refine DW.str ?_ | refine DW.arrE rfl ?_ | ((conv => whnf); first | refine And.intro ?_ ?_ | trivial))
  · have hk2 : k = t.head.length := by have := ge_of_test h; omega
    subst hk2
    repeat' (first | with_reducible rfl | ((conv => whnf); first | refine And.intro ?_ ?_ | (intro h; first | with_reducible exact tf_no h | with_reducible exact ft_no h | exact Bool.noConfusion h | with_reducible exact h | (have ht : true = true := h; clear ht h) | skip) | ((with_reducible refine DWl.mark ?_); repeat' (first | refine DWl.cons ?_ ?_ | exact DWl.nil | exact DW.same _ rfl | exact DW.ref _ _ _ rfl | exact DW.arr _ _ _ rfl | exact DW.sub _ _ _ _ rfl | exact DW.nilLst _ | refine DW.aggl ?_ | refine DW.tupl ?_ | refine DW.clol ?_ ?_ | refine DW.int ?_ | refine DW.bool ?_ | refine DW.str ?_)) | ((with_reducible refine SCall.mark ?_); first | refine SCall.at [1, 2] (fun _ => [(1, ⟨3, 1, wsD (cols t)⟩), (2, ⟨4, 1, rsD (cols t)⟩)]) (fun _ => strV (dlineB (cols t) t.head)) 0 (line42_S (cols t) t.head (lin_head ht)) (by kernel_rfl) ⟨OW.cells rfl rfl (DWl.eq (full_ws t) (ws_all _)), OW.cells rfl rfl (DWl.eq (full_rs t) (rs_all _)), trivial⟩ (DWl.cons (DW.same _ rfl) (DWl.cons (DW.arrE rfl (cols_len t).symm) (DWl.cons (DW.arrE rfl (cols_len t).symm) DWl.nil))) (DW.same _ rfl) ⟨OW.cells rfl rfl (DWl.eq rfl (ws_all _)), OW.cells rfl rfl (DWl.eq rfl (rs_all _)), trivial⟩ ?_ | refine SCall.pub (args1 := [strs (rule t), .arr 1 t.head.length, .arr 2 t.head.length]) [3] [] trivial (DWl.cons (DW.pubG rfl (rule_len t) rfl rfl rfl strRow (rowR_full t)) (DWl.cons (DW.arr _ _ _ rfl) (DWl.cons (DW.arr _ _ _ rfl) DWl.nil))) (SCall.tidy (nx' := 4) [(0, ⟨25, 2, tbD t⟩), (1, ⟨3, 1, wsD (cols t)⟩), (2, ⟨4, 1, rsD (cols t)⟩)] rfl ⟨rfl, rfl, rfl, trivial⟩ (SCall.at [1, 2] (fun _ => [(1, ⟨3, 1, wsD (cols t)⟩), (2, ⟨4, 1, rsD (cols t)⟩)]) (fun _ => strV (dlineB (cols t) (rule t))) 0 (line42_S (cols t) (rule t) (lin_rule ht)) (by kernel_rfl) ⟨OW.cells rfl rfl (DWl.eq rfl (ws_all _)), OW.cells rfl rfl (DWl.eq rfl (rs_all _)), trivial⟩ (DWl.cons (DW.same _ rfl) (DWl.cons (DW.arrE rfl (cols_len t).symm) (DWl.cons (DW.arrE rfl (cols_len t).symm) DWl.nil))) (DW.same _ rfl) ⟨OW.cells rfl rfl (DWl.eq rfl (ws_all _)), OW.cells rfl rfl (DWl.eq rfl (rs_all _)), trivial⟩ ?_))) | ((with_reducible refine ECall.mark ?_); first | refine ECall.only ?_ (fun h => nomatch h) | refine ECall.only ?_ ?_) | ((with_reducible refine Drawn.mark ?_); first | refine Drawn.quiet (by kernel_rfl) ?_) | refine dcell_ok rfl ?_ | refine AppC.new ?_))
    all_goals try first | ((with_reducible show Option.isSome (slElem _ _) = true); kernel_rfl) | ((with_reducible show slElem _ _ = some _); kernel_rfl) | ((with_reducible refine enters_mark ?_); kernel_rfl) | (with_reducible assumption) | ((with_reducible show List.all _ DV.one = true); rfl) | ((with_reducible show (_ : Nat) = _); rfl) | ((with_reducible show (_ == true) = true); simpa using h) | ((with_reducible show (_ : Nat) ≤ _); exact Nat.le_of_ble_eq_true rfl) | ((with_reducible show (_ : Int) ≤ _); first | omega | decide) | ((with_reducible show (_ : Int) < _); first | omega | decide) | ((with_reducible show (_ : Nat) < _); omega) | ((with_reducible show (_ : Nat) ≤ _); omega)
    · have h1 := dline_size (lin_head ht)
      have h2 := dline_size (lin_rule ht)
      omega
    · conv => whnf
      refine Tri.loop (drL t) (fun i => i ≤ t.rows.length) (fun i => t.rows.length - i) 0 (by kernel_rfl) (Weak.list [(0, some 0), (1, some 1), (2, some 2)] [] (by kernel_rfl) ?_ ?_) (Nat.zero_le _) ?_
      · repeat' (first | exact DW.arrE rfl (cols_len t).symm | exact dr_z t | exact DWl.eq rfl (ws_all _) | exact DWl.eq rfl (rs_all _) | exact DW.same _ rfl | exact DW.ref _ _ _ rfl | exact DW.arr _ _ _ rfl | exact OW.cells rfl rfl (DWl.same rfl) | refine OW.cells rfl rfl ?_ | refine DWl.cons ?_ ?_ | exact DWl.nil | exact DW.nilArr _ rfl | exact DW.nilLst _ | refine DW.clol ?_ ?_ | refine DW.aggl ?_ | refine DW.tupl ?_ | refine DW.int ?_ | refine DW.bool ?_ | refine DW.str ?_ | refine DW.arrE rfl ?_ | ((conv => whnf); first | refine And.intro ?_ ?_ | trivial))
      · repeat' (first | exact DW.arrE rfl (cols_len t).symm | exact dr_z t | exact DWl.eq rfl (ws_all _) | exact DWl.eq rfl (rs_all _) | exact DW.same _ rfl | exact DW.ref _ _ _ rfl | exact DW.arr _ _ _ rfl | exact OW.cells rfl rfl (DWl.same rfl) | refine OW.cells rfl rfl ?_ | refine DWl.cons ?_ ?_ | exact DWl.nil | exact DW.nilArr _ rfl | exact DW.nilLst _ | refine DW.clol ?_ ?_ | refine DW.aggl ?_ | refine DW.tupl ?_ | refine DW.int ?_ | refine DW.bool ?_ | refine DW.str ?_ | refine DW.arrE rfl ?_ | ((conv => whnf); first | refine And.intro ?_ ?_ | trivial))
      intro i hi
      have hi : i ≤ t.rows.length := hi
      show dcode _ _ _ _ (drL t i) _
      repeat' (first | with_reducible rfl | ((conv => whnf); first | refine And.intro ?_ ?_ | (intro h; first | with_reducible exact tf_no h | with_reducible exact ft_no h | exact Bool.noConfusion h | with_reducible exact h | (have ht : true = true := h; clear ht h) | skip) | ((with_reducible refine DWl.mark ?_); repeat' (first | refine DWl.cons ?_ ?_ | exact DWl.nil | exact DW.same _ rfl | exact DW.ref _ _ _ rfl | exact DW.arr _ _ _ rfl | exact DW.sub _ _ _ _ rfl | exact DW.nilLst _ | refine DW.aggl ?_ | refine DW.tupl ?_ | refine DW.clol ?_ ?_ | refine DW.int ?_ | refine DW.bool ?_ | refine DW.str ?_)) | ((with_reducible refine SCall.mark ?_); first | refine SCall.at [1, 2] (fun _ => [(1, ⟨3, 1, wsD (cols t)⟩), (2, ⟨4, 1, rsD (cols t)⟩)]) (fun _ => strV (dlineB (cols t) (t.rows.getD (i : Int).toNat []))) 0 (line42_S (cols t) (t.rows.getD (i : Int).toNat []) (lin_rowT ht ?_)) (by kernel_rfl) ⟨OW.cells rfl rfl (DWl.eq rfl (ws_all _)), OW.cells rfl rfl (DWl.eq rfl (rs_all _)), trivial⟩ (DWl.cons (DW.same _ rfl) (DWl.cons (DW.arrE rfl rfl) (DWl.cons (DW.arrE rfl rfl) DWl.nil))) (DW.same _ rfl) ⟨OW.cells rfl rfl (DWl.eq rfl (ws_all _)), OW.cells rfl rfl (DWl.eq rfl (rs_all _)), trivial⟩ ?_) | ((with_reducible refine ECall.mark ?_); first | refine ECall.only ?_ (fun h => nomatch h) | refine ECall.only ?_ ?_) | ((with_reducible refine Drawn.mark ?_); first | refine Drawn.quiet (by kernel_rfl) ?_) | refine dloadE_map (([] : List ByteArray)) ?_ ?_ | refine dcell_ok rfl ?_ | refine AppC.new ?_))
      all_goals try ((conv => whnf); with_reducible refine Round.mark ?_)
      all_goals try first | ((with_reducible show Option.isSome (slElem _ _) = true); kernel_rfl) | ((with_reducible show slElem _ _ = some _); kernel_rfl) | ((with_reducible refine enters_mark ?_); kernel_rfl) | (with_reducible assumption) | ((with_reducible show List.all _ DV.one = true); rfl) | ((with_reducible show (_ : Nat) = _); rfl) | ((with_reducible show (_ == true) = true); simpa using h) | ((with_reducible show (_ : Nat) ≤ _); exact Nat.le_of_ble_eq_true rfl) | ((with_reducible show (_ : Int) ≤ _); first | omega | decide) | ((with_reducible show (_ : Int) < _); first | omega | decide) | ((with_reducible show (_ : Nat) < _); omega) | ((with_reducible show (_ : Nat) ≤ _); omega)
      all_goals try (first | (exact of_decide_eq_true (by assumption); done) | (exact lt_of_test (by assumption); done))
      · have hlt := lt_of_test h
        have h1 := dr_size ht hi
        have h2 := dline_size (lin_row ht hlt)
        have h3 := ht.rows
        show (drawI t i).size + (dlineB (cols t) (t.rows.getD i [])).size ≤ _
        omega
      · have hlt := lt_of_test h
        refine Round.go (fun _ => i + 1) hlt (by show t.rows.length - (i + 1) < t.rows.length - i; omega) (Weak.list [(0, some 0), (1, some 1), (2, some 2)] [] (by kernel_rfl) ?_ ?_)
        · repeat' (first | exact wsucc hlt (by have := ht.rows; omega) | exact dr_n t i | exact DWl.eq rfl (ws_all _) | exact DWl.eq rfl (rs_all _) | exact DW.same _ rfl | exact DW.ref _ _ _ rfl | exact DW.arr _ _ _ rfl | exact OW.cells rfl rfl (DWl.same rfl) | refine OW.cells rfl rfl ?_ | refine DWl.cons ?_ ?_ | exact DWl.nil | exact DW.nilArr _ rfl | exact DW.nilLst _ | refine DW.clol ?_ ?_ | refine DW.aggl ?_ | refine DW.tupl ?_ | refine DW.int ?_ | refine DW.bool ?_ | refine DW.str ?_ | refine DW.arrE rfl ?_ | ((conv => whnf); first | refine And.intro ?_ ?_ | trivial))
        · repeat' (first | exact wsucc hlt (by have := ht.rows; omega) | exact dr_n t i | exact DWl.eq rfl (ws_all _) | exact DWl.eq rfl (rs_all _) | exact DW.same _ rfl | exact DW.ref _ _ _ rfl | exact DW.arr _ _ _ rfl | exact OW.cells rfl rfl (DWl.same rfl) | refine OW.cells rfl rfl ?_ | refine DWl.cons ?_ ?_ | exact DWl.nil | exact DW.nilArr _ rfl | exact DW.nilLst _ | refine DW.clol ?_ ?_ | refine DW.aggl ?_ | refine DW.tupl ?_ | refine DW.int ?_ | refine DW.bool ?_ | refine DW.str ?_ | refine DW.arrE rfl ?_ | ((conv => whnf); first | refine And.intro ?_ ?_ | trivial))
      · have hi2 : i = t.rows.length := by have := ge_of_test h; omega
        subst hi2
        repeat' (first | with_reducible rfl | ((conv => whnf); first | refine And.intro ?_ ?_ | (intro h; first | with_reducible exact tf_no h | with_reducible exact ft_no h | exact Bool.noConfusion h | with_reducible exact h | (have ht : true = true := h; clear ht h) | skip) | ((with_reducible refine DWl.mark ?_); repeat' (first | refine DWl.cons ?_ ?_ | exact DWl.nil | exact DW.same _ rfl | exact DW.ref _ _ _ rfl | exact DW.arr _ _ _ rfl | exact DW.sub _ _ _ _ rfl | exact DW.nilLst _ | refine DW.aggl ?_ | refine DW.tupl ?_ | refine DW.clol ?_ ?_ | refine DW.int ?_ | refine DW.bool ?_ | refine DW.str ?_)) | ((with_reducible refine ECall.mark ?_); first | refine ECall.only ?_ (fun h => nomatch h) | refine ECall.only ?_ ?_) | ((with_reducible refine Drawn.mark ?_); first | refine Drawn.quiet (by kernel_rfl) ?_) | refine dcell_ok rfl ?_ | refine AppC.new ?_))
        all_goals first | (with_reducible refine enters_mark ?_; kernel_rfl) | (with_reducible refine boolT_mark ?_; kernel_rfl) | rfl | trivial | assumption | exact Nat.le_of_ble_eq_true rfl | (show entersB _ _ = true; kernel_rfl) | exact DW.same _ rfl | exact DW.ref _ _ _ rfl | exact DW.arr _ _ _ rfl | refine DW.int ?_ | refine dvb ?_ | refine dvi ?_ | exact OW.cells rfl rfl (DWl.same rfl) | exact Nat.zero_le _ | omega | skip
        all_goals repeat' (first | refine OW.cells rfl rfl ?_ | exact DW.nilArr _ rfl | refine DWl.cons ?_ ?_ | exact DWl.nil | exact DW.same _ rfl | exact DW.ref _ _ _ rfl | exact DW.arr _ _ _ rfl | exact DW.sub _ _ _ _ rfl | exact DW.nilLst _ | refine DW.aggl ?_ | refine DW.tupl ?_ | refine DW.clol ?_ ?_)
        all_goals try ((conv => whnf); with_reducible first | refine Round.mark ?_ | refine Tells.mark ?_ | refine Retold.mark ?_)
        all_goals try first | (show (_ : Bool) = _; simp_all; done) | (show (_ : Int) < _; simp at *; omega) | (show (_ : Int) ≤ _; simp at *; omega) | (show (_ : Nat) < _; simp at *; omega) | (show (_ : Nat) ≤ _; simp at *; omega)
end Go.Proofs.YtlchjjchgebfiaaGreatDoor
