/- What is written and read is the table: plain lists. -/
import Derived.Test.YtlchjjchgebfiaaGreatDoorPkV
import Derived.Test.YtlchjjchgebfiaaGreatDoorPkQ
import Derived.Test.YtlchjjchgebfiaaGreatDoorDl33
import Derived.Test.YtlchjjchgebfiaaGreatDoorPkU

namespace Go.Proofs.YtlchjjchgebfiaaGreatDoor
open Go.RowKit Go.Dl
def rm (s : ByteArray) (a : Nat) : List UInt8 := s.data.toList.drop a
theorem rm_lt {s : ByteArray} {a : Nat} {c : UInt8} {r : List UInt8} (h : rm s a = c :: r) : a < s.size := by
  rcases Nat.lt_or_ge a s.size with h1 | h1
  · exact h1
  · unfold rm at h
    rw [List.drop_eq_nil_of_le (by rw [sz_len]; exact h1)] at h
    cases h
theorem rm_next {s : ByteArray} {a : Nat} {c : UInt8} {r : List UInt8} (h : rm s a = c :: r) : rm s (a + 1) = r := by
  unfold rm at h ⊢
  rw [show a + 1 = a + 1 from rfl, ← List.drop_drop, h]; rfl
theorem rm_add {s : ByteArray} {a : Nat} {p r : List UInt8} (h : rm s a = p ++ r) : rm s (a + p.length) = r := by
  unfold rm at h ⊢
  rw [← List.drop_drop, h, List.drop_left]
theorem rm_get {s : ByteArray} {a : Nat} {c : UInt8} {r : List UInt8} (h : rm s a = c :: r) : s.data.toList.getD a 0 = c := by
  unfold rm at h
  have := List.getElem?_drop (xs := s.data.toList) (i := a) (j := 0)
  rw [h] at this
  rw [List.getD_eq_getElem?_getD, show a = a + 0 from rfl, ← this]; rfl
theorem rm_byte {s : ByteArray} {a : Nat} {c : UInt8} {r : List UInt8} (h : rm s a = c :: r) : byteAt s a = (c.toNat : Int) := by
  unfold byteAt
  rw [rm_get h]
theorem rm_byB {s : ByteArray} {a : Nat} {c : UInt8} {r : List UInt8} (h : rm s a = c :: r) : byB s a = bs [c] := by
  unfold byB
  rw [rm_get h]; rfl
theorem ext_rm (s : ByteArray) (a : Nat) : (s.extract a s.size).data.toList = rm s a := by
  rw [ByteArray.data_extract, Array.toList_extract, List.extract_eq_take_drop]
  unfold rm
  exact List.take_of_length_le (by rw [List.length_drop, sz_len]; exact Nat.le_refl _)
theorem endR_nl {s : ByteArray} {a : Nat} {r : List UInt8} (h : rm s a = 10 :: r) : endR s a = 1 := by
  unfold endR
  rw [ext_rm, h]; rfl
theorem endR_nn {s : ByteArray} {a : Nat} {c : UInt8} {r : List UInt8} (h : rm s a = c :: r) (h1 : c ≠ 10) (h2 : c ≠ 13) : endR s a = 0 := by
  have e1 : (c == 10) = false := by simpa using h1
  have e2 : (c == 13) = false := by simpa using h2
  have e3 : (10 == c) = false := by rw [BEq.comm]; exact e1
  have e4 : (13 == c) = false := by rw [BEq.comm]; exact e2
  have g1 : Lib.hasPrefix (c :: r) [10] = false := by show (((10 : UInt8) == c) && List.isPrefixOf [] r) = false; rw [e3]; rfl
  have g2 : Lib.hasPrefix (c :: r) [13, 10] = false := by show (((13 : UInt8) == c) && List.isPrefixOf [10] r) = false; rw [e4]; rfl
  unfold endR
  rw [ext_rm, h, g1, g2]; rfl
theorem u8_ne {c : UInt8} {n : Nat} (_ : n < 256) (h : c ≠ UInt8.ofNat n) : ((c.toNat : Int) == (n : Int)) = false := by
  rw [beq_eq_false_iff_ne]
  intro e
  apply h
  have e : c.toNat = n := by omega
  rw [← e]
  exact (UInt8.ofNat_toNat).symm
theorem bs_app2 (x : ByteArray) (p q : List UInt8) : x ++ bs p ++ bs q = x ++ bs (p ++ q) := by
  rw [bs_app]
  apply ByteArray.ext
  simp [ByteArray.data_append, Array.append_assoc]
theorem bs_nil (x : ByteArray) : x ++ bs [] = x := by
  apply ByteArray.ext
  rw [ByteArray.data_append]
  show x.data ++ #[] = x.data
  simp
/-- A plain stretch. -/
theorem read_plain {s : ByteArray} {q : List UInt8} : ∀ (p : List UInt8) (i : RS), (i.st = 0 ∨ i.st = 1) → (∀ b ∈ p, spc b = false) → rm s i.at_ = p ++ q →
    ∃ st', (st' = 0 ∨ st' = 1) ∧ rowG s i = rowG s ⟨st', i.cell ++ bs p, i.l, i.at_ + p.length, i.line⟩
  | [], i, h0, _, _ => ⟨i.st, h0, by rw [bs_nil]; rfl⟩
  | b :: p, i, h0, hp, hd => by
    have hb := hp b (List.mem_cons_self ..)
    unfold spc at hb
    simp only [Bool.or_eq_false_iff, beq_eq_false_iff_ne] at hb
    obtain ⟨b1, b2, b3, b4⟩ := hb
    have hd : rm s i.at_ = b :: (p ++ q) := hd
    have h2 : (i.st == 2) = false := by rcases h0 with h | h <;> rw [h] <;> rfl
    have h3 : (i.st == 3) = false := by rcases h0 with h | h <;> rw [h] <;> rfl
    have e44 : (byteAt s i.at_ == 44) = false := by rw [rm_byte hd]; exact u8_ne (n := 44) (by decide) b1
    have e34 : (byteAt s i.at_ == 34) = false := by rw [rm_byte hd]; exact u8_ne (n := 34) (by decide) b2
    have hs := st_p (s := s) (i := i) h2 (by rw [endR_nn hd b3 b4]; rfl) e44 (by rw [h3]; rfl) (by rw [e34]; cases i.st == 0 <;> rfl) (by rw [h3, e34]; rfl)
    have hg := rowG_more (rm_lt hd) hs rfl
    obtain ⟨st', h1, h5⟩ := read_plain p ⟨1, i.cell ++ byB s i.at_, i.l, i.at_ + 1, i.line⟩ (.inr rfl) (fun x hx => hp x (List.mem_cons_of_mem _ hx)) (rm_next hd)
    refine ⟨st', h1, hg.symm.trans (h5.trans ?_)⟩
    show rowG s ⟨st', i.cell ++ byB s i.at_ ++ bs p, i.l, i.at_ + 1 + p.length, i.line⟩ = _
    rw [rm_byB hd, bs_app2, List.length_cons, show i.at_ + 1 + p.length = i.at_ + (p.length + 1) by omega]; rfl
/-- A stretch within quotes, to its closing byte 34. -/
theorem read_quoted {s : ByteArray} {q : List UInt8} (hq : ∀ r, q ≠ 34 :: r) : ∀ (p : List UInt8) (i : RS), i.st = 2 → rm s i.at_ = p.flatMap dblQ ++ 34 :: q →
    ∃ ln, rowG s i = rowG s ⟨3, i.cell ++ bs p, i.l, i.at_ + (p.flatMap dblQ).length + 1, ln⟩
  | [], i, h0, hd => by
    have hd : rm s i.at_ = 34 :: q := hd
    have h2 : (i.st == 2) = true := by rw [h0]; rfl
    have hs := st_q1 (s := s) (i := i) h2 (by rw [rm_byte hd]; rfl)
    exact ⟨_, by rw [bs_nil]; exact (rowG_more (rm_lt hd) hs rfl).symm⟩
  | b :: p, i, h0, hd => by
    have h2 : (i.st == 2) = true := by rw [h0]; rfl
    by_cases hb : b = 34
    · subst hb
      have hd : rm s i.at_ = 34 :: 34 :: (p.flatMap dblQ ++ 34 :: q) := hd
      have hs := st_q1 (s := s) (i := i) h2 (by rw [rm_byte hd]; rfl)
      have hg := rowG_more (rm_lt hd) hs rfl
      have hd1 := rm_next hd
      have hs1 := st_d (s := s) (i := ⟨3, i.cell, i.l, i.at_ + 1, nlI (byteAt s i.at_) i.line⟩) rfl (by show decide (0 < endR s (i.at_ + 1)) = false; rw [endR_nn hd1 (by decide) (by decide)]; rfl) (by show (byteAt s (i.at_ + 1) == 44) = false; rw [rm_byte hd1]; rfl) (by show (byteAt s (i.at_ + 1) == 34) = true; rw [rm_byte hd1]; rfl)
      have hg1 := rowG_more (by exact rm_lt hd1) hs1 rfl
      obtain ⟨ln, h5⟩ := read_quoted hq p ⟨2, i.cell ++ byB s (i.at_ + 1), i.l, i.at_ + 1 + 1, nlI (byteAt s i.at_) i.line⟩ rfl (rm_next hd1)
      refine ⟨ln, hg.symm.trans (hg1.symm.trans (h5.trans ?_))⟩
      show rowG s ⟨3, i.cell ++ byB s (i.at_ + 1) ++ bs p, i.l, i.at_ + 1 + 1 + (p.flatMap dblQ).length + 1, ln⟩ = _
      rw [rm_byB hd1, bs_app2, List.flatMap_cons, List.length_append, show (dblQ 34).length = 2 from rfl, show i.at_ + 1 + 1 + (p.flatMap dblQ).length + 1 = i.at_ + (2 + (p.flatMap dblQ).length) + 1 by omega]; rfl
    · have hd : rm s i.at_ = b :: (p.flatMap dblQ ++ 34 :: q) := by rw [hd, List.flatMap_cons, dblQ, if_neg hb]; rfl
      have e34 : (byteAt s i.at_ == 34) = false := by rw [rm_byte hd]; exact u8_ne (n := 34) (by decide) hb
      have hs := st_q2 (s := s) (i := i) h2 e34
      have hg := rowG_more (rm_lt hd) hs rfl
      obtain ⟨ln, h5⟩ := read_quoted hq p ⟨2, i.cell ++ byB s i.at_, i.l, i.at_ + 1, nlI (byteAt s i.at_) i.line⟩ rfl (rm_next hd)
      refine ⟨ln, hg.symm.trans (h5.trans ?_)⟩
      show rowG s ⟨3, i.cell ++ byB s i.at_ ++ bs p, i.l, i.at_ + 1 + (p.flatMap dblQ).length + 1, ln⟩ = _
      rw [rm_byB hd, bs_app2, List.flatMap_cons, List.length_append, show (dblQ b).length = 1 by rw [dblQ, if_neg hb]; rfl, show i.at_ + 1 + (p.flatMap dblQ).length + 1 = i.at_ + (1 + (p.flatMap dblQ).length) + 1 by omega]; rfl
def cellL (a : Bool) (c : ByteArray) : List UInt8 := (wrB c a).data.toList
theorem bs_data (x : ByteArray) : bs x.data.toList = x := by
  apply ByteArray.ext
  show x.data.toList.toArray = x.data
  simp
theorem emB_bs (x : ByteArray) : emB ++ bs x.data.toList = x := by rw [bs_data, emB_app]
theorem cellL_q {a : Bool} {c : ByteArray} (h : wrT c a = true) : cellL a c = 34 :: (c.data.toList.flatMap dblQ ++ [34]) := by
  unfold cellL wrB
  rw [h]
  show (quoB ++ repQ c ++ quoB).data.toList = _
  rw [ByteArray.data_append, ByteArray.data_append, Array.toList_append, Array.toList_append]
  show [34] ++ (c.data.toList.flatMap dblQ).toArray.toList ++ [34] = _
  rw [List.toList_toArray]; rfl
theorem cellL_p {a : Bool} {c : ByteArray} (h : wrT c a = false) : cellL a c = c.data.toList ∧ ∀ b ∈ c.data.toList, spc b = false := by
  unfold cellL wrB
  rw [h]
  refine ⟨rfl, ?_⟩
  unfold wrT at h
  cases e : c.data.toList.any spc with
  | true => rw [e] at h; cases h
  | false => intro b hb
             cases e2 : spc b with
             | false => rfl
             | true => rw [List.any_eq_true.2 ⟨b, hb, e2⟩] at e; cases e
/-- A cell. -/
theorem read_cell {s : ByteArray} {a : Bool} {c : ByteArray} {sep : UInt8} {r : List UInt8} (hsep : sep = 44 ∨ sep = 10) (i : RS) (h0 : i.st = 0) (hc : i.cell = emB) (hd : rm s i.at_ = cellL a c ++ sep :: r) :
    ∃ st' ln, (st' == 2) = false ∧ rowG s i = rowG s ⟨st', c, i.l, i.at_ + (cellL a c).length, ln⟩ := by
  cases hw : wrT c a with
  | false =>
    obtain ⟨h1, h2⟩ := cellL_p hw
    rw [h1] at hd ⊢
    obtain ⟨st', h3, h4⟩ := read_plain _ i (.inl h0) h2 hd
    rw [hc, emB_bs] at h4
    exact ⟨st', _, by rcases h3 with h | h <;> rw [h] <;> rfl, h4⟩
  | true =>
    have h1 := cellL_q hw
    rw [h1] at hd ⊢
    have hd : rm s i.at_ = 34 :: (c.data.toList.flatMap dblQ ++ 34 :: (sep :: r)) := by rw [hd]; simp
    have hq : ∀ x, sep :: r ≠ 34 :: x := fun x e => by
      injection e with e1 _
      rcases hsep with h | h <;> rw [h] at e1 <;> exact absurd e1 (by decide)
    have h2 : (i.st == 2) = false := by rw [h0]; rfl
    have h3 : (i.st == 3) = false := by rw [h0]; rfl
    have h4 : (i.st == 0) = true := by rw [h0]; rfl
    have hs := st_o (s := s) (i := i) h2 (by rw [endR_nn hd (by decide) (by decide)]; rfl) (by rw [rm_byte hd]; rfl) (by rw [h3]; rfl) (by rw [h4, rm_byte hd]; rfl)
    have hg := rowG_more (rm_lt hd) hs rfl
    obtain ⟨ln, h5⟩ := read_quoted hq _ ⟨2, i.cell, i.l, i.at_ + 1, i.line⟩ rfl (rm_next hd)
    refine ⟨3, ln, rfl, hg.symm.trans (h5.trans ?_)⟩
    show rowG s ⟨3, i.cell ++ bs c.data.toList, i.l, i.at_ + 1 + (c.data.toList.flatMap dblQ).length + 1, ln⟩ = _
    rw [hc, emB_bs, List.length_cons, List.length_append, List.length_singleton, show i.at_ + 1 + (c.data.toList.flatMap dblQ).length + 1 = i.at_ + ((c.data.toList.flatMap dblQ).length + 1 + 1) by omega]
def restL (a : Bool) : List ByteArray → List UInt8
  | [] => [10]
  | c :: cs => 44 :: (cellL a c ++ restL a cs)
theorem restL_sep (a : Bool) (cs : List ByteArray) (r : List UInt8) : ∃ sep q, restL a cs ++ r = sep :: q ∧ (sep = 44 ∨ sep = 10) := by
  cases cs with
  | nil => exact ⟨10, r, rfl, .inr rfl⟩
  | cons c cs => exact ⟨44, _, rfl, .inl rfl⟩
theorem read_rest {s : ByteArray} {a : Bool} {r : List UInt8} : ∀ (cs : List ByteArray) (i : RS), (i.st == 2) = false → rm s i.at_ = restL a cs ++ r →
    ∃ ln, rowG s i = ⟨true, i.l ++ i.cell :: cs, i.at_ + (restL a cs).length, ln⟩
  | [], i, h2, hd => by
    have hd : rm s i.at_ = 10 :: r := hd
    have hs := st_e (s := s) (i := i) h2 (by rw [endR_nl hd]; rfl)
    rw [← rowG_stop (rm_lt hd) hs, endR_nl hd]
    exact ⟨_, rfl⟩
  | c :: cs, i, h2, hd => by
    have hd : rm s i.at_ = 44 :: (cellL a c ++ (restL a cs ++ r)) := by rw [hd]; simp [restL]
    have hs := st_c (s := s) (i := i) h2 (by rw [endR_nn hd (by decide) (by decide)]; rfl) (by rw [rm_byte hd]; rfl)
    have hg := rowG_more (rm_lt hd) hs rfl
    obtain ⟨sep, q, hq, hsep⟩ := restL_sep a cs r
    have hd1 := rm_next hd
    obtain ⟨st', ln, h3, h4⟩ := read_cell (a := a) (c := c) (r := q) hsep ⟨0, emB, i.l ++ [i.cell], i.at_ + 1, i.line⟩ rfl rfl (by rw [← hq]; exact hd1)
    obtain ⟨ln2, h5⟩ := read_rest (r := r) cs ⟨st', c, i.l ++ [i.cell], i.at_ + 1 + (cellL a c).length, ln⟩ h3 (rm_add hd1)
    refine ⟨ln2, hg.symm.trans (h4.trans (h5.trans ?_))⟩
    show RR.mk true ((i.l ++ [i.cell]) ++ c :: cs) (i.at_ + 1 + (cellL a c).length + (restL a cs).length) ln2 = _
    rw [restL, List.length_cons, List.length_append, List.append_assoc, show i.at_ + 1 + (cellL a c).length + (restL a cs).length = i.at_ + ((cellL a c).length + (restL a cs).length + 1) by omega]; rfl
def lineL (a : Bool) : List ByteArray → List UInt8
  | [] => [10]
  | c :: cs => cellL a c ++ restL a cs
theorem read_line {s : ByteArray} {a : Bool} {r : List UInt8} (l : List ByteArray) (hl : 1 ≤ l.length) (at_ : Nat) (ln0 : Int) (hd : rm s at_ = lineL a l ++ r) :
    ∃ ln, rowG s ⟨0, emB, [], at_, ln0⟩ = ⟨true, l, at_ + (lineL a l).length, ln⟩ := by
  match l, hl with
  | c :: cs, _ =>
    have hd : rm s at_ = cellL a c ++ (restL a cs ++ r) := by rw [hd, lineL, List.append_assoc]
    obtain ⟨sep, q, hq, hsep⟩ := restL_sep a cs r
    obtain ⟨st', ln, h3, h4⟩ := read_cell (a := a) (c := c) (r := q) hsep ⟨0, emB, [], at_, ln0⟩ rfl rfl (by rw [← hq]; exact hd)
    obtain ⟨ln2, h5⟩ := read_rest (r := r) cs ⟨st', c, [], at_ + (cellL a c).length, ln⟩ h3 (rm_add hd)
    refine ⟨ln2, h4.trans (h5.trans ?_)⟩
    show RR.mk true ([] ++ c :: cs) (at_ + (cellL a c).length + (restL a cs).length) ln2 = _
    rw [lineL, List.length_append, Nat.add_assoc]; rfl
theorem lineI_rest {l : List ByteArray} {a : Bool} : ∀ (i : Nat), i + 1 ≤ l.length → (lineI l a (i + 1)).data.toList ++ restL a (l.drop (i + 1)) = cellL a (l.getD 0 emB) ++ restL a (l.drop 1)
  | 0, _ => by
    rw [lineI]
    show (emB ++ wrB (l.getD 0 emB) a).data.toList ++ _ = _
    rw [emB_app]; rfl
  | i + 1, hi => by
    rw [lineI, decide_eq_true (show (0 : Int) < ((i + 1 : Nat) : Int) by omega)]
    show (lineI l a (i + 1) ++ comB ++ wrB (l.getD (i + 1) emB) a).data.toList ++ _ = _
    rw [← lineI_rest i (by omega), ByteArray.data_append, ByteArray.data_append, Array.toList_append, Array.toList_append]
    rw [List.drop_eq_getElem_cons (show i + 1 < l.length by omega), restL]
    rw [List.getD_eq_getElem?_getD, List.getElem?_eq_getElem (show i + 1 < l.length by omega)]
    rw [List.append_assoc, List.append_assoc]; rfl
theorem lineW_L (l : List ByteArray) (a : Bool) (hl : 1 ≤ l.length) : (lineW l a).data.toList = lineL a l := by
  have h := lineI_rest (l := l) (a := a) (l.length - 1) (by omega)
  rw [show l.length - 1 + 1 = l.length by omega, List.drop_length] at h
  unfold lineW
  rw [ByteArray.data_append, Array.toList_append]
  match l, hl with
  | c :: cs, _ => exact h
def textL (a : Bool) (rows : List (List ByteArray)) : List UInt8 := rows.flatMap (lineL a)
theorem textI_L {t : Tb} (hh : 1 ≤ t.head.length) (hr : ∀ r ∈ t.rows, 1 ≤ r.length) : ∀ (i : Nat), i ≤ t.rows.length → (textI t i).data.toList ++ textL (aloneB t) (t.rows.drop i) = lineL (aloneB t) t.head ++ textL (aloneB t) t.rows
  | 0, _ => by rw [textI, emB_app, lineW_L _ _ hh]; rfl
  | i + 1, hi => by
    rw [← textI_L hh hr i (by omega), textI, ByteArray.data_append, Array.toList_append]
    have hlt : i < t.rows.length := hi
    rw [List.drop_eq_getElem_cons hlt, List.getD_eq_getElem?_getD, List.getElem?_eq_getElem hlt, textL, textL, List.flatMap_cons, List.append_assoc]
    show _ ++ ((lineW t.rows[i] (aloneB t)).data.toList ++ _) = _
    rw [lineW_L _ _ (hr _ (List.getElem_mem hlt))]
theorem textW_L {t : Tb} (hh : 1 ≤ t.head.length) (hr : ∀ r ∈ t.rows, 1 ≤ r.length) : (textW t).data.toList = lineL (aloneB t) t.head ++ textL (aloneB t) t.rows := by
  have h := textI_L hh hr t.rows.length (Nat.le_refl _)
  rw [List.drop_length] at h
  rw [← h]
  show _ = (textI t t.rows.length).data.toList ++ []
  rw [List.append_nil]; rfl
theorem lenI_eq (l : List ByteArray) : lenI l = (l.length : Int) := by unfold lenI; rw [List.length_map]
theorem lineL_ne (a : Bool) (l : List ByteArray) : 1 ≤ (lineL a l).length := by
  match l with
  | [] => exact Nat.le_refl _
  | c :: cs =>
    rw [lineL, List.length_append]
    match cs with
    | [] => show 1 ≤ _ + 1; omega
    | d :: ds => rw [restL, List.length_cons]; omega
theorem read_rows {s : ByteArray} {a : Bool} {hd : List ByteArray} (hh : 1 ≤ hd.length) : ∀ (rows : List (List ByteArray)) (i : TS), i.head = hd → i.rows.length + rows.length ≤ 4096 → (∀ r ∈ rows, rowB r hd.length = true) → rows.length ≤ i.left →
    rm s i.at_ = textL a rows → readG s i = ⟨⟨hd, i.rows ++ rows⟩, 0, 0⟩
  | [], i, he, _, _, _, hdr => by
    have : s.size ≤ i.at_ := by
      have h1 : (rm s i.at_).length = 0 := by rw [hdr]; rfl
      unfold rm at h1
      rw [List.length_drop, sz_len] at h1; omega
    rw [rg_fin this, he, List.append_nil]
  | r :: rows, i, he, hn, hb, hl, hdr => by
    have hrb := hb r (List.mem_cons_self ..)
    have hrl := (rowB_len hrb).1
    have hdr : rm s i.at_ = lineL a r ++ textL a rows := by rw [hdr]; rfl
    obtain ⟨ln, hrow⟩ := read_line r (by have : (r.length : Int) = (hd.length : Nat) := hrl; omega) i.at_ i.line hdr
    have hrow : rowT s i = ⟨true, r, i.at_ + (lineL a r).length, ln⟩ := hrow
    have hlt : i.at_ < s.size := by
      have h1 := lineL_ne a r
      match e : lineL a r ++ textL a rows with
      | [] => have := congrArg List.length e; rw [List.length_append, List.length_nil] at this; omega
      | x :: y => exact rm_lt (hdr.trans e)
    have hrl2 : r.length = hd.length := by omega
    rw [List.length_cons] at hn hl
    have h2 : (lenI i.head == 0) = false := by rw [he, lenI_eq, beq_eq_false_iff_ne]; omega
    have e0 : eT s i = 0 := by
      unfold eT
      rw [hrow, h2, he, lenI_eq, lenI_eq]
      show (bif ((r.length : Int) != hd.length) then (31 : Int) else (bif (bif decide (4096 < ((i.rows.length + 1 : Nat) : Int)) then true else !rowB r hd.length) then 30 else 0)) = 0
      rw [show ((r.length : Int) != hd.length) = false by rw [bne_eq_false_iff_eq]; exact hrl, hrb, decide_eq_false (show ¬ (4096 : Int) < ((i.rows.length + 1 : Nat) : Int) by omega)]; rfl
    have hnx : nextT s i = ⟨i.head, i.rows ++ [r], i.at_ + (lineL a r).length, ln, i.left - 1⟩ := by
      unfold nextT
      rw [h2, hrow]; rfl
    refine (rg_next hlt (by omega) e0 hnx rfl).symm.trans ((read_rows hh rows ⟨i.head, i.rows ++ [r], i.at_ + (lineL a r).length, ln, i.left - 1⟩ he (by show (i.rows ++ [r]).length + _ ≤ _; rw [List.length_append, List.length_singleton]; omega) (fun x hx => hb x (List.mem_cons_of_mem _ hx)) (by show _ ≤ i.left - 1; omega) (rm_add hdr)).trans ?_)
    show TR.mk ⟨hd, i.rows ++ [r] ++ rows⟩ 0 0 = _
    rw [List.append_assoc]; rfl
theorem textL_len (a : Bool) : ∀ rows : List (List ByteArray), rows.length ≤ (textL a rows).length
  | [] => Nat.le_refl _
  | r :: rows => by
    have h1 := lineL_ne a r
    have h2 := textL_len a rows
    rw [show textL a (r :: rows) = lineL a r ++ textL a rows from rfl, List.length_append, List.length_cons]; omega
theorem read_written {t : Tb} (ht : Fitt t) : readT (textW t) = ⟨t, 0, 0⟩ := by
  have hr : ∀ r ∈ t.rows, 1 ≤ r.length := fun r hr => by have := ht.len r hr; have := ht.head.1; omega
  have hw := textW_L ht.head.1 hr
  have hd : rm (textW t) 0 = lineL (aloneB t) t.head ++ textL (aloneB t) t.rows := hw
  have hsz : (textW t).size = (lineL (aloneB t) t.head).length + (textL (aloneB t) t.rows).length := by rw [← sz_len, hw, List.length_append]
  have h1 := lineL_ne (aloneB t) t.head
  have h3 := textL_len (aloneB t) t.rows
  have hne : (textW t == emB) = false := by
    cases e : textW t == emB with
    | false => rfl
    | true => rw [ba_eq.1 e] at hsz; have : emB.size = 0 := rfl; omega
  rw [readT_ne hne]
  obtain ⟨ln, hrow⟩ := read_line t.head ht.head.1 0 1 hd
  have hrow : rowT (textW t) (start (textW t)) = ⟨true, t.head, 0 + (lineL (aloneB t) t.head).length, ln⟩ := hrow
  have e0 : eT (textW t) (start (textW t)) = 0 := by
    unfold eT
    rw [hrow]
    show (bif (bif decide (64 < lenI t.head) then true else !rowB t.head (lenI t.head)) then (30 : Int) else 0) = 0
    rw [lenI_eq]
    rw [decide_eq_false (show ¬ (64 : Int) < (t.head.length : Int) by have := ht.head.2; omega), ht.rowB_h]; rfl
  have hnx : nextT (textW t) (start (textW t)) = ⟨t.head, [], 0 + (lineL (aloneB t) t.head).length, ln, (textW t).size - 1⟩ := by
    unfold nextT
    rw [hrow]; rfl
  rw [← rg_next (by show 0 < (textW t).size; omega) (by show 1 ≤ (textW t).size; omega) e0 hnx rfl, read_rows ht.head.1 t.rows _ rfl (by have := ht.rows; show 0 + _ ≤ _; omega) ht.rowB_r (by show _ ≤ (textW t).size - 1; omega) (rm_add hd)]
  show TR.mk ⟨t.head, [] ++ t.rows⟩ 0 0 = _
  rw [List.nil_append]
end Go.Proofs.YtlchjjchgebfiaaGreatDoor

/- Turn: a column's cells gathered. -/
namespace Go.Proofs.YtlchjjchgebfiaaGreatDoor
open Go.RowKit Go.Dl
attribute [local irreducible] Tri SCall TSem ECall Drawn DFun QSem PSem PCall GCall MCall Round Weak dloadE OW DWl Tells IntKind.wrap Retold ESem
def colI (t : Tb) (k : Nat) : Nat → List ByteArray
  | 0 => [t.head.getD k emB]
  | i + 1 => colI t k i ++ [celA t k i]
def colL (t : Tb) (k : Nat) : List ByteArray := colI t k t.rows.length
def apSt (t : Tb) (k lb : Nat) : Nat → St
  | 0 => ⟨⟨4, [.normal]⟩, tmOf [(0, .clo (.yield lb) [] []), (1, .ref 1 0), (2, .ref 2 0), (7, rowsD t.rows), (8, int1 (t.rows.map rowD).length), (9, int1 0)], .of [(0, ⟨9, 1, [strV (t.head.getD k emB)]⟩), (1, ⟨25, 2, tbD t⟩), (2, ⟨3, 1, [int1 k]⟩), (3, ⟨22, 1, [.arr 0 1]⟩)] 4⟩
  | i + 1 => ⟨⟨4, [.normal]⟩, tmOf [(0, .clo (.yield lb) [] []), (1, .ref 1 0), (2, .ref 2 0), (7, rowsD t.rows), (8, int1 (t.rows.map rowD).length), (9, int1 (i + 1 : Nat))], .of [(1, ⟨25, 2, tbD t⟩), (2, ⟨3, 1, [int1 k]⟩), (3, ⟨22, 1, [.arr 4 (i + 2)]⟩), (4, ⟨9, 1, rowS (colI t k (i + 1))⟩)] 5⟩
theorem colI_len (t : Tb) (k : Nat) : ∀ i, (colI t k i).length = i + 1
  | 0 => rfl
  | i + 1 => by rw [colI, List.length_append, colI_len t k i]; rfl
theorem rowS_map (l : List ByteArray) : rowS l = (l.map strD).flatten := rfl
set_option maxRecDepth 20000 in
theorem co_1 (t : Tb) (k i : Nat) : (i + 2) * Tryz.prog.types[9].size ≤ (rowS (colI t k (i + 1))).length := by
  rw [rowS_len, colI_len]
  show (i + 2) * 1 ≤ _
  omega
set_option maxRecDepth 20000 in
theorem co_2 {i : Nat} (h : i ≤ 4096) : (i + 2 + 1) * Tryz.prog.types[9].bytes ≤ 140737488355328 := by
  show (i + 2 + 1) * 16 ≤ _
  omega
theorem co_3 {i : Nat} (h : i ≤ 4096) : i + 2 + 1 ≤ maxLen := by simp only [maxLen]; omega
theorem co_push (t : Tb) (k i : Nat) : (rowS (colI t k (i + 1))).take ((i + 2) * 1) ++ [.v (.string ((t.rows.getD ((i + 1 : Nat) : Int).toNat []).getD (k : Int).toNat emB))] = rowS (colI t k (i + 1 + 1)) := by
  have := rowS_push (colI t k (i + 1)) (celA t k (i + 1))
  rw [colI_len] at this
  exact this
theorem co_0 (t : Tb) (k : Nat) : ([strV (t.head.getD k emB)] : List DV).take (1 * 1) ++ [.v (.string ((t.rows.getD (Int.toNat 0) []).getD (k : Int).toNat emB))] = rowS (colI t k (0 + 1)) := rfl
attribute [local irreducible] rowS
set_option maxRecDepth 100000 in
set_option maxHeartbeats 1000000 in
theorem app54_S (t : Tb) (ht : Tbl t) (k : Nat) (hk : k < t.head.length) : SCall Tryz.prog 54 [.arr 0 1, .clo (.func 88) [] [.ref 1 0, .ref 2 0]] (.of [(0, ⟨9, 1, [strV (t.head.getD k emB)]⟩), (1, ⟨25, 2, tbD t⟩), (2, ⟨3, 1, [int1 k]⟩)] 3) fun r' s' => r' = strs (colL t k) ∧ s' = .of [] 3 := by
  refine SCall.retell (SCall.run Tryz.func54 rfl (Nat.le_of_ble_eq_true rfl) (by kernel_rfl) ?_)
  repeat' (first | with_reducible rfl | ((conv => whnf); first | refine And.intro ?_ ?_ | (intro h; first | with_reducible exact tf_no h | with_reducible exact ft_no h | exact Bool.noConfusion h | with_reducible exact h | (have ht : true = true := h; clear ht h) | skip) | ((with_reducible refine DWl.mark ?_); repeat' (first | refine DWl.cons ?_ ?_ | exact DWl.nil | exact DW.same _ rfl | exact DW.ref _ _ _ rfl | exact DW.arr _ _ _ rfl | exact DW.sub _ _ _ _ rfl | exact DW.nilLst _ | refine DW.aggl ?_ | refine DW.tupl ?_ | refine DW.clol ?_ ?_ | refine DW.int ?_ | refine DW.bool ?_ | refine DW.str ?_)) | ((with_reducible refine ECall.mark ?_); first | refine ECall.only ?_ (fun h => nomatch h) | refine ECall.only ?_ ?_) | ((with_reducible refine Drawn.mark ?_); first | refine Drawn.quiet (by kernel_rfl) ?_) | refine dcell_ok rfl ?_ | refine AppC.new ?_))
  all_goals first | (with_reducible refine enters_mark ?_; kernel_rfl) | (with_reducible refine boolT_mark ?_; kernel_rfl) | rfl | trivial | assumption | exact Nat.le_of_ble_eq_true rfl | (show entersB _ _ = true; kernel_rfl) | exact DW.same _ rfl | exact DW.ref _ _ _ rfl | exact DW.arr _ _ _ rfl | refine DW.int ?_ | refine dvb ?_ | refine dvi ?_ | exact OW.cells rfl rfl (DWl.same rfl) | exact Nat.zero_le _ | omega | skip
  all_goals repeat' (first | refine OW.cells rfl rfl ?_ | exact DW.nilArr _ rfl | refine DWl.cons ?_ ?_ | exact DWl.nil | exact DW.same _ rfl | exact DW.ref _ _ _ rfl | exact DW.arr _ _ _ rfl | exact DW.sub _ _ _ _ rfl | exact DW.nilLst _ | refine DW.aggl ?_ | refine DW.tupl ?_ | refine DW.clol ?_ ?_)
  all_goals try ((conv => whnf); with_reducible first | refine Round.mark ?_ | refine Tells.mark ?_ | refine Retold.mark ?_)
  all_goals try first | (show (_ : Bool) = _; simp_all; done) | (show (_ : Int) < _; simp at *; omega) | (show (_ : Int) ≤ _; simp at *; omega) | (show (_ : Nat) < _; simp at *; omega) | (show (_ : Nat) ≤ _; simp at *; omega)
  conv => whnf
  refine Tri.range rfl (by kernel_rfl) rfl rfl (by rfl) (by kernel_rfl) fun lb => ?_
  repeat' (first | with_reducible rfl | ((conv => whnf); first | refine And.intro ?_ ?_ | (intro h; first | with_reducible exact tf_no h | with_reducible exact ft_no h | exact Bool.noConfusion h | with_reducible exact h | (have ht : true = true := h; clear ht h) | skip) | ((with_reducible refine DWl.mark ?_); repeat' (first | refine DWl.cons ?_ ?_ | exact DWl.nil | exact DW.same _ rfl | exact DW.ref _ _ _ rfl | exact DW.arr _ _ _ rfl | exact DW.sub _ _ _ _ rfl | exact DW.nilLst _ | refine DW.aggl ?_ | refine DW.tupl ?_ | refine DW.clol ?_ ?_ | refine DW.int ?_ | refine DW.bool ?_ | refine DW.str ?_)) | ((with_reducible refine ECall.mark ?_); first | refine ECall.only ?_ (fun h => nomatch h) | refine ECall.only ?_ ?_) | ((with_reducible refine Drawn.mark ?_); first | refine Drawn.quiet (by kernel_rfl) ?_) | refine dloadE_map (emB) ?_ ?_ | refine dcell_ok rfl ?_ | refine AppC.new ?_))
  all_goals first | (with_reducible refine enters_mark ?_; kernel_rfl) | (with_reducible refine boolT_mark ?_; kernel_rfl) | rfl | trivial | assumption | exact Nat.le_of_ble_eq_true rfl | (show entersB _ _ = true; kernel_rfl) | exact DW.same _ rfl | exact DW.ref _ _ _ rfl | exact DW.arr _ _ _ rfl | refine DW.int ?_ | refine dvb ?_ | refine dvi ?_ | exact OW.cells rfl rfl (DWl.same rfl) | exact Nat.zero_le _ | omega | skip
  all_goals repeat' (first | refine OW.cells rfl rfl ?_ | exact DW.nilArr _ rfl | refine DWl.cons ?_ ?_ | exact DWl.nil | exact DW.same _ rfl | exact DW.ref _ _ _ rfl | exact DW.arr _ _ _ rfl | exact DW.sub _ _ _ _ rfl | exact DW.nilLst _ | refine DW.aggl ?_ | refine DW.tupl ?_ | refine DW.clol ?_ ?_)
  all_goals try ((conv => whnf); with_reducible first | refine Round.mark ?_ | refine Tells.mark ?_ | refine Retold.mark ?_)
  all_goals try first | (show (_ : Bool) = _; simp_all; done) | (show (_ : Int) < _; simp at *; omega) | (show (_ : Int) ≤ _; simp at *; omega) | (show (_ : Nat) < _; simp at *; omega) | (show (_ : Nat) ≤ _; simp at *; omega)
  conv => whnf
  refine Tri.loop (apSt t k lb) (· ≤ t.rows.length) (fun i => t.rows.length - i) 0 (by kernel_rfl) (Weak.list [] [] (by kernel_rfl) ?_ ?_) (Nat.zero_le _) ?_
  · repeat' (first | exact DWl.same rfl | exact DW.same _ rfl | exact DW.ref _ _ _ rfl | exact DW.arr _ _ _ rfl | exact OW.cells rfl rfl (DWl.same rfl) | refine OW.cells rfl rfl ?_ | refine DWl.cons ?_ ?_ | exact DWl.nil | exact DW.nilArr _ rfl | exact DW.nilLst _ | refine DW.clol ?_ ?_ | refine DW.aggl ?_ | refine DW.tupl ?_ | refine DW.int ?_ | refine DW.bool ?_ | refine DW.str ?_ | refine DW.arrE rfl ?_ | ((conv => whnf); first | refine And.intro ?_ ?_ | trivial))
  · repeat' (first | exact DWl.same rfl | exact DW.same _ rfl | exact DW.ref _ _ _ rfl | exact DW.arr _ _ _ rfl | exact OW.cells rfl rfl (DWl.same rfl) | refine OW.cells rfl rfl ?_ | refine DWl.cons ?_ ?_ | exact DWl.nil | exact DW.nilArr _ rfl | exact DW.nilLst _ | refine DW.clol ?_ ?_ | refine DW.aggl ?_ | refine DW.tupl ?_ | refine DW.int ?_ | refine DW.bool ?_ | refine DW.str ?_ | refine DW.arrE rfl ?_ | ((conv => whnf); first | refine And.intro ?_ ?_ | trivial))
  intro i hi
  have hi : i ≤ t.rows.length := hi
  cases i with
  | zero =>
    show dcode _ _ _ _ (apSt t k lb 0) _
    repeat' (first | with_reducible rfl | ((conv => whnf); first | refine And.intro ?_ ?_ | (intro h; first | with_reducible exact tf_no h | with_reducible exact ft_no h | exact Bool.noConfusion h | with_reducible exact h | (have ht : true = true := h; clear ht h) | skip) | ((with_reducible refine DWl.mark ?_); repeat' (first | refine DWl.cons ?_ ?_ | exact DWl.nil | exact DW.same _ rfl | exact DW.ref _ _ _ rfl | exact DW.arr _ _ _ rfl | exact DW.sub _ _ _ _ rfl | exact DW.nilLst _ | refine DW.aggl ?_ | refine DW.tupl ?_ | refine DW.clol ?_ ?_ | refine DW.int ?_ | refine DW.bool ?_ | refine DW.str ?_)) | ((with_reducible refine ECall.mark ?_); first | refine ECall.only ?_ (fun h => nomatch h) | refine ECall.only ?_ ?_) | ((with_reducible refine Drawn.mark ?_); first | refine Drawn.quiet (by kernel_rfl) ?_) | refine dloadE_map (([] : List ByteArray)) ?_ ?_ | refine dloadE_map (emB) ?_ ?_ | refine dcell_ok rfl ?_ | refine AppC.new ?_))
    all_goals try ((conv => whnf); with_reducible refine Round.mark ?_)
    all_goals try first | ((with_reducible show Option.isSome (slElem _ _) = true); kernel_rfl) | ((with_reducible show slElem _ _ = some _); kernel_rfl) | ((with_reducible refine enters_mark ?_); kernel_rfl) | (with_reducible assumption) | ((with_reducible show List.all _ DV.one = true); rfl) | ((with_reducible show (_ : Nat) = _); rfl) | ((with_reducible show (_ == true) = true); simpa using h) | ((with_reducible show (_ : Nat) ≤ _); exact Nat.le_of_ble_eq_true rfl) | ((with_reducible show (_ : Int) ≤ _); first | omega | decide) | ((with_reducible show (_ : Int) < _); first | omega | decide) | ((with_reducible show (_ : Nat) < _); omega) | ((with_reducible show (_ : Nat) ≤ _); omega)
    all_goals try (first | (exact of_decide_eq_true (by assumption); done) | (exact lt_of_test (k := 0) (by assumption); done) | (exact col_in ht hk (lt_of_test (k := 0) (by assumption)); done) | (exact col_at ht hk (lt_of_test (k := 0) (by assumption)); done))
    · rename_i e0
      have hlt : 0 < t.rows.length := lt_of_test (k := 0) e0
      refine Round.go (fun _ => 0 + 1) hlt (by show t.rows.length - (0 + 1) < t.rows.length - 0; omega) (Weak.list [(4, some 5)] [] (by kernel_rfl) ?_ ?_)
      · repeat' (first | exact wsucc (k := 0) hlt (by have := ht.rows; omega) | exact DWl.eq (co_0 t k) (rowS_all _) | exact DW.same _ rfl | exact DW.ref _ _ _ rfl | exact DW.arr _ _ _ rfl | exact OW.cells rfl rfl (DWl.same rfl) | refine OW.cells rfl rfl ?_ | refine DWl.cons ?_ ?_ | exact DWl.nil | exact DW.nilArr _ rfl | exact DW.nilLst _ | refine DW.clol ?_ ?_ | refine DW.aggl ?_ | refine DW.tupl ?_ | refine DW.int ?_ | refine DW.bool ?_ | refine DW.str ?_ | refine DW.arrE rfl ?_ | ((conv => whnf); first | refine And.intro ?_ ?_ | trivial))
      · repeat' (first | exact wsucc (k := 0) hlt (by have := ht.rows; omega) | exact DWl.eq (co_0 t k) (rowS_all _) | exact DW.same _ rfl | exact DW.ref _ _ _ rfl | exact DW.arr _ _ _ rfl | exact OW.cells rfl rfl (DWl.same rfl) | refine OW.cells rfl rfl ?_ | refine DWl.cons ?_ ?_ | exact DWl.nil | exact DW.nilArr _ rfl | exact DW.nilLst _ | refine DW.clol ?_ ?_ | refine DW.aggl ?_ | refine DW.tupl ?_ | refine DW.int ?_ | refine DW.bool ?_ | refine DW.str ?_ | refine DW.arrE rfl ?_ | ((conv => whnf); first | refine And.intro ?_ ?_ | trivial))
    · have h0 : t.rows.length = 0 := by have := ge_of_test (k := 0) h; omega
      repeat' (first | with_reducible rfl | ((conv => whnf); first | refine And.intro ?_ ?_ | (intro h; first | with_reducible exact tf_no h | with_reducible exact ft_no h | exact Bool.noConfusion h | with_reducible exact h | (have ht : true = true := h; clear ht h) | skip) | ((with_reducible refine DWl.mark ?_); repeat' (first | refine DWl.cons ?_ ?_ | exact DWl.nil | exact DW.same _ rfl | exact DW.ref _ _ _ rfl | exact DW.arr _ _ _ rfl | exact DW.sub _ _ _ _ rfl | exact DW.nilLst _ | refine DW.aggl ?_ | refine DW.tupl ?_ | refine DW.clol ?_ ?_ | refine DW.int ?_ | refine DW.bool ?_ | refine DW.str ?_)) | ((with_reducible refine ECall.mark ?_); first | refine ECall.only ?_ (fun h => nomatch h) | refine ECall.only ?_ ?_) | ((with_reducible refine Drawn.mark ?_); first | refine Drawn.quiet (by kernel_rfl) ?_) | refine dcell_ok rfl ?_ | refine AppC.new ?_))
      conv => whnf
      refine Retold.list [] [0] (strs (colL t k)) [] 3 (by kernel_rfl) ?_ trivial ⟨rfl, rfl⟩
      exact DW.pubE rfl rfl (Nat.zero_lt_succ _) (List.mem_singleton.2 rfl) (by rw [colL, h0]; rfl) strRow (by rw [colL, h0]; rfl)
  | succ i =>
    have hlt0 : i < t.rows.length := hi
    have hr := ht.rows
    show dcode _ _ _ _ (apSt t k lb (i + 1)) _
    repeat' (first | with_reducible rfl | ((conv => whnf); first | refine And.intro ?_ ?_ | (intro h; first | with_reducible exact tf_no h | with_reducible exact ft_no h | exact Bool.noConfusion h | with_reducible exact h | (have ht : true = true := h; clear ht h) | skip) | ((with_reducible refine DWl.mark ?_); repeat' (first | refine DWl.cons ?_ ?_ | exact DWl.nil | exact DW.same _ rfl | exact DW.ref _ _ _ rfl | exact DW.arr _ _ _ rfl | exact DW.sub _ _ _ _ rfl | exact DW.nilLst _ | refine DW.aggl ?_ | refine DW.tupl ?_ | refine DW.clol ?_ ?_ | refine DW.int ?_ | refine DW.bool ?_ | refine DW.str ?_)) | ((with_reducible refine ECall.mark ?_); first | refine ECall.only ?_ (fun h => nomatch h) | refine ECall.only ?_ ?_) | ((with_reducible refine Drawn.mark ?_); first | refine Drawn.quiet (by kernel_rfl) ?_) | refine dloadE_map (([] : List ByteArray)) ?_ ?_ | refine dloadE_map (emB) ?_ ?_ | refine dcell_ok rfl ?_ | refine AppC.new ?_))
    all_goals try ((conv => whnf); with_reducible refine Round.mark ?_)
    all_goals try first | ((with_reducible show Option.isSome (slElem _ _) = true); kernel_rfl) | ((with_reducible show slElem _ _ = some _); kernel_rfl) | ((with_reducible refine enters_mark ?_); kernel_rfl) | (with_reducible assumption) | ((with_reducible show List.all _ DV.one = true); rfl) | ((with_reducible show (_ : Nat) = _); rfl) | ((with_reducible show (_ == true) = true); simpa using h) | ((with_reducible show (_ : Nat) ≤ _); exact Nat.le_of_ble_eq_true rfl) | ((with_reducible show (_ : Int) ≤ _); first | omega | decide) | ((with_reducible show (_ : Int) < _); first | omega | decide) | ((with_reducible show (_ : Nat) < _); omega) | ((with_reducible show (_ : Nat) ≤ _); omega)
    all_goals try (first | (exact of_decide_eq_true (by assumption); done) | (exact lt_of_test (k := i + 1) (by assumption); done) | (exact col_in ht hk (lt_of_test (k := i + 1) (by assumption)); done) | (exact col_at ht hk (lt_of_test (k := i + 1) (by assumption)); done) | (exact co_1 t k i; done) | (exact co_2 (by omega); done) | (exact co_3 (by omega); done))
    · rename_i e0
      have hlt : i + 1 < t.rows.length := lt_of_test (k := i + 1) e0
      refine Round.go (fun _ => i + 1 + 1) hlt (by show t.rows.length - (i + 1 + 1) < t.rows.length - (i + 1); omega) (Weak.list [(4, some 6)] [] (by kernel_rfl) ?_ ?_)
      · repeat' (first | exact wsucc hlt (by omega) | exact DWl.eq (co_push t k i) (rowS_all _) | exact DW.same _ rfl | exact DW.ref _ _ _ rfl | exact DW.arr _ _ _ rfl | exact OW.cells rfl rfl (DWl.same rfl) | refine OW.cells rfl rfl ?_ | refine DWl.cons ?_ ?_ | exact DWl.nil | exact DW.nilArr _ rfl | exact DW.nilLst _ | refine DW.clol ?_ ?_ | refine DW.aggl ?_ | refine DW.tupl ?_ | refine DW.int ?_ | refine DW.bool ?_ | refine DW.str ?_ | refine DW.arrE rfl ?_ | ((conv => whnf); first | refine And.intro ?_ ?_ | trivial))
      · repeat' (first | exact wsucc hlt (by omega) | exact DWl.eq (co_push t k i) (rowS_all _) | exact DW.same _ rfl | exact DW.ref _ _ _ rfl | exact DW.arr _ _ _ rfl | exact OW.cells rfl rfl (DWl.same rfl) | refine OW.cells rfl rfl ?_ | refine DWl.cons ?_ ?_ | exact DWl.nil | exact DW.nilArr _ rfl | exact DW.nilLst _ | refine DW.clol ?_ ?_ | refine DW.aggl ?_ | refine DW.tupl ?_ | refine DW.int ?_ | refine DW.bool ?_ | refine DW.str ?_ | refine DW.arrE rfl ?_ | ((conv => whnf); first | refine And.intro ?_ ?_ | trivial))
    · have h0 : t.rows.length = i + 1 := by have := ge_of_test (k := i + 1) h; omega
      repeat' (first | with_reducible rfl | ((conv => whnf); first | refine And.intro ?_ ?_ | (intro h; first | with_reducible exact tf_no h | with_reducible exact ft_no h | exact Bool.noConfusion h | with_reducible exact h | (have ht : true = true := h; clear ht h) | skip) | ((with_reducible refine DWl.mark ?_); repeat' (first | refine DWl.cons ?_ ?_ | exact DWl.nil | exact DW.same _ rfl | exact DW.ref _ _ _ rfl | exact DW.arr _ _ _ rfl | exact DW.sub _ _ _ _ rfl | exact DW.nilLst _ | refine DW.aggl ?_ | refine DW.tupl ?_ | refine DW.clol ?_ ?_ | refine DW.int ?_ | refine DW.bool ?_ | refine DW.str ?_)) | ((with_reducible refine ECall.mark ?_); first | refine ECall.only ?_ (fun h => nomatch h) | refine ECall.only ?_ ?_) | ((with_reducible refine Drawn.mark ?_); first | refine Drawn.quiet (by kernel_rfl) ?_) | refine dcell_ok rfl ?_ | refine AppC.new ?_))
      conv => whnf
      refine Retold.list [] [4] (strs (colL t k)) [] 3 (by kernel_rfl) ?_ trivial ⟨rfl, rfl⟩
      exact DW.pubE rfl rfl (Nat.zero_lt_succ _) (List.mem_singleton.2 rfl) (by rw [colL, h0, List.length_map, colI_len]) strRow (by rw [colL, h0]; exact rowS_map _)
end Go.Proofs.YtlchjjchgebfiaaGreatDoor

/- Turn: the program's. -/
namespace Go.Proofs.YtlchjjchgebfiaaGreatDoor
open Go.RowKit Go.Dl
attribute [local irreducible] Tri SCall TSem ECall Drawn DFun QSem PSem PCall GCall MCall Round Weak dloadE OW DWl Tells IntKind.wrap Retold ESem
def turnR (t : Tb) (k : Nat) : List (List ByteArray) := (List.range (k - 1)).map fun j => colL t (j + 1)
def turnT (t : Tb) : Tb := ⟨colL t 0, turnR t t.head.length⟩
def turnV (t : Tb) : DV := bif decide (64 ≤ ((t.rows.map rowD).length : Int)) then .tup [tab ⟨[], []⟩, int1 30] else .tup [tab (turnT t), int1 0]
def headL (t : Tb) : Nat → List ByteArray
  | 0 => []
  | _ + 1 => colL t 0
theorem headL_pos (t : Tb) {k : Nat} (h : ((k : Int) == 0) = false) : (headL t k).map strD = (headL t (k + 1)).map strD := by
  cases k with
  | zero => cases h
  | succ k => rfl
theorem headL_fin (t : Tb) (h : 1 ≤ t.head.length) : (headL t t.head.length).map strD = (turnT t).head.map strD := by
  obtain ⟨n, hn⟩ : ∃ n, t.head.length = n + 1 := ⟨t.head.length - 1, by omega⟩
  rw [hn]; rfl
theorem headL_z (_ : Tb) {k : Nat} (h : ((k : Int) == 0) = true) : k = 0 := by
  have := eq_of_beq h; omega
set_option maxRecDepth 20000 in
theorem tr_1 (t : Tb) (k : Nat) : (k - 1) * Tryz.prog.types[22].size ≤ (rowsC (turnR t k)).length := by
  rw [rowsC_len, turnR, List.length_map, List.length_range]
  show (k - 1) * 1 ≤ _
  omega
set_option maxRecDepth 20000 in
theorem tr_2 {k n : Nat} (h : k < n) (hn : n ≤ 64) : (k - 1 + 1) * Tryz.prog.types[22].bytes ≤ 140737488355328 := by
  show (k - 1 + 1) * 24 ≤ _
  omega
theorem tr_3 {k n : Nat} (h : k < n) (hn : n ≤ 64) : k - 1 + 1 ≤ maxLen := by simp only [maxLen]; omega
theorem tr_push (t : Tb) {k : Nat} (h : ((k : Int) == 0) = false) : (rowsC (turnR t k)).take ((k - 1) * 1) ++ [strs (colL t k)] = rowsC (turnR t (k + 1)) := by
  cases k with
  | zero => cases h
  | succ k =>
    have := rowsC_push (turnR t (k + 1)) (colL t (k + 1))
    rw [show (turnR t (k + 1)).length = k by rw [turnR, List.length_map, List.length_range]; rfl] at this
    show (rowsC (turnR t (k + 1))).take (k * 1) ++ [strs (colL t (k + 1))] = _
    rw [this]
    unfold turnR
    rw [show k + 1 + 1 - 1 = (k + 1 - 1) + 1 from rfl, List.range_succ, List.map_append]; rfl
theorem tr_len {k : Nat} (h : ((k : Int) == 0) = false) : k - 1 + 1 = k + 1 - 1 := by
  cases k with
  | zero => cases h
  | succ k => rfl
theorem tr_zero (t : Tb) : rowsC (turnR t 0) = rowsC (turnR t (0 + 1)) := rfl
theorem tr_r0 (t : Tb) : rowsC (turnR t 0) = [] := rfl
theorem turnR_len (t : Tb) (k : Nat) : (turnR t k).length = k - 1 := by rw [turnR, List.length_map, List.length_range]
def trSt21 (t : Tb) (k : Nat) : St := ⟨0, tmOf [(1, .ref 0 0), (2, .ref 1 0), (3, int1 0), (4, .ref 2 0), (14, strs t.head), (15, int1 (t.head.map strD).length), (16, int1 k)], .of [(0, ⟨25, 2, tbD t⟩), (1, ⟨25, 2, [.v (.slice none 0 0), .v (.slice none 0 0)]⟩), (2, ⟨25, 2, [strs (headL t k), .arr 3 (k - 1)]⟩), (3, ⟨22, 1, rowsC (turnR t k)⟩)] 4⟩
attribute [local irreducible] rowsC colL
set_option maxRecDepth 20000 in
set_option maxHeartbeats 2000000 in
theorem turn21_D (t : Tb) (ht : Tbl t) : DPure Tryz.prog 21 [tab t] (turnV t) := by
  refine DFun.data (DFun.body Tryz.func21 rfl (by kernel_rfl) ?_)
  repeat' (first | with_reducible rfl | ((conv => whnf); first | refine And.intro ?_ ?_ | (intro h; first | with_reducible exact tf_no h | with_reducible exact ft_no h | exact Bool.noConfusion h | with_reducible exact h | (have ht : true = true := h; clear ht h) | skip) | ((with_reducible refine DWl.mark ?_); repeat' (first | refine DWl.cons ?_ ?_ | exact DWl.nil | exact DW.same _ rfl | exact DW.ref _ _ _ rfl | exact DW.arr _ _ _ rfl | exact DW.sub _ _ _ _ rfl | exact DW.nilLst _ | refine DW.aggl ?_ | refine DW.tupl ?_ | refine DW.clol ?_ ?_ | refine DW.int ?_ | refine DW.bool ?_ | refine DW.str ?_)) | ((with_reducible refine ECall.mark ?_); first | refine ECall.only ?_ (fun h => nomatch h) | refine ECall.only ?_ ?_) | ((with_reducible refine Drawn.mark ?_); first | refine Drawn.quiet (by kernel_rfl) ?_) | refine dcell_ok rfl ?_ | refine AppC.new ?_))
  all_goals first | (with_reducible refine enters_mark ?_; kernel_rfl) | (with_reducible refine boolT_mark ?_; kernel_rfl) | rfl | trivial | assumption | exact Nat.le_of_ble_eq_true rfl | (show entersB _ _ = true; kernel_rfl) | exact DW.same _ rfl | exact DW.ref _ _ _ rfl | exact DW.arr _ _ _ rfl | refine DW.int ?_ | refine dvb ?_ | refine dvi ?_ | exact OW.cells rfl rfl (DWl.same rfl) | exact Nat.zero_le _ | omega | skip
  all_goals repeat' (first | refine OW.cells rfl rfl ?_ | exact DW.nilArr _ rfl | refine DWl.cons ?_ ?_ | exact DWl.nil | exact DW.same _ rfl | exact DW.ref _ _ _ rfl | exact DW.arr _ _ _ rfl | exact DW.sub _ _ _ _ rfl | exact DW.nilLst _ | refine DW.aggl ?_ | refine DW.tupl ?_ | refine DW.clol ?_ ?_)
  all_goals try ((conv => whnf); with_reducible first | refine Round.mark ?_ | refine Tells.mark ?_ | refine Retold.mark ?_)
  all_goals try first | (show (_ : Bool) = _; simp_all; done) | (show (_ : Int) < _; simp at *; omega) | (show (_ : Int) ≤ _; simp at *; omega) | (show (_ : Nat) < _; simp at *; omega) | (show (_ : Nat) ≤ _; simp at *; omega)
  · conv => whnf
    refine Tells.of (r1 := .tup [tab ⟨[], []⟩, int1 30]) (by unfold turnV; rw [show decide (64 ≤ ((t.rows.map rowD).length : Int)) = true from h]; rfl) ?_
    exact Tells.mk (DW.tupl (DWl.cons (DW.aggl (DWl.cons (DW.nilLst _) (DWl.cons (DW.nilLst _) DWl.nil))) (DWl.cons (DW.same _ rfl) DWl.nil)))
  · refine Tri.loop (trSt21 t) (fun k => k ≤ t.head.length) (fun k => t.head.length - k) 0 (by kernel_rfl) (Weak.list [(0, some 0), (1, some 1), (2, some 2), (3, none)] [] (by kernel_rfl) ?_ ?_) (Nat.zero_le _) ?_
    · repeat' (first | exact DW.nilArr _ rfl | exact tr_r0 t | rfl | exact DW.same _ rfl | exact DW.ref _ _ _ rfl | exact DW.arr _ _ _ rfl | exact OW.cells rfl rfl (DWl.same rfl) | refine OW.cells rfl rfl ?_ | refine DWl.cons ?_ ?_ | exact DWl.nil | exact DW.nilArr _ rfl | exact DW.nilLst _ | refine DW.clol ?_ ?_ | refine DW.aggl ?_ | refine DW.tupl ?_ | refine DW.int ?_ | refine DW.bool ?_ | refine DW.str ?_ | refine DW.arrE rfl ?_ | ((conv => whnf); first | refine And.intro ?_ ?_ | trivial))
    · repeat' (first | exact DW.nilArr _ rfl | exact tr_r0 t | rfl | exact DW.same _ rfl | exact DW.ref _ _ _ rfl | exact DW.arr _ _ _ rfl | exact OW.cells rfl rfl (DWl.same rfl) | refine OW.cells rfl rfl ?_ | refine DWl.cons ?_ ?_ | exact DWl.nil | exact DW.nilArr _ rfl | exact DW.nilLst _ | refine DW.clol ?_ ?_ | refine DW.aggl ?_ | refine DW.tupl ?_ | refine DW.int ?_ | refine DW.bool ?_ | refine DW.str ?_ | refine DW.arrE rfl ?_ | ((conv => whnf); first | refine And.intro ?_ ?_ | trivial))
    intro k hk
    have hk : k ≤ t.head.length := hk
    show dcode _ _ _ _ (trSt21 t k) _
    repeat' (first | with_reducible rfl | ((conv => whnf); first | refine And.intro ?_ ?_ | (intro h; first | with_reducible exact tf_no h | with_reducible exact ft_no h | exact Bool.noConfusion h | with_reducible exact h | (have ht : true = true := h; clear ht h) | skip) | ((with_reducible refine DWl.mark ?_); repeat' (first | refine DWl.cons ?_ ?_ | exact DWl.nil | exact DW.same _ rfl | exact DW.ref _ _ _ rfl | exact DW.arr _ _ _ rfl | exact DW.sub _ _ _ _ rfl | exact DW.nilLst _ | refine DW.aggl ?_ | refine DW.tupl ?_ | refine DW.clol ?_ ?_ | refine DW.int ?_ | refine DW.bool ?_ | refine DW.str ?_)) | ((with_reducible refine SCall.mark ?_); first | refine SCall.run Tryz.func55 rfl (Nat.le_of_ble_eq_true rfl) (by kernel_rfl) ?_ | refine SCall.at [4, 5, 6] (fun _ => []) (fun _ => strs (colL t k)) 0 (app54_S t ht k ?_) (by kernel_rfl) ⟨OW.cells rfl rfl (DWl.same rfl), OW.cells rfl rfl (DWl.same rfl), OW.cells rfl rfl (DWl.same rfl), trivial⟩ (DWl.cons (DW.arr _ _ _ rfl) (DWl.cons (DW.clol DWl.nil (DWl.cons (DW.ref _ _ _ rfl) (DWl.cons (DW.ref _ _ _ rfl) DWl.nil))) DWl.nil)) (DW.same _ rfl) trivial ?_) | ((with_reducible refine ECall.mark ?_); first | refine ECall.only ?_ (fun h => nomatch h) | refine ECall.only ?_ ?_) | ((with_reducible refine Drawn.mark ?_); first | refine Drawn.quiet (by kernel_rfl) ?_) | refine dloadE_map (emB) ?_ ?_ | refine dcell_ok rfl ?_ | refine AppC.new ?_))
    all_goals try ((conv => whnf); with_reducible refine Round.mark ?_)
    all_goals try first | ((with_reducible show Option.isSome (slElem _ _) = true); kernel_rfl) | ((with_reducible show slElem _ _ = some _); kernel_rfl) | ((with_reducible refine enters_mark ?_); kernel_rfl) | (with_reducible assumption) | ((with_reducible show List.all _ DV.one = true); rfl) | ((with_reducible show (_ : Nat) = _); rfl) | ((with_reducible show (_ == true) = true); simpa using h) | ((with_reducible show (_ : Nat) ≤ _); exact Nat.le_of_ble_eq_true rfl) | ((with_reducible show (_ : Int) ≤ _); first | omega | decide) | ((with_reducible show (_ : Int) < _); first | omega | decide) | ((with_reducible show (_ : Nat) < _); omega) | ((with_reducible show (_ : Nat) ≤ _); omega)
    all_goals try (first | (exact of_decide_eq_true (by assumption); done) | (exact lt_of_test (by assumption); done) | (exact tr_1 t k; done) | (exact tr_2 (lt_of_test (by assumption)) ht.head.2; done) | (exact tr_3 (lt_of_test (by assumption)) ht.head.2; done))
    · rename_i e0
      have hlt := lt_of_test e0
      have hz := headL_z t h
      subst hz
      refine Round.go (fun _ => 0 + 1) hlt (by show t.head.length - (0 + 1) < t.head.length - 0; omega) (Weak.list [(0, some 0), (1, some 1), (2, some 2), (3, some 3)] [] (by kernel_rfl) ?_ ?_)
      · repeat' (first | exact wsucc (k := 0) hlt (by have := ht.head.2; omega) | exact DWl.eq (tr_zero t) (rowsC_all _) | exact DW.same _ rfl | exact DW.ref _ _ _ rfl | exact DW.arr _ _ _ rfl | exact OW.cells rfl rfl (DWl.same rfl) | refine OW.cells rfl rfl ?_ | refine DWl.cons ?_ ?_ | exact DWl.nil | exact DW.nilArr _ rfl | exact DW.nilLst _ | refine DW.clol ?_ ?_ | refine DW.aggl ?_ | refine DW.tupl ?_ | refine DW.int ?_ | refine DW.bool ?_ | refine DW.str ?_ | refine DW.arrE rfl ?_ | ((conv => whnf); first | refine And.intro ?_ ?_ | trivial))
      · repeat' (first | exact wsucc (k := 0) hlt (by have := ht.head.2; omega) | exact DWl.eq (tr_zero t) (rowsC_all _) | exact DW.same _ rfl | exact DW.ref _ _ _ rfl | exact DW.arr _ _ _ rfl | exact OW.cells rfl rfl (DWl.same rfl) | refine OW.cells rfl rfl ?_ | refine DWl.cons ?_ ?_ | exact DWl.nil | exact DW.nilArr _ rfl | exact DW.nilLst _ | refine DW.clol ?_ ?_ | refine DW.aggl ?_ | refine DW.tupl ?_ | refine DW.int ?_ | refine DW.bool ?_ | refine DW.str ?_ | refine DW.arrE rfl ?_ | ((conv => whnf); first | refine And.intro ?_ ?_ | trivial))
    · rename_i e0
      have hlt := lt_of_test e0
      refine Round.go (fun _ => k + 1) hlt (by show t.head.length - (k + 1) < t.head.length - k; omega) (Weak.list [(0, some 0), (1, some 1), (2, some 2), (3, some 8)] [] (by kernel_rfl) ?_ ?_)
      · repeat' (first | exact wsucc hlt (by have := ht.head.2; omega) | exact DW.lstE (headL_pos t h) | exact tr_len h | exact DWl.eq (tr_push t h) (rowsC_all _) | exact DW.same _ rfl | exact DW.ref _ _ _ rfl | exact DW.arr _ _ _ rfl | exact OW.cells rfl rfl (DWl.same rfl) | refine OW.cells rfl rfl ?_ | refine DWl.cons ?_ ?_ | exact DWl.nil | exact DW.nilArr _ rfl | exact DW.nilLst _ | refine DW.clol ?_ ?_ | refine DW.aggl ?_ | refine DW.tupl ?_ | refine DW.int ?_ | refine DW.bool ?_ | refine DW.str ?_ | refine DW.arrE rfl ?_ | ((conv => whnf); first | refine And.intro ?_ ?_ | trivial))
      · repeat' (first | exact wsucc hlt (by have := ht.head.2; omega) | exact DW.lstE (headL_pos t h) | exact tr_len h | exact DWl.eq (tr_push t h) (rowsC_all _) | exact DW.same _ rfl | exact DW.ref _ _ _ rfl | exact DW.arr _ _ _ rfl | exact OW.cells rfl rfl (DWl.same rfl) | refine OW.cells rfl rfl ?_ | refine DWl.cons ?_ ?_ | exact DWl.nil | exact DW.nilArr _ rfl | exact DW.nilLst _ | refine DW.clol ?_ ?_ | refine DW.aggl ?_ | refine DW.tupl ?_ | refine DW.int ?_ | refine DW.bool ?_ | refine DW.str ?_ | refine DW.arrE rfl ?_ | ((conv => whnf); first | refine And.intro ?_ ?_ | trivial))
    · have h0 : t.head.length = k := by have := ge_of_test h; omega
      subst h0
      repeat' (first | with_reducible rfl | ((conv => whnf); first | refine And.intro ?_ ?_ | (intro h; first | with_reducible exact tf_no h | with_reducible exact ft_no h | exact Bool.noConfusion h | with_reducible exact h | (have ht : true = true := h; clear ht h) | skip) | ((with_reducible refine DWl.mark ?_); repeat' (first | refine DWl.cons ?_ ?_ | exact DWl.nil | exact DW.same _ rfl | exact DW.ref _ _ _ rfl | exact DW.arr _ _ _ rfl | exact DW.sub _ _ _ _ rfl | exact DW.nilLst _ | refine DW.aggl ?_ | refine DW.tupl ?_ | refine DW.clol ?_ ?_ | refine DW.int ?_ | refine DW.bool ?_ | refine DW.str ?_)) | ((with_reducible refine ECall.mark ?_); first | refine ECall.only ?_ (fun h => nomatch h) | refine ECall.only ?_ ?_) | ((with_reducible refine Drawn.mark ?_); first | refine Drawn.quiet (by kernel_rfl) ?_) | refine dcell_ok rfl ?_ | refine AppC.new ?_))
      conv => whnf
      refine Tells.of (r1 := .tup [tab (turnT t), int1 0]) (by unfold turnV; rw [show decide (64 ≤ ((t.rows.map rowD).length : Int)) = false by assumption]; rfl) ?_
      exact Tells.mk (DW.tupl (DWl.cons (DW.aggl (DWl.cons (DW.lstE (headL_fin t ht.head.1)) (DWl.cons (DW.pubM rfl (turnR_len t _) rfl rfl rowRow (rowsC_eq _)) DWl.nil))) (DWl.cons (DW.same _ rfl) DWl.nil)))
end Go.Proofs.YtlchjjchgebfiaaGreatDoor

/- Turn: the document's. -/
namespace Go.Proofs.YtlchjjchgebfiaaGreatDoor
open Go.RowKit Go.Dl
attribute [local irreducible] Tri SCall TSem ECall Drawn DFun QSem PSem PCall GCall MCall Round Weak dloadE OW DWl Tells IntKind.wrap Retold ESem
def trSt29 (t : Tb) (k : Nat) : St := ⟨0, tmOf [(1, .ref 0 0), (2, .ref 1 0), (3, int1 0), (4, .ref 2 0), (5, int1 k)], .of [(0, ⟨25, 2, tbD t⟩), (1, ⟨25, 2, [.v (.slice none 0 0), .v (.slice none 0 0)]⟩), (2, ⟨25, 2, [strs (headL t k), .arr 3 (k - 1)]⟩), (3, ⟨22, 1, rowsC (turnR t k)⟩)] 4⟩
def trIn29 (t : Tb) (k i : Nat) : St := ⟨0, tmOf [(1, .ref 0 0), (2, .ref 1 0), (3, int1 0), (4, .ref 2 0), (5, int1 k), (6, .arr 4 (i + 1)), (7, int1 i)], .of [(0, ⟨25, 2, tbD t⟩), (1, ⟨25, 2, [.v (.slice none 0 0), .v (.slice none 0 0)]⟩), (2, ⟨25, 2, [strs (headL t k), .arr 3 (k - 1)]⟩), (3, ⟨22, 1, rowsC (turnR t k)⟩), (4, ⟨9, 1, rowS (colI t k i)⟩)] 5⟩
theorem tn_1 {n : Nat} : decide (63 < (n : Int)) = decide (64 ≤ (n : Int)) := decide_eq_decide.2 ⟨fun h => h, fun h => h⟩
set_option maxRecDepth 20000 in
theorem cp_1 (t : Tb) (k i : Nat) : (i + 1) * Tryz.prog.types[9].size ≤ (rowS (colI t k i)).length := by
  rw [rowS_len, colI_len]
  show (i + 1) * 1 ≤ _
  omega
set_option maxRecDepth 20000 in
theorem cp_2 {i n : Nat} (h : i < n) (hn : n ≤ 4096) : (i + 1 + 1) * Tryz.prog.types[9].bytes ≤ 140737488355328 := by
  show (i + 1 + 1) * 16 ≤ _
  omega
theorem cp_3 {i n : Nat} (h : i < n) (hn : n ≤ 4096) : i + 1 + 1 ≤ maxLen := by simp only [maxLen]; omega
theorem cp_push (t : Tb) (k i : Nat) : (rowS (colI t k i)).take ((i + 1) * 1) ++ [.v (.string ((t.rows.getD (i : Int).toNat []).getD (k : Int).toNat emB))] = rowS (colI t k (i + 1)) := by
  have := rowS_push (colI t k i) (celA t k i)
  rw [colI_len] at this
  exact this
theorem cp_0 (t : Tb) (k : Nat) : [DV.v (.string (t.head.getD (k : Int).toNat emB))] = rowS (colI t k 0) := rfl
theorem col_fl (t : Tb) (k : Nat) : rowS (colI t k t.rows.length) = ((colL t k).map strD).flatten := rfl
theorem col_ln (t : Tb) (k : Nat) : (colL t k).length = t.rows.length + 1 := colI_len t k _
theorem col_l0 (t : Tb) : ((headL t (0 + 1)).map strD).length = t.rows.length + 1 := by rw [List.length_map]; exact col_ln t 0
theorem col_f0 (t : Tb) : rowS (colI t 0 t.rows.length) = ((headL t (0 + 1)).map strD).flatten := rfl
theorem take_all {l : List DV} (h : l.all noId1 = true) (n : Nat) : (l.take n).all noId1 = true := by
  rw [List.all_eq_true] at h ⊢
  exact fun x hx => h x (List.mem_of_mem_take hx)
attribute [local irreducible] rowsC colL rowS
set_option maxRecDepth 20000 in
set_option maxHeartbeats 2000000 in
theorem turn29_D (t : Tb) (ht : Tbl t) : DPure Tryz.prog 29 [tab t] (turnV t) := by
  refine DFun.data (DFun.body Tryz.func29 rfl (by kernel_rfl) ?_)
  repeat' (first | with_reducible rfl | ((conv => whnf); first | refine And.intro ?_ ?_ | (intro h; first | with_reducible exact tf_no h | with_reducible exact ft_no h | exact Bool.noConfusion h | with_reducible exact h | (have ht : true = true := h; clear ht h) | skip) | ((with_reducible refine DWl.mark ?_); repeat' (first | refine DWl.cons ?_ ?_ | exact DWl.nil | exact DW.same _ rfl | exact DW.ref _ _ _ rfl | exact DW.arr _ _ _ rfl | exact DW.sub _ _ _ _ rfl | exact DW.nilLst _ | refine DW.aggl ?_ | refine DW.tupl ?_ | refine DW.clol ?_ ?_ | refine DW.int ?_ | refine DW.bool ?_ | refine DW.str ?_)) | ((with_reducible refine ECall.mark ?_); first | refine ECall.only ?_ (fun h => nomatch h) | refine ECall.only ?_ ?_) | ((with_reducible refine Drawn.mark ?_); first | refine Drawn.quiet (by kernel_rfl) ?_) | refine dcell_ok rfl ?_ | refine AppC.new ?_))
  all_goals first | (with_reducible refine enters_mark ?_; kernel_rfl) | (with_reducible refine boolT_mark ?_; kernel_rfl) | rfl | trivial | assumption | exact Nat.le_of_ble_eq_true rfl | (show entersB _ _ = true; kernel_rfl) | exact DW.same _ rfl | exact DW.ref _ _ _ rfl | exact DW.arr _ _ _ rfl | refine DW.int ?_ | refine dvb ?_ | refine dvi ?_ | exact OW.cells rfl rfl (DWl.same rfl) | exact Nat.zero_le _ | omega | skip
  all_goals repeat' (first | refine OW.cells rfl rfl ?_ | exact DW.nilArr _ rfl | refine DWl.cons ?_ ?_ | exact DWl.nil | exact DW.same _ rfl | exact DW.ref _ _ _ rfl | exact DW.arr _ _ _ rfl | exact DW.sub _ _ _ _ rfl | exact DW.nilLst _ | refine DW.aggl ?_ | refine DW.tupl ?_ | refine DW.clol ?_ ?_)
  all_goals try ((conv => whnf); with_reducible first | refine Round.mark ?_ | refine Tells.mark ?_ | refine Retold.mark ?_)
  all_goals try first | (show (_ : Bool) = _; simp_all; done) | (show (_ : Int) < _; simp at *; omega) | (show (_ : Int) ≤ _; simp at *; omega) | (show (_ : Nat) < _; simp at *; omega) | (show (_ : Nat) ≤ _; simp at *; omega)
  · conv => whnf
    refine Tells.of (r1 := .tup [tab ⟨[], []⟩, int1 30]) (by unfold turnV; rw [← tn_1, show decide (63 < ((t.rows.map rowD).length : Int)) = true from h]; rfl) ?_
    exact Tells.mk (DW.tupl (DWl.cons (DW.aggl (DWl.cons (DW.nilLst _) (DWl.cons (DW.nilLst _) DWl.nil))) (DWl.cons (DW.same _ rfl) DWl.nil)))
  · refine Tri.loop (trSt29 t) (fun k => k ≤ t.head.length) (fun k => t.head.length - k) 0 (by kernel_rfl) (Weak.list [(0, some 0), (1, some 1), (2, some 2), (3, none)] [] (by kernel_rfl) ?_ ?_) (Nat.zero_le _) ?_
    · repeat' (first | exact DW.nilArr _ rfl | exact tr_r0 t | rfl | exact DW.same _ rfl | exact DW.ref _ _ _ rfl | exact DW.arr _ _ _ rfl | exact OW.cells rfl rfl (DWl.same rfl) | refine OW.cells rfl rfl ?_ | refine DWl.cons ?_ ?_ | exact DWl.nil | exact DW.nilArr _ rfl | exact DW.nilLst _ | refine DW.clol ?_ ?_ | refine DW.aggl ?_ | refine DW.tupl ?_ | refine DW.int ?_ | refine DW.bool ?_ | refine DW.str ?_ | refine DW.arrE rfl ?_ | ((conv => whnf); first | refine And.intro ?_ ?_ | trivial))
    · repeat' (first | exact DW.nilArr _ rfl | exact tr_r0 t | rfl | exact DW.same _ rfl | exact DW.ref _ _ _ rfl | exact DW.arr _ _ _ rfl | exact OW.cells rfl rfl (DWl.same rfl) | refine OW.cells rfl rfl ?_ | refine DWl.cons ?_ ?_ | exact DWl.nil | exact DW.nilArr _ rfl | exact DW.nilLst _ | refine DW.clol ?_ ?_ | refine DW.aggl ?_ | refine DW.tupl ?_ | refine DW.int ?_ | refine DW.bool ?_ | refine DW.str ?_ | refine DW.arrE rfl ?_ | ((conv => whnf); first | refine And.intro ?_ ?_ | trivial))
    intro k hk
    have hk : k ≤ t.head.length := hk
    show dcode _ _ _ _ (trSt29 t k) _
    repeat' (first | with_reducible rfl | ((conv => whnf); first | refine And.intro ?_ ?_ | (intro h; first | with_reducible exact tf_no h | with_reducible exact ft_no h | exact Bool.noConfusion h | with_reducible exact h | (have ht : true = true := h; clear ht h) | skip) | ((with_reducible refine DWl.mark ?_); repeat' (first | refine DWl.cons ?_ ?_ | exact DWl.nil | exact DW.same _ rfl | exact DW.ref _ _ _ rfl | exact DW.arr _ _ _ rfl | exact DW.sub _ _ _ _ rfl | exact DW.nilLst _ | refine DW.aggl ?_ | refine DW.tupl ?_ | refine DW.clol ?_ ?_ | refine DW.int ?_ | refine DW.bool ?_ | refine DW.str ?_)) | ((with_reducible refine ECall.mark ?_); first | refine ECall.only ?_ (fun h => nomatch h) | refine ECall.only ?_ ?_) | ((with_reducible refine Drawn.mark ?_); first | refine Drawn.quiet (by kernel_rfl) ?_) | refine dloadE_map (emB) ?_ ?_ | refine dcell_ok rfl ?_ | refine AppC.new ?_))
    all_goals try ((conv => whnf); with_reducible refine Round.mark ?_)
    all_goals try first | ((with_reducible show Option.isSome (slElem _ _) = true); kernel_rfl) | ((with_reducible show slElem _ _ = some _); kernel_rfl) | ((with_reducible refine enters_mark ?_); kernel_rfl) | (with_reducible assumption) | ((with_reducible show List.all _ DV.one = true); rfl) | ((with_reducible show (_ : Nat) = _); rfl) | ((with_reducible show (_ == true) = true); simpa using h) | ((with_reducible show (_ : Nat) ≤ _); exact Nat.le_of_ble_eq_true rfl) | ((with_reducible show (_ : Int) ≤ _); first | omega | decide) | ((with_reducible show (_ : Int) < _); first | omega | decide) | ((with_reducible show (_ : Nat) < _); omega) | ((with_reducible show (_ : Nat) ≤ _); omega)
    all_goals try (first | (exact of_decide_eq_true (by assumption); done) | (exact lt_of_test (by assumption); done))
    · have hlt : k < t.head.length := lt_of_test h
      conv => whnf
      refine Tri.loop (trIn29 t k) (fun i => i ≤ t.rows.length) (fun i => t.rows.length - i) 0 (by kernel_rfl) (Weak.list [(0, some 0), (1, some 1), (2, some 2), (3, some 3), (4, some 4)] [] (by kernel_rfl) ?_ ?_) (Nat.zero_le _) ?_
      · repeat' (first | exact DWl.eq rfl (rowsC_all _) | exact DWl.eq (cp_0 t k) (rowS_all _) | exact DW.same _ rfl | exact DW.ref _ _ _ rfl | exact DW.arr _ _ _ rfl | exact OW.cells rfl rfl (DWl.same rfl) | refine OW.cells rfl rfl ?_ | refine DWl.cons ?_ ?_ | exact DWl.nil | exact DW.nilArr _ rfl | exact DW.nilLst _ | refine DW.clol ?_ ?_ | refine DW.aggl ?_ | refine DW.tupl ?_ | refine DW.int ?_ | refine DW.bool ?_ | refine DW.str ?_ | refine DW.arrE rfl ?_ | ((conv => whnf); first | refine And.intro ?_ ?_ | trivial))
      · repeat' (first | exact DWl.eq rfl (rowsC_all _) | exact DWl.eq (cp_0 t k) (rowS_all _) | exact DW.same _ rfl | exact DW.ref _ _ _ rfl | exact DW.arr _ _ _ rfl | exact OW.cells rfl rfl (DWl.same rfl) | refine OW.cells rfl rfl ?_ | refine DWl.cons ?_ ?_ | exact DWl.nil | exact DW.nilArr _ rfl | exact DW.nilLst _ | refine DW.clol ?_ ?_ | refine DW.aggl ?_ | refine DW.tupl ?_ | refine DW.int ?_ | refine DW.bool ?_ | refine DW.str ?_ | refine DW.arrE rfl ?_ | ((conv => whnf); first | refine And.intro ?_ ?_ | trivial))
      intro i hi
      have hi : i ≤ t.rows.length := hi
      show dcode _ _ _ _ (trIn29 t k i) _
      repeat' (first | with_reducible rfl | ((conv => whnf); first | refine And.intro ?_ ?_ | (intro h; first | with_reducible exact tf_no h | with_reducible exact ft_no h | exact Bool.noConfusion h | with_reducible exact h | (have ht : true = true := h; clear ht h) | skip) | ((with_reducible refine DWl.mark ?_); repeat' (first | refine DWl.cons ?_ ?_ | exact DWl.nil | exact DW.same _ rfl | exact DW.ref _ _ _ rfl | exact DW.arr _ _ _ rfl | exact DW.sub _ _ _ _ rfl | exact DW.nilLst _ | refine DW.aggl ?_ | refine DW.tupl ?_ | refine DW.clol ?_ ?_ | refine DW.int ?_ | refine DW.bool ?_ | refine DW.str ?_)) | ((with_reducible refine ECall.mark ?_); first | refine ECall.only ?_ (fun h => nomatch h) | refine ECall.only ?_ ?_) | ((with_reducible refine Drawn.mark ?_); first | refine Drawn.quiet (by kernel_rfl) ?_) | refine dloadE_map (([] : List ByteArray)) ?_ ?_ | refine dloadE_map (emB) ?_ ?_ | refine dcell_ok rfl ?_ | refine AppC.new ?_))
      all_goals try ((conv => whnf); with_reducible refine Round.mark ?_)
      all_goals try first | ((with_reducible show Option.isSome (slElem _ _) = true); kernel_rfl) | ((with_reducible show slElem _ _ = some _); kernel_rfl) | ((with_reducible refine enters_mark ?_); kernel_rfl) | (with_reducible assumption) | ((with_reducible show List.all _ DV.one = true); rfl) | ((with_reducible show (_ : Nat) = _); rfl) | ((with_reducible show (_ == true) = true); simpa using h) | ((with_reducible show (_ : Nat) ≤ _); exact Nat.le_of_ble_eq_true rfl) | ((with_reducible show (_ : Int) ≤ _); first | omega | decide) | ((with_reducible show (_ : Int) < _); first | omega | decide) | ((with_reducible show (_ : Nat) < _); omega) | ((with_reducible show (_ : Nat) ≤ _); omega)
      · exact of_decide_eq_true h
      · exact lt_of_test h
      · exact col_in ht hlt (lt_of_test h)
      · exact col_at ht hlt (lt_of_test h)
      · exact cp_1 t k i
      · exact cp_2 (lt_of_test h) ht.rows
      · exact cp_3 (lt_of_test h) ht.rows
      · have hlt2 := lt_of_test h
        refine Round.go (fun _ => i + 1) hlt2 (by show t.rows.length - (i + 1) < t.rows.length - i; omega) (Weak.list [(0, some 0), (1, some 1), (2, some 2), (3, some 3), (4, some 6)] [] (by kernel_rfl) ?_ ?_)
        · repeat' (first | exact wsucc hlt2 (by have := ht.rows; omega) | exact DWl.eq rfl (rowsC_all _) | exact DWl.eq (cp_push t k i) (rowS_all _) | exact DW.same _ rfl | exact DW.ref _ _ _ rfl | exact DW.arr _ _ _ rfl | exact OW.cells rfl rfl (DWl.same rfl) | refine OW.cells rfl rfl ?_ | refine DWl.cons ?_ ?_ | exact DWl.nil | exact DW.nilArr _ rfl | exact DW.nilLst _ | refine DW.clol ?_ ?_ | refine DW.aggl ?_ | refine DW.tupl ?_ | refine DW.int ?_ | refine DW.bool ?_ | refine DW.str ?_ | refine DW.arrE rfl ?_ | ((conv => whnf); first | refine And.intro ?_ ?_ | trivial))
        · repeat' (first | exact wsucc hlt2 (by have := ht.rows; omega) | exact DWl.eq rfl (rowsC_all _) | exact DWl.eq (cp_push t k i) (rowS_all _) | exact DW.same _ rfl | exact DW.ref _ _ _ rfl | exact DW.arr _ _ _ rfl | exact OW.cells rfl rfl (DWl.same rfl) | refine OW.cells rfl rfl ?_ | refine DWl.cons ?_ ?_ | exact DWl.nil | exact DW.nilArr _ rfl | exact DW.nilLst _ | refine DW.clol ?_ ?_ | refine DW.aggl ?_ | refine DW.tupl ?_ | refine DW.int ?_ | refine DW.bool ?_ | refine DW.str ?_ | refine DW.arrE rfl ?_ | ((conv => whnf); first | refine And.intro ?_ ?_ | trivial))
      · rename_i e0
        have hi2 : i = t.rows.length := by have := ge_of_test e0; omega
        subst hi2
        have hz := headL_z t h
        subst hz
        refine Round.go (fun _ => 0 + 1) hlt (by show t.head.length - (0 + 1) < t.head.length - 0; omega) (Weak.list [(0, some 0), (1, some 1), (2, some 2), (3, some 3)] [4] (by kernel_rfl) ?_ ?_)
        · repeat' (first | exact wsucc (k := 0) hlt (by have := ht.head.2; omega) | exact DW.pubE rfl rfl (Nat.zero_lt_succ _) (List.mem_singleton.2 rfl) (col_l0 t) strRow (col_f0 t) | exact DWl.eq (tr_zero t) (rowsC_all _) | exact DW.same _ rfl | exact DW.ref _ _ _ rfl | exact DW.arr _ _ _ rfl | exact OW.cells rfl rfl (DWl.same rfl) | refine OW.cells rfl rfl ?_ | refine DWl.cons ?_ ?_ | exact DWl.nil | exact DW.nilArr _ rfl | exact DW.nilLst _ | refine DW.clol ?_ ?_ | refine DW.aggl ?_ | refine DW.tupl ?_ | refine DW.int ?_ | refine DW.bool ?_ | refine DW.str ?_ | refine DW.arrE rfl ?_ | ((conv => whnf); first | refine And.intro ?_ ?_ | trivial))
        · repeat' (first | exact wsucc (k := 0) hlt (by have := ht.head.2; omega) | exact DW.pubE rfl rfl (Nat.zero_lt_succ _) (List.mem_singleton.2 rfl) (col_l0 t) strRow (col_f0 t) | exact DWl.eq (tr_zero t) (rowsC_all _) | exact DW.same _ rfl | exact DW.ref _ _ _ rfl | exact DW.arr _ _ _ rfl | exact OW.cells rfl rfl (DWl.same rfl) | refine OW.cells rfl rfl ?_ | refine DWl.cons ?_ ?_ | exact DWl.nil | exact DW.nilArr _ rfl | exact DW.nilLst _ | refine DW.clol ?_ ?_ | refine DW.aggl ?_ | refine DW.tupl ?_ | refine DW.int ?_ | refine DW.bool ?_ | refine DW.str ?_ | refine DW.arrE rfl ?_ | ((conv => whnf); first | refine And.intro ?_ ?_ | trivial))
      · exact tr_1 t k
      · exact tr_2 hlt ht.head.2
      · exact tr_3 hlt ht.head.2
      · rename_i e0
        have hi2 : i = t.rows.length := by have := ge_of_test e0; omega
        subst hi2
        refine Round.go (fun _ => k + 1) hlt (by show t.head.length - (k + 1) < t.head.length - k; omega) (Weak.list [(0, some 0), (1, some 1), (2, some 2), (3, some 6)] [4] (by kernel_rfl) ?_ ?_)
        · repeat' (first | exact wsucc hlt (by have := ht.head.2; omega) | exact DW.lstE (headL_pos t h) | exact tr_len h | exact DWl.snocE (tr_push t h) (take_all (rowsC_all _) _) (DW.pubE rfl rfl (Nat.zero_lt_succ _) (List.mem_singleton.2 rfl) (by rw [List.length_map, col_ln]) strRow (col_fl t k)) | exact DW.same _ rfl | exact DW.ref _ _ _ rfl | exact DW.arr _ _ _ rfl | exact OW.cells rfl rfl (DWl.same rfl) | refine OW.cells rfl rfl ?_ | refine DWl.cons ?_ ?_ | exact DWl.nil | exact DW.nilArr _ rfl | exact DW.nilLst _ | refine DW.clol ?_ ?_ | refine DW.aggl ?_ | refine DW.tupl ?_ | refine DW.int ?_ | refine DW.bool ?_ | refine DW.str ?_ | refine DW.arrE rfl ?_ | ((conv => whnf); first | refine And.intro ?_ ?_ | trivial))
        · repeat' (first | exact wsucc hlt (by have := ht.head.2; omega) | exact DW.lstE (headL_pos t h) | exact tr_len h | exact DWl.snocE (tr_push t h) (take_all (rowsC_all _) _) (DW.pubE rfl rfl (Nat.zero_lt_succ _) (List.mem_singleton.2 rfl) (by rw [List.length_map, col_ln]) strRow (col_fl t k)) | exact DW.same _ rfl | exact DW.ref _ _ _ rfl | exact DW.arr _ _ _ rfl | exact OW.cells rfl rfl (DWl.same rfl) | refine OW.cells rfl rfl ?_ | refine DWl.cons ?_ ?_ | exact DWl.nil | exact DW.nilArr _ rfl | exact DW.nilLst _ | refine DW.clol ?_ ?_ | refine DW.aggl ?_ | refine DW.tupl ?_ | refine DW.int ?_ | refine DW.bool ?_ | refine DW.str ?_ | refine DW.arrE rfl ?_ | ((conv => whnf); first | refine And.intro ?_ ?_ | trivial))
    · have h0 : t.head.length = k := by have := ge_of_test h; omega
      subst h0
      repeat' (first | with_reducible rfl | ((conv => whnf); first | refine And.intro ?_ ?_ | (intro h; first | with_reducible exact tf_no h | with_reducible exact ft_no h | exact Bool.noConfusion h | with_reducible exact h | (have ht : true = true := h; clear ht h) | skip) | ((with_reducible refine DWl.mark ?_); repeat' (first | refine DWl.cons ?_ ?_ | exact DWl.nil | exact DW.same _ rfl | exact DW.ref _ _ _ rfl | exact DW.arr _ _ _ rfl | exact DW.sub _ _ _ _ rfl | exact DW.nilLst _ | refine DW.aggl ?_ | refine DW.tupl ?_ | refine DW.clol ?_ ?_ | refine DW.int ?_ | refine DW.bool ?_ | refine DW.str ?_)) | ((with_reducible refine ECall.mark ?_); first | refine ECall.only ?_ (fun h => nomatch h) | refine ECall.only ?_ ?_) | ((with_reducible refine Drawn.mark ?_); first | refine Drawn.quiet (by kernel_rfl) ?_) | refine dcell_ok rfl ?_ | refine AppC.new ?_))
      conv => whnf
      refine Tells.of (r1 := .tup [tab (turnT t), int1 0]) (by unfold turnV; rw [← tn_1, show decide (63 < ((t.rows.map rowD).length : Int)) = false by assumption]; rfl) ?_
      exact Tells.mk (DW.tupl (DWl.cons (DW.aggl (DWl.cons (DW.lstE (headL_fin t ht.head.1)) (DWl.cons (DW.pubM rfl (turnR_len t _) rfl rfl rowRow (rowsC_eq _)) DWl.nil))) (DWl.cons (DW.same _ rfl) DWl.nil)))
end Go.Proofs.YtlchjjchgebfiaaGreatDoor

/- Turned twice it is the table: plain lists. -/
namespace Go.Proofs.YtlchjjchgebfiaaGreatDoor
open Go.RowKit Go.Dl
theorem colI_is (t : Tb) (k : Nat) : ∀ i, i ≤ t.rows.length → colI t k i = t.head.getD k emB :: (t.rows.take i).map fun r => r.getD k emB
  | 0, _ => rfl
  | i + 1, h => by
    rw [colI, colI_is t k i (by omega), List.take_add_one, List.getElem?_eq_getElem (show i < t.rows.length by omega), List.map_append]
    show _ ++ [(t.rows.getD i []).getD k emB] = _
    rw [List.getD_eq_getElem?_getD (l := t.rows), List.getElem?_eq_getElem (show i < t.rows.length by omega)]; rfl
theorem colL_is (t : Tb) (k : Nat) : colL t k = t.head.getD k emB :: t.rows.map fun r => r.getD k emB := by
  rw [colL, colI_is t k _ (Nat.le_refl _), List.take_length]
theorem range_row {l : List ByteArray} {n : Nat} (h1 : 1 ≤ n) (h : l.length = n) : l.getD 0 emB :: ((List.range (n - 1)).map fun i => l.getD (i + 1) emB) = l := by
  match l with
  | [] => rw [List.length_nil] at h; omega
  | c :: cs =>
    rw [List.length_cons] at h
    have h2 : n - 1 = cs.length := by omega
    rw [h2]
    congr 1
    refine List.ext_getElem (by rw [List.length_map, List.length_range]) fun i h3 h4 => ?_
    rw [List.getElem_map, List.getElem_range, List.getD_cons_succ, List.getD_eq_getElem?_getD, List.getElem?_eq_getElem h4]; rfl
theorem getD_map0 {α β : Type} (f : α → β) (l : List α) (i : Nat) (h : i < l.length) (a : α) (b : β) : (l.map f).getD i b = f (l.getD i a) := by
  rw [List.getD_eq_getElem?_getD, List.getD_eq_getElem?_getD, List.getElem?_map, List.getElem?_eq_getElem h]; rfl
theorem turn_turn {t : Tb} (ht : Fitt t) : turnT (turnT t) = t := by
  have hn := ht.head.1
  have hd : (turnT (turnT t)).head = t.head := by
    show colL (turnT t) 0 = _
    rw [colL_is]
    show (colL t 0).getD 0 emB :: (turnR t t.head.length).map _ = _
    rw [colL_is, turnR, List.map_map]
    refine Eq.trans ?_ (range_row hn (l := t.head) rfl)
    show t.head.getD 0 emB :: _ = _
    congr 1
    refine List.map_congr_left fun j _ => ?_
    show (colL t (j + 1)).getD 0 emB = _
    rw [colL_is]; rfl
  have hr : (turnT (turnT t)).rows = t.rows := by
    show turnR (turnT t) (colL t 0).length = _
    rw [turnR, colL_is, List.length_cons, List.length_map]
    refine List.ext_getElem (by rw [List.length_map, List.length_range]; rfl) fun j h1 h2 => ?_
    rw [List.getElem_map, List.getElem_range, colL_is]
    show (colL t 0).getD (j + 1) emB :: (turnR t t.head.length).map _ = _
    rw [colL_is, List.getD_cons_succ, getD_map0 _ _ _ h2 [], turnR, List.map_map]
    have e : t.rows.getD j [] = t.rows[j] := by rw [List.getD_eq_getElem?_getD, List.getElem?_eq_getElem h2]; rfl
    rw [e]
    have hl := ht.len _ (List.getElem_mem h2)
    refine Eq.trans ?_ (range_row hn hl)
    congr 1
    refine List.map_congr_left fun i _ => ?_
    show (colL t (i + 1)).getD (j + 1) emB = _
    rw [colL_is, List.getD_cons_succ, getD_map0 _ _ _ h2 [], e]
  cases e : turnT (turnT t) with
  | mk a b =>
    rw [e] at hd hr
    cases t
    rw [show a = _ from hd, show b = _ from hr]
theorem rowB_mk {l : List ByteArray} {n : Nat} (h1 : l.length = n) (h2 : ∀ s ∈ l, cellB s = true) : rowB l (n : Nat) = true := by
  unfold rowB
  rw [decide_eq_true (show (l.length : Int) = (n : Nat) by omega), List.all_eq_true.2 h2]; rfl
theorem rowB_mem {l : List ByteArray} {n : Int} (h : rowB l n = true) : ∀ s ∈ l, cellB s = true := by
  unfold rowB at h
  rw [Bool.and_eq_true] at h
  exact List.all_eq_true.1 h.2
theorem emB_cell : cellB emB = true := rfl
theorem getD_cell {l : List ByteArray} (h : ∀ s ∈ l, cellB s = true) (k : Nat) : cellB (l.getD k emB) = true := by
  rw [List.getD_eq_getElem?_getD]
  rcases Nat.lt_or_ge k l.length with h1 | h1
  · rw [List.getElem?_eq_getElem h1]; exact h _ (List.getElem_mem h1)
  · rw [List.getElem?_eq_none h1]; exact emB_cell
theorem colL_row {t : Tb} (ht : Fitt t) (k : Nat) : rowB (colL t k) ((t.rows.length + 1 : Nat) : Int) = true := by
  refine rowB_mk (col_ln t k) fun s hs => ?_
  rw [colL_is] at hs
  rcases List.mem_cons.1 hs with rfl | hs
  · exact getD_cell (rowB_mem ht.rowB_h) k
  · obtain ⟨r, hr, rfl⟩ := List.mem_map.1 hs
    exact getD_cell (rowB_mem (ht.rowB_r r hr)) k
theorem turn_fit {t : Tb} (ht : Fitt t) (h : t.rows.length < 64) : Fitt (turnT t) := by
  have hl : (turnT t).head.length = t.rows.length + 1 := col_ln t 0
  refine ⟨?_, by omega, by rw [hl]; exact colL_row ht 0, fun r hr => ?_⟩
  · have := turnR_len t t.head.length
    have := ht.head
    show (turnR t t.head.length).length ≤ _
    omega
  · obtain ⟨j, _, rfl⟩ := List.mem_map.1 (show r ∈ (List.range (t.head.length - 1)).map fun j => colL t (j + 1) from hr)
    rw [hl]; exact colL_row ht _
theorem sml_fit {t : Tb} (h : Fitt t) : SmlT t := by
  have hc := h.cell
  have hl : ∀ l, l = t.head ∨ l ∈ t.rows → l.length ≤ 64 := fun l hl => (h.wr.2 l hl).1
  have hs : ∀ l, l = t.head ∨ l ∈ t.rows → Sml l := fun l h1 => ⟨by have := hl l h1; omega, fun s hs => by have := hc l h1 s hs; omega⟩
  exact ⟨hs _ (.inl rfl), by have := h.rows; omega, fun r hr => hs r (.inr hr)⟩
end Go.Proofs.YtlchjjchgebfiaaGreatDoor

/- What TableBack computes. -/
namespace Go.Proofs.YtlchjjchgebfiaaGreatDoor
open Go.RowKit Go.Dl
attribute [local irreducible] Tri SCall TSem ECall Drawn DFun QSem PSem PCall GCall MCall Round Weak dloadE OW DWl Tells IntKind.wrap Retold ESem
theorem readW_D (t : Tb) (ht : Fitt t) : DPure Tryz.prog 17 [strV (textW t)] (.tup [tab t, faultD 0 0]) := by
  have h1 := ti_sizeG ht.wr (Nat.le_refl t.rows.length)
  have h2 := ht.rows
  have h := read17_D (textW t) (by show (textI t t.rows.length).size ≤ _; omega)
  rw [read_written ht] at h
  exact h
theorem turnV_no {t : Tb} (h : 64 ≤ t.rows.length) : turnV t = .tup [tab ⟨[], []⟩, int1 30] := by
  unfold turnV
  rw [List.length_map, decide_eq_true (show (64 : Int) ≤ (t.rows.length : Nat) by omega)]; rfl
theorem turnV_yes {t : Tb} (h : t.rows.length < 64) : turnV t = .tup [tab (turnT t), int1 0] := by
  unfold turnV
  rw [List.length_map, decide_eq_false (show ¬ (64 : Int) ≤ (t.rows.length : Nat) by omega)]; rfl
theorem turn_D (t : Tb) (ht : Fitt t) (h : t.rows.length < 64) : DPure Tryz.prog 21 [tab t] (.tup [tab (turnT t), int1 0]) := by
  have := turn21_D t ht.tbl
  rw [turnV_yes h] at this; exact this
theorem turn_N (t : Tb) (ht : Fitt t) (h : 64 ≤ t.rows.length) : DPure Tryz.prog 21 [tab t] (.tup [tab ⟨[], []⟩, int1 30]) := by
  have := turn21_D t ht.tbl
  rw [turnV_no h] at this; exact this
theorem turn_rows {t : Tb} (ht : Fitt t) : (turnT t).rows.length < 64 := by
  have := turnR_len t t.head.length
  have := ht.head
  show (turnR t t.head.length).length < _
  omega
attribute [local irreducible] fitB turnT
set_option maxRecDepth 20000 in
theorem back6_D (t : Tb) (ht : SmlT t) : DPure Tryz.prog 6 [tab t] (bl true) := by
  refine DFun.body Tryz.func6 rfl (by kernel_rfl) ?_
  cases hl : fitB t with
  | false =>
    have h0 := fit20_D t ht
    rw [hl] at h0
    repeat' (first | with_reducible rfl | ((conv => whnf); first | refine And.intro ?_ ?_ | (intro h; first | with_reducible exact tf_no h | with_reducible exact ft_no h | exact Bool.noConfusion h | with_reducible exact h | (have ht : true = true := h; clear ht h) | skip) | ((with_reducible refine DWl.mark ?_); repeat' (first | refine DWl.cons ?_ ?_ | exact DWl.nil | exact DW.same _ rfl | exact DW.ref _ _ _ rfl | exact DW.arr _ _ _ rfl | exact DW.sub _ _ _ _ rfl | exact DW.nilLst _ | refine DW.aggl ?_ | refine DW.tupl ?_ | refine DW.clol ?_ ?_ | refine DW.int ?_ | refine DW.bool ?_ | refine DW.str ?_)) | ((with_reducible refine SCall.mark ?_); first | refine SCall.data (h0) rfl rfl ?_ | refine SCall.scal (h0) rfl rfl ?_ | refine SCall.data (awake10_D) rfl rfl ?_ | refine SCall.scal (awake10_D) rfl rfl ?_) | ((with_reducible refine PCall.mark ?_); first | refine PCall.mk (h0) rfl rfl ?_ | refine PCall.mk (awake10_D) rfl rfl ?_) | ((with_reducible refine GCall.mark ?_); first | refine GCall.data (fun _ => h0) rfl rfl ?_ | refine GCall.scal (fun _ => h0) rfl rfl ?_ | refine GCall.data (fun _ => awake10_D) rfl rfl ?_ | refine GCall.scal (fun _ => awake10_D) rfl rfl ?_) | ((with_reducible refine MCall.mark ?_); first | refine MCall.data (fun _ => h0) rfl rfl ?_ | refine MCall.plain (PCall.mk (h0) rfl rfl ?_) | refine MCall.data (fun _ => awake10_D) rfl rfl ?_ | refine MCall.plain (PCall.mk (awake10_D) rfl rfl ?_)) | ((with_reducible refine ECall.mark ?_); first | refine ECall.only ?_ (fun h => nomatch h) | refine ECall.only ?_ ?_) | ((with_reducible refine Drawn.mark ?_); first | refine Drawn.quiet (by kernel_rfl) ?_) | refine dcell_ok rfl ?_ | refine AppC.new ?_))
    all_goals first | (with_reducible refine enters_mark ?_; kernel_rfl) | (with_reducible refine boolT_mark ?_; kernel_rfl) | rfl | trivial | assumption | exact Nat.le_of_ble_eq_true rfl | (show entersB _ _ = true; kernel_rfl) | exact DW.same _ rfl | exact DW.ref _ _ _ rfl | exact DW.arr _ _ _ rfl | refine DW.int ?_ | refine dvb ?_ | refine dvi ?_ | exact OW.cells rfl rfl (DWl.same rfl) | exact Nat.zero_le _ | omega | skip
    all_goals repeat' (first | refine OW.cells rfl rfl ?_ | exact DW.nilArr _ rfl | refine DWl.cons ?_ ?_ | exact DWl.nil | exact DW.same _ rfl | exact DW.ref _ _ _ rfl | exact DW.arr _ _ _ rfl | exact DW.sub _ _ _ _ rfl | exact DW.nilLst _ | refine DW.aggl ?_ | refine DW.tupl ?_ | refine DW.clol ?_ ?_)
    all_goals try ((conv => whnf); with_reducible first | refine Round.mark ?_ | refine Tells.mark ?_ | refine Retold.mark ?_)
    all_goals try first | (show (_ : Bool) = _; simp_all; done) | (show (_ : Int) < _; simp at *; omega) | (show (_ : Int) ≤ _; simp at *; omega) | (show (_ : Nat) < _; simp at *; omega) | (show (_ : Nat) ≤ _; simp at *; omega)
  | true =>
    have h0 := fit20_D t ht
    rw [hl] at h0
    have hf := fit_iff.1 hl
    rcases Nat.lt_or_ge t.rows.length 64 with hn | hn
    · have hf2 := turn_fit hf hn
      have ht2 := turn_D (turnT t) hf2 (turn_rows hf)
      rw [turn_turn hf] at ht2
      have h9 := fit19_D (turnT t) (sml_fit hf2)
      rw [fit_iff.2 hf2] at h9
      repeat' (first | with_reducible rfl | ((conv => whnf); first | refine And.intro ?_ ?_ | (intro h; first | with_reducible exact tf_no h | with_reducible exact ft_no h | exact Bool.noConfusion h | with_reducible exact h | (have ht : true = true := h; clear ht h) | skip) | ((with_reducible refine DWl.mark ?_); repeat' (first | refine DWl.cons ?_ ?_ | exact DWl.nil | exact DW.same _ rfl | exact DW.ref _ _ _ rfl | exact DW.arr _ _ _ rfl | exact DW.sub _ _ _ _ rfl | exact DW.nilLst _ | refine DW.aggl ?_ | refine DW.tupl ?_ | refine DW.clol ?_ ?_ | refine DW.int ?_ | refine DW.bool ?_ | refine DW.str ?_)) | ((with_reducible refine SCall.mark ?_); first | refine SCall.data (h0) rfl rfl ?_ | refine SCall.scal (h0) rfl rfl ?_ | refine SCall.data (awake10_D) rfl rfl ?_ | refine SCall.scal (awake10_D) rfl rfl ?_ | refine SCall.data (write14_G t hf.wr) rfl rfl ?_ | refine SCall.scal (write14_G t hf.wr) rfl rfl ?_ | refine SCall.data (readW_D t hf) rfl rfl ?_ | refine SCall.scal (readW_D t hf) rfl rfl ?_ | refine SCall.data (same16_D t ht) rfl rfl ?_ | refine SCall.scal (same16_D t ht) rfl rfl ?_ | refine SCall.data (turn_D t hf hn) rfl rfl ?_ | refine SCall.scal (turn_D t hf hn) rfl rfl ?_ | refine SCall.data (ht2) rfl rfl ?_ | refine SCall.scal (ht2) rfl rfl ?_ | refine SCall.data (h9) rfl rfl ?_ | refine SCall.scal (h9) rfl rfl ?_) | ((with_reducible refine PCall.mark ?_); first | refine PCall.mk (h0) rfl rfl ?_ | refine PCall.mk (awake10_D) rfl rfl ?_ | refine PCall.mk (write14_G t hf.wr) rfl rfl ?_ | refine PCall.mk (readW_D t hf) rfl rfl ?_ | refine PCall.mk (same16_D t ht) rfl rfl ?_ | refine PCall.mk (turn_D t hf hn) rfl rfl ?_ | refine PCall.mk (ht2) rfl rfl ?_ | refine PCall.mk (h9) rfl rfl ?_) | ((with_reducible refine GCall.mark ?_); first | refine GCall.data (fun _ => h0) rfl rfl ?_ | refine GCall.scal (fun _ => h0) rfl rfl ?_ | refine GCall.data (fun _ => awake10_D) rfl rfl ?_ | refine GCall.scal (fun _ => awake10_D) rfl rfl ?_ | refine GCall.data (fun _ => write14_G t hf.wr) rfl rfl ?_ | refine GCall.scal (fun _ => write14_G t hf.wr) rfl rfl ?_ | refine GCall.data (fun _ => readW_D t hf) rfl rfl ?_ | refine GCall.scal (fun _ => readW_D t hf) rfl rfl ?_ | refine GCall.data (fun _ => same16_D t ht) rfl rfl ?_ | refine GCall.scal (fun _ => same16_D t ht) rfl rfl ?_ | refine GCall.data (fun _ => turn_D t hf hn) rfl rfl ?_ | refine GCall.scal (fun _ => turn_D t hf hn) rfl rfl ?_ | refine GCall.data (fun _ => ht2) rfl rfl ?_ | refine GCall.scal (fun _ => ht2) rfl rfl ?_ | refine GCall.data (fun _ => h9) rfl rfl ?_ | refine GCall.scal (fun _ => h9) rfl rfl ?_) | ((with_reducible refine MCall.mark ?_); first | refine MCall.data (fun _ => h0) rfl rfl ?_ | refine MCall.plain (PCall.mk (h0) rfl rfl ?_) | refine MCall.data (fun _ => awake10_D) rfl rfl ?_ | refine MCall.plain (PCall.mk (awake10_D) rfl rfl ?_) | refine MCall.data (fun _ => write14_G t hf.wr) rfl rfl ?_ | refine MCall.plain (PCall.mk (write14_G t hf.wr) rfl rfl ?_) | refine MCall.data (fun _ => readW_D t hf) rfl rfl ?_ | refine MCall.plain (PCall.mk (readW_D t hf) rfl rfl ?_) | refine MCall.data (fun _ => same16_D t ht) rfl rfl ?_ | refine MCall.plain (PCall.mk (same16_D t ht) rfl rfl ?_) | refine MCall.data (fun _ => turn_D t hf hn) rfl rfl ?_ | refine MCall.plain (PCall.mk (turn_D t hf hn) rfl rfl ?_) | refine MCall.data (fun _ => ht2) rfl rfl ?_ | refine MCall.plain (PCall.mk (ht2) rfl rfl ?_) | refine MCall.data (fun _ => h9) rfl rfl ?_ | refine MCall.plain (PCall.mk (h9) rfl rfl ?_)) | ((with_reducible refine ex_mark ?_); first | refine dq_eql k33 ?_ rfl ?_ rfl rfl ?_ | refine dq_neq k33 ?_ rfl ?_ rfl rfl ?_) | ((with_reducible refine ECall.mark ?_); first | refine ECall.only ?_ (fun h => nomatch h) | refine ECall.only ?_ ?_) | ((with_reducible refine Drawn.mark ?_); first | refine Drawn.quiet (by kernel_rfl) ?_) | refine dcell_ok rfl ?_ | refine AppC.new ?_))
      all_goals first | (with_reducible refine enters_mark ?_; kernel_rfl) | (with_reducible refine boolT_mark ?_; kernel_rfl) | rfl | trivial | assumption | exact Nat.le_of_ble_eq_true rfl | (show entersB _ _ = true; kernel_rfl) | exact DW.same _ rfl | exact DW.ref _ _ _ rfl | exact DW.arr _ _ _ rfl | refine DW.int ?_ | refine dvb ?_ | refine dvi ?_ | exact OW.cells rfl rfl (DWl.same rfl) | exact Nat.zero_le _ | omega | skip
      all_goals repeat' (first | refine OW.cells rfl rfl ?_ | exact DW.nilArr _ rfl | refine DWl.cons ?_ ?_ | exact DWl.nil | exact DW.same _ rfl | exact DW.ref _ _ _ rfl | exact DW.arr _ _ _ rfl | exact DW.sub _ _ _ _ rfl | exact DW.nilLst _ | refine DW.aggl ?_ | refine DW.tupl ?_ | refine DW.clol ?_ ?_)
      all_goals try ((conv => whnf); with_reducible first | refine Round.mark ?_ | refine Tells.mark ?_ | refine Retold.mark ?_)
      all_goals try first | (show (_ : Bool) = _; simp_all; done) | (show (_ : Int) < _; simp at *; omega) | (show (_ : Int) ≤ _; simp at *; omega) | (show (_ : Nat) < _; simp at *; omega) | (show (_ : Nat) ≤ _; simp at *; omega)
    · repeat' (first | with_reducible rfl | ((conv => whnf); first | refine And.intro ?_ ?_ | (intro h; first | with_reducible exact tf_no h | with_reducible exact ft_no h | exact Bool.noConfusion h | with_reducible exact h | (have ht : true = true := h; clear ht h) | skip) | ((with_reducible refine DWl.mark ?_); repeat' (first | refine DWl.cons ?_ ?_ | exact DWl.nil | exact DW.same _ rfl | exact DW.ref _ _ _ rfl | exact DW.arr _ _ _ rfl | exact DW.sub _ _ _ _ rfl | exact DW.nilLst _ | refine DW.aggl ?_ | refine DW.tupl ?_ | refine DW.clol ?_ ?_ | refine DW.int ?_ | refine DW.bool ?_ | refine DW.str ?_)) | ((with_reducible refine SCall.mark ?_); first | refine SCall.data (h0) rfl rfl ?_ | refine SCall.scal (h0) rfl rfl ?_ | refine SCall.data (awake10_D) rfl rfl ?_ | refine SCall.scal (awake10_D) rfl rfl ?_ | refine SCall.data (write14_G t hf.wr) rfl rfl ?_ | refine SCall.scal (write14_G t hf.wr) rfl rfl ?_ | refine SCall.data (readW_D t hf) rfl rfl ?_ | refine SCall.scal (readW_D t hf) rfl rfl ?_ | refine SCall.data (same16_D t ht) rfl rfl ?_ | refine SCall.scal (same16_D t ht) rfl rfl ?_ | refine SCall.data (turn_N t hf hn) rfl rfl ?_ | refine SCall.scal (turn_N t hf hn) rfl rfl ?_) | ((with_reducible refine PCall.mark ?_); first | refine PCall.mk (h0) rfl rfl ?_ | refine PCall.mk (awake10_D) rfl rfl ?_ | refine PCall.mk (write14_G t hf.wr) rfl rfl ?_ | refine PCall.mk (readW_D t hf) rfl rfl ?_ | refine PCall.mk (same16_D t ht) rfl rfl ?_ | refine PCall.mk (turn_N t hf hn) rfl rfl ?_) | ((with_reducible refine GCall.mark ?_); first | refine GCall.data (fun _ => h0) rfl rfl ?_ | refine GCall.scal (fun _ => h0) rfl rfl ?_ | refine GCall.data (fun _ => awake10_D) rfl rfl ?_ | refine GCall.scal (fun _ => awake10_D) rfl rfl ?_ | refine GCall.data (fun _ => write14_G t hf.wr) rfl rfl ?_ | refine GCall.scal (fun _ => write14_G t hf.wr) rfl rfl ?_ | refine GCall.data (fun _ => readW_D t hf) rfl rfl ?_ | refine GCall.scal (fun _ => readW_D t hf) rfl rfl ?_ | refine GCall.data (fun _ => same16_D t ht) rfl rfl ?_ | refine GCall.scal (fun _ => same16_D t ht) rfl rfl ?_ | refine GCall.data (fun _ => turn_N t hf hn) rfl rfl ?_ | refine GCall.scal (fun _ => turn_N t hf hn) rfl rfl ?_) | ((with_reducible refine MCall.mark ?_); first | refine MCall.data (fun _ => h0) rfl rfl ?_ | refine MCall.plain (PCall.mk (h0) rfl rfl ?_) | refine MCall.data (fun _ => awake10_D) rfl rfl ?_ | refine MCall.plain (PCall.mk (awake10_D) rfl rfl ?_) | refine MCall.data (fun _ => write14_G t hf.wr) rfl rfl ?_ | refine MCall.plain (PCall.mk (write14_G t hf.wr) rfl rfl ?_) | refine MCall.data (fun _ => readW_D t hf) rfl rfl ?_ | refine MCall.plain (PCall.mk (readW_D t hf) rfl rfl ?_) | refine MCall.data (fun _ => same16_D t ht) rfl rfl ?_ | refine MCall.plain (PCall.mk (same16_D t ht) rfl rfl ?_) | refine MCall.data (fun _ => turn_N t hf hn) rfl rfl ?_ | refine MCall.plain (PCall.mk (turn_N t hf hn) rfl rfl ?_)) | ((with_reducible refine ex_mark ?_); first | refine dq_eql k33 ?_ rfl ?_ rfl rfl ?_ | refine dq_neq k33 ?_ rfl ?_ rfl rfl ?_) | ((with_reducible refine ECall.mark ?_); first | refine ECall.only ?_ (fun h => nomatch h) | refine ECall.only ?_ ?_) | ((with_reducible refine Drawn.mark ?_); first | refine Drawn.quiet (by kernel_rfl) ?_) | refine dcell_ok rfl ?_ | refine AppC.new ?_))
      all_goals first | (with_reducible refine enters_mark ?_; kernel_rfl) | (with_reducible refine boolT_mark ?_; kernel_rfl) | rfl | trivial | assumption | exact Nat.le_of_ble_eq_true rfl | (show entersB _ _ = true; kernel_rfl) | exact DW.same _ rfl | exact DW.ref _ _ _ rfl | exact DW.arr _ _ _ rfl | refine DW.int ?_ | refine dvb ?_ | refine dvi ?_ | exact OW.cells rfl rfl (DWl.same rfl) | exact Nat.zero_le _ | omega | skip
      all_goals repeat' (first | refine OW.cells rfl rfl ?_ | exact DW.nilArr _ rfl | refine DWl.cons ?_ ?_ | exact DWl.nil | exact DW.same _ rfl | exact DW.ref _ _ _ rfl | exact DW.arr _ _ _ rfl | exact DW.sub _ _ _ _ rfl | exact DW.nilLst _ | refine DW.aggl ?_ | refine DW.tupl ?_ | refine DW.clol ?_ ?_)
      all_goals try ((conv => whnf); with_reducible first | refine Round.mark ?_ | refine Tells.mark ?_ | refine Retold.mark ?_)
      all_goals try first | (show (_ : Bool) = _; simp_all; done) | (show (_ : Int) < _; simp at *; omega) | (show (_ : Int) ≤ _; simp at *; omega) | (show (_ : Nat) < _; simp at *; omega) | (show (_ : Nat) ≤ _; simp at *; omega)
      rw [List.length_map, decide_eq_true (show (64 : Int) ≤ (t.rows.length : Nat) by omega)]; rfl
end Go.Proofs.YtlchjjchgebfiaaGreatDoor
