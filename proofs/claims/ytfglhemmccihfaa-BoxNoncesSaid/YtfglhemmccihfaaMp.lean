/-
The program's aead: Once, Covered, tag, Seal, Open.
Reference 06 (aead): Once, Covered, Seal, Open.
-/
import Derived.Test.YtfglhemmccihfaaMa
import Derived.Test.YtfglhemmccihfaaMb
import Derived.Test.YtfglhemmccihfaaMe
import Derived.Test.YtfglhemmccihfaaMh
import Derived.Test.YtfglhemmccihfaaMj
import Derived.Test.YtfglhemmccihfaaMn
namespace Go.Proofs.Ytfglhemmccihfaa
open Go.RowKit

theorem Tag_as (key text : ByteArray) (hk : key.size = 32) (ht : text.size ≤ 140737488351232) (q : ByteArray) (hq : Is q (tagL key.data.toList text.data.toList)) (w : World) :
    Calls Try.prog 51 #[.string key, .string text] w fun e w' => e = .returned (.tuple #[.string q, .int .i64 0]) ∧ Below w.heap.size w w' :=
  (Tag_ok key text hk ht w).mono fun e w' ⟨r, h1, h2, h3⟩ => ⟨by rw [h1, h2.inj hq], h3⟩
theorem Turn_as (key nonce text : ByteArray) (hk : key.size = 32) (hn : nonce.size = 12) (hm : text.size ≤ 65536) (q : ByteArray) (hq : Is q (turnL key.data.toList 1#32 nonce.data.toList text.data.toList)) (w : World) :
    Calls Try.prog 33 #[.string key, .int .u32 1, .string nonce, .string text] w fun e w' => e = .returned (.tuple #[.string q, .int .i64 0]) ∧ Below w.heap.size w w' :=
  (Turn_ok key nonce text 1#32 hk hn hm w).mono fun e w' ⟨r, h1, h2, h3⟩ => ⟨by rw [h1, h2.inj hq], h3⟩
theorem Turn_not (key nonce text : ByteArray) (h : ¬ (key.size = 32 ∧ nonce.size = 12) ∨ 65536 < text.size) (w : World) :
    Calls Try.prog 33 #[.string key, .int .u32 1, .string nonce, .string text] w fun e w' => e = .returned (.tuple #[.string ⟨#[]⟩, .int .i64 5]) ∧ w = w' := Turn_no key nonce text 1#32 h w
theorem Block_as (key nonce : ByteArray) (hk : key.size = 32) (hn : nonce.size = 12) (q : ByteArray) (hq : Is q (blockL key.data.toList 0#32 nonce.data.toList)) (w : World) :
    Calls Try.prog 37 #[.string key, .int .u32 0, .string nonce] w fun e w' => e = .returned (.tuple #[.string q, .int .i64 0]) ∧ Below w.heap.size w w' :=
  (Block_ok key nonce 0#32 hk hn w).mono fun e w' ⟨r, h1, h2, h3⟩ => ⟨by rw [h1, h2.inj hq], h3⟩
theorem Block_not (key nonce : ByteArray) (h : ¬ (key.size = 32 ∧ nonce.size = 12)) (w : World) :
    Calls Try.prog 37 #[.string key, .int .u32 0, .string nonce] w fun e w' => e = .returned (.tuple #[.string ⟨#[]⟩, .int .i64 5]) ∧ w = w' := Block_no key nonce 0#32 h w
theorem AFill_as (s : ByteArray) (n : Int) (hs : s.size ≤ 140737488351232) (hn : n ≤ 1048576) (hn0 : -9223372036854775808 ≤ n) (q : ByteArray) (hq : Is q (fillL s.data.toList n)) (w : World) :
    Calls Try.prog 67 #[.string s, .int .i64 n] w fun e w' => e = .returned (.string q) ∧ Below w.heap.size w w' :=
  (Fill_walk s n hs hn hn0 w).mono fun e w' ⟨r, h1, h2, h3⟩ => ⟨by rw [h1, h2.inj hq], h3⟩
theorem Low_as (x : BitVec 64) (n : Int) (q : ByteArray) (hq : Is q (lowL x (cut n))) (w : World) : Calls Try.prog 64 #[.int .u64 (bvi x), .int .i64 n] w fun e w' => e = .returned (.string q) ∧ Below w.heap.size w w' :=
  (Low_walk x n w).mono fun e w' ⟨r, h1, h2, h3⟩ => ⟨by rw [h1, h2.inj hq], h3⟩
set_option maxHeartbeats 400000 in
theorem Once_ok (key nonce : ByteArray) (hk : key.size = 32) (hn : nonce.size = 12) (q : ByteArray) (hq : Is q (onceL key.data.toList nonce.data.toList)) (w : World) :
    Calls Try.prog 17 #[.string key, .string nonce] w fun e w' => e = .returned (.tuple #[.string q, .int .i64 0]) ∧ Below w.heap.size w w' := by
  obtain ⟨b, hb⟩ : ∃ b, Is b (blockL key.data.toList 0#32 nonce.data.toList) := ⟨_, Is.of _⟩
  have HB := Lib.hid hb
  have hbz : (32 : Int) ≤ (b.size : Int) := by rw [hb.size, blockL_length]; decide
  have HE := Lib.hid (show b.extract 0 32 = q by
    have h := hb.extract 0 32
    rw [List.drop_zero, Nat.sub_zero] at h
    exact h.inj hq)
  have HK := Lib.hid hk
  have HN := Lib.hid hn
  clear hb hq hk hn
  go_enter Try.func17, Try.ntmps17
  go_wp2_with fail
  refine (Block_as key nonce HK.out HN.out b HB.out _).mono ?_
  rintro e w1 ⟨rfl, hb1⟩
  go_wp2_with fail
  go_ret2
  exact ⟨ret_val (by rw [← HE.out]; rfl), hb1⟩
set_option maxHeartbeats 400000 in
theorem Once_no (key nonce : ByteArray) (h : ¬ (key.size = 32 ∧ nonce.size = 12)) (w : World) :
    Calls Try.prog 17 #[.string key, .string nonce] w fun e w' => e = .returned (.tuple #[.string ⟨#[]⟩, .int .i64 5]) ∧ w = w' := by
  have HH := Lib.hid h
  clear h
  go_enter Try.func17, Try.ntmps17
  go_wp2_with fail
  refine (Block_not key nonce HH.out _).mono ?_
  rintro e w1 ⟨rfl, rfl⟩
  go_wp2_with fail
  go_ret2
  exact ⟨rfl, rfl⟩
def fillsL (ss : List ByteArray) (k : Nat) : List UInt8 := (ss.take k).flatMap fun s => fillL s.data.toList 16
def lensL (ss : List ByteArray) (k : Nat) : List UInt8 := (ss.take k).flatMap fun s => lowL (BitVec.ofNat 64 s.size) 8
theorem fillsL_succ (ss : List ByteArray) (k : Nat) (h : k < ss.length) : fillsL ss (k + 1) = fillsL ss k ++ fillL (ss[k]).data.toList 16 := by
  unfold fillsL
  rw [List.take_succ_eq_append_getElem h, List.flatMap_append]
  simp
theorem lensL_succ (ss : List ByteArray) (k : Nat) (h : k < ss.length) : lensL ss (k + 1) = lensL ss k ++ lowL (BitVec.ofNat 64 (ss[k]).size) 8 := by
  unfold lensL
  rw [List.take_succ_eq_append_getElem h, List.flatMap_append]
  simp
theorem fillsL_length (ss : List ByteArray) (h : ∀ s ∈ ss, s.size ≤ 2000000) (k : Nat) (hk : k ≤ ss.length) : (fillsL ss k).length ≤ 2000016 * k := by
  induction k with
  | zero => exact Nat.zero_le _
  | succ k ih =>
    rw [fillsL_succ ss k (by omega), List.length_append]
    obtain ⟨i, h1, h2, _⟩ := fillL_16 (ss[k]'(by omega)).data.toList
    have h3 := h _ (List.getElem_mem (show k < ss.length by omega))
    have h4 : (ss[k]'(by omega)).data.toList.length = (ss[k]'(by omega)).size := by rw [Array.length_toList]; rfl
    rw [h1, List.length_append, List.length_replicate]
    have := ih (by omega)
    omega
theorem lensL_length (ss : List ByteArray) (k : Nat) (hk : k ≤ ss.length) : (lensL ss k).length = 8 * k := by
  induction k with
  | zero => rfl
  | succ k ih => rw [lensL_succ ss k (by omega), List.length_append, ih (by omega), lowL_length]; omega
set_option maxRecDepth 100000 in
set_option maxHeartbeats 2000000 in
theorem joined_walk (ao : Option Addr) (cap : Nat) (ss : List ByteArray) (hz : ∀ s ∈ ss, s.size ≤ 2000000) (hl : ss.length ≤ 1000) (q : ByteArray) (hq : Is q (fillsL ss ss.length ++ lensL ss ss.length)) (w : World) (hss : StrsAt w ao ss) :
    Calls Try.prog 39 #[.slice ao ss.length cap] w fun e w' => e = .returned (.string q) ∧ Below w.heap.size w w' := by
  have HS := Lib.hid hss
  have HZ := Lib.hid hz
  have HQ := Lib.hid hq
  have HO := Lib.hid (isBuilder_new 95 5 (w := w) (Nat.le_refl w.heap.size))
  have HB := Lib.hid ((Below.refl w.heap.size w).alloc (Nat.le_refl _) (.cells #[.pointer none, .slice none 0 0] 95))
  clear hss hz hq
  go_enter Try.func39, Try.ntmps39
  go_wp2_with fail
  go_loopw [10] (fun i wr => ∃ k : Nat, k ≤ ss.length ∧ i = .int .i64 k ∧ Lib.IsBuilderF 95 5 w.heap.size w.heap.size (cells (fillsL ss k)) wr ∧ Below w.heap.size w wr) (fun i _ => ss.length - (intOf i).toNat)
  case atStart => exact ⟨0, Nat.zero_le _, rfl, HO.out, HB.out⟩
  case round =>
    obtain ⟨k, hk, rfl, ho, hb⟩ := hrel
    have HO2 := Lib.hid ho
    have HB2 := Lib.hid hb
    have HFL := Lib.hid (fillsL_length ss HZ.out k hk)
    clear ho hb
    rcases Nat.lt_or_ge k ss.length with hlt | hge
    · obtain ⟨b, off, rfl, hbl, hc⟩ := HS.out k hlt
      have c0 := (HB2.out.cell (p := ⟨b, off + k, none⟩) hbl).trans hc
      have hs1 := HZ.out _ (List.getElem_mem hlt)
      have HSU := Lib.hid (fillsL_succ ss k hlt)
      generalize ss[k] = s at c0 hs1 HSU
      have hd : decide (k < ss.length) = true := decide_eq_true hlt
      obtain ⟨f, hf⟩ : ∃ f, Is f (fillL s.data.toList 16) := ⟨_, Is.of _⟩
      have HF := Lib.hid hf
      have HFZ := Lib.hid (show f.size ≤ 2000016 by
        obtain ⟨i, h1, h2, _⟩ := fillL_16 s.data.toList
        have h4 : s.data.toList.length = s.size := by rw [Array.length_toList]; rfl
        rw [hf.size, h1, List.length_append, List.length_replicate]
        omega)
      clear hc hbl hf
      go_wp2_with fail
      refine (AFill_as s 16 (by omega) (by decide) (by decide) f HF.out _).mono ?_
      rintro e w3 ⟨rfl, hb3⟩
      have HO3 := Lib.hid (isBuilder_below HO2.out hb3)
      have HB3 := Lib.hid (bthen HB2.out hb3)
      clear hb3 c0
      go_wp2_with fail
      refine (WriteString_k 95 liesBuilder w.heap.size w.heap.size _ f _ HO3.out (by rw [cells_length]; have := HFL.out; have := HFZ.out; omega) HB3.out.size).mono ?_
      rintro e w4 ⟨rfl, h4, hb4, _⟩
      have HO4 := Lib.hid h4
      have HB4 := Lib.hid (HB3.out.trans hb4)
      clear h4 hb4
      go_wp2_with fail
      go_roundw
      case rel =>
        refine ⟨k + 1, by omega, by go_num, ?_, HB4.out⟩
        rw [HSU.out, cells_append, ← strCells_cells HF.out]
        exact .inr HO4.out
      case measure => simp [intOf]; omega
    · obtain rfl : k = ss.length := by omega
      have hd : decide (ss.length < ss.length) = false := decide_eq_false (by omega)
      go_wp2_with fail
      obtain ⟨wo, hwo⟩ : ∃ wo : World, wo = wr := ⟨_, rfl⟩
      subst hwo
      go_loopw [20] (fun i wr => ∃ k : Nat, k ≤ ss.length ∧ i = .int .i64 k ∧ Lib.IsBuilderF 95 5 w.heap.size w.heap.size (cells (fillsL ss ss.length ++ lensL ss k)) wr ∧ Below w.heap.size w wr) (fun i _ => ss.length - (intOf i).toNat)
      case atStart => exact ⟨0, Nat.zero_le _, rfl, by simpa [lensL] using HO2.out, HB2.out⟩
      case round =>
        obtain ⟨k, hk, rfl, ho, hb⟩ := hrel
        have HO5 := Lib.hid ho
        have HB5 := Lib.hid hb
        have HLL := Lib.hid (lensL_length ss k hk)
        clear ho hb
        rcases Nat.lt_or_ge k ss.length with hlt | hge
        · obtain ⟨b, off, rfl, hbl, hc⟩ := HS.out k hlt
          have c0 := (HB5.out.cell (p := ⟨b, off + k, none⟩) hbl).trans hc
          have hs1 := HZ.out _ (List.getElem_mem hlt)
          have HSU := Lib.hid (lensL_succ ss k hlt)
          generalize ss[k] = s at c0 hs1 HSU
          have hd : decide (k < ss.length) = true := decide_eq_true hlt
          obtain ⟨f, hf⟩ : ∃ f, Is f (lowL (BitVec.ofNat 64 s.size) (cut 8)) := ⟨_, Is.of _⟩
          have HF := Lib.hid hf
          have HFZ := Lib.hid (show f.size = 8 by rw [hf.size, lowL_length]; rfl)
          clear hc hbl hf
          go_wp2_with fail
          refine (Low_as _ 8 f HF.out _).mono ?_
          rintro e w3 ⟨rfl, hb3⟩
          have HO3 := Lib.hid (isBuilder_below HO5.out hb3)
          have HB3 := Lib.hid (bthen HB5.out hb3)
          clear hb3 c0
          go_wp2_with fail
          refine (WriteString_k 95 liesBuilder w.heap.size w.heap.size _ f _ HO3.out (by rw [cells_length, List.length_append, HLL.out, HFZ.out]; have := HFL.out; omega) HB3.out.size).mono ?_
          rintro e w4 ⟨rfl, h4, hb4, _⟩
          have HO4 := Lib.hid h4
          have HB4 := Lib.hid (HB3.out.trans hb4)
          clear h4 hb4
          go_wp2_with fail
          go_roundw
          case rel =>
            refine ⟨k + 1, by omega, by go_num, ?_, HB4.out⟩
            rw [HSU.out, ← List.append_assoc, cells_append, ← strCells_cells (show Is f (lowL (BitVec.ofNat 64 s.size) 8) from HF.out)]
            exact .inr HO4.out
          case measure => simp [intOf]; omega
        · obtain rfl : k = ss.length := by omega
          go_wp2_with fail
          refine (String_any_k 95 w.heap.size w.heap.size _ _ HO5.out HB5.out.size).mono ?_
          rintro e w6 ⟨rfl, _, hb6, _⟩
          go_wp2_with fail
          go_ret
          exact ⟨ret_val (congrArg Value.string (HQ.out.eq).symm), HB5.out.trans hb6⟩
theorem strs_two (w : World) (a b : ByteArray) (T : TypeId) : StrsAt (w.alloc (.cells #[.string a, .string b] T)) (some ⟨w.heap.size, 0, none⟩) [a, b] := by
  intro i h
  refine ⟨w.heap.size, 0, rfl, by simp, ?_⟩
  rw [Nat.zero_add]
  refine RowAt.cell (RowAt.new w _ _ (0, 0)) (i := i) ?_
  match i, h with
  | 0, _ => rfl
  | 1, _ => rfl
set_option maxHeartbeats 400000 in
theorem Covered_walk (d s : ByteArray) (hd : d.size ≤ 2000000) (hs : s.size ≤ 2000000) (q : ByteArray) (hq : Is q (coverL d.data.toList s.data.toList)) (w : World) :
    Calls Try.prog 19 #[.string d, .string s] w fun e w' => e = .returned (.string q) ∧ Below w.heap.size w w' := by
  have HQ := Lib.hid (show Is q (fillsL [d, s] [d, s].length ++ lensL [d, s] [d, s].length) by
    have e1 : d.data.toList.length = d.size := by rw [Array.length_toList]; rfl
    have e2 : s.data.toList.length = s.size := by rw [Array.length_toList]; rfl
    unfold coverL at hq
    rw [e1, e2] at hq
    simpa [fillsL, lensL, List.append_assoc] using hq)
  have HZ := Lib.hid (show ∀ x ∈ [d, s], x.size ≤ 2000000 by
    intro x hx
    simp only [List.mem_cons, List.not_mem_nil, or_false] at hx
    rcases hx with rfl | rfl <;> assumption)
  clear hq
  go_enter Try.func19, Try.ntmps19
  go_wp2_with fail
  refine (joined_walk _ _ [d, s] HZ.out (by simp) q HQ.out _ (strs_two w d s 9)).mono ?_
  rintro e w1 ⟨rfl, hb1⟩
  go_wp2_with fail
  go_ret
  exact ⟨rfl, bthen ((Below.refl _ _).alloc (Nat.le_refl _) _) hb1⟩
set_option maxHeartbeats 400000 in
theorem atag_ok (key nonce d s : ByteArray) (hk : key.size = 32) (hn : nonce.size = 12) (hd : d.size ≤ 1000000) (hs : s.size ≤ 1000000) (q : ByteArray) (hq : Is q (tagA key.data.toList nonce.data.toList d.data.toList s.data.toList)) (w : World) :
    Calls Try.prog 34 #[.string key, .string nonce, .string d, .string s] w fun e w' => e = .returned (.tuple #[.string q, .int .i64 0]) ∧ Below w.heap.size w w' := by
  obtain ⟨o, ho⟩ : ∃ o, Is o (onceL key.data.toList nonce.data.toList) := ⟨_, Is.of _⟩
  obtain ⟨c, hc⟩ : ∃ c, Is c (coverL d.data.toList s.data.toList) := ⟨_, Is.of _⟩
  have HQ := Lib.hid (show Is q (tagL o.data.toList c.data.toList) by rw [ho.out, hc.out]; exact hq)
  have HOZ := Lib.hid (show o.size = 32 by rw [ho.size, onceL_length])
  have HCZ := Lib.hid (show c.size ≤ 140737488351232 by
    obtain ⟨i, j, h1, h2, _, _, h5⟩ := coverL_length d.data.toList s.data.toList
    have e1 : d.data.toList.length = d.size := by rw [Array.length_toList]; rfl
    have e2 : s.data.toList.length = s.size := by rw [Array.length_toList]; rfl
    rw [hc.size, h5, e1, e2]; omega)
  have HO := Lib.hid ho
  have HC := Lib.hid hc
  have HK := Lib.hid hk
  have HN := Lib.hid hn
  clear hq ho hc hk hn
  go_enter Try.func34, Try.ntmps34
  go_wp2_with fail
  refine (Once_ok key nonce HK.out HN.out o HO.out _).mono ?_
  rintro e w1 ⟨rfl, hb1⟩
  have HB1 := Lib.hid hb1
  clear hb1
  go_wp2_with fail
  refine (Covered_walk d s (by omega) (by omega) c HC.out _).mono ?_
  rintro e w2 ⟨rfl, hb2⟩
  have HB2 := Lib.hid (bthen HB1.out hb2)
  clear hb2
  go_wp2_with fail
  refine (Tag_as o c HOZ.out HCZ.out q HQ.out _).mono ?_
  rintro e w3 ⟨rfl, hb3⟩
  go_wp2_with fail
  go_ret2
  exact ⟨rfl, bthen HB2.out hb3⟩
set_option maxHeartbeats 400000 in
theorem atag_no (key nonce d s : ByteArray) (h : ¬ (key.size = 32 ∧ nonce.size = 12)) (w : World) :
    Calls Try.prog 34 #[.string key, .string nonce, .string d, .string s] w fun e w' => e = .returned (.tuple #[.string ⟨#[]⟩, .int .i64 5]) ∧ w = w' := by
  have HH := Lib.hid h
  clear h
  go_enter Try.func34, Try.ntmps34
  go_wp2_with fail
  refine (Once_no key nonce HH.out _).mono ?_
  rintro e w1 ⟨rfl, rfl⟩
  go_wp2_with fail
  go_ret2
  exact ⟨rfl, rfl⟩
set_option maxHeartbeats 1000000 in
theorem Seal_ok (key nonce d t : ByteArray) (hk : key.size = 32) (hn : nonce.size = 12) (hd : d.size ≤ 4096) (ht : t.size ≤ 16384) (q : ByteArray) (hq : Is q (sealL key.data.toList nonce.data.toList d.data.toList t.data.toList)) (w : World) :
    Calls Try.prog 15 #[.string key, .string nonce, .string d, .string t] w fun e w' => e = .returned (.tuple #[.string q, .int .i64 0]) ∧ Below w.heap.size w w' := by
  obtain ⟨s, hs⟩ : ∃ s, Is s (turnL key.data.toList 1#32 nonce.data.toList t.data.toList) := ⟨_, Is.of _⟩
  obtain ⟨g, hg⟩ : ∃ g, Is g (tagA key.data.toList nonce.data.toList d.data.toList s.data.toList) := ⟨_, Is.of _⟩
  have htl : t.data.toList.length = t.size := by rw [Array.length_toList]; rfl
  have sz : s.size = t.size := by rw [hs.size, turnL_length, htl]
  have gz : g.size = 16 := by rw [hg.size, tagA_length]
  have HE := Lib.hid (show s ++ g = q by
    refine (hs.append hg).inj ?_
    rw [hs.out]; exact hq)
  have g1 : decide ((4096 : Int) < (d.size : Int)) = false := decide_eq_false (by omega)
  have g2 : decide ((16384 : Int) < (t.size : Int)) = false := decide_eq_false (by omega)
  have hov : ¬ 9223372036854775807 < s.size + g.size := by omega
  have HS := Lib.hid hs
  have HG := Lib.hid hg
  have HSZ := Lib.hid (show s.size ≤ 1000000 by omega)
  have HK := Lib.hid hk
  have HN := Lib.hid hn
  clear hq hs hg hk hn htl sz gz
  go_enter Try.func15, Try.ntmps15
  go_wp2_with fail
  refine (Turn_as key nonce t HK.out HN.out (by omega) s HS.out _).mono ?_
  rintro e w1 ⟨rfl, hb1⟩
  have HB1 := Lib.hid hb1
  clear hb1
  go_wp2_with fail
  refine (atag_ok key nonce d s HK.out HN.out (by omega) HSZ.out g HG.out _).mono ?_
  rintro e w2 ⟨rfl, hb2⟩
  have HB2 := Lib.hid (bthen HB1.out hb2)
  clear hb2
  go_wp2_with fail
  go_ret2
  exact ⟨ret_val (by rw [← HE.out]; rfl), HB2.out⟩
set_option maxHeartbeats 1000000 in
theorem Seal_no (key nonce d t : ByteArray) (h : ¬ (key.size = 32 ∧ nonce.size = 12) ∨ 4096 < d.size ∨ 16384 < t.size) (w : World) :
    Calls Try.prog 15 #[.string key, .string nonce, .string d, .string t] w fun e w' => e = .returned (.tuple #[.string ⟨#[]⟩, .int .i64 5]) ∧ w = w' := by
  by_cases hd : 4096 < d.size
  · have g1 : decide ((4096 : Int) < (d.size : Int)) = true := decide_eq_true (by omega)
    clear h
    go_enter Try.func15, Try.ntmps15
    go_wp2_with fail
    go_ret2
    exact ⟨rfl, rfl⟩
  · have g1 : decide ((4096 : Int) < (d.size : Int)) = false := decide_eq_false (by omega)
    by_cases ht : 16384 < t.size
    · have g2 : decide ((16384 : Int) < (t.size : Int)) = true := decide_eq_true (by omega)
      clear h
      go_enter Try.func15, Try.ntmps15
      go_wp2_with fail
      go_ret2
      exact ⟨rfl, rfl⟩
    · have g2 : decide ((16384 : Int) < (t.size : Int)) = false := decide_eq_false (by omega)
      have HH := Lib.hid (show ¬ (key.size = 32 ∧ nonce.size = 12) from h.resolve_right (by omega))
      clear h
      go_enter Try.func15, Try.ntmps15
      go_wp2_with fail
      refine (Turn_not key nonce t (Or.inl HH.out) _).mono ?_
      rintro e w1 ⟨rfl, rfl⟩
      go_wp2_with fail
      go_ret2
      exact ⟨rfl, rfl⟩
/-- What sealed bytes are opened to: the text and OK, or nothing and a fault. -/
def openA (key nonce d s : List UInt8) : List UInt8 × Int :=
  if key.length = 32 ∧ nonce.length = 12 ∧ d.length ≤ 4096 ∧ 16 ≤ s.length ∧ s.length ≤ 16400 then
    (if tagA key nonce d (s.take (s.length - 16)) = s.drop (s.length - 16) then (turnL key 1#32 nonce (s.take (s.length - 16)), 0) else ([], 20))
  else ([], 5)
set_option maxRecDepth 100000 in
set_option maxHeartbeats 1000000 in
theorem Open_walk (key nonce d s : ByteArray) (hsb : s.size ≤ 140737488351232) (q : ByteArray) (c : Int) (h : Is q (openA key.data.toList nonce.data.toList d.data.toList s.data.toList).1 ∧ c = (openA key.data.toList nonce.data.toList d.data.toList s.data.toList).2) (w : World) :
    Calls Try.prog 21 #[.string key, .string nonce, .string d, .string s] w fun e w' => e = .returned (.tuple #[.string q, .int .i64 c]) ∧ Below w.heap.size w w' := by
  have lk : key.data.toList.length = key.size := by rw [Array.length_toList]; rfl
  have ln : nonce.data.toList.length = nonce.size := by rw [Array.length_toList]; rfl
  have ld : d.data.toList.length = d.size := by rw [Array.length_toList]; rfl
  have ls : s.data.toList.length = s.size := by rw [Array.length_toList]; rfl
  unfold openA at h
  rw [lk, ln, ld, ls] at h
  by_cases hok : key.size = 32 ∧ nonce.size = 12 ∧ d.size ≤ 4096 ∧ 16 ≤ s.size ∧ s.size ≤ 16400
  · rw [if_pos hok] at h
    obtain ⟨hk, hn, hd, hs1, hs2⟩ := hok
    obtain ⟨m, hm⟩ : ∃ m, s.size = m + 16 := ⟨s.size - 16, by omega⟩
    rw [show s.size - 16 = m by omega] at h
    obtain ⟨x, hx⟩ : ∃ x, x = s.extract 0 m := ⟨_, rfl⟩
    obtain ⟨y, hy⟩ : ∃ y, y = s.extract m s.size := ⟨_, rfl⟩
    have ix : Is x (s.data.toList.take m) := by
      have h := (Is.self s).extract 0 m
      rw [List.drop_zero, Nat.sub_zero] at h
      rw [hx]; exact h
    have iy : Is y (s.data.toList.drop m) := by
      have h := (Is.self s).extract m s.size
      rw [List.take_of_length_le (by rw [List.length_drop, ls]; omega)] at h
      rw [hy]; exact h
    have xz : x.size = m := by rw [ix.size, List.length_take, ls]; omega
    obtain ⟨g, hg⟩ : ∃ g, Is g (tagA key.data.toList nonce.data.toList d.data.toList x.data.toList) := ⟨_, Is.of _⟩
    have gz : g.size ≤ 140737488355328 := by rw [hg.size, tagA_length]; decide
    have HG := Lib.hid hg
    have g1 : decide ((4096 : Int) < (d.size : Int)) = false := decide_eq_false (by omega)
    have g2 : decide ((s.size : Int) - 16 < 0) = false := decide_eq_false (by omega)
    have g3 : decide ((16384 : Int) < (s.size : Int) - 16) = false := decide_eq_false (by omega)
    have hm2 : (s.size : Int) - 16 = (m : Int) := by omega
    have hm3 : (m : Int) ≤ (s.size : Int) := by omega
    have g4 : decide ((m : Int) < 0) = false := decide_eq_false (by omega)
    have g5 : decide ((16384 : Int) < (m : Int)) = false := decide_eq_false (by omega)
    have HM := Lib.hid hm2
    have HX := Lib.hid hx
    have HY := Lib.hid hy
    have HXZ := Lib.hid (show x.size ≤ 60000 by omega)
    have HK := Lib.hid hk
    have HN := Lib.hid hn
    rw [← ix.out, ← iy.out] at h
    clear hx hy xz hg hk hn lk ln ld ls hm ix
    by_cases ht : tagA key.data.toList nonce.data.toList d.data.toList x.data.toList = y.data.toList
    · rw [if_pos ht] at h
      have HQ := Lib.hid h.1
      have HC := Lib.hid h.2
      have hsq : seq g y = true := by rw [seq_eq HG.out (Is.self y)]; exact decide_eq_true ht
      clear ht h iy
      go_enter Try.func21, Try.ntmps21
      go_wp2_with fail
      rw [← HX.out]
      clear hm2
      refine (atag_ok key nonce d x HK.out HN.out (by omega) (by have := HXZ.out; omega) g HG.out _).mono ?_
      rintro e w1 ⟨rfl, hb1⟩
      have HB1 := Lib.hid hb1
      clear hb1
      go_wp2_with fail
      rw [← HY.out]
      refine (Same_walk g y gz _).mono ?_
      rintro e w2 ⟨rfl, hb2⟩
      have HB2 := Lib.hid (bthen HB1.out hb2)
      rw [hsq]
      clear hb2
      go_wp2_with fail
      rw [← HX.out]
      refine (Turn_as key nonce x HK.out HN.out (by have := HXZ.out; omega) q HQ.out _).mono ?_
      rintro e w3 ⟨rfl, hb3⟩
      go_wp2_with fail
      go_ret2
      exact ⟨ret_val (by rw [HC.out]; rfl), bthen HB2.out hb3⟩
    · rw [if_neg ht] at h
      have HQ := Lib.hid h.1
      have HC := Lib.hid h.2
      have hsq : seq g y = false := by rw [seq_eq HG.out (Is.self y)]; exact decide_eq_false ht
      clear ht h iy
      go_enter Try.func21, Try.ntmps21
      go_wp2_with fail
      rw [← HX.out]
      clear hm2
      refine (atag_ok key nonce d x HK.out HN.out (by omega) (by have := HXZ.out; omega) g HG.out _).mono ?_
      rintro e w1 ⟨rfl, hb1⟩
      have HB1 := Lib.hid hb1
      clear hb1
      go_wp2_with fail
      rw [← HY.out]
      refine (Same_walk g y gz _).mono ?_
      rintro e w2 ⟨rfl, hb2⟩
      have HB2 := Lib.hid (bthen HB1.out hb2)
      rw [hsq]
      clear hb2
      go_wp2_with fail
      go_ret2
      exact ⟨ret_val (by rw [HC.out, HQ.out.eq]; rfl), HB2.out⟩
  · rw [if_neg hok] at h
    have HE := Lib.hid (show q = ⟨#[]⟩ from h.1.eq)
    have HC := Lib.hid h.2
    clear h lk ln ld ls
    by_cases hd : 4096 < d.size
    · have g1 : decide ((4096 : Int) < (d.size : Int)) = true := decide_eq_true (by omega)
      clear hok
      go_enter Try.func21, Try.ntmps21
      go_wp2_with fail
      go_ret2
      exact ⟨ret_val (by rw [HC.out, HE.out]; rfl), Below.refl _ _⟩
    · have g1 : decide ((4096 : Int) < (d.size : Int)) = false := decide_eq_false (by omega)
      by_cases hs1 : s.size < 16
      · have g2 : decide ((s.size : Int) - 16 < 0) = true := decide_eq_true (by omega)
        clear hok
        go_enter Try.func21, Try.ntmps21
        go_wp2_with fail
        go_ret2
        exact ⟨ret_val (by rw [HC.out, HE.out]; rfl), Below.refl _ _⟩
      · have g2 : decide ((s.size : Int) - 16 < 0) = false := decide_eq_false (by omega)
        by_cases hs2 : 16400 < s.size
        · have g3 : decide ((16384 : Int) < (s.size : Int) - 16) = true := decide_eq_true (by omega)
          clear hok
          go_enter Try.func21, Try.ntmps21
          go_wp2_with fail
          go_ret2
          exact ⟨ret_val (by rw [HC.out, HE.out]; rfl), Below.refl _ _⟩
        · have g3 : decide ((16384 : Int) < (s.size : Int) - 16) = false := decide_eq_false (by omega)
          have HH := Lib.hid (show ¬ (key.size = 32 ∧ nonce.size = 12) from fun hh => hok ⟨hh.1, hh.2, by omega, by omega, by omega⟩)
          have k1 : (0 : Int) ≤ (s.size : Int) - 16 := by omega
          clear hok
          go_enter Try.func21, Try.ntmps21
          go_wp2_with fail
          refine (atag_no key nonce d _ HH.out _).mono ?_
          rintro e w1 ⟨rfl, rfl⟩
          go_wp2_with fail
          go_ret2
          exact ⟨ret_val (by rw [HC.out, HE.out]; rfl), Below.refl _ _⟩
end Go.Proofs.Ytfglhemmccihfaa
namespace Go.Proofs.Ytfglhemmccihfaa
open Go.RowKit

theorem RTag_as (key text : ByteArray) (hk : key.size = 32) (ht : text.size ≤ 1000000) (q : ByteArray) (hq : Is q (tagL key.data.toList text.data.toList)) (w : World) :
    Calls Try.prog 36 #[.string key, .string text] w fun e w' => e = .returned (.tuple #[.string q, .int .i64 0]) ∧ Below w.heap.size w w' :=
  (RTag_ok key text hk ht w).mono fun e w' ⟨r, h1, h2, h3⟩ => ⟨by rw [h1, h2.inj hq], h3⟩
theorem RTurn_as (key nonce text : ByteArray) (hk : key.size = 32) (hn : nonce.size = 12) (hm : text.size ≤ 65536) (q : ByteArray) (hq : Is q (turnL key.data.toList 1#32 nonce.data.toList text.data.toList)) (w : World) :
    Calls Try.prog 35 #[.string key, .int .u32 1, .string nonce, .string text] w fun e w' => e = .returned (.tuple #[.string q, .int .i64 0]) ∧ Below w.heap.size w w' :=
  (RTurn_ok key nonce text 1#32 hk hn hm w).mono fun e w' ⟨r, h1, h2, h3⟩ => ⟨by rw [h1, h2.inj hq], h3⟩
theorem RStream32 (key nonce : ByteArray) (hk : key.size = 32) (hn : nonce.size = 12) (q : ByteArray) (hq : Is q (onceL key.data.toList nonce.data.toList)) (w : World) :
    Calls Try.prog 38 #[.string key, .int .u32 0, .string nonce, .int .i64 32] w fun e w' => e = .returned (.tuple #[.string q, .int .i64 0]) ∧ Below w.heap.size w w' :=
  (RStream_ok key nonce 0#32 32 hk hn (by decide) w).mono fun e w' ⟨r, h1, h2, h3⟩ => ⟨by rw [h1, h2.inj (by rw [onceL_stream]; exact hq)], h3⟩
theorem RStream32_no (key nonce : ByteArray) (h : ¬ (key.size = 32 ∧ nonce.size = 12)) (w : World) :
    Calls Try.prog 38 #[.string key, .int .u32 0, .string nonce, .int .i64 32] w fun e w' => e = .returned (.tuple #[.string ⟨#[]⟩, .int .i64 5]) ∧ w = w' := RStream_no key nonce 0#32 32 (Or.inl h) w
theorem RFill_as (s : ByteArray) (n : Int) (hs : s.size ≤ 140737488351232) (hn : n ≤ 1048576) (q : ByteArray) (hq : Is q (fillL s.data.toList n)) (w : World) :
    Calls Try.prog 40 #[.string s, .int .i64 n] w fun e w' => e = .returned (.string q) ∧ Below w.heap.size w w' :=
  (RFill_walk s n hs hn w).mono fun e w' ⟨r, h1, h2, h3⟩ => ⟨by rw [h1, h2.inj hq], h3⟩
theorem RLow_as (x : BitVec 64) (n : Int) (q : ByteArray) (hq : Is q (lowL x (cut n))) (w : World) : Calls Try.prog 41 #[.int .u64 (bvi x), .int .i64 n] w fun e w' => e = .returned (.string q) ∧ Below w.heap.size w w' :=
  (RLow_walk x n w).mono fun e w' ⟨r, h1, h2, h3⟩ => ⟨by rw [h1, h2.inj hq], h3⟩
set_option maxHeartbeats 400000 in
theorem ROnce_ok (key nonce : ByteArray) (hk : key.size = 32) (hn : nonce.size = 12) (q : ByteArray) (hq : Is q (onceL key.data.toList nonce.data.toList)) (w : World) :
    Calls Try.prog 18 #[.string key, .string nonce] w fun e w' => e = .returned (.tuple #[.string q, .int .i64 0]) ∧ Below w.heap.size w w' := by
  have HQ := Lib.hid hq
  have HK := Lib.hid hk
  have HN := Lib.hid hn
  clear hq hk hn
  go_enter Try.func18, Try.ntmps18
  go_wp2_with fail
  refine (RStream32 key nonce HK.out HN.out q HQ.out _).mono ?_
  rintro e w1 ⟨rfl, hb1⟩
  go_wp2_with fail
  go_ret2
  exact ⟨rfl, hb1⟩
set_option maxHeartbeats 400000 in
theorem ROnce_no (key nonce : ByteArray) (h : ¬ (key.size = 32 ∧ nonce.size = 12)) (w : World) :
    Calls Try.prog 18 #[.string key, .string nonce] w fun e w' => e = .returned (.tuple #[.string ⟨#[]⟩, .int .i64 5]) ∧ w = w' := by
  have HH := Lib.hid h
  clear h
  go_enter Try.func18, Try.ntmps18
  go_wp2_with fail
  refine (RStream32_no key nonce HH.out _).mono ?_
  rintro e w1 ⟨rfl, rfl⟩
  go_wp2_with fail
  go_ret2
  exact ⟨rfl, rfl⟩
set_option maxHeartbeats 1000000 in
theorem RCovered_walk (d s : ByteArray) (hd : d.size ≤ 140737488351232) (hs : s.size ≤ 140737488351232) (q : ByteArray) (hq : Is q (coverL d.data.toList s.data.toList)) (w : World) :
    Calls Try.prog 20 #[.string d, .string s] w fun e w' => e = .returned (.string q) ∧ Below w.heap.size w w' := by
  have e1 : d.data.toList.length = d.size := by rw [Array.length_toList]; rfl
  have e2 : s.data.toList.length = s.size := by rw [Array.length_toList]; rfl
  obtain ⟨f1, hf1⟩ : ∃ f, Is f (fillL d.data.toList 16) := ⟨_, Is.of _⟩
  obtain ⟨f2, hf2⟩ : ∃ f, Is f (fillL s.data.toList 16) := ⟨_, Is.of _⟩
  obtain ⟨f3, hf3⟩ : ∃ f, Is f (lowL (BitVec.ofNat 64 d.size) (cut 8)) := ⟨_, Is.of _⟩
  obtain ⟨f4, hf4⟩ : ∃ f, Is f (lowL (BitVec.ofNat 64 s.size) (cut 8)) := ⟨_, Is.of _⟩
  have z1 : f1.size ≤ d.size + 16 := by
    obtain ⟨i, h1, h2, _⟩ := fillL_16 d.data.toList
    rw [hf1.size, h1, List.length_append, List.length_replicate]; omega
  have z2 : f2.size ≤ s.size + 16 := by
    obtain ⟨i, h1, h2, _⟩ := fillL_16 s.data.toList
    rw [hf2.size, h1, List.length_append, List.length_replicate]; omega
  have z3 : f3.size = 8 := by rw [hf3.size, lowL_length]; rfl
  have z4 : f4.size = 8 := by rw [hf4.size, lowL_length]; rfl
  have HE := Lib.hid (show f1 ++ f2 ++ f3 ++ f4 = q by
    refine (((hf1.append hf2).append hf3).append hf4).inj ?_
    rw [← e1, ← e2]; exact hq)
  have hov1 : ¬ 9223372036854775807 < f1.size + f2.size := by omega
  have hov2 : ¬ 9223372036854775807 < f1.size + f2.size + f3.size := by omega
  have hov3 : ¬ 9223372036854775807 < f1.size + f2.size + f3.size + f4.size := by omega
  have H1 := Lib.hid hf1
  have H2 := Lib.hid hf2
  have H3 := Lib.hid hf3
  have H4 := Lib.hid hf4
  clear hq hf1 hf2 hf3 hf4 e1 e2 z1 z2 z3 z4
  go_enter Try.func20, Try.ntmps20
  go_wp2_with fail
  refine (RFill_as d 16 hd (by decide) f1 H1.out _).mono ?_
  rintro e w1 ⟨rfl, hb1⟩
  have HB1 := Lib.hid hb1
  clear hb1
  go_wp2_with fail
  refine (RFill_as s 16 hs (by decide) f2 H2.out _).mono ?_
  rintro e w2 ⟨rfl, hb2⟩
  have HB2 := Lib.hid (bthen HB1.out hb2)
  clear hb2
  go_wp2_with fail
  refine (RLow_as _ 8 f3 H3.out _).mono ?_
  rintro e w3 ⟨rfl, hb3⟩
  have HB3 := Lib.hid (bthen HB2.out hb3)
  clear hb3
  go_wp2_with fail
  refine (RLow_as _ 8 f4 H4.out _).mono ?_
  rintro e w4 ⟨rfl, hb4⟩
  have HB4 := Lib.hid (bthen HB3.out hb4)
  clear hb4
  go_wp2_with fail
  go_ret
  exact ⟨ret_val (congrArg Value.string HE.out), HB4.out⟩
set_option maxHeartbeats 1000000 in
theorem RSeal_ok (key nonce d t : ByteArray) (hk : key.size = 32) (hn : nonce.size = 12) (hd : d.size ≤ 4096) (ht : t.size ≤ 16384) (q : ByteArray) (hq : Is q (sealL key.data.toList nonce.data.toList d.data.toList t.data.toList)) (w : World) :
    Calls Try.prog 16 #[.string key, .string nonce, .string d, .string t] w fun e w' => e = .returned (.tuple #[.string q, .int .i64 0]) ∧ Below w.heap.size w w' := by
  obtain ⟨s, hs⟩ : ∃ s, Is s (turnL key.data.toList 1#32 nonce.data.toList t.data.toList) := ⟨_, Is.of _⟩
  obtain ⟨o, ho⟩ : ∃ o, Is o (onceL key.data.toList nonce.data.toList) := ⟨_, Is.of _⟩
  obtain ⟨c, hc⟩ : ∃ c, Is c (coverL d.data.toList s.data.toList) := ⟨_, Is.of _⟩
  obtain ⟨g, hg⟩ : ∃ g, Is g (tagL o.data.toList c.data.toList) := ⟨_, Is.of _⟩
  have htl : t.data.toList.length = t.size := by rw [Array.length_toList]; rfl
  have sz : s.size = t.size := by rw [hs.size, turnL_length, htl]
  have gz : g.size = 16 := by rw [hg.size, tagL_length]
  have HE := Lib.hid (show s ++ g = q by
    refine (hs.append hg).inj ?_
    rw [ho.out, hc.out, hs.out]; exact hq)
  have g1 : decide ((4096 : Int) < (d.size : Int)) = false := decide_eq_false (by omega)
  have g2 : decide ((16384 : Int) < (t.size : Int)) = false := decide_eq_false (by omega)
  have hov : ¬ 9223372036854775807 < s.size + g.size := by omega
  have HCZ := Lib.hid (show c.size ≤ 1000000 by
    obtain ⟨i, j, h1, h2, _, _, h5⟩ := coverL_length d.data.toList s.data.toList
    have e1 : d.data.toList.length = d.size := by rw [Array.length_toList]; rfl
    have e2 : s.data.toList.length = s.size := by rw [Array.length_toList]; rfl
    rw [hc.size, h5, e1, e2]; omega)
  have HOZ := Lib.hid (show o.size = 32 by rw [ho.size, onceL_length])
  have HSZ := Lib.hid (show s.size ≤ 140737488351232 by omega)
  have HS := Lib.hid hs
  have HO := Lib.hid ho
  have HC := Lib.hid hc
  have HG := Lib.hid hg
  have HK := Lib.hid hk
  have HN := Lib.hid hn
  clear hq hs ho hc hg hk hn htl sz gz
  go_enter Try.func16, Try.ntmps16
  go_wp2_with fail
  refine (ROnce_ok key nonce HK.out HN.out o HO.out _).mono ?_
  rintro e w1 ⟨rfl, hb1⟩
  have HB1 := Lib.hid hb1
  clear hb1
  go_wp2_with fail
  refine (RTurn_as key nonce t HK.out HN.out (by omega) s HS.out _).mono ?_
  rintro e w2 ⟨rfl, hb2⟩
  have HB2 := Lib.hid (bthen HB1.out hb2)
  clear hb2
  go_wp2_with fail
  refine (RCovered_walk d s (by omega) HSZ.out c HC.out _).mono ?_
  rintro e w3 ⟨rfl, hb3⟩
  have HB3 := Lib.hid (bthen HB2.out hb3)
  clear hb3
  go_wp2_with fail
  refine (RTag_as o c HOZ.out HCZ.out g HG.out _).mono ?_
  rintro e w4 ⟨rfl, hb4⟩
  have HB4 := Lib.hid (bthen HB3.out hb4)
  clear hb4
  go_wp2_with fail
  go_ret2
  exact ⟨ret_val (by rw [← HE.out]; rfl), HB4.out⟩
set_option maxHeartbeats 1000000 in
theorem RSeal_no (key nonce d t : ByteArray) (h : ¬ (key.size = 32 ∧ nonce.size = 12) ∨ 4096 < d.size ∨ 16384 < t.size) (w : World) :
    Calls Try.prog 16 #[.string key, .string nonce, .string d, .string t] w fun e w' => e = .returned (.tuple #[.string ⟨#[]⟩, .int .i64 5]) ∧ Below w.heap.size w w' := by
  by_cases hkn : key.size = 32 ∧ nonce.size = 12
  · have hdt : 4096 < d.size ∨ 16384 < t.size := h.resolve_left (fun hh => hh hkn)
    have HK := Lib.hid hkn
    obtain ⟨o, ho⟩ : ∃ o, Is o (onceL key.data.toList nonce.data.toList) := ⟨_, Is.of _⟩
    have HO := Lib.hid ho
    clear hkn ho h
    by_cases hd : 4096 < d.size
    · have g1 : decide ((4096 : Int) < (d.size : Int)) = true := decide_eq_true (by omega)
      clear hdt
      go_enter Try.func16, Try.ntmps16
      go_wp2_with fail
      refine (ROnce_ok key nonce HK.out.1 HK.out.2 o HO.out _).mono ?_
      rintro e w1 ⟨rfl, hb1⟩
      go_wp2_with fail
      go_ret2
      exact ⟨rfl, hb1⟩
    · have g1 : decide ((4096 : Int) < (d.size : Int)) = false := decide_eq_false (by omega)
      have g2 : decide ((16384 : Int) < (t.size : Int)) = true := decide_eq_true (by omega)
      clear hdt
      go_enter Try.func16, Try.ntmps16
      go_wp2_with fail
      refine (ROnce_ok key nonce HK.out.1 HK.out.2 o HO.out _).mono ?_
      rintro e w1 ⟨rfl, hb1⟩
      go_wp2_with fail
      go_ret2
      exact ⟨rfl, hb1⟩
  · have HH := Lib.hid hkn
    clear hkn h
    go_enter Try.func16, Try.ntmps16
    go_wp2_with fail
    refine (ROnce_no key nonce HH.out _).mono ?_
    rintro e w1 ⟨rfl, rfl⟩
    go_wp2_with fail
    go_ret2
    exact ⟨rfl, Below.refl _ _⟩
set_option maxRecDepth 100000 in
set_option maxHeartbeats 1000000 in
theorem ROpen_walk (key nonce d s : ByteArray) (hsb : s.size ≤ 140737488351232) (q : ByteArray) (c : Int) (h : Is q (openA key.data.toList nonce.data.toList d.data.toList s.data.toList).1 ∧ c = (openA key.data.toList nonce.data.toList d.data.toList s.data.toList).2) (w : World) :
    Calls Try.prog 22 #[.string key, .string nonce, .string d, .string s] w fun e w' => e = .returned (.tuple #[.string q, .int .i64 c]) ∧ Below w.heap.size w w' := by
  have lk : key.data.toList.length = key.size := by rw [Array.length_toList]; rfl
  have ln : nonce.data.toList.length = nonce.size := by rw [Array.length_toList]; rfl
  have ld : d.data.toList.length = d.size := by rw [Array.length_toList]; rfl
  have ls : s.data.toList.length = s.size := by rw [Array.length_toList]; rfl
  unfold openA at h
  rw [lk, ln, ld, ls] at h
  obtain ⟨o, ho⟩ : ∃ o, Is o (onceL key.data.toList nonce.data.toList) := ⟨_, Is.of _⟩
  have HO := Lib.hid ho
  clear ho
  by_cases hok : key.size = 32 ∧ nonce.size = 12 ∧ d.size ≤ 4096 ∧ 16 ≤ s.size ∧ s.size ≤ 16400
  · rw [if_pos hok] at h
    obtain ⟨hk, hn, hd, hs1, hs2⟩ := hok
    obtain ⟨m, hm⟩ : ∃ m, s.size = m + 16 := ⟨s.size - 16, by omega⟩
    rw [show s.size - 16 = m by omega] at h
    obtain ⟨x, hx⟩ : ∃ x, x = s.extract 0 m := ⟨_, rfl⟩
    have ix : Is x (s.data.toList.take m) := by
      have h := (Is.self s).extract 0 m
      rw [List.drop_zero, Nat.sub_zero] at h
      rw [hx]; exact h
    have xz : x.size = m := by rw [ix.size, List.length_take, ls]; omega
    obtain ⟨y, hy⟩ : ∃ y, Is y (turnL key.data.toList 1#32 nonce.data.toList x.data.toList) := ⟨_, Is.of _⟩
    have xl : x.data.toList.length = x.size := by rw [Array.length_toList]; rfl
    have yz : y.size = m := by rw [hy.size, turnL_length, xl, xz]
    obtain ⟨a, ha⟩ : ∃ a, Is a (sealL key.data.toList nonce.data.toList d.data.toList y.data.toList) := ⟨_, Is.of _⟩
    have HAG := Lib.hid (show (a = s) ↔ tagA key.data.toList nonce.data.toList d.data.toList (s.data.toList.take m) = s.data.toList.drop m by
      have h9 := sealL_again key.data.toList nonce.data.toList d.data.toList s.data.toList m (by omega)
      rw [← ix.out, ← hy.out] at h9
      rw [← ix.out, ← h9]
      constructor
      · rintro rfl; exact ha.out.symm
      · intro hh; exact ha.inj (by rw [hh]; exact Is.self s))
    have g1 : decide ((4096 : Int) < (d.size : Int)) = false := decide_eq_false (by omega)
    have hm2 : (s.size : Int) - 16 = (m : Int) := by omega
    have hm3 : (m : Int) ≤ (s.size : Int) := by omega
    have g4 : decide ((m : Int) < 0) = false := decide_eq_false (by omega)
    have g5 : decide ((16384 : Int) < (m : Int)) = false := decide_eq_false (by omega)
    have HX := Lib.hid hx
    have HY := Lib.hid hy
    have HA := Lib.hid ha
    have HXZ := Lib.hid (show x.size ≤ 16384 by omega)
    have HYZ := Lib.hid (show y.size ≤ 16384 by omega)
    have HK := Lib.hid hk
    have HN := Lib.hid hn
    clear hx xz hy ha hk hn lk ln ld ls hm xl yz
    by_cases ht : tagA key.data.toList nonce.data.toList d.data.toList (s.data.toList.take m) = s.data.toList.drop m
    · rw [if_pos ht] at h
      have HE := Lib.hid (show y = q by
        refine HY.out.inj ?_
        rw [ix.out]; exact h.1)
      have HC := Lib.hid h.2
      have hsq : seq a s = true := by rw [(seq_iff a s).2 (HAG.out.2 ht)]
      clear ht h ix
      go_enter Try.func22, Try.ntmps22
      go_wp2_with fail
      refine (ROnce_ok key nonce HK.out HN.out o HO.out _).mono ?_
      rintro e w1 ⟨rfl, hb1⟩
      have HB1 := Lib.hid hb1
      clear hb1
      go_wp2_with fail
      rw [← HX.out]
      refine (RTurn_as key nonce x HK.out HN.out (by have := HXZ.out; omega) y HY.out _).mono ?_
      rintro e w2 ⟨rfl, hb2⟩
      have HB2 := Lib.hid (bthen HB1.out hb2)
      clear hb2
      go_wp2_with fail
      refine (RSeal_ok key nonce d y HK.out HN.out hd HYZ.out a HA.out _).mono ?_
      rintro e w3 ⟨rfl, hb3⟩
      have HB3 := Lib.hid (bthen HB2.out hb3)
      clear hb3
      go_wp2_with fail
      go_ret2
      exact ⟨ret_val (by rw [HC.out, ← HE.out]; rfl), HB3.out⟩
    · rw [if_neg ht] at h
      have HE := Lib.hid (show q = ⟨#[]⟩ from h.1.eq)
      have HC := Lib.hid h.2
      have hsq : seq a s = false := seq_no.2 (fun hh => ht (HAG.out.1 hh))
      clear ht h ix
      go_enter Try.func22, Try.ntmps22
      go_wp2_with fail
      refine (ROnce_ok key nonce HK.out HN.out o HO.out _).mono ?_
      rintro e w1 ⟨rfl, hb1⟩
      have HB1 := Lib.hid hb1
      clear hb1
      go_wp2_with fail
      rw [← HX.out]
      refine (RTurn_as key nonce x HK.out HN.out (by have := HXZ.out; omega) y HY.out _).mono ?_
      rintro e w2 ⟨rfl, hb2⟩
      have HB2 := Lib.hid (bthen HB1.out hb2)
      clear hb2
      go_wp2_with fail
      refine (RSeal_ok key nonce d y HK.out HN.out hd HYZ.out a HA.out _).mono ?_
      rintro e w3 ⟨rfl, hb3⟩
      have HB3 := Lib.hid (bthen HB2.out hb3)
      clear hb3
      go_wp2_with fail
      go_ret2
      exact ⟨ret_val (by rw [HC.out, HE.out]; rfl), HB3.out⟩
  · rw [if_neg hok] at h
    have HE := Lib.hid (show q = ⟨#[]⟩ from h.1.eq)
    have HC := Lib.hid h.2
    clear h lk ln ld ls
    by_cases hkn : key.size = 32 ∧ nonce.size = 12
    · have HK := Lib.hid hkn
      by_cases hd : 4096 < d.size
      · have g1 : decide ((4096 : Int) < (d.size : Int)) = true := decide_eq_true (by omega)
        clear hok hkn
        go_enter Try.func22, Try.ntmps22
        go_wp2_with fail
        refine (ROnce_ok key nonce HK.out.1 HK.out.2 o HO.out _).mono ?_
        rintro e w1 ⟨rfl, hb1⟩
        go_wp2_with fail
        go_ret2
        exact ⟨ret_val (by rw [HC.out, HE.out]; rfl), hb1⟩
      · have g1 : decide ((4096 : Int) < (d.size : Int)) = false := decide_eq_false (by omega)
        by_cases hs1 : s.size < 16
        · have g2 : decide ((s.size : Int) - 16 < 0) = true := decide_eq_true (by omega)
          clear hok hkn
          go_enter Try.func22, Try.ntmps22
          go_wp2_with fail
          refine (ROnce_ok key nonce HK.out.1 HK.out.2 o HO.out _).mono ?_
          rintro e w1 ⟨rfl, hb1⟩
          go_wp2_with fail
          go_ret2
          exact ⟨ret_val (by rw [HC.out, HE.out]; rfl), hb1⟩
        · have g2 : decide ((s.size : Int) - 16 < 0) = false := decide_eq_false (by omega)
          have g3 : decide ((16384 : Int) < (s.size : Int) - 16) = true := decide_eq_true (by
            have : ¬ s.size ≤ 16400 := fun hh => hok ⟨hkn.1, hkn.2, by omega, by omega, hh⟩
            omega)
          clear hok hkn
          go_enter Try.func22, Try.ntmps22
          go_wp2_with fail
          refine (ROnce_ok key nonce HK.out.1 HK.out.2 o HO.out _).mono ?_
          rintro e w1 ⟨rfl, hb1⟩
          go_wp2_with fail
          go_ret2
          exact ⟨ret_val (by rw [HC.out, HE.out]; rfl), hb1⟩
    · have HH := Lib.hid hkn
      clear hok hkn
      go_enter Try.func22, Try.ntmps22
      go_wp2_with fail
      refine (ROnce_no key nonce HH.out _).mono ?_
      rintro e w1 ⟨rfl, rfl⟩
      go_wp2_with fail
      go_ret2
      exact ⟨ret_val (by rw [HC.out, HE.out]; rfl), Below.refl _ _⟩
end Go.Proofs.Ytfglhemmccihfaa
