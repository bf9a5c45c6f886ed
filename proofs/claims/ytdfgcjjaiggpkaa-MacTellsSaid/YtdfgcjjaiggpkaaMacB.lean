/-
  The program's mac: Sum, Check, Extract, Expand, Derive.
-/
import Derived.Test.YtdfgcjjaiggpkaaMac
namespace Go.Proofs.Ytdfgcjjaiggpkaa
open Go.RowKit

set_option maxRecDepth 100000 in
set_option maxHeartbeats 1000000 in
theorem MSum_walk (key text : ByteArray) (hk : key.size ≤ 140737488351000) (ht : text.size ≤ 140737488351000) (q : ByteArray) (hq : Is q (macL key.data.toList text.data.toList)) (w : World) :
    Calls Try.prog 32 #[.string key, .string text] w fun e w' => e = .returned (.string q) ∧ Below w.heap.size w w' := by
  have HQ := Lib.hid hq
  have HTL := Lib.hid (show text.data.toList.length = text.size by rw [Array.length_toList]; rfl)
  clear hq
  go_enter Try.func32, Try.ntmps32
  go_wp2_with fail
  refine (MacNew_walk key (by omega) _).mono ?_
  rintro e w1 ⟨b, rfl, hm, hb1⟩
  have HM := Lib.hid hm
  have HB1 := Lib.hid hb1
  have z1 := hb1.size
  clear hm hb1
  go_wp2_with fail
  refine (MacAdd_walk w.heap.size b _ _ text (by omega) _ HM.out z1).mono ?_
  rintro e w2 ⟨rfl, hm2, hb2⟩
  have HM2 := Lib.hid (show MacAt w2 w.heap.size b key.data.toList text.data.toList from hm2)
  have HB2 := Lib.hid (HB1.out.trans hb2)
  clear hm2 hb2
  go_wp2_with fail
  refine (MacSum_walk w.heap.size b _ _ (by rw [HTL.out]; omega) q HQ.out _ HM2.out).mono ?_
  rintro e w3 ⟨rfl, hb3⟩
  go_wp2_with fail
  go_ret
  exact ⟨rfl, bthen HB2.out hb3⟩
set_option maxHeartbeats 400000 in
theorem MExtract_walk (key text : ByteArray) (hk : key.size ≤ 140737488351000) (ht : text.size ≤ 140737488351000) (q : ByteArray) (hq : Is q (macL key.data.toList text.data.toList)) (w : World) :
    Calls Try.prog 34 #[.string key, .string text] w fun e w' => e = .returned (.string q) ∧ Below w.heap.size w w' := by
  have HQ := Lib.hid hq
  clear hq
  go_enter Try.func34, Try.ntmps34
  go_wp2_with fail
  refine (MSum_walk key text hk ht q HQ.out _).mono ?_
  rintro e w1 ⟨rfl, hb1⟩
  go_wp2_with fail
  go_ret
  exact ⟨rfl, hb1⟩
set_option maxHeartbeats 400000 in
theorem MCheck_walk (key text sum : ByteArray) (hk : key.size ≤ 140737488351000) (ht : text.size ≤ 140737488351000) (q : ByteArray) (hq : Is q (macL key.data.toList text.data.toList)) (w : World) :
    Calls Try.prog 33 #[.string key, .string text, .string sum] w fun e w' => e = .returned (.bool (seq q sum)) ∧ Below w.heap.size w w' := by
  have HQ := Lib.hid hq
  have hz : q.size ≤ 140737488355328 := by rw [hq.size, macL_length]; decide
  clear hq
  go_enter Try.func33, Try.ntmps33
  go_wp2_with fail
  refine (MSum_walk key text hk ht q HQ.out _).mono ?_
  rintro e w1 ⟨rfl, hb1⟩
  have HB1 := Lib.hid hb1
  clear hb1
  go_wp2_with fail
  refine (Same_walk q sum hz _).mono ?_
  rintro e w2 ⟨rfl, hb2⟩
  go_wp2_with fail
  go_ret
  exact ⟨rfl, bthen HB1.out hb2⟩
theorem byte_of (k : Nat) : (⟨BitVec.ofInt 8 ((k : Int) + 1)⟩ : UInt8) = UInt8.ofNat (k + 1) := by
  have : (k : Int) + 1 = ((k + 1 : Nat) : Int) := by omega
  rw [this, BitVec.ofInt_natCast]
  rfl
set_option maxRecDepth 100000 in
set_option maxHeartbeats 1000000 in
theorem Expand_ok (key info : ByteArray) (n : Nat) (hn : n ≤ 8160) (hk : key.size ≤ 140737488351000) (hi : info.size ≤ 140737488350000) (q : ByteArray) (hq : Is q (expandL key.data.toList info.data.toList n)) (w : World) :
    Calls Try.prog 35 #[.string key, .string info, .int .i64 n] w fun e w' => e = .returned (.tuple #[.string q, .int .i64 0]) ∧ Below w.heap.size w w' := by
  have HQ := Lib.hid hq
  have g1 : decide ((n : Int) < 0) = false := decide_eq_false (by omega)
  have g2 : decide ((8160 : Int) < (n : Int)) = false := decide_eq_false (by omega)
  clear hq
  go_enter Try.func35, Try.ntmps35
  go_wp2_with fail
  have HO := Lib.hid (isBuilder_new 78 5 (w := w) (Nat.le_refl w.heap.size))
  have HB := Lib.hid ((Below.refl w.heap.size w).alloc (Nat.le_refl _) (.cells #[.pointer none, .slice none 0 0] 78))
  go_loopg [9, 10] ((n + 31) / 32) (fun gg p i wr => ∃ (k : Nat) (part : ByteArray), k + gg = (n + 31) / 32 ∧ i = .int .i64 ((k : Int) + 1) ∧ p = .string part ∧ Is part (partK key.data.toList info.data.toList k) ∧ Lib.IsBuilderF 78 5 w.heap.size w.heap.size (cells (outK key.data.toList info.data.toList k)) wr ∧ Below w.heap.size w wr)
  case atStart => exact ⟨0, _, by omega, rfl, rfl, Is.of [], HO.out, HB.out⟩
  case round =>
    obtain ⟨k, part, hgg, rfl, rfl, hp, ho, hb⟩ := hrel
    have HO2 := Lib.hid ho
    have HB2 := Lib.hid hb
    have HBL := Lib.hid (outK_length key.data.toList info.data.toList k)
    have HP := Lib.hid hp
    have hpz : part.size ≤ 32 := by rw [hp.size]; exact partK_length _ _ _
    have HGG := Lib.hid hgg
    clear ho hb hgg hp
    rcases Nat.lt_or_ge (32 * k) n with hlt | hge
    · have hL : decide (32 * (k : Int) < (n : Int)) = true := decide_eq_true (by omega)
      have hov1 : ¬ 9223372036854775807 < part.size + info.size := by omega
      have hov2 : ¬ 9223372036854775807 < part.size + info.size + 1 := by omega
      have hst := fun wx => run_str_one0 (P := Try.prog) wx 49 5 Try.underlying49 Try.underlying5 9 Try.underlying9 (BitVec.ofInt 8 ((k : Int) + 1))
      go_wp2_with fail
      refine (Len_k 78 w.heap.size w.heap.size _ _ HO2.out).mono ?_
      rintro e w5 ⟨rfl, rfl⟩
      rw [cells_length, HBL.out]
      go_wp2_with fail
      clear hst
      rw [byte_of]
      obtain ⟨q1, hq1⟩ : ∃ q1, Is q1 (partK key.data.toList info.data.toList (k + 1)) := ⟨_, Is.of _⟩
      have HQ1 := Lib.hid (show Is q1 (macL key.data.toList (part ++ info ++ ⟨#[UInt8.ofNat (k + 1)]⟩).data.toList) by
        rw [((HP.out.append (Is.self info)).append (Is.of [UInt8.ofNat (k + 1)])).out]
        exact hq1)
      have HPQ := Lib.hid hq1
      have q1z : q1.size = 32 := by rw [hq1.size, partK, macL_length]
      have HQZ := Lib.hid q1z
      have htz : (part ++ info ++ ⟨#[UInt8.ofNat (k + 1)]⟩).size ≤ 140737488351000 := by
        rw [ByteArray.size_append, ByteArray.size_append]
        show part.size + info.size + 1 ≤ _
        omega
      clear hq1 q1z
      refine (MSum_walk key _ hk htz q1 HQ1.out _).mono ?_
      rintro e w6 ⟨rfl, hb6⟩
      have hb6' := bthen ((Below.refl wr.heap.size wr).alloc (Nat.le_refl _) _) hb6
      have HO6 := Lib.hid (isBuilder_below HO2.out hb6')
      have HB6 := Lib.hid (bthen HB2.out hb6')
      clear hb6 hb6'
      go_wp2_with fail
      refine (WriteString_k 78 liesBuilder w.heap.size w.heap.size _ q1 _ HO6.out (by rw [cells_length, HBL.out, HQZ.out]; omega) HB6.out.size).mono ?_
      rintro e w7 ⟨rfl, h7, hb7, _⟩
      have HO7 := Lib.hid h7
      have HB7 := Lib.hid (HB6.out.trans hb7)
      clear h7 hb7
      go_wp2_with fail
      go_roundg (gk - 1)
      case measure => have := HGG.out; omega
      case rel =>
        refine ⟨k + 1, q1, by have := HGG.out; omega, by go_num, rfl, HPQ.out, ?_, HB7.out⟩
        rw [outK, cells_append, ← strCells_cells HPQ.out]
        exact .inr HO7.out
    · have hL : decide (32 * (k : Int) < (n : Int)) = false := decide_eq_false (by omega)
      have HKK := Lib.hid (show (n + 31) / 32 = k by have := HGG.out; omega)
      go_wp2_with fail
      refine (Len_k 78 w.heap.size w.heap.size _ _ HO2.out).mono ?_
      rintro e w5 ⟨rfl, rfl⟩
      rw [cells_length, HBL.out]
      go_wp2_with fail
      refine (String_any_k 78 w.heap.size w.heap.size _ _ HO2.out HB2.out.size).mono ?_
      rintro e w6 ⟨rfl, _, hb6, _⟩
      have hR := Is.of (outK key.data.toList info.data.toList k)
      generalize ByteArray.mk (outK key.data.toList info.data.toList k).toArray = R at hR ⊢
      have hRz : R.size = 32 * k := by rw [hR.size, HBL.out]
      have hRn : n ≤ R.size := by omega
      have HRR := Lib.hid (hR.extract 0 n)
      clear hR hRz
      go_wp2_with fail
      go_ret2
      refine ⟨ret_val ?_, HB2.out.trans hb6⟩
      have h := HRR.out
      rw [List.drop_zero, Nat.sub_zero, ← HKK.out] at h
      have h2 : R.extract 0 n = q := h.inj HQ.out
      rw [← h2]
      rfl
set_option maxHeartbeats 400000 in
theorem Expand_no (key info : ByteArray) (n : Int) (h : n < 0 ∨ 8160 < n) (w : World) :
    Calls Try.prog 35 #[.string key, .string info, .int .i64 n] w fun e w' => e = .returned (.tuple #[.string ⟨#[]⟩, .int .i64 5]) ∧ w = w' := by
  by_cases h2 : n < 0
  · have g1 : decide (n < 0) = true := decide_eq_true h2
    clear h
    go_enter Try.func35, Try.ntmps35
    go_wp2_with fail
    go_ret2
    exact ⟨rfl, rfl⟩
  · have g1 : decide (n < 0) = false := decide_eq_false h2
    have g2 : decide ((8160 : Int) < n) = true := decide_eq_true (by omega)
    clear h
    go_enter Try.func35, Try.ntmps35
    go_wp2_with fail
    go_ret2
    exact ⟨rfl, rfl⟩
set_option maxHeartbeats 400000 in
theorem Derive_ok (salt secret info : ByteArray) (n : Nat) (hn : n ≤ 8160) (hsa : salt.size ≤ 140737488351000) (hse : secret.size ≤ 140737488351000) (hi : info.size ≤ 140737488350000) (q : ByteArray) (hq : Is q (expandL (macL salt.data.toList secret.data.toList) info.data.toList n)) (w : World) :
    Calls Try.prog 37 #[.string salt, .string secret, .string info, .int .i64 n] w fun e w' => e = .returned (.tuple #[.string q, .int .i64 0]) ∧ Below w.heap.size w w' := by
  obtain ⟨x, hx⟩ : ∃ x, Is x (macL salt.data.toList secret.data.toList) := ⟨_, Is.of _⟩
  have HX := Lib.hid hx
  have HQ := Lib.hid (show Is q (expandL x.data.toList info.data.toList n) by rw [hx.out]; exact hq)
  have hxz : x.size ≤ 140737488351000 := by rw [hx.size, macL_length]; decide
  clear hx hq
  go_enter Try.func37, Try.ntmps37
  go_wp2_with fail
  refine (MExtract_walk salt secret hsa hse x HX.out _).mono ?_
  rintro e w1 ⟨rfl, hb1⟩
  have HB1 := Lib.hid hb1
  clear hb1
  go_wp2_with fail
  refine (Expand_ok x info n hn hxz hi q HQ.out _).mono ?_
  rintro e w2 ⟨rfl, hb2⟩
  go_wp2_with fail
  go_ret2
  exact ⟨rfl, bthen HB1.out hb2⟩
set_option maxHeartbeats 400000 in
theorem Derive_no (salt secret info : ByteArray) (n : Int) (h : n < 0 ∨ 8160 < n) (hsa : salt.size ≤ 140737488351000) (hse : secret.size ≤ 140737488351000) (w : World) :
    Calls Try.prog 37 #[.string salt, .string secret, .string info, .int .i64 n] w fun e w' => e = .returned (.tuple #[.string ⟨#[]⟩, .int .i64 5]) ∧ Below w.heap.size w w' := by
  obtain ⟨x, hx⟩ : ∃ x, Is x (macL salt.data.toList secret.data.toList) := ⟨_, Is.of _⟩
  have HX := Lib.hid hx
  have HH := Lib.hid h
  clear hx h
  go_enter Try.func37, Try.ntmps37
  go_wp2_with fail
  refine (MExtract_walk salt secret hsa hse x HX.out _).mono ?_
  rintro e w1 ⟨rfl, hb1⟩
  have HB1 := Lib.hid hb1
  clear hb1
  go_wp2_with fail
  refine (Expand_no x info n HH.out _).mono ?_
  rintro e w2 ⟨rfl, rfl⟩
  go_wp2_with fail
  go_ret2
  exact ⟨rfl, HB1.out⟩
end Go.Proofs.Ytdfgcjjaiggpkaa
