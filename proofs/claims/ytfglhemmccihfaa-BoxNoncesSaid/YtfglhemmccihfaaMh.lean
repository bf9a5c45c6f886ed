/-
Layer 4, the program's package chacha: Stream, Turn.
-/
import Derived.Deep.LoopGhost
import Derived.Test.YtfglhemmccihfaaMd
import Derived.Test.YtfglhemmccihfaaMg
namespace Go.Proofs.Ytfglhemmccihfaa
open Go.RowKit

set_option maxRecDepth 100000 in
set_option maxHeartbeats 1000000 in
theorem Stream_ok (key nonce : ByteArray) (counter : BitVec 32) (n : Nat) (hk : key.size = 32) (hn : nonce.size = 12) (hm : n ≤ 65536) (w : World) :
    Calls Try.prog 49 #[.string key, .int .u32 (bvi counter), .string nonce, .int .i64 n] w fun e w' => ∃ r, e = .returned (.tuple #[.string r, .int .i64 0]) ∧ Is r (streamL key.data.toList counter nonce.data.toList n) ∧ Below w.heap.size w w' := by
  have hd : decide (key.size = 32 ∧ nonce.size = 12) = true := decide_eq_true ⟨hk, hn⟩
  have HK := Lib.hid hk
  have HN := Lib.hid hn
  have g1 : decide ((n : Int) < 0) = false := decide_eq_false (by omega)
  have g2 : decide ((65536 : Int) < (n : Int)) = false := decide_eq_false (by omega)
  clear hk hn
  go_enter Try.func49, Try.ntmps49
  go_wp2_with fail
  refine (may_walk _ _ _).mono ?_
  rintro e w1 ⟨rfl, rfl⟩
  rw [hd]
  clear hd
  go_wp2_with fail
  have hO := isBuilder_new 95 5 (w := w) (Nat.le_refl w.heap.size)
  have HO := Lib.hid hO
  have HB := Lib.hid ((Below.refl w.heap.size w).alloc (Nat.le_refl _) (.cells #[.pointer none, .slice none 0 0] 95))
  clear hO
  go_loopg [1] ((n + 63) / 64) (fun gg c wr => ∃ k : Nat, k ≤ (n + 63) / 64 ∧ gg = (n + 63) / 64 - k ∧ c = .int .u32 (bvi (counter + BitVec.ofNat 32 k)) ∧ Lib.IsBuilderF 95 5 w.heap.size w.heap.size (cells (blocksL key.data.toList counter nonce.data.toList k)) wr ∧ Below w.heap.size w wr)
  case atStart => exact ⟨0, Nat.zero_le _, rfl, by simp, HO.out, HB.out⟩
  case round =>
    obtain ⟨k, hkn, hgg, rfl, ho, hb⟩ := hrel
    have HO2 := Lib.hid ho
    have HB2 := Lib.hid hb
    have hbl := blocksL_length key.data.toList counter nonce.data.toList k
    have HGG := Lib.hid hgg
    have HBL := Lib.hid hbl
    clear ho hb hgg hbl
    rcases Nat.lt_or_ge (64 * k) n with hlt | hge
    · have hL : decide (((64 * k : Nat) : Int) < (n : Int)) = true := decide_eq_true (by omega)
      have hL2 : ((64 * k : Nat) : Int) < (n : Int) := by omega
      go_wp2_with fail
      refine (Len_k 95 w.heap.size w.heap.size _ _ HO2.out).mono ?_
      rintro e w5 ⟨rfl, rfl⟩
      rw [cells_length, HBL.out]
      go_wp2_with fail
      refine (Block_ok key nonce (counter + BitVec.ofNat 32 k) HK.out HN.out _).mono ?_
      rintro e w5 ⟨r, rfl, hr, hb5⟩
      have hz : r.size = 64 := by rw [hr.size, blockL_length]
      have HR := Lib.hid hr
      have HZ := Lib.hid hz
      have h5 := isBuilder_below HO2.out hb5
      have HB5 := Lib.hid hb5
      clear hr hz hb5
      go_wp2_with fail
      refine (WriteString_k 95 liesBuilder w.heap.size w.heap.size _ r _ h5 (by rw [cells_length, HBL.out, HZ.out]; omega) (Nat.le_trans HB2.out.size HB5.out.size)).mono ?_
      rintro e w6 ⟨rfl, h6, hb6, _⟩
      go_wp2_with fail
      go_roundg ((n + 63) / 64 - (k + 1))
      case measure => rw [HGG.out]; omega
      case rel =>
        refine ⟨k + 1, by omega, rfl, ?_, ?_, (HB2.out.trans (HB5.out.mono HB2.out.size)).trans hb6⟩
        · rw [BitVec.ofNat_add, BitVec.add_assoc]
        · rw [blocksL, cells_append, ← strCells_cells HR.out]
          exact .inr h6
    · have HKK := Lib.hid (show (n + 63) / 64 = k by omega)
      have hL2 : ¬ (((64 * k : Nat) : Int) < (n : Int)) := by omega
      go_wp2_with fail
      refine (Len_k 95 w.heap.size w.heap.size _ _ HO2.out).mono ?_
      rintro e w5 ⟨rfl, rfl⟩
      rw [cells_length, HBL.out]
      go_wp2_with fail
      refine (String_any_k 95 w.heap.size w.heap.size _ _ HO2.out HB2.out.size).mono ?_
      rintro e w6 ⟨rfl, _, hb6, _⟩
      have hR := Is.of (blocksL key.data.toList counter nonce.data.toList k)
      generalize ByteArray.mk (blocksL key.data.toList counter nonce.data.toList k).toArray = R at hR ⊢
      have hRz : R.size = 64 * k := by rw [hR.size, HBL.out]
      have hRn : n ≤ R.size := by omega
      have HRR := Lib.hid (hR.extract 0 n)
      clear hR hRz
      go_wp2_with fail
      go_ret2
      refine ⟨_, rfl, ?_, HB2.out.trans hb6⟩
      unfold streamL
      rw [HKK.out]
      exact HRR.out

set_option maxHeartbeats 400000 in
theorem Stream_no (key nonce : ByteArray) (counter : BitVec 32) (n : Int) (h : ¬ (key.size = 32 ∧ nonce.size = 12) ∨ n < 0 ∨ 65536 < n) (w : World) :
    Calls Try.prog 49 #[.string key, .int .u32 (bvi counter), .string nonce, .int .i64 n] w fun e w' => e = .returned (.tuple #[.string ⟨#[]⟩, .int .i64 5]) ∧ w = w' := by
  by_cases h1 : key.size = 32 ∧ nonce.size = 12
  · have hd : decide (key.size = 32 ∧ nonce.size = 12) = true := decide_eq_true h1
    by_cases h2 : n < 0
    · have g1 : decide (n < 0) = true := decide_eq_true h2
      clear h h1
      go_enter Try.func49, Try.ntmps49
      go_wp2_with fail
      refine (may_walk _ _ _).mono ?_
      rintro e w1 ⟨rfl, rfl⟩
      rw [hd]
      clear hd
      go_wp2_with fail
      go_ret2
      exact ⟨rfl, rfl⟩
    · have g1 : decide (n < 0) = false := decide_eq_false h2
      have h3 : 65536 < n := by rcases h with h | h | h; exact absurd h1 h; exact absurd h h2; exact h
      have g2 : decide ((65536 : Int) < n) = true := decide_eq_true h3
      clear h h1
      go_enter Try.func49, Try.ntmps49
      go_wp2_with fail
      refine (may_walk _ _ _).mono ?_
      rintro e w1 ⟨rfl, rfl⟩
      rw [hd]
      clear hd
      go_wp2_with fail
      go_ret2
      exact ⟨rfl, rfl⟩
  · have hd : decide (key.size = 32 ∧ nonce.size = 12) = false := decide_eq_false h1
    clear h h1
    go_enter Try.func49, Try.ntmps49
    go_wp2_with fail
    refine (may_walk _ _ _).mono ?_
    rintro e w1 ⟨rfl, rfl⟩
    rw [hd]
    clear hd
    go_wp2_with fail
    go_ret2
    exact ⟨rfl, rfl⟩

set_option maxHeartbeats 400000 in
theorem Turn_ok (key nonce text : ByteArray) (counter : BitVec 32) (hk : key.size = 32) (hn : nonce.size = 12) (hm : text.size ≤ 65536) (w : World) :
    Calls Try.prog 33 #[.string key, .int .u32 (bvi counter), .string nonce, .string text] w fun e w' => ∃ r, e = .returned (.tuple #[.string r, .int .i64 0]) ∧ Is r (turnL key.data.toList counter nonce.data.toList text.data.toList) ∧ Below w.heap.size w w' := by
  have HK := Lib.hid hk
  have HN := Lib.hid hn
  clear hk hn
  go_enter Try.func33, Try.ntmps33
  go_wp2_with fail
  refine (Stream_ok key nonce counter text.size HK.out HN.out hm _).mono ?_
  rintro e w1 ⟨r1, rfl, hr1, hb1⟩
  have hz : text.size = r1.size := by rw [hr1.size, streamL_length]
  have HR := Lib.hid hr1
  have HZ := Lib.hid hz
  clear hr1 hz
  go_wp2_with fail
  refine (Xor_ok text r1 HZ.out (by omega) _).mono ?_
  rintro e w2 ⟨r2, rfl, hr2, hb2⟩
  have HR2 := Lib.hid hr2
  clear hr2
  go_wp2_with fail
  go_ret2
  refine ⟨_, rfl, ?_, bthen hb1 hb2⟩
  have h := HR2.out
  rw [HR.out.out] at h
  unfold turnL
  rw [Array.length_toList]
  exact h

set_option maxHeartbeats 400000 in
theorem Turn_no (key nonce text : ByteArray) (counter : BitVec 32) (h : ¬ (key.size = 32 ∧ nonce.size = 12) ∨ 65536 < text.size) (w : World) :
    Calls Try.prog 33 #[.string key, .int .u32 (bvi counter), .string nonce, .string text] w fun e w' => e = .returned (.tuple #[.string ⟨#[]⟩, .int .i64 5]) ∧ w = w' := by
  have HH := Lib.hid h
  clear h
  go_enter Try.func33, Try.ntmps33
  go_wp2_with fail
  refine (Stream_no key nonce counter text.size (HH.out.elim Or.inl fun h => Or.inr (Or.inr (by omega))) _).mono ?_
  rintro e w1 ⟨rfl, rfl⟩
  go_wp2_with fail
  go_ret2
  exact ⟨rfl, rfl⟩
end Go.Proofs.Ytfglhemmccihfaa
