/-
  Layer 4, the reference's package posthornref04: Stream, Turn, and what is refused.
-/
import Derived.Test.YtfglhemmccihfaaRchaB
import Derived.Deep.LoopGhost
namespace Go.Proofs.Ytfglhemmccihfaa
open Go.RowKit

set_option maxHeartbeats 400000 in
theorem RBlock_no (key nonce : ByteArray) (counter : BitVec 32) (h : ¬ (key.size = 32 ∧ nonce.size = 12)) (w : World) :
    Calls Try.prog 66 #[.string key, .int .u32 (bvi counter), .string nonce] w fun e w' => e = .returned (.tuple #[.string ⟨#[]⟩, .int .i64 5]) ∧ w = w' := by
  by_cases h1 : key.size = 32
  · have k1 : ((key.size : Int) != 32) = false := by rw [bne_eq_false_iff_eq]; omega
    have k2 : ((nonce.size : Int) != 12) = true := by rw [bne_iff_ne]; omega
    clear h h1
    go_enter Try.func66, Try.ntmps66
    go_wp2_with fail
    go_ret2
    exact ⟨rfl, rfl⟩
  · have k1 : ((key.size : Int) != 32) = true := by rw [bne_iff_ne]; omega
    clear h h1
    go_enter Try.func66, Try.ntmps66
    go_wp2_with fail
    go_ret2
    exact ⟨rfl, rfl⟩

set_option maxHeartbeats 400000 in
theorem RStream_no (key nonce : ByteArray) (counter : BitVec 32) (n : Int) (h : ¬ (key.size = 32 ∧ nonce.size = 12) ∨ n < 0 ∨ 65536 < n) (w : World) :
    Calls Try.prog 38 #[.string key, .int .u32 (bvi counter), .string nonce, .int .i64 n] w fun e w' => e = .returned (.tuple #[.string ⟨#[]⟩, .int .i64 5]) ∧ w = w' := by
  by_cases h1 : key.size = 32
  · have k1 : ((key.size : Int) != 32) = false := by rw [bne_eq_false_iff_eq]; omega
    by_cases h2 : nonce.size = 12
    · have k2 : ((nonce.size : Int) != 12) = false := by rw [bne_eq_false_iff_eq]; omega
      by_cases h3 : n < 0
      · have g1 : decide (n < 0) = true := decide_eq_true h3
        clear h h1 h2
        go_enter Try.func38, Try.ntmps38
        go_wp2_with fail
        go_ret2
        exact ⟨rfl, rfl⟩
      · have g1 : decide (n < 0) = false := decide_eq_false h3
        have g2 : decide ((65536 : Int) < n) = true := decide_eq_true (by omega)
        clear h h1 h2
        go_enter Try.func38, Try.ntmps38
        go_wp2_with fail
        go_ret2
        exact ⟨rfl, rfl⟩
    · have k2 : ((nonce.size : Int) != 12) = true := by rw [bne_iff_ne]; omega
      clear h h1 h2
      go_enter Try.func38, Try.ntmps38
      go_wp2_with fail
      go_ret2
      exact ⟨rfl, rfl⟩
  · have k1 : ((key.size : Int) != 32) = true := by rw [bne_iff_ne]; omega
    clear h h1
    go_enter Try.func38, Try.ntmps38
    go_wp2_with fail
    go_ret2
    exact ⟨rfl, rfl⟩

set_option maxRecDepth 100000 in
set_option maxHeartbeats 1000000 in
theorem RStream_ok (key nonce : ByteArray) (counter : BitVec 32) (n : Nat) (hk : key.size = 32) (hn : nonce.size = 12) (hm : n ≤ 65536) (w : World) :
    Calls Try.prog 38 #[.string key, .int .u32 (bvi counter), .string nonce, .int .i64 n] w fun e w' => ∃ r, e = .returned (.tuple #[.string r, .int .i64 0]) ∧ Is r (streamL key.data.toList counter nonce.data.toList n) ∧ Below w.heap.size w w' := by
  have HK := Lib.hid hk
  have HN := Lib.hid hn
  have k1 : ((key.size : Int) != 32) = false := by rw [bne_eq_false_iff_eq]; omega
  have k2 : ((nonce.size : Int) != 12) = false := by rw [bne_eq_false_iff_eq]; omega
  have g1 : decide ((n : Int) < 0) = false := decide_eq_false (by omega)
  have g2 : decide ((65536 : Int) < (n : Int)) = false := decide_eq_false (by omega)
  clear hk hn
  go_enter Try.func38, Try.ntmps38
  go_wp2_with fail
  go_loopg [10, 11] ((n + 63) / 64) (fun gg o c wr => ∃ (k : Nat) (r : ByteArray), k ≤ (n + 63) / 64 ∧ gg = (n + 63) / 64 - k ∧ o = .string r ∧ c = .int .u32 (bvi (BitVec.ofNat 32 k)) ∧ Is r (blocksL key.data.toList counter nonce.data.toList k) ∧ Below w.heap.size w wr)
  case atStart => exact ⟨0, ⟨#[]⟩, Nat.zero_le _, rfl, rfl, rfl, Is.of [], Below.refl _ _⟩
  case round =>
    obtain ⟨k, r, hkn, hgg, rfl, rfl, hr, hb⟩ := hrel
    have HB2 := Lib.hid hb
    have hrz : r.size = 64 * k := by rw [hr.size, blocksL_length]
    have HGG := Lib.hid hgg
    have HR := Lib.hid hr
    have hrz2 : r.size ≤ 70000 := by omega
    have HZ := Lib.hid hrz
    clear hb hgg hr
    rcases Nat.lt_or_ge (64 * k) n with hlt | hge
    · have hL2 : (r.size : Int) < (n : Int) := by omega
      clear hrz
      go_wp2_with fail
      refine (RBlock_ok key nonce (counter + BitVec.ofNat 32 k) HK.out HN.out _).mono ?_
      rintro e w5 ⟨r5, rfl, hr5, hb5⟩
      have hz5 : r5.size ≤ 64 := by rw [hr5.size, blockL_length]; exact Nat.le_refl _
      have HR5 := Lib.hid hr5
      have HB5 := Lib.hid (bthen HB2.out hb5)
      clear hr5 hb5
      go_wp2_with fail
      go_roundg ((n + 63) / 64 - (k + 1))
      case measure => rw [HGG.out]; omega
      case rel =>
        refine ⟨k + 1, _, by omega, rfl, rfl, ?_, ?_, HB5.out⟩
        · rw [BitVec.ofNat_add]
        · rw [blocksL]
          exact HR.out.append HR5.out
    · have HKK := Lib.hid (show (n + 63) / 64 = k by omega)
      have hL2 : ¬ ((r.size : Int) < (n : Int)) := by omega
      have hRn : n ≤ r.size := by omega
      have HRR := Lib.hid (HR.out.extract 0 n)
      clear hrz
      go_wp2_with fail
      go_ret2
      refine ⟨_, rfl, ?_, HB2.out⟩
      unfold streamL
      rw [HKK.out]
      exact HRR.out

set_option maxHeartbeats 400000 in
theorem RTurn_ok (key nonce text : ByteArray) (counter : BitVec 32) (hk : key.size = 32) (hn : nonce.size = 12) (hm : text.size ≤ 65536) (w : World) :
    Calls Try.prog 35 #[.string key, .int .u32 (bvi counter), .string nonce, .string text] w fun e w' => ∃ r, e = .returned (.tuple #[.string r, .int .i64 0]) ∧ Is r (turnL key.data.toList counter nonce.data.toList text.data.toList) ∧ Below w.heap.size w w' := by
  have HK := Lib.hid hk
  have HN := Lib.hid hn
  clear hk hn
  go_enter Try.func35, Try.ntmps35
  go_wp2_with fail
  refine (RStream_ok key nonce counter text.size HK.out HN.out hm _).mono ?_
  rintro e w1 ⟨r1, rfl, hr1, hb1⟩
  have hz : text.size = r1.size := by rw [hr1.size, streamL_length]
  have HR := Lib.hid hr1
  have HZ := Lib.hid hz
  clear hr1 hz
  go_wp2_with fail
  refine (RXor_ok text r1 HZ.out (by omega) _).mono ?_
  rintro e w2 ⟨r2, rfl, hr2, hb2⟩
  have HR2 := Lib.hid hr2
  clear hr2
  go_wp2_with fail
  go_ret2
  refine ⟨_, rfl, ?_, bthen hb1 hb2⟩
  have h := HR2.out
  rw [HR.out.out] at h
  unfold turnL
  rw [Array.length_toList]
  exact h

set_option maxHeartbeats 400000 in
theorem RTurn_no (key nonce text : ByteArray) (counter : BitVec 32) (h : ¬ (key.size = 32 ∧ nonce.size = 12) ∨ 65536 < text.size) (w : World) :
    Calls Try.prog 35 #[.string key, .int .u32 (bvi counter), .string nonce, .string text] w fun e w' => e = .returned (.tuple #[.string ⟨#[]⟩, .int .i64 5]) ∧ w = w' := by
  have HH := Lib.hid h
  clear h
  go_enter Try.func35, Try.ntmps35
  go_wp2_with fail
  refine (RStream_no key nonce counter text.size (HH.out.elim Or.inl fun h => Or.inr (Or.inr (by omega))) _).mono ?_
  rintro e w1 ⟨rfl, rfl⟩
  go_wp2_with fail
  go_ret2
  exact ⟨rfl, rfl⟩
end Go.Proofs.Ytfglhemmccihfaa
