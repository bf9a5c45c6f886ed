/-
  Layer 6's laws, walked: AeadSeals, of texts up to 2^20 bytes.
-/
import Derived.Test.YtfglhemmccihfaaL06B
namespace Go.Proofs.Ytfglhemmccihfaa
open Go.RowKit

set_option maxRecDepth 100000 in
set_option maxHeartbeats 4000000 in
theorem AeadSeals_w (key nonce data text : ByteArray) (bd : data.size ≤ 1048576) (bt : text.size ≤ 1048576) (w : World) : Calls Try.prog 3 #[.string key, .string nonce, .string data, .string text] w fun e w' => e = .returned (.bool true) ∧ Below w.heap.size w w' := by
  obtain ⟨c, hc⟩ : ∃ c, Is c (coverL data.data.toList text.data.toList) := ⟨_, Is.of _⟩
  have HC := Lib.hid hc
  clear hc
  go_enter Try.func3, Try.ntmps3
  go_wp2_with fail
  refine (awake06 _).mono ?_
  rintro e w1 ⟨rfl, hb1⟩
  have HB1 := Lib.hid hb1
  clear hb1
  go_wp2_with fail
  refine (large06 _ _ [key, nonce, data, text] _ (strs_new6 w1 [key, nonce, data, text] 9) (by simp)).mono ?_
  rintro e w2 ⟨rfl, rfl⟩
  have HB2 := Lib.hid (below_alloc' HB1.out (.cells #[.string key, .string nonce, .string data, .string text] 9))
  clear HB1
  rcases Bool.eq_false_or_eq_true (overA [key, nonce, data, text]) with hL | hL
  · rw [hL]
    clear hL
    go_wp2_with fail
    go_ret
    exact ⟨rfl, HB2.out⟩
  have HSM := overA_no hL
  rw [hL]
  clear hL
  have zkey : key.size ≤ 512 ∨ 16400 < key.size := HSM key (by simp)
  have znonce : nonce.size ≤ 512 ∨ 16400 < nonce.size := HSM nonce (by simp)
  have zdata : data.size ≤ 512 ∨ 16400 < data.size := HSM data (by simp)
  have ztext : text.size ≤ 512 ∨ 16400 < text.size := HSM text (by simp)
  clear HSM
  by_cases hkn : key.size = 32 ∧ nonce.size = 12
  · obtain ⟨o, ho⟩ : ∃ o, Is o (onceL key.data.toList nonce.data.toList) := ⟨_, Is.of _⟩
    have HK := Lib.hid hkn
    have HO := Lib.hid ho
    clear ho hkn
    by_cases hsz : data.size ≤ 512 ∧ text.size ≤ 512
    · obtain ⟨q, hq⟩ : ∃ q, Is q (sealL key.data.toList nonce.data.toList data.data.toList text.data.toList) := ⟨_, Is.of _⟩
      have HQ := Lib.hid hq
      clear hq
      go_wp2_with fail
      refine (Seal_ok key nonce data text HK.out.1 HK.out.2 (by omega) (by omega) q HQ.out _).mono ?_
      rintro e w3 ⟨rfl, hb3⟩
      have HB3 := Lib.hid (bthen HB2.out hb3)
      clear hb3
      go_wp2_with fail
      refine (RSeal_ok key nonce data text HK.out.1 HK.out.2 (by omega) (by omega) q HQ.out _).mono ?_
      rintro e w4 ⟨rfl, hb4⟩
      have HB4 := Lib.hid (bthen HB3.out hb4)
      clear hb4
      go_wp2_with fail
      refine (Once_ok key nonce HK.out.1 HK.out.2 o HO.out _).mono ?_
      rintro e w5 ⟨rfl, hb5⟩
      have HB5 := Lib.hid (bthen HB4.out hb5)
      clear hb5
      go_wp2_with fail
      refine (ROnce_ok key nonce HK.out.1 HK.out.2 o HO.out _).mono ?_
      rintro e w6 ⟨rfl, hb6⟩
      have HB6 := Lib.hid (bthen HB5.out hb6)
      clear hb6
      have hqq := seq_self q
      have hoo := seq_self o
      have hcc := seq_self c
      go_wp2_with fail
      refine (Covered_walk data text (by omega) (by omega) c HC.out _).mono ?_
      rintro e w7 ⟨rfl, hb7⟩
      have HB7 := Lib.hid (bthen HB6.out hb7)
      clear hb7
      go_wp2_with fail
      refine (RCovered_walk data text (by omega) (by omega) c HC.out _).mono ?_
      rintro e w8 ⟨rfl, hb8⟩
      have HB8 := Lib.hid (bthen HB7.out hb8)
      clear hb8
      go_wp2_with fail
      go_ret
      exact ⟨rfl, HB8.out⟩
    · obtain ⟨q, rfl⟩ : ∃ q : ByteArray, q = ⟨#[]⟩ := ⟨_, rfl⟩
      have HD := Lib.hid (show 4096 < data.size ∨ 16384 < text.size by omega)
      go_wp2_with fail
      refine (Seal_no key nonce data text (Or.inr HD.out) _).mono ?_
      rintro e w3 ⟨rfl, rfl⟩
      have HB3 := HB2
      go_wp2_with fail
      refine (RSeal_no key nonce data text (Or.inr HD.out) _).mono ?_
      rintro e w4 ⟨rfl, hb4⟩
      have HB4 := Lib.hid (bthen HB3.out hb4)
      clear hb4
      go_wp2_with fail
      refine (Once_ok key nonce HK.out.1 HK.out.2 o HO.out _).mono ?_
      rintro e w5 ⟨rfl, hb5⟩
      have HB5 := Lib.hid (bthen HB4.out hb5)
      clear hb5
      go_wp2_with fail
      refine (ROnce_ok key nonce HK.out.1 HK.out.2 o HO.out _).mono ?_
      rintro e w6 ⟨rfl, hb6⟩
      have HB6 := Lib.hid (bthen HB5.out hb6)
      clear hb6
      have hqq := seq_self ⟨#[]⟩
      have hoo := seq_self o
      have hcc := seq_self c
      go_wp2_with fail
      refine (Covered_walk data text (by omega) (by omega) c HC.out _).mono ?_
      rintro e w7 ⟨rfl, hb7⟩
      have HB7 := Lib.hid (bthen HB6.out hb7)
      clear hb7
      go_wp2_with fail
      refine (RCovered_walk data text (by omega) (by omega) c HC.out _).mono ?_
      rintro e w8 ⟨rfl, hb8⟩
      have HB8 := Lib.hid (bthen HB7.out hb8)
      clear hb8
      go_wp2_with fail
      go_ret
      exact ⟨rfl, HB8.out⟩
  · have HN := Lib.hid hkn
    clear hkn
    go_wp2_with fail
    refine (Seal_no key nonce data text (Or.inl HN.out) _).mono ?_
    rintro e w3 ⟨rfl, rfl⟩
    have HB3 := HB2
    go_wp2_with fail
    refine (RSeal_no key nonce data text (Or.inl HN.out) _).mono ?_
    rintro e w4 ⟨rfl, hb4⟩
    have HB4 := Lib.hid (bthen HB3.out hb4)
    clear hb4
    go_wp2_with fail
    refine (Once_no key nonce HN.out _).mono ?_
    rintro e w5 ⟨rfl, rfl⟩
    have HB5 := HB4
    go_wp2_with fail
    refine (ROnce_no key nonce HN.out _).mono ?_
    rintro e w6 ⟨rfl, rfl⟩
    have HB6 := HB5
    have hqq := seq_self ⟨#[]⟩
    have hcc := seq_self c
    go_wp2_with fail
    refine (Covered_walk data text (by omega) (by omega) c HC.out _).mono ?_
    rintro e w7 ⟨rfl, hb7⟩
    have HB7 := Lib.hid (bthen HB6.out hb7)
    clear hb7
    go_wp2_with fail
    refine (RCovered_walk data text (by omega) (by omega) c HC.out _).mono ?_
    rintro e w8 ⟨rfl, hb8⟩
    have HB8 := Lib.hid (bthen HB7.out hb8)
    clear hb8
    go_wp2_with fail
    go_ret
    exact ⟨rfl, HB8.out⟩
end Go.Proofs.Ytfglhemmccihfaa
