/-
  Layer 4's laws, walked: ChachaStreams.
-/
import Derived.Test.YtjcakokhfjlihaaL04C
import Derived.Test.YtjcakokhfjlihaaRchaC
namespace Go.Proofs.Ytjcakokhfjlihaa
open Go.RowKit

theorem three_strs (w : World) (a b c : ByteArray) : StrsAt (w.alloc (.cells #[.string a, .string b, .string c] 9)) (some ⟨w.heap.size, 0, none⟩) [a, b, c] := by
  have h := RowAt.new w #[.string a, .string b, .string c] 9 (0, 0)
  intro i hi
  match i, hi with
  | 0, _ => exact ⟨_, 0, rfl, by simp, h.cell (i := 0) rfl⟩
  | 1, _ => exact ⟨_, 0, rfl, by simp, h.cell (i := 1) rfl⟩
  | 2, _ => exact ⟨_, 0, rfl, by simp, h.cell (i := 2) rfl⟩
/-- What both streams tell. -/
theorem stream_both (key nonce : ByteArray) (counter : BitVec 32) (n : Int) (h : n ≤ 2048 ∨ 65536 < n) : ∃ (e : Int) (l : List UInt8),
    (∀ w, Calls Try.prog 21 #[.string key, .int .u32 (bvi counter), .string nonce, .int .i64 n] w fun x w' => ∃ r, x = .returned (.tuple #[.string r, .int .i64 e]) ∧ Is r l ∧ Below w.heap.size w w') ∧
    (∀ w, Calls Try.prog 22 #[.string key, .int .u32 (bvi counter), .string nonce, .int .i64 n] w fun x w' => ∃ r, x = .returned (.tuple #[.string r, .int .i64 e]) ∧ Is r l ∧ Below w.heap.size w w') := by
  by_cases hg : (key.size = 32 ∧ nonce.size = 12) ∧ 0 ≤ n ∧ n ≤ 2048
  · obtain ⟨⟨hk, hn⟩, h0, h1⟩ := hg
    obtain ⟨m, rfl⟩ := Int.eq_ofNat_of_zero_le h0
    exact ⟨0, _, fun w => Stream_ok key nonce counter m hk hn (by omega) w, fun w => RStream_ok key nonce counter m hk hn (by omega) w⟩
  · have hb : ¬ (key.size = 32 ∧ nonce.size = 12) ∨ n < 0 ∨ 65536 < n := by
      by_cases hR : key.size = 32 ∧ nonce.size = 12
      · right
        by_cases h0 : n < 0
        · exact Or.inl h0
        · right
          rcases h with h | h
          · exact absurd ⟨hR, by omega, h⟩ hg
          · exact h
      · exact Or.inl hR
    exact ⟨5, [], fun w => (Stream_no key nonce counter n hb w).mono fun x w' ⟨h1, h2⟩ => ⟨_, h1, Is.of [], h2 ▸ Below.refl _ _⟩, fun w => (RStream_no key nonce counter n hb w).mono fun x w' ⟨h1, h2⟩ => ⟨_, h1, Is.of [], h2 ▸ Below.refl _ _⟩⟩
theorem turn_both (key nonce text : ByteArray) (counter : BitVec 32) (h : text.size ≤ 2048) : ∃ (e : Int) (l : List UInt8),
    (∀ w, Calls Try.prog 23 #[.string key, .int .u32 (bvi counter), .string nonce, .string text] w fun x w' => ∃ r, x = .returned (.tuple #[.string r, .int .i64 e]) ∧ Is r l ∧ Below w.heap.size w w') ∧
    (∀ w, Calls Try.prog 24 #[.string key, .int .u32 (bvi counter), .string nonce, .string text] w fun x w' => ∃ r, x = .returned (.tuple #[.string r, .int .i64 e]) ∧ Is r l ∧ Below w.heap.size w w') := by
  by_cases hg : key.size = 32 ∧ nonce.size = 12
  · exact ⟨0, _, fun w => Turn_ok key nonce text counter hg.1 hg.2 (by omega) w, fun w => RTurn_ok key nonce text counter hg.1 hg.2 (by omega) w⟩
  · exact ⟨5, [], fun w => (Turn_no key nonce text counter (Or.inl hg) w).mono fun x w' ⟨h1, h2⟩ => ⟨_, h1, Is.of [], h2 ▸ Below.refl _ _⟩, fun w => (RTurn_no key nonce text counter (Or.inl hg) w).mono fun x w' ⟨h1, h2⟩ => ⟨_, h1, Is.of [], h2 ▸ Below.refl _ _⟩⟩
theorem block_both (key nonce : ByteArray) (counter : BitVec 32) : ∃ (e : Int) (l : List UInt8),
    (∀ w, Calls Try.prog 19 #[.string key, .int .u32 (bvi counter), .string nonce] w fun x w' => ∃ r, x = .returned (.tuple #[.string r, .int .i64 e]) ∧ Is r l ∧ Below w.heap.size w w') ∧
    (∀ w, Calls Try.prog 20 #[.string key, .int .u32 (bvi counter), .string nonce] w fun x w' => ∃ r, x = .returned (.tuple #[.string r, .int .i64 e]) ∧ Is r l ∧ Below w.heap.size w w') := by
  by_cases hg : key.size = 32 ∧ nonce.size = 12
  · exact ⟨0, _, fun w => Block_ok key nonce counter hg.1 hg.2 w, fun w => RBlock_ok key nonce counter hg.1 hg.2 w⟩
  · exact ⟨5, [], fun w => (Block_no key nonce counter hg w).mono fun x w' ⟨h1, h2⟩ => ⟨_, h1, Is.of [], h2 ▸ Below.refl _ _⟩, fun w => (RBlock_no key nonce counter hg w).mono fun x w' ⟨h1, h2⟩ => ⟨_, h1, Is.of [], h2 ▸ Below.refl _ _⟩⟩
set_option maxRecDepth 100000 in
set_option maxHeartbeats 2000000 in
theorem ChachaStreams_w (key : ByteArray) (counter : BitVec 32) (nonce text : ByteArray) (n : Int) (w : World) :
    Calls Try.prog 4 #[.string key, .int .u32 (bvi counter), .string nonce, .string text, .int .i64 n] w fun e w' => e = .returned (.bool true) ∧ Below w.heap.size w w' := by
  by_cases hL : largeB [key, nonce, text] = true
  · go_enter Try.func4, Try.ntmps4
    go_wp2_with fail
    refine (awake04 _).mono ?_
    rintro e w1 ⟨rfl, hb1⟩
    have HB1 := Lib.hid hb1
    clear hb1
    go_wp2_with fail
    refine (large04 _ _ [key, nonce, text] _ (three_strs w1 key nonce text) (by simp)).mono ?_
    rintro e w2 ⟨rfl, rfl⟩
    have HB2 := Lib.hid (HB1.out.alloc HB1.out.size (.cells #[.string key, .string nonce, .string text] 9))
    rw [hL]
    go_wp2_with fail
    go_ret
    exact ⟨rfl, HB2.out⟩
  · have hL0 : largeB [key, nonce, text] = false := by simpa using hL
    have htx : text.size ≤ 2048 := by
      unfold largeB at hL0
      simp at hL0
      omega
    have HL := Lib.hid hL0
    clear hL hL0
    by_cases hmid : 2048 < n ∧ n ≤ 65536
    · have g1 : decide ((2048 : Int) < n) = true := decide_eq_true hmid.1
      have g2 : decide (n ≤ (65536 : Int)) = true := decide_eq_true hmid.2
      clear hmid
      go_enter Try.func4, Try.ntmps4
      go_wp2_with fail
      refine (awake04 _).mono ?_
      rintro e w1 ⟨rfl, hb1⟩
      have HB1 := Lib.hid hb1
      clear hb1
      go_wp2_with fail
      refine (large04 _ _ [key, nonce, text] _ (three_strs w1 key nonce text) (by simp)).mono ?_
      rintro e w2 ⟨rfl, rfl⟩
      have HB2 := Lib.hid (HB1.out.alloc HB1.out.size (.cells #[.string key, .string nonce, .string text] 9))
      rw [HL.out]
      go_wp2_with fail
      go_ret
      exact ⟨rfl, HB2.out⟩
    · have hn : n ≤ 2048 ∨ 65536 < n := by omega
      obtain ⟨e1, l1, sb⟩ := stream_both key nonce counter n hn
      obtain ⟨e2, l2, tb⟩ := turn_both key nonce text counter htx
      have SB := Lib.hid sb
      have TB := Lib.hid tb
      clear sb tb hmid
      rcases hn with hn | hn
      · have g1 : decide ((2048 : Int) < n) = false := decide_eq_false (by omega)
        clear hn
        go_enter Try.func4, Try.ntmps4
        go_wp2_with fail
        refine (awake04 _).mono ?_
        rintro e w1 ⟨rfl, hb1⟩
        have HB1 := Lib.hid hb1
        clear hb1
        go_wp2_with fail
        refine (large04 _ _ [key, nonce, text] _ (three_strs w1 key nonce text) (by simp)).mono ?_
        rintro e w2 ⟨rfl, rfl⟩
        have HB2 := Lib.hid (HB1.out.alloc HB1.out.size (.cells #[.string key, .string nonce, .string text] 9))
        rw [HL.out]
        go_wp2_with fail
        refine (SB.out.1 _).mono ?_
        rintro e w3 ⟨r3, rfl, hr3, hb3⟩
        go_wp2_with fail
        refine (SB.out.2 _).mono ?_
        rintro e w4 ⟨r4, rfl, hr4, hb4⟩
        have q1 : seq r3 r4 = true := seq_is hr3 hr4
        have HB4 := Lib.hid (bthen (bthen HB2.out hb3) hb4)
        clear hr3 hr4 hb3 hb4
        go_wp2_with fail
        refine (TB.out.1 _).mono ?_
        rintro e w5 ⟨r5, rfl, hr5, hb5⟩
        go_wp2_with fail
        refine (TB.out.2 _).mono ?_
        rintro e w6 ⟨r6, rfl, hr6, hb6⟩
        have q2 : seq r5 r6 = true := seq_is hr5 hr6
        have HB6 := Lib.hid (bthen (bthen HB4.out hb5) hb6)
        clear hr5 hr6 hb5 hb6
        go_wp2_with fail
        go_ret
        exact ⟨rfl, HB6.out⟩
      · have g1 : decide ((2048 : Int) < n) = true := decide_eq_true (by omega)
        have g2 : decide (n ≤ (65536 : Int)) = false := decide_eq_false (by omega)
        clear hn
        go_enter Try.func4, Try.ntmps4
        go_wp2_with fail
        refine (awake04 _).mono ?_
        rintro e w1 ⟨rfl, hb1⟩
        have HB1 := Lib.hid hb1
        clear hb1
        go_wp2_with fail
        refine (large04 _ _ [key, nonce, text] _ (three_strs w1 key nonce text) (by simp)).mono ?_
        rintro e w2 ⟨rfl, rfl⟩
        have HB2 := Lib.hid (HB1.out.alloc HB1.out.size (.cells #[.string key, .string nonce, .string text] 9))
        rw [HL.out]
        go_wp2_with fail
        refine (SB.out.1 _).mono ?_
        rintro e w3 ⟨r3, rfl, hr3, hb3⟩
        go_wp2_with fail
        refine (SB.out.2 _).mono ?_
        rintro e w4 ⟨r4, rfl, hr4, hb4⟩
        have q1 : seq r3 r4 = true := seq_is hr3 hr4
        have HB4 := Lib.hid (bthen (bthen HB2.out hb3) hb4)
        clear hr3 hr4 hb3 hb4
        go_wp2_with fail
        refine (TB.out.1 _).mono ?_
        rintro e w5 ⟨r5, rfl, hr5, hb5⟩
        go_wp2_with fail
        refine (TB.out.2 _).mono ?_
        rintro e w6 ⟨r6, rfl, hr6, hb6⟩
        have q2 : seq r5 r6 = true := seq_is hr5 hr6
        have HB6 := Lib.hid (bthen (bthen HB4.out hb5) hb6)
        clear hr5 hr6 hb5 hb6
        go_wp2_with fail
        go_ret
        exact ⟨rfl, HB6.out⟩

end Go.Proofs.Ytjcakokhfjlihaa
