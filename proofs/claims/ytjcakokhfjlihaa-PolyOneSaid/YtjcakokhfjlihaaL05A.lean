/-
  Layer 5's laws: 'awake' is true.
-/
import Derived.Test.YtjcakokhfjlihaaPolyE
import Derived.Test.YtjcakokhfjlihaaOpen
namespace Go.Proofs.Ytjcakokhfjlihaa
open Go.RowKit

def keyF : List UInt8 := [133, 214, 190, 120, 87, 85, 109, 51, 127, 68, 82, 254, 66, 213, 6, 168, 1, 3, 128, 138, 251, 13, 178, 253, 74, 191, 246, 175, 65, 73, 245, 27]
def textF : List UInt8 := [67, 114, 121, 112, 116, 111, 103, 114, 97, 112, 104, 105, 99, 32, 70, 111, 114, 117, 109, 32, 82, 101, 115, 101, 97, 114, 99, 104, 32, 71, 114, 111, 117, 112]
def tagF : List UInt8 := [168, 6, 29, 193, 48, 81, 54, 198, 194, 43, 139, 175, 12, 1, 39, 169]
theorem tagF_is : tagL keyF textF = tagF := by decide +kernel
theorem tagF_not : tagL keyF [] ≠ tagF := by decide +kernel
theorem clampF_is : clampL (List.replicate 16 255) = [255, 255, 255, 15, 252, 255, 255, 15, 252, 255, 255, 15, 252, 255, 255, 15] := by decide +kernel
theorem ff_str (wx : World) : (convert 38 9 (.slice (some ⟨wx.heap.size, 0, none⟩) 16 16)).run Try.prog (wx.alloc (.cells #[.int .u8 255, .int .u8 255, .int .u8 255, .int .u8 255, .int .u8 255, .int .u8 255, .int .u8 255, .int .u8 255, .int .u8 255, .int .u8 255, .int .u8 255, .int .u8 255, .int .u8 255, .int .u8 255, .int .u8 255, .int .u8 255] 5)) =
    .ok (.string ⟨(List.replicate 16 255).toArray⟩) (wx.alloc (.cells #[.int .u8 255, .int .u8 255, .int .u8 255, .int .u8 255, .int .u8 255, .int .u8 255, .int .u8 255, .int .u8 255, .int .u8 255, .int .u8 255, .int .u8 255, .int .u8 255, .int .u8 255, .int .u8 255, .int .u8 255, .int .u8 255] 5)) :=
  run_str (wx.alloc (.cells #[.int .u8 255, .int .u8 255, .int .u8 255, .int .u8 255, .int .u8 255, .int .u8 255, .int .u8 255, .int .u8 255, .int .u8 255, .int .u8 255, .int .u8 255, .int .u8 255, .int .u8 255, .int .u8 255, .int .u8 255, .int .u8 255] 5)) 38 5 Try.underlying38 Try.underlying5 9 Try.underlying9 wx.heap.size 16 16 _ _ _ (List.replicate 16 255) (RowAt.new wx _ _ _) (by simp) rfl
def ffS : ByteArray := ⟨(List.replicate 16 255).toArray⟩
theorem ffS_is : Is ffS (List.replicate 16 255) := Is.of _
theorem ffS_size : ffS.size = 16 := by rw [ffS_is.size]; rfl
theorem ff_str' (wx : World) : (convert 38 9 (.slice (some ⟨wx.heap.size, 0, none⟩) 16 16)).run Try.prog (wx.alloc (.cells #[.int .u8 255, .int .u8 255, .int .u8 255, .int .u8 255, .int .u8 255, .int .u8 255, .int .u8 255, .int .u8 255, .int .u8 255, .int .u8 255, .int .u8 255, .int .u8 255, .int .u8 255, .int .u8 255, .int .u8 255, .int .u8 255] 5)) =
    .ok (.string ffS) (wx.alloc (.cells #[.int .u8 255, .int .u8 255, .int .u8 255, .int .u8 255, .int .u8 255, .int .u8 255, .int .u8 255, .int .u8 255, .int .u8 255, .int .u8 255, .int .u8 255, .int .u8 255, .int .u8 255, .int .u8 255, .int .u8 255, .int .u8 255] 5)) := ff_str wx

theorem Tag_is (key text : ByteArray) (r : List UInt8) (hk : key.size = 32) (ht : text.size ≤ 140737488351232) (hr : tagL key.data.toList text.data.toList = r) (w : World) :
    Calls Try.prog 27 #[.string key, .string text] w fun e w' => ∃ s, e = .returned (.tuple #[.string s, .int .i64 0]) ∧ Is s r ∧ Below w.heap.size w w' := by
  subst hr; exact Tag_ok key text hk ht w
theorem Check_is (key text tag : ByteArray) (b : Bool) (hk : key.size = 32) (ht : text.size ≤ 140737488351232) (hb : decide (tagL key.data.toList text.data.toList = tag.data.toList) = b) (w : World) :
    Calls Try.prog 32 #[.string key, .string text, .string tag] w fun e w' => e = .returned (.bool b) ∧ Below w.heap.size w w' := by
  subst hb; exact Check_ok key text tag hk ht w

set_option maxRecDepth 100000 in
set_option maxHeartbeats 2000000 in
theorem awake05 (w : World) : Calls Try.prog 26 #[] w fun e w' => e = .returned (.bool true) ∧ Below w.heap.size w w' := by
  have hff := ff_str'
  obtain ⟨K, hK⟩ : ∃ K : ByteArray, K = ⟨#[133, 214, 190, 120, 87, 85, 109, 51, 127, 68, 82, 254, 66, 213, 6, 168, 1, 3, 128, 138, 251, 13, 178, 253, 74, 191, 246, 175, 65, 73, 245, 27]⟩ := ⟨_, rfl⟩
  obtain ⟨X, hX⟩ : ∃ X : ByteArray, X = ⟨#[67, 114, 121, 112, 116, 111, 103, 114, 97, 112, 104, 105, 99, 32, 70, 111, 114, 117, 109, 32, 82, 101, 115, 101, 97, 114, 99, 104, 32, 71, 114, 111, 117, 112]⟩ := ⟨_, rfl⟩
  have HKI := Lib.hid (show K.data.toList = keyF by rw [hK]; rfl)
  have HKZ := Lib.hid (show K.size = 32 by rw [hK]; rfl)
  have HXI := Lib.hid (show X.data.toList = textF by rw [hX]; rfl)
  have HXZ := Lib.hid (show X.size ≤ 140737488351232 by rw [hX]; decide)
  have HK := Lib.hid hK
  have HX := Lib.hid hX
  clear hK hX
  go_enter Try.func26, Try.ntmps26
  go_wp2_with fail
  rw [← HK.out, ← HX.out]
  refine (Tag_is K X tagF HKZ.out HXZ.out (by rw [HKI.out, HXI.out]; exact tagF_is) _).mono ?_
  rintro e w1 ⟨t, rfl, ht, hb1⟩
  have htz : t.size = 16 := by rw [ht.size]; rfl
  have HT := Lib.hid ht
  have HB1 := Lib.hid hb1
  clear ht hb1
  go_wp2_with fail
  refine (New_walk K HKZ.out _).mono ?_
  rintro e w2 ⟨b, rfl, hwb, hp, hb2⟩
  have HB2 := Lib.hid (bthen HB1.out hb2)
  have HP := Lib.hid hp
  have hwb2 : w.heap.size ≤ b := Nat.le_trans HB1.out.size hwb
  clear hb2 hp hwb
  go_wp2_with fail
  refine (New_no ⟨#[]⟩ (by decide) _).mono ?_
  rintro e w2' ⟨rfl, rfl⟩
  go_wp2_with fail
  refine (Clamp_ok ffS ffS_size _).mono ?_
  rintro e w3 ⟨c, rfl, hc, hb3⟩
  rw [ffS_is.out, clampF_is] at hc
  have hbw : Below w2.heap.size w2 w3 := Below.trans ((Below.refl _ _).alloc (Nat.le_refl _) _) (hb3.mono (by simp))
  have HC := Lib.hid hc
  have HB3 := Lib.hid (bthen HB2.out hbw)
  have HP3 := Lib.hid (HP.out.below hbw HP.out.lt)
  clear hb3 hbw hff hc
  go_wp2_with fail
  refine (AddK_walk b _ [] ⟨#[67, 114, 121, 112, 116, 111, 103, 114, 97, 112, 104, 105, 99, 32, 70, 111, 114, 117, 109]⟩ (by decide) _ HP3.out).mono ?_
  rintro e w4 ⟨rfl, hp4, ho4⟩
  have HB4 := Lib.hid (HB3.out.trans (ho4.below hwb2 HB3.out.size))
  have HP4 := Lib.hid hp4
  clear hp4 ho4
  go_wp2_with fail
  refine (AddK_walk b _ _ ⟨#[32, 82, 101, 115, 101, 97, 114, 99, 104, 32, 71, 114, 111, 117, 112]⟩ (by decide) _ HP4.out).mono ?_
  rintro e w5 ⟨rfl, hp5, ho5⟩
  have HB5 := Lib.hid (HB4.out.trans (ho5.below hwb2 HB4.out.size))
  have HP5 := Lib.hid (show PolyK w5 b K.data.toList textF from hp5)
  clear hp5 ho5
  have q1 : seq t ⟨#[168, 6, 29, 193, 48, 81, 54, 198, 194, 43, 139, 175, 12, 1, 39, 169]⟩ = true := seq_is HT.out (Is.of tagF)
  have q2 : seq c ⟨#[255, 255, 255, 15, 252, 255, 255, 15, 252, 255, 255, 15, 252, 255, 255, 15]⟩ = true := seq_is HC.out (Is.of [255, 255, 255, 15, 252, 255, 255, 15, 252, 255, 255, 15, 252, 255, 255, 15])
  go_wp2_with fail
  refine (TagK_walk b _ _ (by rw [HKI.out]; rfl) _ HP5.out).mono ?_
  rw [HKI.out, tagF_is]
  rintro e w6 ⟨t6, rfl, ht6, hb6⟩
  have q3 : seq t6 t = true := seq_is ht6 HT.out
  have HB6 := Lib.hid (bthen HB5.out hb6)
  clear ht6 hb6
  go_wp2_with fail
  rw [← HX.out]
  refine (Check_is K X t true HKZ.out HXZ.out (by rw [HKI.out, HXI.out, tagF_is, HT.out.out]; rfl) _).mono ?_
  rintro e w7 ⟨rfl, hb7⟩
  have HB7 := Lib.hid (bthen HB6.out hb7)
  clear hb7
  go_wp2_with fail
  refine (Check_is K ⟨#[]⟩ t false HKZ.out (by decide) (by rw [HKI.out, HT.out.out]; exact decide_eq_false tagF_not) _).mono ?_
  rintro e w8 ⟨rfl, hb8⟩
  have HB8 := Lib.hid (bthen HB7.out hb8)
  clear hb8
  go_wp2_with fail
  go_ret
  exact ⟨rfl, HB8.out⟩
end Go.Proofs.Ytjcakokhfjlihaa
