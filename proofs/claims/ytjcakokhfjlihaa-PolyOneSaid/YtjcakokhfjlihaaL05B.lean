/-
  Layer 5's laws, walked: PolyTells, PolySizes.
-/
import Derived.Test.YtjcakokhfjlihaaL05A
import Derived.Test.YtjcakokhfjlihaaRpolyC
namespace Go.Proofs.Ytjcakokhfjlihaa
open Go.RowKit

/-- What a text of the wrong size is told. -/
def errC (s : ByteArray) : Int := if s.size = 16 then 0 else 5
def clampA (s : ByteArray) : List UInt8 := if s.size = 16 then clampL s.data.toList else []
theorem Clamp_any (s : ByteArray) (w : World) :
    Calls Try.prog 29 #[.string s] w fun e w' => ∃ r, e = .returned (.tuple #[.string r, .int .i64 (errC s)]) ∧ Is r (clampA s) ∧ Below w.heap.size w w' := by
  by_cases h : s.size = 16
  · unfold errC clampA
    rw [if_pos h, if_pos h]
    exact Clamp_ok s h w
  · unfold errC clampA
    rw [if_neg h, if_neg h]
    refine (Clamp_no s h w).mono ?_
    rintro e w' ⟨rfl, rfl⟩
    exact ⟨_, rfl, Is.empty, Below.refl _ _⟩
theorem RClamp_any (s : ByteArray) (w : World) :
    Calls Try.prog 30 #[.string s] w fun e w' => ∃ r, e = .returned (.tuple #[.string r, .int .i64 (errC s)]) ∧ Is r (clampA s) ∧ Below w.heap.size w w' := by
  by_cases h : s.size = 16
  · unfold errC clampA
    rw [if_pos h, if_pos h]
    exact RClamp_ok s h w
  · unfold errC clampA
    rw [if_neg h, if_neg h]
    refine (RClamp_no s h w).mono ?_
    rintro e w' ⟨rfl, rfl⟩
    exact ⟨_, rfl, Is.empty, Below.refl _ _⟩

set_option maxRecDepth 100000 in
set_option maxHeartbeats 2000000 in
theorem PolyTells_w (key text tag : ByteArray) (w : World) :
    Calls Try.prog 9 #[.string key, .string text, .string tag] w fun e w' => e = .returned (.bool true) ∧ Below w.heap.size w w' := by
  rcases Nat.lt_or_ge 1024 key.size with hk | hk
  · go_enter Try.func9, Try.ntmps9
    go_wp2_with fail
    refine (awake05 _).mono ?_
    rintro e w1 ⟨rfl, hb1⟩
    go_wp2_with fail
    go_ret
    exact ⟨rfl, hb1⟩
  rcases Nat.lt_or_ge 1024 text.size with ht | ht
  · go_enter Try.func9, Try.ntmps9
    go_wp2_with fail
    refine (awake05 _).mono ?_
    rintro e w1 ⟨rfl, hb1⟩
    go_wp2_with fail
    go_ret
    exact ⟨rfl, hb1⟩
  rcases Nat.lt_or_ge 1024 tag.size with hg | hg
  · go_enter Try.func9, Try.ntmps9
    go_wp2_with fail
    refine (awake05 _).mono ?_
    rintro e w1 ⟨rfl, hb1⟩
    go_wp2_with fail
    go_ret
    exact ⟨rfl, hb1⟩
  by_cases h32 : key.size = 32
  · have H32 := Lib.hid h32
    clear h32
    go_enter Try.func9, Try.ntmps9
    go_wp2_with fail
    refine (awake05 _).mono ?_
    rintro e w1 ⟨rfl, hb1⟩
    have HB1 := Lib.hid hb1
    clear hb1
    go_wp2_with fail
    refine (Tag_ok key text H32.out (by omega) _).mono ?_
    rintro e w2 ⟨r2, rfl, hr2, hb2⟩
    have HR2 := Lib.hid hr2
    have HB2 := Lib.hid (bthen HB1.out hb2)
    clear hr2 hb2
    go_wp2_with fail
    refine (RTag_ok key text H32.out (by omega) _).mono ?_
    rintro e w3 ⟨r3, rfl, hr3, hb3⟩
    have HR3 := Lib.hid hr3
    have HB3 := Lib.hid (bthen HB2.out hb3)
    clear hr3 hb3
    go_wp2_with fail
    refine (Clamp_any tag _).mono ?_
    rintro e w4 ⟨r4, rfl, hr4, hb4⟩
    have HR4 := Lib.hid hr4
    have HB4 := Lib.hid (bthen HB3.out hb4)
    clear hr4 hb4
    go_wp2_with fail
    refine (RClamp_any tag _).mono ?_
    rintro e w5 ⟨r5, rfl, hr5, hb5⟩
    have HR5 := Lib.hid hr5
    have HB5 := Lib.hid (bthen HB4.out hb5)
    clear hr5 hb5
    generalize errC tag = er
    go_wp2_with fail
    refine (New_walk key H32.out _).mono ?_
    rintro e w6 ⟨b, rfl, _, _, hb6⟩
    have HB6 := Lib.hid (bthen HB5.out hb6)
    clear hb6
    obtain ⟨B, hB⟩ : ∃ B : Bool, decide (tagL key.data.toList text.data.toList = tag.data.toList) = B := ⟨_, rfl⟩
    have q1 : seq r2 r3 = true := seq_is HR2.out HR3.out
    have q2 : seq r4 r5 = true := seq_is HR4.out HR5.out
    have q3 : seq tag r3 = B := by
      rw [seq_eq (Is.self tag) HR3.out, ← hB, Bool.eq_iff_iff, decide_eq_true_iff, decide_eq_true_iff]
      exact eq_comm
    have HBE := Lib.hid hB
    clear hB
    go_wp2_with fail
    refine (Check_is key text tag B H32.out (by omega) HBE.out _).mono ?_
    rintro e w7 ⟨rfl, hb7⟩
    have HB7 := Lib.hid (bthen HB6.out hb7)
    clear hb7
    cases B
    · go_wp2_with fail
      go_ret
      exact ⟨rfl, HB7.out⟩
    · go_wp2_with fail
      go_ret
      exact ⟨rfl, HB7.out⟩
  · have H32 := Lib.hid h32
    clear h32
    go_enter Try.func9, Try.ntmps9
    go_wp2_with fail
    refine (awake05 _).mono ?_
    rintro e w1 ⟨rfl, hb1⟩
    have HB1 := Lib.hid hb1
    clear hb1
    go_wp2_with fail
    refine (Tag_no key text H32.out _).mono ?_
    rintro e w2 ⟨rfl, rfl⟩
    go_wp2_with fail
    refine (RTag_no key text H32.out _).mono ?_
    rintro e w3 ⟨rfl, rfl⟩
    go_wp2_with fail
    refine (Clamp_any tag _).mono ?_
    rintro e w4 ⟨r4, rfl, hr4, hb4⟩
    have HR4 := Lib.hid hr4
    have HB4 := Lib.hid (bthen HB1.out hb4)
    clear hr4 hb4
    go_wp2_with fail
    refine (RClamp_any tag _).mono ?_
    rintro e w5 ⟨r5, rfl, hr5, hb5⟩
    have HR5 := Lib.hid hr5
    have HB5 := Lib.hid (bthen HB4.out hb5)
    clear hr5 hb5
    generalize errC tag = er
    go_wp2_with fail
    refine (New_no key H32.out _).mono ?_
    rintro e w6 ⟨rfl, rfl⟩
    have q1 : seq ByteArray.empty ByteArray.empty = true := seq_self _
    have q2 : seq r4 r5 = true := seq_is HR4.out HR5.out
    go_wp2_with fail
    refine (Check_no key text tag H32.out _).mono ?_
    rintro e w7 ⟨rfl, rfl⟩
    go_wp2_with fail
    go_ret
    exact ⟨rfl, HB5.out⟩

set_option maxRecDepth 100000 in
set_option maxHeartbeats 2000000 in
theorem PolySizes_w (key text : ByteArray) (w : World) :
    Calls Try.prog 14 #[.string key, .string text] w fun e w' => e = .returned (.bool true) ∧ Below w.heap.size w w' := by
  rcases Nat.lt_or_ge 1024 key.size with hk | hk
  · go_enter Try.func14, Try.ntmps14
    go_wp2_with fail
    refine (awake05 _).mono ?_
    rintro e w1 ⟨rfl, hb1⟩
    go_wp2_with fail
    go_ret
    exact ⟨rfl, hb1⟩
  rcases Nat.lt_or_ge 1024 text.size with ht | ht
  · go_enter Try.func14, Try.ntmps14
    go_wp2_with fail
    refine (awake05 _).mono ?_
    rintro e w1 ⟨rfl, hb1⟩
    go_wp2_with fail
    go_ret
    exact ⟨rfl, hb1⟩
  by_cases h32 : key.size = 32
  · have H32 := Lib.hid h32
    have hne : ((key.size : Int) != 32) = false := by simp [h32]
    clear h32
    go_enter Try.func14, Try.ntmps14
    go_wp2_with fail
    refine (awake05 _).mono ?_
    rintro e w1 ⟨rfl, hb1⟩
    have HB1 := Lib.hid hb1
    clear hb1
    go_wp2_with fail
    refine (Tag_ok key text H32.out (by omega) _).mono ?_
    rintro e w2 ⟨r, rfl, hr, hb2⟩
    have HR := Lib.hid hr
    have hz : r.size = 16 := by rw [hr.size, tagL_length]
    have hz15 : 15 ≤ r.size := by omega
    have hzi : ((r.size : Int) == 16) = true := by rw [hz]; rfl
    have HZ := Lib.hid hz
    have hov : r.size + 1 ≤ 9223372036854775807 := by omega
    have HB2 := Lib.hid (bthen HB1.out hb2)
    have HX1 := Lib.hid (show decide (tagL key.data.toList text.data.toList = (r.extract 0 15).data.toList) = false from decide_eq_false (fun e => by
      have h1 := congrArg List.length e
      rw [tagL_length, Array.length_toList] at h1
      have h2 : (r.extract 0 15).size = 16 := h1.symm
      rw [ByteArray.size_extract] at h2
      omega))
    have HX2 := Lib.hid (show decide (tagL key.data.toList text.data.toList = (r ++ (⟨#[0]⟩ : ByteArray)).data.toList) = false from decide_eq_false (fun e => by
      have h1 := congrArg List.length e
      rw [tagL_length, Array.length_toList] at h1
      have h2 : (r ++ (⟨#[0]⟩ : ByteArray)).size = 16 := h1.symm
      have h3 : (⟨#[0]⟩ : ByteArray).size = 1 := rfl
      rw [ByteArray.size_append, hz, h3] at h2
      omega))
    clear hr hb2 hz
    go_wp2_with fail
    refine (Check_is key text r true H32.out (by omega) (by rw [HR.out.out]; exact decide_eq_true rfl) _).mono ?_
    rintro e w3 ⟨rfl, hb3⟩
    have HB3 := Lib.hid (bthen HB2.out hb3)
    clear hb3
    go_wp2_with fail
    refine (Check_is key text _ false H32.out (by omega) HX1.out _).mono ?_
    rintro e w4 ⟨rfl, hb4⟩
    have HB4 := Lib.hid (bthen HB3.out hb4)
    clear hb4
    go_wp2_with fail
    refine (Check_is key text _ false H32.out (by omega) HX2.out _).mono ?_
    rintro e w5 ⟨rfl, hb5⟩
    have HB5 := Lib.hid (bthen HB4.out hb5)
    clear hb5
    go_wp2_with fail
    go_ret
    exact ⟨rfl, HB5.out⟩
  · have H32 := Lib.hid h32
    have hne : ((key.size : Int) != 32) = true := by simp; omega
    clear h32
    go_enter Try.func14, Try.ntmps14
    go_wp2_with fail
    refine (awake05 _).mono ?_
    rintro e w1 ⟨rfl, hb1⟩
    have HB1 := Lib.hid hb1
    clear hb1
    go_wp2_with fail
    refine (Tag_no key text H32.out _).mono ?_
    rintro e w2 ⟨rfl, rfl⟩
    have q1 : seq ByteArray.empty ⟨#[]⟩ = true := seq_self _
    go_wp2_with fail
    refine (Check_no key text ⟨#[]⟩ H32.out _).mono ?_
    rintro e w3 ⟨rfl, rfl⟩
    go_wp2_with fail
    go_ret
    exact ⟨rfl, HB1.out⟩
end Go.Proofs.Ytjcakokhfjlihaa
