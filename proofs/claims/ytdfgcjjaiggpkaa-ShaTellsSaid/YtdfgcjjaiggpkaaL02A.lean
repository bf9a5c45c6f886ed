/-
  Layer 2's laws: 'awake' is true; ShaTells.
-/
import Derived.Test.YtdfgcjjaiggpkaaShaD
import Derived.Test.YtdfgcjjaiggpkaaRshaC
import Derived.Test.YtdfgcjjaiggpkaaOpen
namespace Go.Proofs.Ytdfgcjjaiggpkaa
open Go.RowKit

theorem sha_abc : shaL [97, 98, 99] = [186, 120, 22, 191, 143, 1, 207, 234, 65, 65, 64, 222, 93, 174, 34, 35, 176, 3, 97, 163, 150, 23, 122, 156, 180, 16, 255, 97, 242, 0, 21, 173] := by decide +kernel
theorem u64_eql (a b : BitVec 64) (h : a = b) : (bvi a == bvi b) = true := by rw [h]; simp
set_option maxRecDepth 100000 in
set_option maxHeartbeats 2000000 in
theorem awake02 (w : World) : Calls Try.prog 15 #[] w fun e w' => e = .returned (.bool true) ∧ Below w.heap.size w w' := by
  obtain ⟨q, hq⟩ : ∃ q, Is q (shaL [97, 98, 99]) := ⟨_, Is.of _⟩
  have HQ := Lib.hid hq
  obtain ⟨pd, hpd⟩ : ∃ pd, Is pd (padL 3#64) := ⟨_, Is.of _⟩
  have HPD := Lib.hid hpd
  have HPZ := Lib.hid (show pd.size = 61 by rw [hpd.size]; decide)
  clear hq hpd
  go_enter Try.func15, Try.ntmps15
  go_wp2_with fail
  refine (ShaNew_walk _).mono ?_
  rintro e w1 ⟨rfl, h1, hz1, hb1⟩
  obtain ⟨b, hb⟩ : ∃ b, b = w1.heap.size - 1 := ⟨_, rfl⟩
  have hwb : w.heap.size ≤ b := by omega
  rw [← hb] at h1 ⊢
  have H1 := Lib.hid h1
  have HB1 := Lib.hid hb1
  clear hb h1 hb1
  go_wp2_with fail
  refine (HAdd_walk b [] ⟨#[97]⟩ (by decide) _ H1.out).mono ?_
  rintro e w2 ⟨rfl, h2, ho2⟩
  have H2 := Lib.hid (show HashAt w2 b [97] from h2)
  have HB2 := Lib.hid (HB1.out.trans (ho2.below hwb HB1.out.size))
  clear h2 ho2
  go_wp2_with fail
  refine (HAdd_walk b [97] ⟨#[98, 99]⟩ (by decide) _ H2.out).mono ?_
  rintro e w3 ⟨rfl, h3, ho3⟩
  have H3 := Lib.hid (show HashAt w3 b [97, 98, 99] from h3)
  have HB3 := Lib.hid (HB2.out.trans (ho3.below hwb HB2.out.size))
  clear h3 ho3
  go_wp2_with fail
  refine (First_walk _).mono ?_
  rintro e w4 ⟨rfl, hb4⟩
  have H4 := Lib.hid (H3.out.below hb4 H3.out.lt)
  have HB4 := Lib.hid (bthen HB3.out hb4)
  clear hb4
  go_wp2_with fail
  refine (Mix_no firstS rfl ⟨#[120]⟩ (by decide) _).mono ?_
  rintro e w5 ⟨rfl, hb5⟩
  have H5 := Lib.hid (H4.out.below hb5 H4.out.lt)
  have HB5 := Lib.hid (bthen HB4.out hb5)
  clear hb5
  go_wp2_with (with_reducible refine wpList_store_rowTo rfl 27 (.tmp 2) (.tmp 14) rfl rfl w5.heap.size (words zero8).toArray ?h1 ?h2 27 (words zero8).toArray ?h0 ?h3 ?h4 ?h5 ?_)
  case h1 => rfl
  case h2 => rfl
  case h0 => exact (RowAt.new w5 _ _ _).out
  case h3 => exact w8_info _ rfl
  case h4 => rfl
  case h5 => exact wordsS_cells _
  rw [World.setRow_alloc_new]
  have H6 := Lib.hid (H5.out.below ((Below.refl w5.heap.size w5).alloc (Nat.le_refl _) (.cells (words zero8).toArray 27)) H5.out.lt)
  have HB6 := Lib.hid (below_alloc' HB5.out (.cells (words zero8).toArray 27))
  generalize w5.alloc (.cells (words zero8).toArray 27) = w6 at H6 HB6 ⊢
  refine (ShaSum_walk ⟨#[97, 98, 99]⟩ (by decide) q HQ.out _).mono ?_
  rintro e w7 ⟨rfl, hb7⟩
  have H7 := Lib.hid (H6.out.below hb7 H6.out.lt)
  have HB7 := Lib.hid (bthen HB6.out hb7)
  have hq1 : seq q ⟨#[186, 120, 22, 191, 143, 1, 207, 234, 65, 65, 64, 222, 93, 174, 34, 35, 176, 3, 97, 163, 150, 23, 122, 156, 180, 16, 255, 97, 242, 0, 21, 173]⟩ = true := by
    have h := HQ.out
    rw [sha_abc] at h
    exact seq_is h (Is.self _)
  clear hb7
  go_wp2_with fail
  refine (HSum_walk b [97, 98, 99] q HQ.out _ H7.out).mono ?_
  rintro e w8 ⟨rfl, hb8⟩
  have H8 := Lib.hid (H7.out.below hb8 H7.out.lt)
  have HB8 := Lib.hid (bthen HB7.out hb8)
  clear hb8
  go_wp2_with fail
  refine (ShaSum_walk ⟨#[97, 98, 99]⟩ (by decide) q HQ.out _).mono ?_
  rintro e w9 ⟨rfl, hb9⟩
  have H9 := Lib.hid (H8.out.below hb9 H8.out.lt)
  have HB9 := Lib.hid (bthen HB8.out hb9)
  have hq2 := seq_self q
  clear hb9
  go_wp2_with fail
  refine (HLen_walk b [97, 98, 99] _ H9.out).mono ?_
  rintro e w10 ⟨rfl, rfl⟩
  have hl3 : (bvi (BitVec.ofNat 64 ([97, 98, 99] : List UInt8).length) == 3) = true := rfl
  go_wp2_with fail
  refine (Pad_as 3#64 pd HPD.out _).mono ?_
  rintro e w11 ⟨rfl, hb11⟩
  have HB11 := Lib.hid (bthen HB9.out hb11)
  have hp := HPZ.out
  go_wp2_with fail
  go_ret
  exact ⟨rfl, HB11.out⟩

set_option maxRecDepth 100000 in
set_option maxHeartbeats 1000000 in
theorem ShaTells_w (text : ByteArray) (w : World) : Calls Try.prog 3 #[.string text] w fun e w' => e = .returned (.bool true) ∧ Below w.heap.size w w' := by
  obtain ⟨q, hq⟩ : ∃ q, Is q (shaL text.data.toList) := ⟨_, Is.of _⟩
  have HQ := Lib.hid hq
  clear hq
  go_enter Try.func3, Try.ntmps3
  go_wp2_with fail
  refine (awake02 _).mono ?_
  rintro e w1 ⟨rfl, hb1⟩
  have HB1 := Lib.hid hb1
  clear hb1
  rcases Nat.lt_or_ge 4096 text.size with ht | ht
  · go_wp2_with fail
    go_ret
    exact ⟨rfl, HB1.out⟩
  · have hd : decide (4096 < (text.size : Int)) = false := decide_eq_false (by omega)
    go_wp2_with fail
    refine (ShaSum_walk text (by omega) q HQ.out _).mono ?_
    rintro e w2 ⟨rfl, hb2⟩
    have HB2 := Lib.hid (bthen HB1.out hb2)
    clear hb2
    go_wp2_with fail
    refine (RSum_walk text (by omega) q HQ.out _).mono ?_
    rintro e w3 ⟨rfl, hb3⟩
    have HB3 := Lib.hid (bthen HB2.out hb3)
    have hq2 := seq_self q
    clear hb3
    go_wp2_with fail
    go_ret
    exact ⟨rfl, HB3.out⟩
end Go.Proofs.Ytdfgcjjaiggpkaa
