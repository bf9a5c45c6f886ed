/-
Layer 7's laws, walked: BoxKeys, BoxReal.
-/
import Derived.Test.YtfglhemmccihfaaGreatMr
import Derived.Test.YtfglhemmccihfaaGreatMt
namespace Go.Proofs.YtfglhemmccihfaaGreat
open Go.RowKit

set_option maxRecDepth 100000 in
set_option maxHeartbeats 4000000 in
theorem BoxReal_w (q : ActB) (hok : q.ok) (w : World) : Calls Tryz.prog 4 #[actV q] w fun e w' => e = .returned (.bool true) ∧ Below w.heap.size w w' := by
  have HOK := Lib.hid hok
  clear hok
  unfold actV actC
  go_enter Tryz.func4, Tryz.ntmps4
  go_wp2_with fail
  refine (awake07 _).mono ?_
  rintro e w1 ⟨rfl, hb1⟩
  have ha0 : RowAt (w.alloc (.cells #[.int .i64 q.kind, .string q.k, .string q.n, .string q.d, .string q.t] 33)) w.heap.size #[.int .i64 q.kind, .string q.k, .string q.n, .string q.d, .string q.t] 33 (0, 0) := RowAt.new w _ _ _
  have HA1 := Lib.hid (ha0.below hb1 ha0.lt)
  have HB1 := Lib.hid (bthen (below_alloc' (Below.refl _ w) _) hb1)
  clear ha0 hb1
  have a0 := HA1.out.cell (i := 0) rfl
  have a1 := HA1.out.cell (i := 1) rfl
  have a2 := HA1.out.cell (i := 2) rfl
  have a3 := HA1.out.cell (i := 3) rfl
  have a4 := HA1.out.cell (i := 4) rfl
  go_wp2_with fail
  refine (large07 q _).mono ?_
  rintro e w2 ⟨rfl, hb2⟩
  have HA2 := Lib.hid (HA1.out.below hb2 HA1.out.lt)
  have HB2 := Lib.hid (bthen HB1.out hb2)
  clear hb2 a0 a1 a2 a3 a4
  rcases Bool.eq_false_or_eq_true (largeB q) with hL | hL
  · rw [hL]
    clear hL
    go_wp2_with fail
    go_ret
    exact ⟨rfl, HB2.out⟩
  have HL := Lib.hid hL
  rw [hL]
  clear hL
  have a0 := HA2.out.cell (i := 0) rfl
  have a1 := HA2.out.cell (i := 1) rfl
  have a2 := HA2.out.cell (i := 2) rfl
  have a3 := HA2.out.cell (i := 3) rfl
  have a4 := HA2.out.cell (i := 4) rfl
  go_wp2_with fail
  refine (fixed07 q HOK.out.1 HOK.out.2 HL.out _).mono ?_
  rintro e w3 ⟨rfl, hb3⟩
  have HA3 := Lib.hid (HA2.out.below hb3 HA2.out.lt)
  have HB3 := Lib.hid (bthen HB2.out hb3)
  obtain ⟨x, hx⟩ : ∃ x, x = fixedB q := ⟨_, rfl⟩
  obtain ⟨hz1, hz2, hz3, hz4⟩ := fixedB_sizes HL.out
  rw [← hx] at hz1 hz2 hz3 hz4 ⊢
  clear hb3 a0 a1 a2 a3 a4 hx
  unfold actV
  go_wp2_with (with_reducible refine wpList_store_rowTo rfl 33 (.tmp 1) (.tmp 16) rfl rfl w.heap.size (actC x) ?h1 ?h2 33 #[.int .i64 q.kind, .string q.k, .string q.n, .string q.d, .string q.t] HA3.out.out ?h3 ?h4 ?h5 ?_)
  case h1 => rfl
  case h2 => rfl
  case h3 => kernel_rfl
  case h4 => rfl
  case h5 => simp [actC, Value.oneCell']
  have HA3' := Lib.hid (RowAt.setRow HA3.out (actC x))
  have HB3' := Lib.hid (Below.setRow HB3.out (Nat.le_refl _) (actC x))
  generalize w3.setRow w.heap.size (actC x) = w3' at HA3' HB3' ⊢
  clear HA3 HB3 HA2 HB2 HA1 HB1
  unfold actC at HA3'
  go_wp2_with fail
  refine (Real_walk _).mono ?_
  rintro e w31 ⟨rfl, hx31, hb31⟩
  have HA31 := Lib.hid (HA3'.out.below hb31 HA3'.out.lt)
  have HB31 := Lib.hid (bthen HB3'.out hb31)
  have HX31 := Lib.hid hx31
  clear hx31 hb31
  generalize w3'.heap.size = b1 at HX31 ⊢
  go_wp2_with fail
  refine (Real_walk _).mono ?_
  rintro e w4 ⟨rfl, hy4, hb4⟩
  have HA4 := Lib.hid (HA31.out.below hb4 HA31.out.lt)
  have HB4 := Lib.hid (bthen HB31.out hb4)
  have HX4 : Hid (RealAt w4 b1) := Lib.hid (RowAt.below HX31.out hb4 (RowAt.lt HX31.out))
  have HY4 := Lib.hid hy4
  clear hy4 hb4 HA31 HB31 HX31 HA3' HB3'
  generalize w31.heap.size = b2 at HY4 ⊢
  have a1 := HA4.out.cell (i := 1) rfl
  have a2 := HA4.out.cell (i := 2) rfl
  have a3 := HA4.out.cell (i := 3) rfl
  have a4 := HA4.out.cell (i := 4) rfl
  by_cases hsz : x.k.size = 32 ∧ x.n.size = 12
  · obtain ⟨QQ, hq⟩ : ∃ s, Is s (sealL x.k.data.toList x.n.data.toList x.d.data.toList x.t.data.toList) := ⟨_, Is.of _⟩
    have HQ := Lib.hid hq
    have HK := Lib.hid hsz
    clear hq hsz
    go_wp2_with fail
    refine (RealSeal_ok b1 x.k x.n x.d x.t HK.out.1 HK.out.2 (by omega) (by omega) QQ HQ.out _ HX4.out).mono ?_
    rintro e w5 ⟨rfl, hb5⟩
    have HB5 := Lib.hid (bthen HB4.out hb5)
    have HA5 := Lib.hid (HA4.out.below hb5 HA4.out.lt)
    have HX5 := Lib.hid (RowAt.below HX4.out hb5 HX4.out.lt)
    have HY5 := Lib.hid (RowAt.below HY4.out hb5 HY4.out.lt)
    clear a1 a2 a3 a4
    have a1 := HA5.out.cell (i := 1) rfl
    have a2 := HA5.out.cell (i := 2) rfl
    have a3 := HA5.out.cell (i := 3) rfl
    have a4 := HA5.out.cell (i := 4) rfl
    clear hb5
    go_wp2_with fail
    refine (RSeal_ok x.k x.n x.d x.t HK.out.1 HK.out.2 (by omega) (by omega) QQ HQ.out _).mono ?_
    rintro e w6 ⟨rfl, hb6⟩
    have HB6 := Lib.hid (bthen HB5.out hb6)
    have HA6 := Lib.hid (HA5.out.below hb6 HA5.out.lt)
    have HX6 := Lib.hid (RowAt.below HX5.out hb6 HX5.out.lt)
    have HY6 := Lib.hid (RowAt.below HY5.out hb6 HY5.out.lt)
    have hqq := seq_self QQ
    clear a1 a2 a3 a4
    have a1 := HA6.out.cell (i := 1) rfl
    have a2 := HA6.out.cell (i := 2) rfl
    have a3 := HA6.out.cell (i := 3) rfl
    have a4 := HA6.out.cell (i := 4) rfl
    clear hb6
    go_wp2_with fail
    refine (LenR_walk _ _ HX6.out).mono ?_
    rintro e w7 ⟨rfl, rfl⟩
    go_wp2_with fail
    refine (LeftR_walk _ _ HX6.out).mono ?_
    rintro e w7 ⟨rfl, rfl⟩
    go_wp2_with fail
    have HO := Lib.hid (show openA x.k.data.toList x.n.data.toList x.d.data.toList QQ.data.toList = (x.t.data.toList, 0) by
      rw [HQ.out.out]
      refine openA_seal _ _ _ _ ?_ ?_ ?_ ?_
      · rw [Array.length_toList]; exact HK.out.1
      · rw [Array.length_toList]; exact HK.out.2
      · rw [Array.length_toList]; exact Nat.le_trans hz3 (by decide)
      · rw [Array.length_toList]; exact Nat.le_trans hz4 (by decide))
    have HQZ := Lib.hid (show QQ.size ≤ 140737488351232 by
      rw [HQ.out.size, sealL_length, Array.length_toList]
      show x.t.size + 16 ≤ _
      omega)
    refine (RealOpen_walk b2 x.k x.n x.d QQ HQZ.out x.t 0 (by rw [HO.out]; exact ⟨Is.self _, rfl⟩) _ HY6.out).mono ?_
    rintro e w8 ⟨rfl, hb8⟩
    have HB8 := Lib.hid (bthen HB6.out hb8)
    have HA8 := Lib.hid (HA6.out.below hb8 HA6.out.lt)
    have htt := seq_self x.t
    clear hb8 a1 a2 a3 a4
    have a4 := HA8.out.cell (i := 4) rfl
    go_wp2_with fail
    go_ret
    exact ⟨rfl, HB8.out⟩
  · have HN := Lib.hid (show ¬ (x.k.size = 32 ∧ x.n.size = 12) ∨ 4096 < x.d.size ∨ 16384 < x.t.size from Or.inl hsz)
    clear hsz
    go_wp2_with fail
    refine (RealSeal_no b1 x.k x.n x.d x.t HN.out _ HX4.out).mono ?_
    rintro e w5 ⟨rfl, rfl⟩
    have hb5 := Below.refl w4.heap.size w4
    have HB5 := Lib.hid (bthen HB4.out hb5)
    have HA5 := Lib.hid (HA4.out.below hb5 HA4.out.lt)
    have HX5 := Lib.hid (RowAt.below HX4.out hb5 HX4.out.lt)
    have HY5 := Lib.hid (RowAt.below HY4.out hb5 HY4.out.lt)
    clear a1 a2 a3 a4
    have a1 := HA5.out.cell (i := 1) rfl
    have a2 := HA5.out.cell (i := 2) rfl
    have a3 := HA5.out.cell (i := 3) rfl
    have a4 := HA5.out.cell (i := 4) rfl
    clear hb5
    go_wp2_with fail
    refine (RSeal_no x.k x.n x.d x.t HN.out _).mono ?_
    rintro e w6 ⟨rfl, hb6⟩
    have HB6 := Lib.hid (bthen HB5.out hb6)
    have HA6 := Lib.hid (HA5.out.below hb6 HA5.out.lt)
    have HX6 := Lib.hid (RowAt.below HX5.out hb6 HX5.out.lt)
    have HY6 := Lib.hid (RowAt.below HY5.out hb6 HY5.out.lt)
    have hqq := seq_self ⟨#[]⟩
    clear a1 a2 a3 a4
    have a1 := HA6.out.cell (i := 1) rfl
    have a2 := HA6.out.cell (i := 2) rfl
    have a3 := HA6.out.cell (i := 3) rfl
    have a4 := HA6.out.cell (i := 4) rfl
    clear hb6
    go_wp2_with fail
    refine (LenR_walk _ _ HX6.out).mono ?_
    rintro e w7 ⟨rfl, rfl⟩
    go_wp2_with fail
    refine (LeftR_walk _ _ HX6.out).mono ?_
    rintro e w7 ⟨rfl, rfl⟩
    go_wp2_with fail
    go_ret
    exact ⟨rfl, HB6.out⟩
end Go.Proofs.YtfglhemmccihfaaGreat
