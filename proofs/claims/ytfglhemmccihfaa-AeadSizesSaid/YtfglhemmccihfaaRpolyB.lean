/-
  Layer 5, the reference's package posthornref05: high, low, some, Modulo.
-/
import Derived.Test.YtfglhemmccihfaaRpoly
import Derived.Deep.LoopGhost
namespace Go.Proofs.Ytfglhemmccihfaa
open Go.RowKit

set_option maxHeartbeats 1000000 in
theorem high_walk (v : Value) (l : List Nat) (hd : Dig l) (hl : l.length ≤ 1000) (w : World) (h : DigAt w v l) :
    Calls Try.prog 80 #[v] w fun e w' => ∃ v', e = .returned v' ∧ DigAt w' v' (hiD l (l.length - 16)) ∧ Below w.heap.size w w' := by
  have HDA := Lib.hid h
  have HD := Lib.hid hd
  obtain ⟨ao, cap, rfl, _⟩ := h
  clear hd
  go_enter Try.func80, Try.ntmps80
  go_wp2_with fail
  go_loopw [3, 4] (fun x i wr => ∃ k : Nat, k ≤ l.length - 16 ∧ i = .int .i64 ((16 + k : Nat) : Int) ∧ wr.ownsRow w.heap.size 3 1 x k (ints (hiD l k)) ∧ Below w.heap.size w wr) (fun _ i _ => l.length + 16 - (intOf i).toNat)
  case atStart => exact ⟨0, Nat.zero_le _, rfl, owns_zero w _ (Nat.le_refl _), (Below.refl _ _).alloc (Nat.le_refl _) _⟩
  case round =>
    obtain ⟨k, hk, rfl, hown, hbel⟩ := hrel
    have hx := HD.out.get (16 + k)
    have hy := HD.out.get (16 + k + 1)
    have HSD := Lib.hid (hiD_succ l k)
    generalize hxe : l.getD (16 + k) 0 = x at hx HSD
    generalize hye : l.getD (16 + k + 1) 0 = y at hy HSD
    have HXE := Lib.hid hxe
    have HYE := Lib.hid hye
    clear hxe hye
    obtain ⟨m, hm⟩ : ∃ m : Nat, m = 16 + k := ⟨_, rfl⟩
    rw [← hm] at HXE HYE ⊢
    have HM := Lib.hid hm
    rcases Nat.lt_or_ge m l.length with hlt | hge
    · have HDA2 := Lib.hid (HDA.out.below hbel)
      have hk2 : k + 16 < l.length := by omega
      have hm2 : m ≤ 1000 := by omega
      clear hm
      go_wp2_with fail
      refine (digit_walk _ l m m rfl x HXE.out _ HDA2.out).mono ?_
      rintro e w2 ⟨rfl, rfl⟩
      go_wp2_with fail
      refine (digit_walk _ l (m + 1) (m + 1) (by omega) y HYE.out _ HDA2.out).mono ?_
      rintro e w2 ⟨rfl, rfl⟩
      go_wp2_with (at_builtin; refine append_one rfl _ _ 81 rfl wr w.heap.size 3 (.int .i64 0) 8 Try.underlying81 infoInt rfl hown rfl _ rfl rfl ?c1 ?c2 ?c3 ?_)
      case c1 => omega
      case c2 => omega
      case c3 => have := hbel.size; omega
      intro v' w1 hown' hb1 _ _
      clear hown
      go_wp2_with fail
      go_roundw
      case rel =>
        refine ⟨k + 1, by omega, by rw [HM.out]; go_num, ?_, hbel.trans hb1⟩
        rw [HSD.out, ints_snoc, show ((x / 4 + y % 4 * 64 : Nat) : Int) = (x : Int) / 4 + (y : Int) % 4 * 64 by omega]
        exact hown'
      case measure => simp [intOf]; omega
    · have hk3 : k = l.length - 16 := by omega
      rw [hk3] at hown
      have hd := dig_own hown
      clear hown hk3 hm HSD
      go_wp2_with fail
      go_ret
      exact ⟨_, rfl, hd, hbel⟩

theorem dig_take {w : World} {g cap : Nat} {cur : Array Value} {l : List Nat} (h : RowAt w g cur 3 (0, 0)) (ht : cur.toList.take l.length = ints l) : DigAt w (.slice (some ⟨g, 0, none⟩) l.length cap) l := by
  refine ⟨_, cap, rfl, fun i hi => ⟨g, 0, rfl, h.lt, ?_⟩⟩
  have h1 : (cur.toList.take l.length)[i]? = (ints l)[i]? := by rw [ht]
  rw [List.getElem?_take, if_pos hi, ints_at l i hi] at h1
  rw [Nat.zero_add]
  exact h.cell (by simpa using h1)

set_option maxHeartbeats 1000000 in
theorem low_walk (v : Value) (l : List Nat) (hd : Dig l) (w : World) (h : DigAt w v l) :
    Calls Try.prog 81 #[v] w fun e w' => ∃ v', e = .returned v' ∧ DigAt w' v' (loD l) ∧ Below w.heap.size w w' := by
  have HDA := Lib.hid h
  have HD := Lib.hid hd
  obtain ⟨ao, cap, rfl, _⟩ := h
  clear hd
  go_enter Try.func81, Try.ntmps81
  go_wp2_with fail
  go_loopw [3, 4] (fun x i wr => ∃ k : Nat, k ≤ 17 ∧ i = .int .i64 k ∧ wr.ownsRow w.heap.size 3 1 x k (ints (digsOf (dV l) k)) ∧ Below w.heap.size w wr) (fun _ i _ => 17 - (intOf i).toNat)
  case atStart => exact ⟨0, Nat.zero_le _, rfl, owns_zero w _ (Nat.le_refl _), (Below.refl _ _).alloc (Nat.le_refl _) _⟩
  case round =>
    obtain ⟨k, hk, rfl, hown, hbel⟩ := hrel
    rcases Nat.lt_or_ge k 17 with hlt | hge
    · have HDA2 := Lib.hid (HDA.out.below hbel)
      have HSD := Lib.hid (digsOf_succ (dV l) k)
      generalize hxe : dV l / 256 ^ k % 256 = x at HSD
      have HXE := Lib.hid ((digit_of l HD.out k).trans hxe)
      clear hxe
      go_wp2_with fail
      refine (digit_walk _ l k k rfl x HXE.out _ HDA2.out).mono ?_
      rintro e w2 ⟨rfl, rfl⟩
      go_wp2_with (at_builtin; refine append_one rfl _ _ 81 rfl wr w.heap.size 3 (.int .i64 0) 8 Try.underlying81 infoInt rfl hown rfl _ rfl rfl ?c1 ?c2 ?c3 ?_)
      case c1 => omega
      case c2 => omega
      case c3 => have := hbel.size; omega
      intro v' w1 hown' hb1 _ _
      clear hown
      go_wp2_with fail
      go_roundw
      case rel => exact ⟨k + 1, by omega, by go_num, by rw [HSD.out, ints_snoc]; exact hown', hbel.trans hb1⟩
      case measure => simp [intOf]; omega
    · obtain rfl : k = 17 := by omega
      rcases hown.2 with ⟨_, h0⟩ | ⟨g, cap2, cur, rfl, hB, hg, hnc, _, hcs, ht⟩
      · exact absurd h0 (by omega)
      have ht' : cur.toList.take 17 = ints (digsOf (dV l) 17) := by simpa using ht
      have hrow : RowAt wr g cur 3 (0, 0) := hg
      have hc16 : cur[16]? = some (.int .i64 (((digsOf (dV l) 17).getD 16 0 : Nat) : Int)) := by
        have h1 : (cur.toList.take 17)[16]? = (ints (digsOf (dV l) 17))[16]? := by rw [ht']
        rw [List.getElem?_take, if_pos (by omega), ints_at _ _ (by rw [digsOf_length]; omega)] at h1
        simpa using h1
      have c16 := hrow.cell hc16
      have f16 := hrow.free (i := 16) (by simp)
      have hgz : w.heap.size ≤ g := hB
      have HT := Lib.hid ht'
      have HRW := Lib.hid hrow
      have HLO := Lib.hid (show loD l = (digsOf (dV l) 17).set 16 ((digsOf (dV l) 17).getD 16 0 % 4) from rfl)
      generalize (digsOf (dV l) 17).getD 16 0 = x at c16 HLO
      have hcap : 17 ≤ cap2 := by omega
      clear hown ht ht' hrow hc16 hg hcs hnc
      go_wp2_with fail
      go_ret
      have hr2 := HRW.out.store 16 (.int .i64 ((x : Int) % 4))
      have hb2 : Below w.heap.size w (wr.setCell ⟨g, 16, none⟩ (.int .i64 ((x : Int) % 4))) := hbel.setCell (p := ⟨g, 16, none⟩) hgz _
      refine ⟨_, rfl, ?_, hb2⟩
      have hl17 := loD_length l
      have := dig_take (cap := cap2) (l := loD l) hr2 (by
        rw [hl17, Array.toList_setIfInBounds, List.take_set, HT.out, HLO.out]
        simp [ints, List.map_set])
      rw [hl17] at this
      exact this

set_option maxHeartbeats 1000000 in
theorem some_walk (v : Value) (l : List Nat) (hl : l.length ≤ 1000) (w : World) (h : DigAt w v l) :
    Calls Try.prog 79 #[v] w fun e w' => e = .returned (.bool (someD l)) ∧ w = w' := by
  obtain ⟨ao, cap, rfl, hc⟩ := h
  have HC := Lib.hid hc
  clear hc
  go_enter Try.func79, Try.ntmps79
  go_wp2_with fail
  go_loop [3] (fun i => ∃ k : Nat, k ≤ l.length ∧ i = .int .i64 k ∧ Hid (∀ j, j < k → l.getD j 0 = 0)) (fun i => l.length - (intOf i).toNat)
  case atStart => exact ⟨0, Nat.zero_le _, rfl, fun j hj => by omega⟩
  case round =>
    obtain ⟨k, hk, rfl, hz⟩ := hrel
    rcases Nat.lt_or_ge k l.length with hlt | hge
    · obtain ⟨g, off, rfl, hg, hcell⟩ := HC.out k hlt
      generalize hxe : l.getD k 0 = x at hcell
      have HXE := Lib.hid hxe
      have HM := Lib.hid (show l.getD k 0 ∈ l from by rw [List.getD_eq_getElem?_getD, List.getElem?_eq_getElem hlt]; exact List.getElem_mem hlt)
      clear hxe
      rcases Nat.eq_zero_or_pos x with h0 | hp
      · have h0' : ¬ (0 : Int) < (x : Int) := by omega
        have HX0 := Lib.hid h0
        clear h0
        go_wp2_with fail
        go_round
        case rel => exact ⟨k + 1, by omega, by go_num, fun j hj => by
          rcases Nat.lt_or_ge j k with h1 | h1
          · exact hz.out j h1
          · obtain rfl : j = k := by omega
            rw [HXE.out, HX0.out]⟩
        case measure => simp [intOf]; omega
      · have hne : dV l ≠ 0 := fun e => by
          have := (dV_zero l).1 e _ HM.out
          rw [HXE.out] at this; omega
        have hd : someD l = true := decide_eq_true hne
        have HDD := Lib.hid hd
        have hp' : (0 : Int) < (x : Int) := by omega
        clear hne hd
        go_wp2_with fail
        go_ret
        exact ⟨by rw [HDD.out]; rfl, rfl⟩
    · have hd : someD l = false := decide_eq_false (fun hn => hn ((dV_zero l).2 fun d hd => by
        obtain ⟨i, hi, rfl⟩ := List.getElem_of_mem hd
        have := hz.out i (by omega)
        rwa [List.getD_eq_getElem?_getD, List.getElem?_eq_getElem hi] at this))
      have HDD := Lib.hid hd
      clear hd
      go_wp2_with fail
      go_ret
      exact ⟨by rw [HDD.out]; rfl, rfl⟩

theorem dig_one (w : World) (d : Nat) : DigAt (w.alloc (.cells #[.int .i64 (d : Int)] 3)) (.slice (some ⟨w.heap.size, 0, none⟩) 1 1) [d] := dig_row (l := [d]) (cap := 1) (RowAt.new w _ _ _)
theorem hiD_pow (l : List Nat) (h : Dig l) (L : Nat) (hL : l.length ≤ L) : dV l < 256 ^ L := Nat.lt_of_lt_of_le (dV_lt h) (Nat.pow_le_pow_right (by omega) hL)

set_option maxRecDepth 100000 in
set_option maxHeartbeats 4000000 in
theorem modulo_walk (v : Value) (l : List Nat) (hd : Dig l) (hl : l.length ≤ 60) (w : World) (h : DigAt w v l) :
    Calls Try.prog 55 #[v] w fun e w' => ∃ v' l', e = .returned v' ∧ DigAt w' v' l' ∧ Dig l' ∧ dV l' = dV l % prime ∧ l'.length = 17 ∧ Below w.heap.size w w' := by
  have HDA := Lib.hid h
  have HD := Lib.hid hd
  clear h hd
  go_enter Try.func55, Try.ntmps55
  go_wp2_with fail
  go_loopg [0] (dV l) (fun g x wr => ∃ m : List Nat, DigAt wr x m ∧ Dig m ∧ Hid (dV m = g) ∧ Hid (dV m % prime = dV l % prime) ∧ m.length ≤ 60 ∧ Below w.heap.size w wr)
  case atStart => exact ⟨l, HDA.out, HD.out, rfl, rfl, hl, Below.refl _ _⟩
  case round =>
    obtain ⟨m, hda, hdm, hg, hmod, hlen, hbel⟩ := hrel
    have HDM := Lib.hid hda
    have HGM := Lib.hid hdm
    have HB0 := Lib.hid hbel
    clear hda hdm hbel
    have HHV := Lib.hid (hiD_val m HGM.out)
    have HHD := Lib.hid (hiD_dig m HGM.out (m.length - 16))
    have HHL := Lib.hid (hiD_length m (m.length - 16))
    go_wp2_with fail
    refine (high_walk _ m HGM.out (by omega) _ HDM.out).mono ?_
    rintro e w1 ⟨v1, rfl, h1, hb1⟩
    have HB1 := Lib.hid (bthen HB0.out hb1)
    have HDM1 := Lib.hid (HDM.out.below hb1)
    have H1 := Lib.hid h1
    clear hb1 h1
    go_wp2_with fail
    refine (some_walk _ _ (by rw [HHL.out]; omega) _ H1.out).mono ?_
    rintro e w1' ⟨rfl, rfl⟩
    by_cases hne : dV m / two130 ≠ 0
    · have hdd : someD (hiD m (m.length - 16)) = true := by unfold someD; rw [HHV.out]; exact decide_eq_true hne
      have HMR := Lib.hid (mod_round (dV m) hne)
      have HLV := Lib.hid (loD_val m)
      have HLL := Lib.hid (loD_length m)
      rw [hdd]
      clear hne hdd
      go_wp2_with fail
      refine (low_walk _ m HGM.out _ HDM1.out).mono ?_
      rintro e w2 ⟨v2, rfl, h2, hb2⟩
      have HDM2 := Lib.hid (HDM1.out.below hb2)
      have HB2 := Lib.hid (bthen HB1.out hb2)
      have H2 := Lib.hid h2
      clear hb2 h2
      go_wp2_with fail
      have hb3 : Below w2.heap.size w2 (w2.alloc (.cells #[.int .i64 5] 3)) := (Below.refl _ _).alloc (Nat.le_refl _) _
      have H3 := Lib.hid (show DigAt (w2.alloc (.cells #[.int .i64 5] 3)) (.slice (some ⟨w2.heap.size, 0, none⟩) 1 1) [5] from dig_one w2 5)
      have HDM3 := Lib.hid (HDM2.out.below hb3)
      have H23 := Lib.hid (H2.out.below hb3)
      have HB3 := Lib.hid (bthen HB2.out hb3)
      clear hb3
      generalize w2.alloc (.cells #[.int .i64 5] 3) = w3 at H3 HDM3 H23 HB3 ⊢
      generalize w2.heap.size = fb at H3 ⊢
      refine (high_walk _ m HGM.out (by omega) _ HDM3.out).mono ?_
      rintro e w4 ⟨v4, rfl, h4, hb4⟩
      have H34 := Lib.hid (H3.out.below hb4)
      have H24 := Lib.hid (H23.out.below hb4)
      have HB4 := Lib.hid (bthen HB3.out hb4)
      have H4 := Lib.hid h4
      clear hb4 h4
      go_wp2_with fail
      refine (times_ref _ _ [5] (hiD m (m.length - 16)) (by intro d hd; simp at hd; omega) HHD.out (by simp) (by rw [HHL.out]; omega) _ H34.out H4.out).mono ?_
      rintro e w5 ⟨v5, l5, rfl, h5, hd5, hv5, hl5, hb5⟩
      have H25 := Lib.hid (H24.out.below hb5)
      have HB5 := Lib.hid (bthen HB4.out hb5)
      have H5 := Lib.hid h5
      have HD5 := Lib.hid hd5
      have HV5 := Lib.hid (show dV l5 = 5 * (dV m / two130) by rw [hv5, HHV.out]; simp [dV])
      have hl60 : l5.length ≤ 60 := hl5 60 (by rw [HHL.out]; simp; omega)
      clear hb5 h5 hd5 hv5 hl5
      go_wp2_with fail
      refine (plus_ref _ _ (loD m) l5 (loD_dig m) HD5.out (by rw [HLL.out]; omega) (by omega) _ H25.out H5.out).mono ?_
      rintro e w6 ⟨v6, l6, rfl, h6, hd6, hv6, hl6, hb6⟩
      have HV6 := Lib.hid (show dV l6 = dV m % two130 + 5 * (dV m / two130) by rw [hv6, HLV.out, HV5.out])
      have hlt6 : l6.length ≤ 60 := hl6 60 (by rw [HLL.out]; omega) hl60 (by
        rw [HLV.out, HV5.out]
        exact Nat.lt_trans HMR.out.2 (hiD_pow m HGM.out 60 hlen))
      have HB6 := Lib.hid (bthen HB5.out hb6)
      have H6 := Lib.hid h6
      have HD6 := Lib.hid hd6
      clear hb6 h6 hd6 hv6 hl6
      go_wp2_with fail
      go_roundg (dV l6)
      case measure => rw [← hg.out, HV6.out]; exact HMR.out.2
      case rel => exact ⟨l6, H6.out, HD6.out, rfl, by unfold Hid; rw [HV6.out, HMR.out.1]; exact hmod.out, hlt6, HB6.out⟩
    · have h0 : dV m / two130 = 0 := by omega
      have hdd : someD (hiD m (m.length - 16)) = false := by unfold someD; rw [HHV.out]; exact decide_eq_false hne
      have HME := Lib.hid (mod_end (dV m) h0)
      have HLV := Lib.hid (show dV (loD m) = dV m by
        rw [loD_val]
        exact Nat.mod_eq_of_lt (by
          rcases Nat.lt_or_ge (dV m) two130 with g | g
          · exact g
          · have := Nat.div_pos g (show 0 < two130 by unfold two130; omega); omega))
      have HLL := Lib.hid (loD_length m)
      rw [hdd]
      clear hne hdd h0
      go_wp2_with fail
      refine (low_walk _ m HGM.out _ HDM1.out).mono ?_
      rintro e w2 ⟨v2, rfl, h2, hb2⟩
      have HDM2 := Lib.hid (HDM1.out.below hb2)
      have HB2 := Lib.hid (bthen HB1.out hb2)
      have H2 := Lib.hid h2
      clear hb2 h2
      go_wp2_with fail
      have hb3 : Below w2.heap.size w2 (w2.alloc (.cells #[.int .i64 5] 3)) := (Below.refl _ _).alloc (Nat.le_refl _) _
      have H3 := Lib.hid (show DigAt (w2.alloc (.cells #[.int .i64 5] 3)) (.slice (some ⟨w2.heap.size, 0, none⟩) 1 1) [5] from dig_one w2 5)
      have HDM3 := Lib.hid (HDM2.out.below hb3)
      have H23 := Lib.hid (H2.out.below hb3)
      have HB3 := Lib.hid (bthen HB2.out hb3)
      clear hb3
      generalize w2.alloc (.cells #[.int .i64 5] 3) = w3 at H3 HDM3 H23 HB3 ⊢
      generalize w2.heap.size = fb at H3 ⊢
      refine (plus_ref _ _ (loD m) [5] (loD_dig m) (by intro d hd; simp at hd; omega) (by rw [HLL.out]; omega) (by simp) _ H23.out H3.out).mono ?_
      rintro e w4 ⟨v4, l4, rfl, h4, hd4, hv4, hl4, hb4⟩
      have HV4 := Lib.hid (show dV l4 = dV m + 5 by rw [hv4, HLV.out]; simp [dV])
      have hl18 : l4.length ≤ 18 := hl4 18 (by rw [HLL.out]; omega) (by simp) (by
        have e1 : dV (loD m) < 256 ^ 17 := by have := dV_lt (loD_dig m); rwa [HLL.out] at this
        simp only [dV]; omega)
      have HDM4 := Lib.hid (HDM3.out.below hb4)
      have HB4 := Lib.hid (bthen HB3.out hb4)
      have H4 := Lib.hid h4
      have HD4 := Lib.hid hd4
      clear hb4 h4 hd4 hv4 hl4
      go_wp2_with fail
      refine (high_walk _ l4 HD4.out (by omega) _ H4.out).mono ?_
      rintro e w5 ⟨v5, rfl, h5, hb5⟩
      have HDM5 := Lib.hid (HDM4.out.below hb5)
      have H45 := Lib.hid (H4.out.below hb5)
      have HB5 := Lib.hid (bthen HB4.out hb5)
      have H5 := Lib.hid h5
      have HHV4 := Lib.hid (hiD_val l4 HD4.out)
      clear hb5 h5
      go_wp2_with fail
      refine (some_walk _ _ (by rw [hiD_length]; omega) _ H5.out).mono ?_
      rintro e w5' ⟨rfl, rfl⟩
      by_cases hq : (dV m + 5) / two130 ≠ 0
      · have hdd : someD (hiD l4 (l4.length - 16)) = true := by unfold someD; rw [HHV4.out, HV4.out]; exact decide_eq_true hq
        have HR := Lib.hid (show (dV m + 5) % two130 = dV l % prime by rw [← hmod.out, ← HME.out, if_pos hq])
        rw [hdd]
        clear hq hdd
        go_wp2_with fail
        refine (low_walk _ l4 HD4.out _ H45.out).mono ?_
        rintro e w6 ⟨v6, rfl, h6, hb6⟩
        go_wp2_with fail
        go_ret
        exact ⟨v6, _, rfl, h6, loD_dig _, by rw [loD_val, HV4.out]; exact HR.out, loD_length _, bthen HB5.out hb6⟩
      · have hdd : someD (hiD l4 (l4.length - 16)) = false := by unfold someD; rw [HHV4.out, HV4.out]; exact decide_eq_false hq
        have HR := Lib.hid (show dV m = dV l % prime by rw [← hmod.out, ← HME.out, if_neg hq])
        rw [hdd]
        clear hq hdd
        go_wp2_with fail
        refine (low_walk _ m HGM.out _ HDM5.out).mono ?_
        rintro e w6 ⟨v6, rfl, h6, hb6⟩
        go_wp2_with fail
        go_ret
        exact ⟨v6, _, rfl, h6, loD_dig _, by rw [HLV.out]; exact HR.out, loD_length _, bthen HB5.out hb6⟩
end Go.Proofs.Ytfglhemmccihfaa
