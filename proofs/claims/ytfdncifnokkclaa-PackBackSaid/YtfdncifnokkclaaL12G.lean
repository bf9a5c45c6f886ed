/-
  Layer 12's laws, walked: PackBack.
-/
import Derived.Test.YtfdncifnokkclaaL12F
namespace Go.Proofs.Ytfdncifnokkclaa
open Go.RowKit

theorem bytesOf_length (ss : List ByteArray) : (bytesOf ss).length = ss.length := by simp [bytesOf]
theorem bytesOf_small (ss : List ByteArray) (n : Nat) (h : sumLen ss ≤ n) : ∀ l ∈ bytesOf ss, l.length ≤ n := by
  intro l hl
  unfold bytesOf at hl
  obtain ⟨s, hs, rfl⟩ := List.mem_map.1 hl
  obtain ⟨k, hk, rfl⟩ := List.getElem_of_mem hs
  have h1 := sumLen_get ss k hk
  rw [len_list]
  omega
theorem texts_len (ss : List ByteArray) : ((bytesOf ss).flatMap textL).length ≤ sumLen ss + 9 * ss.length := by
  have := flat_le ss ss.length
  rwa [List.take_of_length_le (by rw [bytesOf_length]; exact Nat.le_refl _), List.take_length] at this
theorem list_len (ss : List ByteArray) : (listL (bytesOf ss)).length ≤ sumLen ss + 9 * ss.length + 9 := by
  unfold listL
  rw [List.length_append]
  have h1 := texts_len ss
  have h2 := numL_short (BitVec.ofNat 64 (bytesOf ss).length)
  omega
theorem texts_drop (ss : List ByteArray) (k : Nat) (h : k < ss.length) : ((bytesOf ss).drop k).flatMap textL = textL ss[k].data.toList ++ ((bytesOf ss).drop (k + 1)).flatMap textL := by
  rw [List.drop_eq_getElem_cons (by rw [bytesOf_length]; exact h), List.flatMap_cons]
  simp [bytesOf]
theorem nums_drop (ns : List (BitVec 64)) (k : Nat) (h : k < ns.length) : (ns.drop k).flatMap numL = numL ns[k] ++ (ns.drop (k + 1)).flatMap numL := by
  rw [List.drop_eq_getElem_cons h, List.flatMap_cons]
theorem drop_len {α β : Type} (l : List α) (f : α → List β) (k : Nat) : ((l.drop k).flatMap f).length ≤ (l.flatMap f).length := by
  conv => rhs; rw [← List.take_append_drop k l, List.flatMap_append, List.length_append]
  omega

set_option maxRecDepth 100000 in
set_option maxHeartbeats 4000000 in
theorem PackBack_w (no : Option Addr) (nc : Nat) (ns : List (BitVec 64)) (ao : Option Addr) (cap : Nat) (ss : List ByteArray) (w : World) (hns : NumsAt w no ns) (hnl : ns.length ≤ 9223372036854775807) (hss : StrsAt w ao ss) (hsz : ∀ t ∈ ss, t.size ≤ 140737488351232) (hln : ss.length * 16 ≤ 140737488351232) :
    Calls Try.prog 7 #[.slice no ns.length nc, .slice ao ss.length cap] w fun e w' => e = .returned (.bool true) ∧ Below w.heap.size w w' := by
  have HSS := Lib.hid hss
  have HNS := Lib.hid hns
  have HSZ := Lib.hid hsz
  clear hss hns hsz
  by_cases hL : largeP ss = true
  · go_enter Try.func7, Try.ntmps7
    go_wp2_with fail
    refine (awake12 _).mono ?_
    rintro e w1 ⟨rfl, hb1⟩
    have hs1 := HSS.out.below hb1
    go_wp2_with fail
    refine (large12 ao cap ss _ hs1 HSZ.out (by omega)).mono ?_
    rintro e w2 ⟨rfl, rfl⟩
    rw [hL]
    go_wp2_with fail
    go_ret
    exact ⟨rfl, hb1⟩
  · have hL0 : largeP ss = false := by simpa using hL
    have hL2 : ¬ (100 < ss.length ∨ 4096 < sumLen ss) := fun h => hL (decide_eq_true h)
    have hl1 : ss.length ≤ 100 := by omega
    have hl2 : sumLen ss ≤ 4096 := by omega
    have HL0 := Lib.hid hL0
    clear hL hL2 hL0
    rcases Nat.lt_or_ge 100 ns.length with hbig | hsm
    · have g1 : decide ((100 : Int) < (ns.length : Int)) = true := decide_eq_true (by omega)
      go_enter Try.func7, Try.ntmps7
      go_wp2_with fail
      refine (awake12 _).mono ?_
      rintro e w1 ⟨rfl, hb1⟩
      have hs1 := HSS.out.below hb1
      go_wp2_with fail
      refine (large12 ao cap ss _ hs1 HSZ.out (by omega)).mono ?_
      rintro e w2 ⟨rfl, rfl⟩
      rw [HL0.out]
      go_wp2_with fail
      go_ret
      exact ⟨rfl, hb1⟩
    · have g1 : decide ((100 : Int) < (ns.length : Int)) = false := decide_eq_false (by omega)
      have hX1 := nums_len ns
      have hX2 := list_len ss
      have hX3 := texts_len ss
      go_enter Try.func7, Try.ntmps7
      go_wp2_with fail
      refine (awake12 _).mono ?_
      rintro e w1 ⟨rfl, hb1⟩
      have hs1 := HSS.out.below hb1
      have HB1 := Lib.hid hb1
      clear hb1
      go_wp2_with fail
      refine (large12 ao cap ss _ hs1 HSZ.out (by omega)).mono ?_
      rintro e w2 ⟨rfl, rfl⟩
      rw [HL0.out]
      clear hs1
      have hO0 := Lib.hid (show OutAt w1.heap.size w1.heap.size [] (w1.alloc (.cells #[.pointer none, .slice none 0 0] 31)) from isBuilder_new _ _ (Nat.le_refl _))
      have HB2 := Lib.hid (HB1.out.alloc HB1.out.size (.cells #[.pointer none, .slice none 0 0] 31))
      have hz1 : w.heap.size ≤ w1.heap.size := HB1.out.size
      have hz2 : w1.heap.size < (w1.alloc (.cells #[.pointer none, .slice none 0 0] 31)).heap.size := by simp
      go_wp2_with fail
      generalize w1.alloc (.cells #[.pointer none, .slice none 0 0] 31) = w2 at hO0 HB2 hz2 ⊢
      generalize w1.heap.size = B at hO0 hz1 hz2 ⊢
      go_loopw [22] (fun i wr => ∃ k : Nat, k ≤ ns.length ∧ i = .int .i64 k ∧ OutAt B B ((ns.take k).flatMap numL) wr ∧ Below w.heap.size w wr ∧ B < wr.heap.size) (fun i _ => ns.length - (intOf i).toNat)
      case atStart => exact ⟨0, Nat.zero_le _, rfl, hO0.out, HB2.out, hz2⟩
      case round =>
        obtain ⟨k, hk, rfl, ho, hb, hzr⟩ := hrel
        have HO := Lib.hid ho
        have HB := Lib.hid hb
        clear ho hb
        rcases Nat.lt_or_ge k ns.length with hlt | hge
        · obtain ⟨bn, on, rfl, hbn, hcn⟩ := (HNS.out.below HB.out) k hlt
          have hst := nums_step ns k hlt
          have HST := Lib.hid hst
          have hlen : ((ns.take k).flatMap numL).length ≤ 1000 := by
            have := nums_len (ns.take k)
            rw [List.length_take] at this
            omega
          generalize ns[k] = x at hcn HST
          clear hst
          go_wp2_with fail
          refine (ONum_walk B B _ x _ HO.out (by omega) (by omega)).mono ?_
          rintro e w5 ⟨rfl, h5, hb5, _⟩
          rw [HST.out] at h5
          go_wp2_with fail
          go_roundw
          case rel => exact ⟨k + 1, by omega, by go_num, h5, HB.out.trans (hb5.mono hz1), Nat.lt_of_lt_of_le hzr hb5.size⟩
          case measure => simp [intOf]; omega
        · obtain rfl : k = ns.length := by omega
          have h3 := HO.out
          rw [List.take_length] at h3
          have HO3 := Lib.hid h3
          have HB3 := HB
          clear h3 HO HB
          have hst3 := HSS.out.below HB3.out
          go_wp2_with fail
          refine (OList_walk B B _ ao cap ss _ HO3.out hst3 (by
            intro hne k off e
            left
            obtain ⟨b0, o0, e0, z0, _⟩ := HSS.out 0 (List.length_pos_iff.2 hne)
            rw [e] at e0
            injection e0 with e0
            injection e0 with e0 _
            subst e0
            omega) (by omega) (by omega) (by omega) (by omega)).mono ?_
          rintro e w4 ⟨rfl, h4, hb4, _⟩
          have HO4 := Lib.hid h4
          have HB4 := Lib.hid (HB3.out.trans (hb4.mono hz1))
          have hz4 : B < w4.heap.size := Nat.lt_of_lt_of_le hzr hb4.size
          clear h4 hb4 hst3
          go_wp2_with fail
          obtain ⟨wo, hwo⟩ : ∃ wo : World, wo = wr := ⟨_, rfl⟩
          go_loopw [35] (fun i wx => ∃ k : Nat, k ≤ ss.length ∧ i = .int .i64 k ∧ OutAt B B (ns.flatMap numL ++ listL (bytesOf ss) ++ ((bytesOf ss).take k).flatMap textL) wx ∧ Below w.heap.size w wx ∧ B < wx.heap.size) (fun i _ => ss.length - (intOf i).toNat)
          case atStart => exact ⟨0, Nat.zero_le _, rfl, by simpa using HO4.out, HB4.out, hz4⟩
          case round =>
            obtain ⟨k, hk, rfl, ho, hb, hzx⟩ := hrel
            have HO := Lib.hid ho
            have HB := Lib.hid hb
            clear ho hb
            rcases Nat.lt_or_ge k ss.length with hlt | hge
            · obtain ⟨bn, on, rfl, hbn, hcn⟩ := (HSS.out.below HB.out) k hlt
              have HST := Lib.hid (flat_step ss k hlt)
              have hfl := flat_le ss k
              have hsl := sumLen_take ss k
              have hsg := sumLen_get ss k hlt
              generalize ss[k] = s at hcn HST hsg
              go_wp2_with fail
              refine (OText_walk B B _ s _ HO.out (by omega) (by simp only [List.length_append]; omega) (by omega)).mono ?_
              rintro e w5 ⟨rfl, h5, hb5, _⟩
              rw [List.append_assoc, HST.out] at h5
              go_wp2_with fail
              go_roundw
              case rel => exact ⟨k + 1, by omega, by go_num, h5, HB.out.trans (hb5.mono hz1), Nat.lt_of_lt_of_le hzx hb5.size⟩
              case measure => simp [intOf]; omega
            · obtain rfl : k = ss.length := by omega
              have h6 := HO.out
              rw [List.take_of_length_le (by rw [bytesOf_length]; exact Nat.le_refl _)] at h6
              have HO6 := Lib.hid h6
              have HB6 := HB
              clear h6 HO HB
              go_wp2_with fail
              refine (OString_walk B B _ _ HO6.out (by omega)).mono ?_
              rintro e w7 ⟨r7, rfl, hr7, _, hb7, _⟩
              have HB7 := Lib.hid (HB6.out.trans (hb7.mono hz1))
              have HR7 := Lib.hid hr7
              clear hr7 hb7
              go_wp2_with fail
              refine (From_walk r7 _).mono ?_
              rintro e w8 ⟨rfl, rfl⟩
              have hI8 : InAt (w7.alloc (.cells #[.string r7, .bool false] 47)) w7.heap.size ⟨ns.flatMap numL ++ (listL (bytesOf ss) ++ (bytesOf ss).flatMap textL), false⟩ := ⟨r7, by rw [← List.append_assoc]; exact HR7.out, RowAt.new w7 _ _ _⟩
              have hb8 := HB7.out.alloc HB7.out.size (.cells #[.string r7, .bool false] 47)
              have zib : w.heap.size ≤ w7.heap.size := HB7.out.size
              generalize w7.alloc (.cells #[.string r7, .bool false] 47) = w8 at hI8 hb8 ⊢
              generalize w7.heap.size = ib at hI8 zib ⊢
              have HI8 := Lib.hid hI8
              have HB8 := Lib.hid hb8
              clear hI8 hb8 HO6 HB6 HB7 HR7
              go_wp2_with fail
              obtain ⟨wp, hwp⟩ : ∃ wp : World, wp = wr := ⟨_, rfl⟩
              go_loopw [49] (fun i wx => ∃ k : Nat, k ≤ ns.length ∧ i = .int .i64 k ∧ InAt wx ib ⟨(ns.drop k).flatMap numL ++ (listL (bytesOf ss) ++ (bytesOf ss).flatMap textL), false⟩ ∧ Below w.heap.size w wx) (fun i _ => ns.length - (intOf i).toNat)
              case atStart => exact ⟨0, Nat.zero_le _, rfl, by simpa using HI8.out, HB8.out⟩
              case round =>
                obtain ⟨k, hk, rfl, hi, hb⟩ := hrel
                have HB := Lib.hid hb
                rcases Nat.lt_or_ge k ns.length with hlt | hge
                · obtain ⟨bn, on, rfl, hbn, hcn⟩ := (HNS.out.below hb) k hlt
                  rw [nums_drop ns k hlt, List.append_assoc] at hi
                  have hdl := drop_len ns numL (k + 1)
                  have HI := Lib.hid hi
                  have hbne : bn ≠ ib := by
                    obtain ⟨b0, o0, e0, z0, _⟩ := HNS.out k hlt
                    injection e0 with e0
                    injection e0 with e0 _
                    subst e0
                    omega
                  have hlen : (numL ns[k] ++ ((ns.drop (k + 1)).flatMap numL ++ (listL (bytesOf ss) ++ (bytesOf ss).flatMap textL))).length ≤ 140737488351000 := by
                    have := numL_short ns[k]
                    simp only [List.length_append]
                    omega
                  have HNR := Lib.hid (numR_back ns[k] ns[k] ((ns.drop (k + 1)).flatMap numL ++ (listL (bytesOf ss) ++ (bytesOf ss).flatMap textL)))
                  generalize ns[k] = x at hcn HI HNR hlen
                  have hxx : ¬ x < x := BitVec.lt_irrefl x
                  clear hi hb
                  go_wp2_with fail
                  go_region_with (go_at_call 27; refine (NumIn_walk ib _ x _ (HI.out.drew) hlen).mono ?_; rw [HNR.out, if_neg hxx]; rintro e w9 ⟨rfl, h9, ho9⟩; have hc9 : w9.cell? ⟨bn, on + k, none⟩ = some (.int .u64 (bvi x)) := ((World.cell?_of_block (ho9.block bn hbn hbne)).trans hcn))
                  all_goals
                    go_wp2_with fail
                    go_roundw
                    case rel => exact ⟨k + 1, by omega, by go_num, h9, HB.out.drew.trans (ho9.below zib HB.out.size)⟩
                    case measure => simp [intOf]; omega
                · obtain rfl : k = ns.length := by omega
                  rw [List.drop_length, List.flatMap_nil, List.nil_append] at hi
                  have HI := Lib.hid hi
                  clear hi hb
                  have HLR := Lib.hid (listR_back (bytesOf ss) ss.length 4096 (by decide) (fun l hl => by have := bytesOf_small ss 4096 hl2 l hl; omega) (by rw [bytesOf_length]; exact Int.le_refl _) (by omega) ((bytesOf ss).flatMap textL))
                  go_wp2_with fail
                  refine (ListIn_walk ib _ ss.length 4096 (by decide) _ HI.out (by simp only [List.length_append]; omega)).mono ?_
                  rw [HLR.out]
                  rintro e w9 ⟨ao9, cap9, ss9, rfl, hss9, hst9, _, h9, ho9⟩
                  have HB9 := Lib.hid (HB.out.trans (ho9.below zib HB.out.size))
                  have hst := HSS.out.below HB9.out
                  have HI9 := Lib.hid h9
                  clear h9 ho9
                  go_wp2_with fail
                  refine (Same08_walk ao9 ao cap9 cap ss9 ss _ hst9 hst (by
                    have := congrArg List.length hss9
                    simp [bytesOf] at this
                    omega)).mono ?_
                  rintro e w10 ⟨rfl, hb10⟩
                  rw [decide_eq_true (show bytesOf ss9 = bytesOf ss from hss9)]
                  have HB10 := Lib.hid (bthen HB9.out hb10)
                  have HI10 := Lib.hid (HI9.out.below hb10)
                  clear hst9 hst hss9 hb10
                  go_wp2_with fail
                  obtain ⟨wq, hwq⟩ : ∃ wq : World, wq = wr := ⟨_, rfl⟩
                  go_loopw [75] (fun i wx => ∃ k : Nat, k ≤ ss.length ∧ i = .int .i64 k ∧ InAt wx ib ⟨((bytesOf ss).drop k).flatMap textL, false⟩ ∧ Below w.heap.size w wx) (fun i _ => ss.length - (intOf i).toNat)
                  case atStart => exact ⟨0, Nat.zero_le _, rfl, by simpa using HI10.out, HB10.out⟩
                  case round =>
                    obtain ⟨k, hk, rfl, hi, hb⟩ := hrel
                    have HBK := Lib.hid hb
                    rcases Nat.lt_or_ge k ss.length with hlt | hge
                    · obtain ⟨bn, on, rfl, hbn, hcn⟩ := (HSS.out.below hb) k hlt
                      rw [texts_drop ss k hlt] at hi
                      have hdl := drop_len (bytesOf ss) textL k
                      rw [texts_drop ss k hlt] at hdl
                      have HI := Lib.hid hi
                      have hbne : bn ≠ ib := by
                        obtain ⟨b0, o0, e0, z0, _⟩ := HSS.out k hlt
                        injection e0 with e0
                        injection e0 with e0 _
                        subst e0
                        omega
                      have hsg := sumLen_get ss k hlt
                      have HTR := Lib.hid (textR_back ss[k].data.toList (((bytesOf ss).drop (k + 1)).flatMap textL) ss[k].size (by rw [len_list]; exact Int.le_refl _) (by omega))
                      have hlen : (textL ss[k].data.toList ++ ((bytesOf ss).drop (k + 1)).flatMap textL).length ≤ 140737488351000 := by omega
                      generalize ss[k] = s at hcn HI HTR hlen hsg
                      have hs9 : (s.size : Int) ≤ 9223372036854775807 := by omega
                      clear hi hb hdl
                      go_wp2_with fail
                      go_region_with (go_at_call 30; refine (TextIn_walk ib _ (s.size : Int) hs9 _ (HI.out.drew) hlen).mono ?_; rw [HTR.out]; rintro e w11 ⟨t11, rfl, ht11, h11, ho11⟩; have q11 : seq t11 s = true := seq_is ht11 (Is.self s); have hc11 : w11.cell? ⟨bn, on + k, none⟩ = some (.string s) := ((World.cell?_of_block (ho11.block bn hbn hbne)).trans hcn); clear ht11)
                      all_goals
                        go_wp2_with fail
                        go_roundw
                        case rel => exact ⟨k + 1, by omega, by go_num, h11, HBK.out.drew.trans (ho11.below zib HBK.out.size)⟩
                        case measure => simp [intOf]; omega
                    · obtain rfl : k = ss.length := by omega
                      rw [List.drop_of_length_le (by rw [bytesOf_length]; exact Nat.le_refl _), List.flatMap_nil] at hi
                      have HI := Lib.hid hi
                      clear hi hb
                      go_wp2_with fail
                      refine (Done_walk ib _ _ HI.out).mono ?_
                      rintro e w12 ⟨rfl, rfl⟩
                      rw [show doneR ⟨[], false⟩ = 0 from rfl]
                      go_wp2_with fail
                      refine (Left_in ib _ _ HI.out).mono ?_
                      rintro e w13 ⟨rfl, rfl⟩
                      go_wp2_with fail
                      go_ret
                      exact ⟨rfl, HBK.out⟩
end Go.Proofs.Ytfdncifnokkclaa
