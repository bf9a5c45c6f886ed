/-
  Layer 3's laws: 'large'; 'awake' is true.
-/
import Derived.Test.YtdfgcjjaiggpkaaMacB
import Derived.Test.YtdfgcjjaiggpkaaRmac
import Derived.Test.YtdfgcjjaiggpkaaOpen
import Derived.Test.YtdfgcjjaiggpkaaStrs
namespace Go.Proofs.Ytdfgcjjaiggpkaa
open Go.RowKit

def overB (m : Nat) (ss : List ByteArray) : Bool := ss.any fun s => decide (m < s.size)
theorem overB_no {m : Nat} {ss : List ByteArray} (h : overB m ss = false) : ∀ s ∈ ss, s.size ≤ m := by
  intro s hs
  unfold overB at h
  rw [List.any_eq_false] at h
  have := h s hs
  simpa using this
theorem strs_new (w : World) (ss : List ByteArray) (T : TypeId) : StrsAt (w.alloc (.cells (ss.map Value.string).toArray T)) (some ⟨w.heap.size, 0, none⟩) ss := by
  intro i h
  refine ⟨w.heap.size, 0, rfl, by simp, ?_⟩
  rw [Nat.zero_add]
  refine RowAt.cell (RowAt.new w _ _ (0, 0)) (i := i) ?_
  rw [List.getElem?_toArray, List.getElem?_map, List.getElem?_eq_getElem h]; rfl
set_option maxHeartbeats 400000 in
theorem large03 (ao : Option Addr) (cap : Nat) (ss : List ByteArray) (w : World) (hss : StrsAt w ao ss) (hl : ss.length ≤ 1000) :
    Calls Try.prog 30 #[.slice ao ss.length cap] w fun e w' => e = .returned (.bool (overB 2048 ss)) ∧ w = w' := by
  have HS := Lib.hid hss
  clear hss
  go_enter Try.func30, Try.ntmps30
  go_wp2_with fail
  go_loop [6] (fun i => ∃ k : Nat, k ≤ ss.length ∧ i = .int .i64 k ∧ Hid (overB 2048 ss = overB 2048 (ss.drop k))) (fun i => ss.length - (intOf i).toNat)
  case atStart => exact ⟨0, Nat.zero_le _, rfl, rfl⟩
  case round =>
    obtain ⟨k, hk, rfl, hd⟩ := hrel
    rcases Nat.lt_or_ge k ss.length with hlt | hge
    · obtain ⟨b, off, rfl, hb, hc⟩ := HS.out k hlt
      have hdr : overB 2048 (ss.drop k) = (decide (2048 < ss[k].size) || overB 2048 (ss.drop (k + 1))) := by
        rw [List.drop_eq_getElem_cons hlt]; rfl
      have HDR := Lib.hid hdr
      clear hdr
      generalize ss[k] = s at hc HDR
      by_cases h : 2048 < s.size
      · have hx : (2048 : Int) < (s.size : Int) := by omega
        have HX := Lib.hid (decide_eq_true h)
        clear h
        go_wp2_with fail
        go_ret
        exact ⟨by rw [hd.out, HDR.out, HX.out]; rfl, rfl⟩
      · have hx : ¬ (2048 : Int) < (s.size : Int) := by omega
        have HX := Lib.hid (decide_eq_false h)
        clear h
        go_wp2_with fail
        go_round
        case rel => exact ⟨k + 1, by omega, by go_num, by unfold Hid; rw [hd.out, HDR.out, HX.out]; rfl⟩
        case measure => simp [intOf]; omega
    · have HZ := Lib.hid (show overB 2048 ss = false by
        rw [hd.out, List.drop_of_length_le hge]; rfl)
      go_wp2_with fail
      go_ret
      exact ⟨by rw [HZ.out]; rfl, rfl⟩
def jefe : ByteArray := ⟨#[74, 101, 102, 101]⟩
def nothing : ByteArray := ⟨#[119, 104, 97, 116, 32, 100, 111, 32, 121, 97, 32, 119, 97, 110, 116, 32, 102, 111, 114, 32, 110, 111, 116, 104, 105, 110, 103, 63]⟩
def nothing2 : ByteArray := ⟨#[119, 104, 97, 116, 32, 100, 111, 32, 121, 97, 32, 119, 97, 110, 116, 32, 102, 111, 114, 32, 110, 111, 116, 104, 105, 110, 103]⟩
theorem mac_rfc : (macL [74, 101, 102, 101] [119, 104, 97, 116, 32, 100, 111, 32, 121, 97, 32, 119, 97, 110, 116, 32, 102, 111, 114, 32, 110, 111, 116, 104, 105, 110, 103, 63]).take 4 = [91, 220, 193, 70] := by decide +kernel
theorem mac_rfc2 : macL [74, 101, 102, 101] [119, 104, 97, 116, 32, 100, 111, 32, 121, 97, 32, 119, 97, 110, 116, 32, 102, 111, 114, 32, 110, 111, 116, 104, 105, 110, 103] ≠ macL [74, 101, 102, 101] [119, 104, 97, 116, 32, 100, 111, 32, 121, 97, 32, 119, 97, 110, 116, 32, 102, 111, 114, 32, 110, 111, 116, 104, 105, 110, 103, 63] := by decide +kernel
set_option maxRecDepth 100000 in
set_option maxHeartbeats 4000000 in
theorem awake03 (w : World) : Calls Try.prog 29 #[] w fun e w' => e = .returned (.bool true) ∧ Below w.heap.size w w' := by
  obtain ⟨q, hq⟩ : ∃ q, Is q (macL [74, 101, 102, 101] [119, 104, 97, 116, 32, 100, 111, 32, 121, 97, 32, 119, 97, 110, 116, 32, 102, 111, 114, 32, 110, 111, 116, 104, 105, 110, 103, 63]) := ⟨_, Is.of _⟩
  obtain ⟨r, hr⟩ : ∃ r, Is r (macL [74, 101, 102, 101] [119, 104, 97, 116, 32, 100, 111, 32, 121, 97, 32, 119, 97, 110, 116, 32, 102, 111, 114, 32, 110, 111, 116, 104, 105, 110, 103]) := ⟨_, Is.of _⟩
  obtain ⟨x, hx⟩ : ∃ x, Is x (expandL [107] [105] 40) := ⟨_, Is.of _⟩
  obtain ⟨y, hy⟩ : ∃ y, Is y (expandL (macL [115] [116]) [105] 7) := ⟨_, Is.of _⟩
  obtain ⟨z, hz⟩ : ∃ z, Is z (macL [97] [98]) := ⟨_, Is.of _⟩
  have qz : q.size = 32 := by rw [hq.size, macL_length]
  have HQZ := Lib.hid qz
  have HXZ := Lib.hid (show x.size = 40 by rw [hx.size, expandL_length])
  have HYZ := Lib.hid (show y.size = 7 by rw [hy.size, expandL_length])
  have HZZ := Lib.hid (show z.size = 32 by rw [hz.size, macL_length])
  have HQ4 := Lib.hid (show seq (q.extract 0 4) ⟨#[91, 220, 193, 70]⟩ = true by
    have h := hq.extract 0 4
    rw [List.drop_zero, Nat.sub_zero, mac_rfc] at h
    exact seq_is h (Is.self _))
  have HRQ := Lib.hid (show seq r q = false by
    rw [seq_eq hr hq]
    exact decide_eq_false mac_rfc2)
  have HQ := Lib.hid hq
  have HR := Lib.hid hr
  have HX := Lib.hid hx
  have HY := Lib.hid hy
  have HZ := Lib.hid hz
  clear hq hr hx hy hz
  go_enter Try.func29, Try.ntmps29
  go_wp2_with fail
  refine (MSum_walk ⟨#[74, 101, 102, 101]⟩ ⟨#[119, 104, 97, 116, 32, 100, 111, 32, 121, 97, 32, 119, 97, 110, 116, 32, 102, 111, 114, 32, 110, 111, 116, 104, 105, 110, 103, 63]⟩ (by decide) (by decide) q HQ.out _).mono ?_
  rintro e w1 ⟨rfl, hb1⟩
  have HB1 := Lib.hid hb1
  clear hb1
  go_wp2_with fail
  refine (MacNew_walk ⟨#[74, 101, 102, 101]⟩ (by decide) _).mono ?_
  rintro e w2 ⟨b, rfl, hm, hb2⟩
  have HM := Lib.hid (show MacAt w2 w1.heap.size b [74, 101, 102, 101] [] from hm)
  have HB2 := Lib.hid (bthen HB1.out hb2)
  have z2 := hb2.size
  have z1 := HB1.out.size
  clear hm hb2
  have hq32 : ((q.size : Int) != 32) = false := by rw [qz]; rfl
  clear qz
  go_wp2_with fail
  refine (MacAdd_walk w1.heap.size b _ _ ⟨#[119, 104, 97, 116, 32, 100, 111, 32, 121, 97, 32, 119, 97, 110, 116, 32]⟩ (by decide) _ HM.out z2).mono ?_
  rintro e w3 ⟨rfl, hm3, hb3⟩
  have HM3 := Lib.hid (show MacAt w3 w1.heap.size b [74, 101, 102, 101] [119, 104, 97, 116, 32, 100, 111, 32, 121, 97, 32, 119, 97, 110, 116, 32] from hm3)
  have HB3 := Lib.hid (HB2.out.trans (hb3.mono z1))
  have z3 : w1.heap.size ≤ w3.heap.size := Nat.le_trans z2 hb3.size
  clear hm3 hb3
  go_wp2_with fail
  refine (MacAdd_walk w1.heap.size b _ _ ⟨#[102, 111, 114, 32, 110, 111, 116, 104, 105, 110, 103, 63]⟩ (by decide) _ HM3.out z3).mono ?_
  rintro e w4 ⟨rfl, hm4, hb4⟩
  have HM4 := Lib.hid (show MacAt w4 w1.heap.size b [74, 101, 102, 101] [119, 104, 97, 116, 32, 100, 111, 32, 121, 97, 32, 119, 97, 110, 116, 32, 102, 111, 114, 32, 110, 111, 116, 104, 105, 110, 103, 63] from hm4)
  have HB4 := Lib.hid (HB3.out.trans (hb4.mono z1))
  clear hm4 hb4 hq32
  go_wp2_with fail
  refine (Expand_ok ⟨#[107]⟩ ⟨#[105]⟩ 40 (by decide) (by decide) (by decide) x HX.out _).mono ?_
  rintro e w5 ⟨rfl, hb5⟩
  have HM5 := Lib.hid (HM4.out.below hb5)
  have HB5 := Lib.hid (bthen HB4.out hb5)
  clear hb5
  go_wp2_with fail
  refine (Expand_no ⟨#[107]⟩ ⟨#[105]⟩ (-1) (Or.inl (by decide)) _).mono ?_
  rintro e w6 ⟨rfl, rfl⟩
  go_wp2_with fail
  refine (Derive_ok ⟨#[115]⟩ ⟨#[116]⟩ ⟨#[105]⟩ 7 (by decide) (by decide) (by decide) (by decide) y HY.out _).mono ?_
  rintro e w6 ⟨rfl, hb6⟩
  have HM6 := Lib.hid (HM5.out.below hb6)
  have HB6 := Lib.hid (bthen HB5.out hb6)
  have h4q : 4 ≤ q.size := by rw [HQZ.out]; decide
  have hq4 := HQ4.out
  clear hb6
  go_wp2_with fail
  refine (MacSum_walk w1.heap.size b _ _ (by decide) q HQ.out _ HM6.out).mono ?_
  rintro e w7 ⟨rfl, hb7⟩
  have HB7 := Lib.hid (bthen HB6.out hb7)
  have hqq := seq_self q
  clear hb7
  go_wp2_with fail
  refine (MCheck_walk ⟨#[74, 101, 102, 101]⟩ ⟨#[119, 104, 97, 116, 32, 100, 111, 32, 121, 97, 32, 119, 97, 110, 116, 32, 102, 111, 114, 32, 110, 111, 116, 104, 105, 110, 103, 63]⟩ q (by decide) (by decide) q HQ.out _).mono ?_
  rintro e w8 ⟨rfl, hb8⟩
  have HB8 := Lib.hid (bthen HB7.out hb8)
  rw [hqq]
  clear hb8
  go_wp2_with fail
  refine (MCheck_walk ⟨#[74, 101, 102, 101]⟩ ⟨#[119, 104, 97, 116, 32, 100, 111, 32, 121, 97, 32, 119, 97, 110, 116, 32, 102, 111, 114, 32, 110, 111, 116, 104, 105, 110, 103]⟩ q (by decide) (by decide) r HR.out _).mono ?_
  rintro e w9 ⟨rfl, hb9⟩
  have HB9 := Lib.hid (bthen HB8.out hb9)
  rw [HRQ.out]
  have hxz := HXZ.out
  have hyz := HYZ.out
  clear hb9
  go_wp2_with fail
  refine (MExtract_walk ⟨#[97]⟩ ⟨#[98]⟩ (by decide) (by decide) z HZ.out _).mono ?_
  rintro e w10 ⟨rfl, hb10⟩
  have HB10 := Lib.hid (bthen HB9.out hb10)
  have hzz := HZZ.out
  clear hb10
  go_wp2_with fail
  go_ret
  exact ⟨rfl, HB10.out⟩
end Go.Proofs.Ytdfgcjjaiggpkaa
