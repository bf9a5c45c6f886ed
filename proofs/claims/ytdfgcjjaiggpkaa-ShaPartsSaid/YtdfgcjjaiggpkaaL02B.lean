/-
  Layer 2's laws, walked: ShaParts.
-/
import Derived.Test.YtdfgcjjaiggpkaaL02A
namespace Go.Proofs.Ytdfgcjjaiggpkaa
open Go.RowKit

set_option maxRecDepth 100000 in
set_option maxHeartbeats 4000000 in
theorem ShaParts_w (ao : Option Addr) (cap : Nat) (ss : List ByteArray) (w : World) (hss : StrsAt w ao ss) (hsz : ∀ t ∈ ss, t.size ≤ 140737488351232) (_hln : ss.length ≤ 140737488351232) :
    Calls Try.prog 5 #[.slice ao ss.length cap] w fun e w' => e = .returned (.bool true) ∧ Below w.heap.size w w' := by
  have HS0 := Lib.hid hss
  have HSZ := Lib.hid hsz
  clear hss hsz
  go_enter Try.func5, Try.ntmps5
  go_wp2_with fail
  refine (awake02 _).mono ?_
  rintro e w1 ⟨rfl, hb1⟩
  have HB1 := Lib.hid hb1
  clear hb1
  go_wp2_with fail
  refine (ShaNew_walk _).mono ?_
  rintro e w2 ⟨rfl, h1, hz1, hb2⟩
  obtain ⟨b, hb⟩ : ∃ b, b = w2.heap.size - 1 := ⟨_, rfl⟩
  have hwb2 : w.heap.size ≤ b := by have := HB1.out.size; omega
  rw [← hb] at h1 ⊢
  have HP := Lib.hid h1
  have HB2 := Lib.hid (bthen HB1.out hb2)
  clear hb h1 hb2 hz1
  go_wp2_with fail
  go_loopw [3, 5] (fun x i wr => ∃ (k : Nat) (all : ByteArray), k ≤ ss.length ∧ i = .int .i64 k ∧ x = .string all ∧ all.size ≤ 4096 ∧ HashAt wr b all.data.toList ∧ Below w.heap.size w wr) (fun _ i _ => ss.length - (intOf i).toNat)
  case atStart => exact ⟨0, ⟨#[]⟩, Nat.zero_le _, rfl, rfl, by decide, HP.out, HB2.out⟩
  case round =>
    obtain ⟨k, all, hk, rfl, rfl, hall, hp, hbel⟩ := hrel
    have HPW := Lib.hid hp
    have HBL := Lib.hid hbel
    clear hp hbel
    rcases Nat.lt_or_ge k ss.length with hlt | hge
    · rcases Nat.lt_or_ge k 30 with h30 | h30
      · obtain ⟨bb, off, rfl, hbl, hcell⟩ := HS0.out k hlt
        have c0 := (HBL.out.cell (p := ⟨bb, off + k, none⟩) hbl).trans hcell
        have hsk : (ss[k]).size ≤ 140737488351232 := HSZ.out _ (List.getElem_mem hlt)
        generalize ss[k] = s at c0 hcell hsk
        have hd1 : decide ((k : Int) < (ss.length : Int)) = true := decide_eq_true (by omega)
        have hd2 : decide ((k : Int) < 30) = true := decide_eq_true (by omega)
        rcases Nat.lt_or_ge 4096 (all.size + s.size) with hbig | hsm
        · have hmax : all.size + s.size ≤ 9223372036854775807 := by omega
          clear hcell
          go_wp2_with fail
          go_ret
          exact ⟨rfl, HBL.out⟩
        · clear hcell
          go_wp2_with fail
          refine (HAdd_walk b _ s (by omega) _ HPW.out).mono ?_
          rintro e w3 ⟨rfl, hp3, ho3⟩
          have HP3 := Lib.hid (show HashAt w3 b (all ++ s).data.toList from by
            have e1 : (all ++ s).data.toList = all.data.toList ++ s.data.toList := ((Is.self all).append (Is.self s)).out
            rw [e1]; exact hp3)
          have HB3 := Lib.hid (HBL.out.trans (ho3.below hwb2 HBL.out.size))
          have hz3 : (all ++ s).size ≤ 4096 := by rw [ByteArray.size_append]; exact hsm
          clear hp3 ho3
          generalize all ++ s = al2 at HP3 hz3 ⊢
          have HN2 := Lib.hid (show al2.data.toList.length = al2.size by rw [Array.length_toList]; rfl)
          obtain ⟨q, hq⟩ : ∃ q, Is q (shaL al2.data.toList) := ⟨_, Is.of _⟩
          have HQ := Lib.hid hq
          have hqq := seq_self q
          clear hq
          go_wp2_with fail
          refine (HLen_walk b _ _ HP3.out).mono ?_
          rintro e w4 ⟨rfl, rfl⟩
          rw [HN2.out]
          have hne : (bvi (BitVec.ofNat 64 al2.size) != bvi (BitVec.ofNat 64 al2.size)) = false := bne_self_eq_false _
          by_cases h3 : k % 3 = 0
          · have hm : ((k : Int) % 3 == 0) = true := by rw [beq_iff_eq]; omega
            clear h3
            go_wp2_with fail
            refine (HSum_walk b _ q HQ.out _ HP3.out).mono ?_
            rintro e w5 ⟨rfl, hb5⟩
            have HB5 := Lib.hid (bthen HB3.out hb5)
            have HP5 := Lib.hid (HP3.out.below hb5 HP3.out.lt)
            clear hb5
            go_wp2_with fail
            refine (ShaSum_walk al2 (by omega) q HQ.out _).mono ?_
            rintro e w6 ⟨rfl, hb6⟩
            have HB6 := Lib.hid (bthen HB5.out hb6)
            have HP6 := Lib.hid (HP5.out.below hb6 HP5.out.lt)
            clear hb6
            go_wp2_with fail
            go_roundw
            case rel => exact ⟨k + 1, al2, by omega, by go_num, rfl, hz3, HP6.out, HB6.out⟩
            case measure => simp [intOf]; omega
          · have hm : ((k : Int) % 3 == 0) = false := by rw [beq_eq_false_iff_ne]; omega
            clear h3
            go_wp2_with fail
            go_roundw
            case rel => exact ⟨k + 1, al2, by omega, by go_num, rfl, hz3, HP3.out, HB3.out⟩
            case measure => simp [intOf]; omega
      · have hd1 : decide ((k : Int) < (ss.length : Int)) = true := decide_eq_true (by omega)
        have hd2 : decide ((k : Int) < 30) = false := decide_eq_false (by omega)
        obtain ⟨q, hq⟩ : ∃ q, Is q (shaL all.data.toList) := ⟨_, Is.of _⟩
        have HQ := Lib.hid hq
        have hqq := seq_self q
        have hqz : q.size = 32 := by rw [hq.size, shaL_length]
        have HQZ := Lib.hid hqz
        clear hq hqz
        go_wp2_with fail
        refine (HSum_walk b _ q HQ.out _ HPW.out).mono ?_
        rintro e w3 ⟨rfl, hb3⟩
        have HB3 := Lib.hid (bthen HBL.out hb3)
        have HP3 := Lib.hid (HPW.out.below hb3 HPW.out.lt)
        clear hb3
        go_wp2_with fail
        refine (ShaSum_walk all (by omega) q HQ.out _).mono ?_
        rintro e w4 ⟨rfl, hb4⟩
        have HB4 := Lib.hid (bthen HB3.out hb4)
        have HP4 := Lib.hid (HP3.out.below hb4 HP3.out.lt)
        clear hb4
        go_wp2_with fail
        refine (HSum_walk b _ q HQ.out _ HP4.out).mono ?_
        rintro e w5 ⟨rfl, hb5⟩
        have HB5 := Lib.hid (bthen HB4.out hb5)
        have HP5 := Lib.hid (HP4.out.below hb5 HP4.out.lt)
        clear hb5
        go_wp2_with fail
        refine (HSum_walk b _ q HQ.out _ HP5.out).mono ?_
        rintro e w6 ⟨rfl, hb6⟩
        have HB6 := Lib.hid (bthen HB5.out hb6)
        have HP6 := Lib.hid (HP5.out.below hb6 HP5.out.lt)
        clear hb6
        go_wp2_with fail
        refine (HSum_walk b _ q HQ.out _ HP6.out).mono ?_
        rintro e w7 ⟨rfl, hb7⟩
        have HB7 := Lib.hid (bthen HB6.out hb7)
        have h32 := HQZ.out
        clear hb7
        go_wp2_with fail
        go_ret
        exact ⟨rfl, HB7.out⟩
    · have hd1 : decide ((k : Int) < (ss.length : Int)) = false := decide_eq_false (by omega)
      obtain ⟨q, hq⟩ : ∃ q, Is q (shaL all.data.toList) := ⟨_, Is.of _⟩
      have HQ := Lib.hid hq
      have hqq := seq_self q
      have hqz : q.size = 32 := by rw [hq.size, shaL_length]
      have HQZ := Lib.hid hqz
      clear hq hqz
      go_wp2_with fail
      refine (HSum_walk b _ q HQ.out _ HPW.out).mono ?_
      rintro e w3 ⟨rfl, hb3⟩
      have HB3 := Lib.hid (bthen HBL.out hb3)
      have HP3 := Lib.hid (HPW.out.below hb3 HPW.out.lt)
      clear hb3
      go_wp2_with fail
      refine (ShaSum_walk all (by omega) q HQ.out _).mono ?_
      rintro e w4 ⟨rfl, hb4⟩
      have HB4 := Lib.hid (bthen HB3.out hb4)
      have HP4 := Lib.hid (HP3.out.below hb4 HP3.out.lt)
      clear hb4
      go_wp2_with fail
      refine (HSum_walk b _ q HQ.out _ HP4.out).mono ?_
      rintro e w5 ⟨rfl, hb5⟩
      have HB5 := Lib.hid (bthen HB4.out hb5)
      have HP5 := Lib.hid (HP4.out.below hb5 HP4.out.lt)
      clear hb5
      go_wp2_with fail
      refine (HSum_walk b _ q HQ.out _ HP5.out).mono ?_
      rintro e w6 ⟨rfl, hb6⟩
      have HB6 := Lib.hid (bthen HB5.out hb6)
      have HP6 := Lib.hid (HP5.out.below hb6 HP5.out.lt)
      clear hb6
      go_wp2_with fail
      refine (HSum_walk b _ q HQ.out _ HP6.out).mono ?_
      rintro e w7 ⟨rfl, hb7⟩
      have HB7 := Lib.hid (bthen HB6.out hb7)
      have h32 := HQZ.out
      clear hb7
      go_wp2_with fail
      go_ret
      exact ⟨rfl, HB7.out⟩
end Go.Proofs.Ytdfgcjjaiggpkaa
