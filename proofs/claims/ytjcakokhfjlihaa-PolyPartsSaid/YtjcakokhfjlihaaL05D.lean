/-
  Layer 5's laws, walked: PolyParts.
-/
import Derived.Test.YtjcakokhfjlihaaL05C
namespace Go.Proofs.Ytjcakokhfjlihaa
open Go.RowKit

set_option maxRecDepth 100000 in
set_option maxHeartbeats 4000000 in
theorem PolyParts_w (key : List UInt8) (lk : key.length = 32) (ao : Option Addr) (cap : Nat) (ss : List ByteArray) (w : World) (hss : StrsAt w ao ss) (hsz : ∀ t ∈ ss, t.size ≤ 140737488351232) (hln : ss.length ≤ 140737488351232) :
    Calls Try.prog 10 #[.agg (cells key).toArray, .slice ao ss.length cap] w fun e w' => e = .returned (.bool true) ∧ Below w.heap.size w w' := by
  have hcz : (cells key).toArray.size = 32 := by simp [cells_length, lk]
  have HS0 := Lib.hid hss
  have HSZ := Lib.hid hsz
  clear hss hsz
  go_enter Try.func10, Try.ntmps10
  go_wp2_with fail
  refine (awake05 _).mono ?_
  rintro e w1 ⟨rfl, hb1⟩
  have HB1 := Lib.hid (show Below w.heap.size w w1 from Below.trans ((Below.refl _ _).alloc (Nat.le_refl _) _) (hb1.mono (by simp)))
  have hrow := (RowAt.new w (cells key).toArray 36 (0, 0)).below hb1 (by simp)
  have hst := run_str (P := Try.prog) w1 38 5 Try.underlying38 Try.underlying5 9 Try.underlying9 w.heap.size 32 32 _ _ _ key hrow.out lk (by rw [← lk]; exact List.take_of_length_le (by rw [cells_length]; exact Nat.le_refl _))
  have HLK := Lib.hid lk
  have hK0 := Is.of key
  generalize ByteArray.mk key.toArray = K at hst hK0
  have hK : Is K key := hK0
  have HKS := Lib.hid (show K.size = 32 by rw [hK.size]; exact lk)
  have HIK := Lib.hid hK
  clear hK0 hb1 hrow lk hcz hK
  go_wp2_with fail
  refine (New_walk K HKS.out _).mono ?_
  rw [HIK.out.out]
  rintro e w2 ⟨b, rfl, hwb, hp, hb2⟩
  have HB2 := Lib.hid (bthen HB1.out hb2)
  have HP := Lib.hid hp
  have hwb2 : w.heap.size ≤ b := Nat.le_trans HB1.out.size hwb
  clear hb2 hp hwb hst
  go_wp2_with fail
  go_loopw [8, 9] (fun x i wr => ∃ (k : Nat) (all : ByteArray), k ≤ ss.length ∧ i = .int .i64 k ∧ x = .string all ∧ all.size ≤ 1024 ∧ PolyK wr b key all.data.toList ∧ Below w.heap.size w wr) (fun _ i _ => ss.length - (intOf i).toNat)
  case atStart => exact ⟨0, ⟨#[]⟩, Nat.zero_le _, rfl, rfl, by decide, HP.out, HB2.out⟩
  case round =>
    obtain ⟨k, all, hk, rfl, rfl, hall, hp, hbel⟩ := hrel
    have HPW := Lib.hid hp
    have HBL := Lib.hid hbel
    clear hp hbel
    rcases Nat.lt_or_ge k ss.length with hlt | hge
    · rcases Nat.lt_or_ge k 30 with h30 | h30
      · obtain ⟨bb, off, rfl, hbl, hcell⟩ := HS0.out k hlt
        have c0 := (HBL.out.cell (p := ⟨bb, off + k, none⟩) hbl).trans hcell
        have hsk : (ss[k]).size ≤ 140737488351232 := HSZ.out _ (List.getElem_mem hlt)
        generalize ss[k] = s at c0 hcell hsk
        have hd1 : decide ((k : Int) < (ss.length : Int)) = true := decide_eq_true (by omega)
        have hd2 : decide ((k : Int) < 30) = true := decide_eq_true (by omega)
        have hkm : (0 : Int) ≤ (k : Int) % 3 := by omega
        rcases Nat.lt_or_ge 1024 (all.size + s.size) with hbig | hsm
        · have hmax : all.size + s.size ≤ 9223372036854775807 := by omega
          clear hcell
          go_wp2_with fail
          go_ret
          exact ⟨rfl, HBL.out⟩
        · clear hcell
          go_wp2_with fail
          refine (AddK_walk b key _ s (by omega) _ HPW.out).mono ?_
          rintro e w3 ⟨rfl, hp3, ho3⟩
          have HP3 := Lib.hid (show PolyK w3 b key (all ++ s).data.toList from by
            have e1 : (all ++ s).data.toList = all.data.toList ++ s.data.toList := ((Is.self all).append (Is.self s)).out
            rw [e1]; exact hp3)
          have HB3 := Lib.hid (HBL.out.trans (ho3.below hwb2 HBL.out.size))
          have hz3 : (all ++ s).size ≤ 1024 := by rw [ByteArray.size_append]; exact hsm
          clear hp3 ho3
          generalize all ++ s = al2 at HP3 hz3 ⊢
          by_cases h3 : k % 3 = 0
          · have hm : ¬ (0 : Int) < (k : Int) % 3 := by omega
            go_wp2_with fail
            refine (Tag_is K al2 (tagL key al2.data.toList) HKS.out (by omega) (by rw [HIK.out.out]) _).mono ?_
            rintro e w4 ⟨r4, rfl, hr4, hb4⟩
            have HB4 := Lib.hid (bthen HB3.out hb4)
            have HP4 := Lib.hid (HP3.out.below hb4 HP3.out.lt)
            have HR4 := Lib.hid hr4
            clear hb4 hr4
            go_wp2_with fail
            refine (TagK_walk b key _ HLK.out _ HP4.out).mono ?_
            rintro e w5 ⟨r5, rfl, hr5, hb5⟩
            have q1 : seq r4 r5 = true := seq_is HR4.out hr5
            have HB5 := Lib.hid (bthen HB4.out hb5)
            have HP5 := Lib.hid (HP4.out.below hb5 HP4.out.lt)
            clear hb5 hr5
            go_wp2_with fail
            go_roundw
            case rel => exact ⟨k + 1, al2, by omega, by go_num, rfl, hz3, HP5.out, HB5.out⟩
            case measure => simp [intOf]; omega
          · have hm : (0 : Int) < (k : Int) % 3 := by omega
            go_wp2_with fail
            go_roundw
            case rel => exact ⟨k + 1, al2, by omega, by go_num, rfl, hz3, HP3.out, HB3.out⟩
            case measure => simp [intOf]; omega
      · have hd1 : decide ((k : Int) < (ss.length : Int)) = true := decide_eq_true (by omega)
        have hd2 : decide ((k : Int) < 30) = false := decide_eq_false (by omega)
        go_wp2_with fail
        refine (Tag_is K all (tagL key all.data.toList) HKS.out (by omega) (by rw [HIK.out.out]) _).mono ?_
        rintro e w4 ⟨r4, rfl, hr4, hb4⟩
        have HB4 := Lib.hid (bthen HBL.out hb4)
        have HP4 := Lib.hid (HPW.out.below hb4 HPW.out.lt)
        have HR4 := Lib.hid hr4
        clear hb4 hr4
        go_wp2_with fail
        refine (TagK_walk b key _ HLK.out _ HP4.out).mono ?_
        rintro e w5 ⟨r5, rfl, hr5, hb5⟩
        have q1 : seq r5 r4 = true := seq_is hr5 HR4.out
        have HB5 := Lib.hid (bthen HB4.out hb5)
        have HP5 := Lib.hid (HP4.out.below hb5 HP4.out.lt)
        clear hb5 hr5
        go_wp2_with fail
        refine (TagK_walk b key _ HLK.out _ HP5.out).mono ?_
        rintro e w6 ⟨r6, rfl, hr6, hb6⟩
        have q2 : seq r6 r4 = true := seq_is hr6 HR4.out
        have HB6 := Lib.hid (bthen HB5.out hb6)
        clear hb6 hr6
        go_wp2_with fail
        go_ret
        exact ⟨rfl, HB6.out⟩
    · have hd1 : decide ((k : Int) < (ss.length : Int)) = false := decide_eq_false (by omega)
      go_wp2_with fail
      refine (Tag_is K all (tagL key all.data.toList) HKS.out (by omega) (by rw [HIK.out.out]) _).mono ?_
      rintro e w4 ⟨r4, rfl, hr4, hb4⟩
      have HB4 := Lib.hid (bthen HBL.out hb4)
      have HP4 := Lib.hid (HPW.out.below hb4 HPW.out.lt)
      have HR4 := Lib.hid hr4
      clear hb4 hr4
      go_wp2_with fail
      refine (TagK_walk b key _ HLK.out _ HP4.out).mono ?_
      rintro e w5 ⟨r5, rfl, hr5, hb5⟩
      have q1 : seq r5 r4 = true := seq_is hr5 HR4.out
      have HB5 := Lib.hid (bthen HB4.out hb5)
      have HP5 := Lib.hid (HP4.out.below hb5 HP4.out.lt)
      clear hb5 hr5
      go_wp2_with fail
      refine (TagK_walk b key _ HLK.out _ HP5.out).mono ?_
      rintro e w6 ⟨r6, rfl, hr6, hb6⟩
      have q2 : seq r6 r4 = true := seq_is hr6 HR4.out
      have HB6 := Lib.hid (bthen HB5.out hb6)
      clear hb6 hr6
      go_wp2_with fail
      go_ret
      exact ⟨rfl, HB6.out⟩
end Go.Proofs.Ytjcakokhfjlihaa
