/-
  Layer 3's laws, walked: MacParts, MacFilled.
-/
import Derived.Test.YtdfgcjjaiggpkaaL03B
namespace Go.Proofs.Ytdfgcjjaiggpkaa
open Go.RowKit

set_option maxRecDepth 100000 in
set_option maxHeartbeats 4000000 in
theorem MacParts_w (key : ByteArray) (ao : Option Addr) (cap : Nat) (ss : List ByteArray) (w : World) (hss : StrsAt w ao ss) (hsz : ∀ t ∈ ss, t.size ≤ 140737488351232) :
    Calls Try.prog 11 #[.string key, .slice ao ss.length cap] w fun e w' => e = .returned (.bool true) ∧ Below w.heap.size w w' := by
  have HS0 := Lib.hid hss
  have HSZ := Lib.hid hsz
  clear hss hsz
  go_enter Try.func11, Try.ntmps11
  go_wp2_with fail
  refine (awake03 _).mono ?_
  rintro e w1 ⟨rfl, hb1⟩
  have HB1 := Lib.hid hb1
  clear hb1
  go_wp2_with fail
  refine (large03 _ _ [key] _ (strs_new w1 [key] 9) (by simp)).mono ?_
  rintro e w2 ⟨rfl, rfl⟩
  have HB2 := Lib.hid (below_alloc' HB1.out (.cells #[.string key] 9))
  clear HB1
  rcases Bool.eq_false_or_eq_true (overB 2048 [key]) with hL | hL
  · rw [hL]
    clear hL
    go_wp2_with fail
    go_ret
    exact ⟨rfl, HB2.out⟩
  have HSM := overB_no hL
  rw [hL]
  clear hL
  have zkey : key.size ≤ 2048 := HSM key (by simp)
  clear HSM
  go_wp2_with fail
  refine (MacNew_walk key (by omega) _).mono ?_
  rintro e w2 ⟨b, rfl, hm, hb2⟩
  obtain ⟨B0, hB0⟩ : ∃ B0, B0 = (w1.alloc (.cells #[.string key] 9)).heap.size := ⟨_, rfl⟩
  rw [← hB0] at hm
  have HM := Lib.hid hm
  have z2 : B0 ≤ w2.heap.size := by rw [hB0]; exact hb2.size
  have z1 : w.heap.size ≤ B0 := by rw [hB0]; exact HB2.out.size
  have HB3 := Lib.hid (bthen HB2.out hb2)
  clear hm hb2 hB0
  go_wp2_with fail
  go_loopw [5, 7] (fun x i wr => ∃ (k : Nat) (all : ByteArray), k ≤ ss.length ∧ i = .int .i64 k ∧ x = .string all ∧ all.size ≤ 2048 ∧ MacAt wr B0 b key.data.toList all.data.toList ∧ B0 ≤ wr.heap.size ∧ Below w.heap.size w wr) (fun _ i _ => ss.length - (intOf i).toNat)
  case atStart => exact ⟨0, ⟨#[]⟩, Nat.zero_le _, rfl, rfl, by decide, HM.out, z2, HB3.out⟩
  case round =>
    obtain ⟨k, all, hk, rfl, rfl, hall, hp, zr, hbel⟩ := hrel
    have HPW := Lib.hid hp
    have HBL := Lib.hid hbel
    clear hp hbel
    rcases Nat.lt_or_ge k ss.length with hlt | hge
    · rcases Nat.lt_or_ge k 30 with h30 | h30
      · obtain ⟨bb, off, rfl, hbl, hcell⟩ := HS0.out k hlt
        have c0 := (HBL.out.cell (p := ⟨bb, off + k, none⟩) hbl).trans hcell
        have hsk : (ss[k]).size ≤ 140737488351232 := HSZ.out _ (List.getElem_mem hlt)
        generalize ss[k] = s at c0 hcell hsk
        have hd1 : decide ((k : Int) < (ss.length : Int)) = true := decide_eq_true (by omega)
        have hd2 : decide ((k : Int) < 30) = true := decide_eq_true (by omega)
        rcases Nat.lt_or_ge 2048 (all.size + s.size) with hbig | hsm
        · have hmax : all.size + s.size ≤ 9223372036854775807 := by omega
          clear hcell
          go_wp2_with fail
          go_ret
          exact ⟨rfl, HBL.out⟩
        · clear hcell
          go_wp2_with fail
          refine (MacAdd_walk B0 b _ _ s (by omega) _ HPW.out zr).mono ?_
          rintro e w3 ⟨rfl, hp3, ho3⟩
          have HP3 := Lib.hid (show MacAt w3 B0 b key.data.toList (all ++ s).data.toList from by
            have e1 : (all ++ s).data.toList = all.data.toList ++ s.data.toList := ((Is.self all).append (Is.self s)).out
            rw [e1]; exact hp3)
          have z3 : B0 ≤ w3.heap.size := Nat.le_trans zr ho3.size
          have HB3 := Lib.hid (HBL.out.trans (ho3.mono z1))
          have hz3 : (all ++ s).size ≤ 2048 := by rw [ByteArray.size_append]; exact hsm
          clear hp3 ho3
          generalize all ++ s = al2 at HP3 hz3 ⊢
          have HN2 := Lib.hid (show al2.data.toList.length = al2.size by rw [Array.length_toList]; rfl)
          obtain ⟨q, hq⟩ : ∃ q, Is q (macL key.data.toList al2.data.toList) := ⟨_, Is.of _⟩
          have HQ := Lib.hid hq
          have hqq := seq_self q
          clear hq
          by_cases h3 : k % 3 = 0
          · have hm : ((k : Int) % 3 == 0) = true := by rw [beq_iff_eq]; omega
            clear h3
            go_wp2_with fail
            refine (MacSum_walk B0 b _ _ (by rw [HN2.out]; omega) q HQ.out _ HP3.out).mono ?_
            rintro e w5 ⟨rfl, hb5⟩
            have HB5 := Lib.hid (bthen HB3.out hb5)
            have HP5 := Lib.hid (HP3.out.below hb5)
            have z5 : B0 ≤ w5.heap.size := Nat.le_trans z3 hb5.size
            clear hb5
            go_wp2_with fail
            refine (MSum_walk key al2 (by omega) (by omega) q HQ.out _).mono ?_
            rintro e w6 ⟨rfl, hb6⟩
            have HB6 := Lib.hid (bthen HB5.out hb6)
            have HP6 := Lib.hid (HP5.out.below hb6)
            have z6 : B0 ≤ w6.heap.size := Nat.le_trans z5 hb6.size
            clear hb6
            go_wp2_with fail
            go_roundw
            case rel => exact ⟨k + 1, al2, by omega, by go_num, rfl, hz3, HP6.out, z6, HB6.out⟩
            case measure => simp [intOf]; omega
          · have hm : ((k : Int) % 3 == 0) = false := by rw [beq_eq_false_iff_ne]; omega
            clear h3
            go_wp2_with fail
            go_roundw
            case rel => exact ⟨k + 1, al2, by omega, by go_num, rfl, hz3, HP3.out, z3, HB3.out⟩
            case measure => simp [intOf]; omega
      · have hd1 : decide ((k : Int) < (ss.length : Int)) = true := decide_eq_true (by omega)
        have hd2 : decide ((k : Int) < 30) = false := decide_eq_false (by omega)
        obtain ⟨q, hq⟩ : ∃ q, Is q (macL key.data.toList all.data.toList) := ⟨_, Is.of _⟩
        have HQ := Lib.hid hq
        have hqq := seq_self q
        have HN2 := Lib.hid (show all.data.toList.length = all.size by rw [Array.length_toList]; rfl)
        clear hq
        go_wp2_with fail
        refine (MacSum_walk B0 b _ _ (by rw [HN2.out]; omega) q HQ.out _ HPW.out).mono ?_
        rintro e w3 ⟨rfl, hb3⟩
        have HB3 := Lib.hid (bthen HBL.out hb3)
        have HP3 := Lib.hid (HPW.out.below hb3)
        clear hb3
        go_wp2_with fail
        refine (MSum_walk key all (by omega) (by omega) q HQ.out _).mono ?_
        rintro e w4 ⟨rfl, hb4⟩
        have HB4 := Lib.hid (bthen HB3.out hb4)
        have HP4 := Lib.hid (HP3.out.below hb4)
        clear hb4
        go_wp2_with fail
        refine (MacSum_walk B0 b _ _ (by rw [HN2.out]; omega) q HQ.out _ HP4.out).mono ?_
        rintro e w5 ⟨rfl, hb5⟩
        have HB5 := Lib.hid (bthen HB4.out hb5)
        have HP5 := Lib.hid (HP4.out.below hb5)
        clear hb5
        go_wp2_with fail
        refine (MacSum_walk B0 b _ _ (by rw [HN2.out]; omega) q HQ.out _ HP5.out).mono ?_
        rintro e w6 ⟨rfl, hb6⟩
        have HB6 := Lib.hid (bthen HB5.out hb6)
        clear hb6
        go_wp2_with fail
        go_ret
        exact ⟨rfl, HB6.out⟩
    · have hd1 : decide ((k : Int) < (ss.length : Int)) = false := decide_eq_false (by omega)
      obtain ⟨q, hq⟩ : ∃ q, Is q (macL key.data.toList all.data.toList) := ⟨_, Is.of _⟩
      have HQ := Lib.hid hq
      have hqq := seq_self q
      have HN2 := Lib.hid (show all.data.toList.length = all.size by rw [Array.length_toList]; rfl)
      clear hq
      go_wp2_with fail
      refine (MacSum_walk B0 b _ _ (by rw [HN2.out]; omega) q HQ.out _ HPW.out).mono ?_
      rintro e w3 ⟨rfl, hb3⟩
      have HB3 := Lib.hid (bthen HBL.out hb3)
      have HP3 := Lib.hid (HPW.out.below hb3)
      clear hb3
      go_wp2_with fail
      refine (MSum_walk key all (by omega) (by omega) q HQ.out _).mono ?_
      rintro e w4 ⟨rfl, hb4⟩
      have HB4 := Lib.hid (bthen HB3.out hb4)
      have HP4 := Lib.hid (HP3.out.below hb4)
      clear hb4
      go_wp2_with fail
      refine (MacSum_walk B0 b _ _ (by rw [HN2.out]; omega) q HQ.out _ HP4.out).mono ?_
      rintro e w5 ⟨rfl, hb5⟩
      have HB5 := Lib.hid (bthen HB4.out hb5)
      have HP5 := Lib.hid (HP4.out.below hb5)
      clear hb5
      go_wp2_with fail
      refine (MacSum_walk B0 b _ _ (by rw [HN2.out]; omega) q HQ.out _ HP5.out).mono ?_
      rintro e w6 ⟨rfl, hb6⟩
      have HB6 := Lib.hid (bthen HB5.out hb6)
      clear hb6
      go_wp2_with fail
      go_ret
      exact ⟨rfl, HB6.out⟩
theorem make_n (m : Nat) (hm : m ≤ 140737488355328) (wx : World) : (Instr.makeSlice 49 (.int .i64 m) (.int .i64 m)).run Try.prog wx = .ok (.slice (some ⟨wx.heap.size, 0, none⟩) m m) (wx.alloc (.cells (cells (List.replicate m 0)).toArray 5)) := by
  obtain ⟨i0, hi, hz0, hz1, hz2⟩ := info_parts infoU8
  have hmk := run_make (P := Try.prog) wx 49 5 i0 (.int .u8 0) Try.underlying49 hi hz0 .i64 .i64 m m (by omega) (by omega) (by rw [hz2]; omega) (by omega)
  rw [hz1] at hmk; simp only [Int.toNat_natCast, Nat.mul_one] at hmk
  have e : (cells (List.replicate m 0)).toArray = madeCells #[.int .u8 0] m := by
    rw [madeCells_one]
    have : cells (List.replicate m 0) = List.replicate m (Value.int .u8 0) := by
      unfold cells
      rw [List.map_replicate]; rfl
    rw [this]
    simp
  rw [e]
  exact hmk
theorem str_n (m : Nat) (wx : World) : (convert 49 9 (.slice (some ⟨wx.heap.size, 0, none⟩) m m)).run Try.prog (wx.alloc (.cells (cells (List.replicate m 0)).toArray 5)) = .ok (.string ⟨(List.replicate m 0).toArray⟩) (wx.alloc (.cells (cells (List.replicate m 0)).toArray 5)) :=
  run_str (wx.alloc (.cells (cells (List.replicate m 0)).toArray 5)) 49 5 Try.underlying49 Try.underlying5 9 Try.underlying9 wx.heap.size m m _ _ _ (List.replicate m 0) (RowAt.new wx _ _ _) (by simp) (List.take_of_length_le (by rw [cells_length]; simp))
set_option maxRecDepth 100000 in
set_option maxHeartbeats 4000000 in
theorem MacFilled_w (key text : ByteArray) (n : BitVec 8) (w : World) : Calls Try.prog 12 #[.string key, .string text, .int .u8 (bvi n)] w fun e w' => e = .returned (.bool true) ∧ Below w.heap.size w w' := by
  obtain ⟨q, hq⟩ : ∃ q, Is q (macL key.data.toList text.data.toList) := ⟨_, Is.of _⟩
  have HTL := Lib.hid (show key.data.toList.length = key.size by rw [Array.length_toList]; rfl)
  have HQ := Lib.hid hq
  clear hq
  go_enter Try.func12, Try.ntmps12
  go_wp2_with fail
  refine (awake03 _).mono ?_
  rintro e w1 ⟨rfl, hb1⟩
  have HB1 := Lib.hid hb1
  clear hb1
  go_wp2_with fail
  refine (large03 _ _ [key, text] _ (strs_new w1 [key, text] 9) (by simp)).mono ?_
  rintro e w2 ⟨rfl, rfl⟩
  have HB2 := Lib.hid (below_alloc' HB1.out (.cells #[.string key, .string text] 9))
  clear HB1
  rcases Bool.eq_false_or_eq_true (overB 2048 [key, text]) with hL | hL
  · rw [hL]
    clear hL
    go_wp2_with fail
    go_ret
    exact ⟨rfl, HB2.out⟩
  have HSM := overB_no hL
  rw [hL]
  clear hL
  have zkey : key.size ≤ 2048 := HSM key (by simp)
  have ztext : text.size ≤ 2048 := HSM text (by simp)
  clear HSM
  rcases Nat.lt_or_ge 64 key.size with hlong | hshort
  · have hd : decide ((64 : Int) < (key.size : Int)) = true := decide_eq_true (by omega)
    obtain ⟨x, hx⟩ : ∃ x, Is x (shaL key.data.toList) := ⟨_, Is.of _⟩
    have HX := Lib.hid hx
    have HXZ := Lib.hid (show x.size = 32 by rw [hx.size, shaL_length])
    have HQX := Lib.hid (show Is q (macL x.data.toList text.data.toList) by
      rw [hx.out, macL_padK (padK_long _ (by rw [HTL.out]; exact hlong))]; exact HQ.out)
    clear hx
    go_wp2_with fail
    refine (MSum_walk key text (by omega) (by omega) q HQ.out _).mono ?_
    rintro e w3 ⟨rfl, hb3⟩
    have HB3 := Lib.hid (bthen HB2.out hb3)
    clear hb3
    go_wp2_with fail
    refine (RSum_walk key (by omega) x HX.out _).mono ?_
    rintro e w4 ⟨rfl, hb4⟩
    have HB4 := Lib.hid (bthen HB3.out hb4)
    clear hb4
    go_wp2_with fail
    refine (MSum_walk x text (by rw [HXZ.out]; decide) (by omega) q HQX.out _).mono ?_
    rintro e w5 ⟨rfl, hb5⟩
    have HB5 := Lib.hid (bthen HB4.out hb5)
    have hqq := seq_self q
    clear hb5
    go_wp2_with fail
    go_ret
    exact ⟨rfl, HB5.out⟩
  · have hd : decide ((64 : Int) < (key.size : Int)) = false := decide_eq_false (by omega)
    have hn0 := bvi_nonneg n
    have hn1 : bvi n < 256 := by have := bvi_lt n; simpa using this
    obtain ⟨m, hm⟩ : ∃ m : Nat, bvi n % (65 - (key.size : Int)) = (m : Int) := Int.eq_ofNat_of_zero_le (Int.emod_nonneg _ (by omega))
    have hm64 : m + key.size ≤ 64 := by
      have := Int.emod_lt_of_pos (bvi n) (show 0 < 65 - (key.size : Int) by omega)
      omega
    obtain ⟨z, hz⟩ : ∃ z, Is z (List.replicate m 0) := ⟨_, Is.of _⟩
    have HZ := Lib.hid (show z.size = m by rw [hz.size]; simp)
    have HQZ := Lib.hid (show Is q (macL (key ++ z).data.toList text.data.toList) by
      rw [((Is.self key).append hz).out, macL_padK (padK_fill _ m (by rw [HTL.out]; omega))]; exact HQ.out)
    have hs1 := str_n m (w1.alloc (.cells #[.string key, .string text] 9))
    rw [← hz.eq, show (w1.alloc (.cells #[.string key, .string text] 9)).heap.size = w1.heap.size + 1 by simp] at hs1
    have hmk := make_n m (by omega)
    have hov : ¬ 9223372036854775807 < key.size + z.size := by rw [HZ.out]; omega
    clear hz
    go_wp2_with fail
    clear hs1 hmk hm
    have HB3 := Lib.hid (below_alloc' HB2.out (.cells (cells (List.replicate m 0)).toArray 5))
    refine (MSum_walk (key ++ z) text (by rw [ByteArray.size_append, HZ.out]; omega) (by omega) q HQZ.out _).mono ?_
    rintro e w4 ⟨rfl, hb4⟩
    have HB4 := Lib.hid (bthen HB3.out hb4)
    clear hb4
    go_wp2_with fail
    refine (MSum_walk key text (by omega) (by omega) q HQ.out _).mono ?_
    rintro e w5 ⟨rfl, hb5⟩
    have HB5 := Lib.hid (bthen HB4.out hb5)
    have hqq := seq_self q
    clear hb5
    go_wp2_with fail
    go_ret
    exact ⟨rfl, HB5.out⟩
end Go.Proofs.Ytdfgcjjaiggpkaa
