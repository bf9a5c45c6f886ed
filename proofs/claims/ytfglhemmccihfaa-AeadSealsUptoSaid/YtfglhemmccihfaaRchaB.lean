/-
  Layer 4, the reference's package posthornref04: Block.
-/
import Derived.Test.YtfglhemmccihfaaRcha
import Derived.Deep.RegionHeld3
namespace Go.Proofs.Ytfglhemmccihfaa
open Go.RowKit

theorem Rstirred_int (B : Nat) (v : Value) (s : List (BitVec 32)) (hs : s.length = 16) (p : Nat × Nat × Nat × Nat) (hp : p.1 < 16 ∧ p.2.1 < 16 ∧ p.2.2.1 < 16 ∧ p.2.2.2 < 16) (ia ib ic id : Int) (ha : ia = (p.1 : Int)) (hb : ib = (p.2.1 : Int)) (hc : ic = (p.2.2.1 : Int)) (hd : id = (p.2.2.2 : Int)) (w : World) (h : SliceAt w B v s) :
    Calls Try.prog 87 #[v, .int .i64 ia, .int .i64 ib, .int .i64 ic, .int .i64 id] w fun e w' => ∃ v', e = .returned v' ∧ SliceAt w' w.heap.size v' (stirAt s p) ∧ Below w.heap.size w w' := by
  subst ha hb hc hd
  exact Rstirred_walk B v s hs p.1 p.2.1 p.2.2.1 p.2.2.2 hp.1 hp.2.1 hp.2.2.1 hp.2.2.2 w h
theorem ownsRow_below {w w' : World} {B : Nat} {e : TypeId} {v : Value} {n : Nat} {xs : List Value} (h : w.ownsRow B e 1 v n xs) (hb : Below w.heap.size w w') : w'.ownsRow B e 1 v n xs := by
  refine ⟨h.1, ?_⟩
  rcases h.2 with hn | ⟨g, cap, cur, hv, hB, hg, rest⟩
  · exact .inl hn
  · exact .inr ⟨g, cap, cur, hv, hB, (hb.block g (Array.getElem?_eq_some_iff.1 hg).1).trans hg, rest⟩
theorem place_low (j : Nat) (h : j < 4) : placeAt j = (j, 4 + j, 8 + j, 12 + j) := by
  obtain rfl | rfl | rfl | rfl : j = 0 ∨ j = 1 ∨ j = 2 ∨ j = 3 := by omega
  all_goals rfl
theorem place_high (j : Nat) (h : j < 4) : placeAt (4 + j) = (j, 4 + (j + 1) % 4, 8 + (j + 2) % 4, 12 + (j + 3) % 4) := by
  obtain rfl | rfl | rfl | rfl : j = 0 ∨ j = 1 ∨ j = 2 ∨ j = 3 := by omega
  all_goals rfl

set_option maxRecDepth 100000 in
set_option maxHeartbeats 4000000 in
theorem RBlock_ok (key nonce : ByteArray) (counter : BitVec 32) (hk : key.size = 32) (hn : nonce.size = 12) (w : World) :
    Calls Try.prog 66 #[.string key, .int .u32 (bvi counter), .string nonce] w fun e w' => ∃ r, e = .returned (.tuple #[.string r, .int .i64 0]) ∧ Is r (blockL key.data.toList counter nonce.data.toList) ∧ Below w.heap.size w w' := by
  have k1 : ((key.size : Int) != 32) = false := by rw [bne_eq_false_iff_eq]; omega
  have k2 : ((nonce.size : Int) != 12) = false := by rw [bne_eq_false_iff_eq]; omega
  have HKZ := Lib.hid hk
  have HNZ := Lib.hid hn
  have hk1 : key.size ≤ 32 := by omega
  have hn1 : nonce.size ≤ 12 := by omega
  clear hk hn
  go_enter Try.func66, Try.ntmps66
  go_wp2_with fail
  refine (RLow_walk _ 4 _).mono ?_
  rintro e w1 ⟨r1, rfl, hr1, hb1⟩
  have hz1 : r1.size = 4 := by rw [hr1.size, lowL_length]; rfl
  have hz2 : r1.size ≤ 4 := by omega
  go_wp2_with fail
  have htx := (((Is.of [101, 120, 112, 97, 110, 100, 32, 51, 50, 45, 98, 121, 116, 101, 32, 107]).append (Is.self key)).append hr1).append (Is.self nonce)
  have hzt := htx.size
  have hlk : key.data.toList.length = 32 := by have := HKZ.out; rw [Array.length_toList]; exact this
  have hln : nonce.data.toList.length = 12 := by have := HNZ.out; rw [Array.length_toList]; exact this
  rw [List.length_append, List.length_append, List.length_append, hlk, hln, lowL_length] at hzt
  have hz64 : (ByteArray.mk #[101, 120, 112, 97, 110, 100, 32, 51, 50, 45, 98, 121, 116, 101, 32, 107] ++ key ++ r1 ++ nonce).size = 64 := hzt
  clear hzt hlk hln
  generalize (ByteArray.mk #[101, 120, 112, 97, 110, 100, 32, 51, 50, 45, 98, 121, 116, 101, 32, 107] ++ key ++ r1 ++ nonce) = t at htx hz64 ⊢
  have HT := Lib.hid (show Is t (headL key.data.toList counter nonce.data.toList) from htx)
  have hzl : 64 ≤ t.size := by omega
  have HZ := Lib.hid hz64
  have HB1 := Lib.hid hb1
  have hz11 : w.heap.size ≤ w1.heap.size := hb1.size
  have HOW := Lib.hid (owns_zero w1 62 hz11)
  clear htx hz64 hz1 hz2 hk1 hn1 hr1 hb1 k1 k2
  go_loopw [9, 10] (fun v i wr => ∃ k : Nat, k ≤ 16 ∧ i = .int .i64 k ∧ wr.ownsRow w.heap.size 62 1 v k (words ((List.range k).map (numAt (headL key.data.toList counter nonce.data.toList)))) ∧ Below w.heap.size w wr) (fun _ i _ => 16 - (intOf i).toNat)
  case atStart => exact ⟨0, Nat.zero_le _, rfl, HOW.out, HB1.out.alloc HB1.out.size _⟩
  case round =>
    obtain ⟨k, hk, rfl, how, hbel⟩ := hrel
    have HO := Lib.hid how
    have HB := Lib.hid hbel
    clear how hbel
    rcases Nat.lt_or_ge k 16 with hlt | hge
    · have hx : Is (t.extract (4 * k) (4 * k + 4)) (((headL key.data.toList counter nonce.data.toList).drop (4 * k)).take 4) := by
        have := HT.out.extract (4 * k) (4 * k + 4)
        rwa [show 4 * k + 4 - 4 * k = 4 by omega] at this
      have hxz : (t.extract (4 * k) (4 * k + 4)).size ≤ 8 := by rw [ByteArray.size_extract]; omega
      have HX := Lib.hid hx
      clear hx
      go_wp2_with fail
      refine (RFromLow_ok _ hxz _).mono ?_
      rintro e w2 ⟨rfl, hb2⟩
      rw [HX.out.out]
      have hzw : w.heap.size ≤ w2.heap.size := Nat.le_trans HB.out.size hb2.size
      have how2 : w2.ownsRow w.heap.size 62 1 _ k _ := ownsRow_below HO.out hb2
      have HB2 := Lib.hid (bthen HB.out hb2)
      clear hb2
      go_wp2_with (at_builtin; refine append_one rfl _ _ 116 rfl w2 w.heap.size 62 (.int .u32 0) 4 Try.underlying116 infoU32 rfl how2 rfl _ rfl rfl ?c1 ?c2 ?c3 ?_)
      case c1 => omega
      case c2 => omega
      case c3 => omega
      intro v' w3 hown3 hb3 _ _
      go_wp2_with fail
      go_roundw
      case rel =>
        refine ⟨k + 1, by omega, by go_num, ?_, HB2.out.trans hb3⟩
        rw [List.range_succ, List.map_append]
        unfold words at hown3 ⊢
        rw [List.map_append]
        exact hown3
      case measure => simp [intOf]; omega
    · have HK := Lib.hid (show k = 16 by omega)
      have hF : SliceAt wr w.heap.size u9 (beginL key.data.toList counter nonce.data.toList) := by
        have h := HO.out
        rw [HK.out] at h
        exact sliceAt_own h (by rw [beginL_length]; omega)
      have hfl := beginL_length key.data.toList counter nonce.data.toList
      generalize hFq : beginL key.data.toList counter nonce.data.toList = F at hF hfl
      have HFQ := Lib.hid hFq
      have HFL := Lib.hid hfl
      have HF := Lib.hid hF
      have hkk : 16 ≤ k := hge
      have h16 : decide ((k : Int) < 16) = false := decide_eq_false (by omega)
      clear hFq hfl hF HO HK hk hge
      go_wp2_with fail
      obtain ⟨wa, hwa⟩ : ∃ wa : World, wa = wr := ⟨_, rfl⟩
      go_loopw [13, 14] (fun v i wx => ∃ k : Nat, k ≤ 10 ∧ i = .int .i64 k ∧ SliceAt wx w.heap.size v (roundsL F k) ∧ SliceAt wx w.heap.size u9 F ∧ Below w.heap.size w wx) (fun _ i _ => 10 - (intOf i).toNat)
      case atStart => exact ⟨0, Nat.zero_le _, rfl, HF.out, HF.out, HB.out⟩
      case round =>
        obtain ⟨c, hc, rfl, hs, hf, hb⟩ := hrel
        have HS := Lib.hid hs
        have HF2 := Lib.hid hf
        have HB2 := Lib.hid hb
        have hlS : (roundsL F c).length = 16 := by rw [roundsL_length, HFL.out]
        have HLS := Lib.hid hlS
        clear hs hf hb hlS
        rcases Nat.lt_or_ge c 10 with hlt | hge
        · have hc10 : decide ((c : Int) < 10) = true := decide_eq_true (by omega)
          go_wp2_with fail
          generalize hG : roundsL F c = G at HS HLS
          have HG := Lib.hid hG
          clear hG
          obtain ⟨wb, hwb⟩ : ∃ wb : World, wb = wr := ⟨_, rfl⟩
          go_loopw [13, 15] (fun v i wx => ∃ j : Nat, j ≤ 4 ∧ i = .int .i64 j ∧ SliceAt wx w.heap.size v (stepsL G j) ∧ SliceAt wx w.heap.size u9 F ∧ Below w.heap.size w wx) (fun _ i _ => 4 - (intOf i).toNat)
          case atStart => exact ⟨0, Nat.zero_le _, rfl, HS.out, HF2.out, HB2.out⟩
          case round =>
            obtain ⟨j, hj, rfl, hs, hf, hb⟩ := hrel
            have HS3 := Lib.hid hs
            have HF3 := Lib.hid hf
            have HB3 := Lib.hid hb
            have hl3 : (stepsL G j).length = 16 := by rw [stepsL_length, HLS.out]
            have HL3 := Lib.hid hl3
            clear hs hf hb hl3
            rcases Nat.lt_or_ge j 4 with hlj | hgj
            · go_wp2_with fail
              refine (Rstirred_int w.heap.size _ _ HL3.out (j, 4 + j, 8 + j, 12 + j) ⟨by omega, by show 4 + j < 16; omega, by show 8 + j < 16; omega, by show 12 + j < 16; omega⟩ _ _ _ _ rfl (by show (4 : Int) + (j : Int) = ((4 + j : Nat) : Int); omega) (by show (8 : Int) + (j : Int) = ((8 + j : Nat) : Int); omega) (by show (12 : Int) + (j : Int) = ((12 + j : Nat) : Int); omega) _ HS3.out).mono ?_
              rintro e w5 ⟨v5, rfl, hs5, hb5⟩
              have hx5 : stirAt (stepsL G j) (j, 4 + j, 8 + j, 12 + j) = stepsL G (j + 1) := by rw [stepsL_next G j (by omega), place_low j hlj]
              rw [hx5] at hs5
              have HS5 := Lib.hid (hs5.mono HB3.out.size)
              have HF5 := Lib.hid (HF3.out.below hb5)
              have HB5 := Lib.hid (bthen HB3.out hb5)
              clear hs5 hx5 hb5
              go_wp2_with fail
              go_roundw
              case rel => exact ⟨j + 1, by omega, by go_num, HS5.out, HF5.out, HB5.out⟩
              case measure => simp [intOf]; omega
            · have HJ := Lib.hid (show j = 4 by omega)
              have hj4 : decide ((j : Int) < 4) = false := decide_eq_false (by omega)
              go_wp2_with fail
              obtain ⟨wd, hwd⟩ : ∃ wd : World, wd = wr := ⟨_, rfl⟩
              go_loopw [13, 16] (fun v i wx => ∃ q : Nat, q ≤ 4 ∧ i = .int .i64 q ∧ SliceAt wx w.heap.size v (stepsL G (4 + q)) ∧ SliceAt wx w.heap.size u9 F ∧ Below w.heap.size w wx) (fun _ i _ => 4 - (intOf i).toNat)
              case atStart => exact ⟨0, Nat.zero_le _, rfl, by have := HS3.out; rwa [HJ.out] at this, HF3.out, HB3.out⟩
              case round =>
                obtain ⟨q, hq, rfl, hs, hf, hb⟩ := hrel
                have HS4 := Lib.hid hs
                have HF4 := Lib.hid hf
                have HB4 := Lib.hid hb
                have hl4 : (stepsL G (4 + q)).length = 16 := by rw [stepsL_length, HLS.out]
                have HL4 := Lib.hid hl4
                clear hs hf hb hl4
                rcases Nat.lt_or_ge q 4 with hlq | hgq
                · go_wp2_with fail
                  refine (Rstirred_int w.heap.size _ _ HL4.out (q, 4 + (q + 1) % 4, 8 + (q + 2) % 4, 12 + (q + 3) % 4) ⟨by omega, by show 4 + (q + 1) % 4 < 16; omega, by show 8 + (q + 2) % 4 < 16; omega, by show 12 + (q + 3) % 4 < 16; omega⟩ _ _ _ _ rfl (by show (4 : Int) + ((q : Int) + 1) % 4 = ((4 + (q + 1) % 4 : Nat) : Int); omega) (by show (8 : Int) + ((q : Int) + 2) % 4 = ((8 + (q + 2) % 4 : Nat) : Int); omega) (by show (12 : Int) + ((q : Int) + 3) % 4 = ((12 + (q + 3) % 4 : Nat) : Int); omega) _ HS4.out).mono ?_
                  rintro e w6 ⟨v6, rfl, hs6, hb6⟩
                  have hx6 : stirAt (stepsL G (4 + q)) (q, 4 + (q + 1) % 4, 8 + (q + 2) % 4, 12 + (q + 3) % 4) = stepsL G (4 + (q + 1)) := by rw [show 4 + (q + 1) = (4 + q) + 1 by omega, stepsL_next G (4 + q) (by omega), place_high q hlq]
                  rw [hx6] at hs6
                  have HS6 := Lib.hid (hs6.mono HB4.out.size)
                  have HF6 := Lib.hid (HF4.out.below hb6)
                  have HB6 := Lib.hid (bthen HB4.out hb6)
                  clear hs6 hx6 hb6
                  go_wp2_with fail
                  go_roundw
                  case rel => exact ⟨q + 1, by omega, by go_num, HS6.out, HF6.out, HB6.out⟩
                  case measure => simp [intOf]; omega
                · have HQ4 := Lib.hid (show q = 4 by omega)
                  have hq4 : decide ((q : Int) < 4) = false := decide_eq_false (by omega)
                  go_wp2_with fail
                  go_roundw
                  case rel =>
                    refine ⟨c + 1, by omega, by go_num, ?_, HF4.out, HB4.out⟩
                    have h8 := HS4.out
                    rw [HQ4.out, ← HG.out] at h8
                    exact h8
                  case measure => simp [intOf]; omega
        · have hc10 : decide ((c : Int) < 10) = false := decide_eq_false (by omega)
          have HC := Lib.hid (show c = 10 by omega)
          go_wp2_with fail
          generalize hG : roundsL F c = G at HS HLS
          have HG := Lib.hid hG
          clear hG
          obtain ⟨wb, hwb⟩ : ∃ wb : World, wb = wr := ⟨_, rfl⟩
          go_loopw [17, 18] (fun v i wx => ∃ (q : Nat) (r : ByteArray), q ≤ 16 ∧ i = .int .i64 q ∧ v = .string r ∧ Is r (outL G F q) ∧ SliceAt wx w.heap.size u13 G ∧ SliceAt wx w.heap.size u9 F ∧ Below w.heap.size w wx) (fun _ i _ => 16 - (intOf i).toNat)
          case atStart => exact ⟨0, ⟨#[]⟩, Nat.zero_le _, rfl, rfl, Is.of [], HS.out, HF2.out, HB2.out⟩
          case round =>
            obtain ⟨q, r, hq, rfl, rfl, hr, hs, hf, hb⟩ := hrel
            have HR := Lib.hid hr
            have HS5 := Lib.hid hs
            have HF5 := Lib.hid hf
            have HB5 := Lib.hid hb
            have hrz : r.size ≤ 64 := by rw [hr.size, outL_length]; omega
            rcases Nat.lt_or_ge q 16 with hlq | hgq
            · obtain ⟨gs, caps, rfl, _, _, hcs, hcells, _⟩ := hs.lt
              obtain ⟨gf, capf, rfl, _, _, hcf, hcellf, _⟩ := hf.lt
              have e1 := hcells q (by rw [HLS.out]; exact hlq)
              have e2 := hcellf q (by rw [HFL.out]; exact hlq)
              have hlS := HLS.out
              have hlF := HFL.out
              have hos := outL_succ G F q
              unfold sumAt at hos
              have HOS := Lib.hid hos
              rw [hlS, hlF]
              generalize G.getD q 0 = xg at e1 HOS
              generalize F.getD q 0 = xf at e2 HOS
              have b0 : (0 : Int) ≤ (q : Int) := Int.natCast_nonneg _
              have b1 : (q : Int) < 16 := by omega
              clear hr hs hf hb hos hcells hcellf hlS hlF
              go_wp2_with fail
              go_region_with (go_at_call 41; refine (RLow_walk _ 4 _).mono ?_; rintro e w7 ⟨rl, rfl, hrl, hbl⟩; have hzl : rl.size ≤ 4 := (by rw [hrl.size, lowL_length]; exact Nat.le_refl _))
              all_goals
                have HRL := Lib.hid (show Is rl (lowL (BitVec.setWidth 64 (xg + xf)) 4) from hrl)
                have HBL := Lib.hid (show Below wr.heap.size wr w7 from (Below.drew (Below.refl _ _)).trans hbl)
                clear hrl hbl
                go_wp2_with fail
                go_roundw
                case rel =>
                  refine ⟨q + 1, _, by omega, by go_num, rfl, ?_, by have := HS5.out.below HBL.out; rwa [HLS.out] at this, by have := HF5.out.below HBL.out; rwa [HFL.out] at this, bthen HB5.out HBL.out⟩
                  rw [HOS.out]
                  exact HR.out.append HRL.out
                case measure => simp [intOf]; omega
            · have HQ := Lib.hid (show q = 16 by omega)
              go_wp2_with fail
              go_ret2
              refine ⟨_, rfl, ?_, HB5.out⟩
              unfold blockL
              rw [HFQ.out, ← HC.out, HG.out, ← HQ.out]
              exact HR.out
end Go.Proofs.Ytfglhemmccihfaa
