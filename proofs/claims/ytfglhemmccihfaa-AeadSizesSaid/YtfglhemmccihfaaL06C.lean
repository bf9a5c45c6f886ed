/-
  Layer 6's laws, walked: AeadOpens, AeadCovers, AeadSizes.
-/
import Derived.Test.YtfglhemmccihfaaL06B
namespace Go.Proofs.Ytfglhemmccihfaa
open Go.RowKit

set_option maxRecDepth 100000 in
set_option maxHeartbeats 2000000 in
theorem AeadOpens_w (key nonce data sealed : ByteArray) (hs : sealed.size ≤ 140737488351232) (w : World) : Calls Try.prog 4 #[.string key, .string nonce, .string data, .string sealed] w fun e w' => e = .returned (.bool true) ∧ Below w.heap.size w w' := by
  obtain ⟨q, c, hq⟩ : ∃ q c, Is q (openA key.data.toList nonce.data.toList data.data.toList sealed.data.toList).1 ∧ c = (openA key.data.toList nonce.data.toList data.data.toList sealed.data.toList).2 := ⟨_, _, Is.of _, rfl⟩
  have HQ := Lib.hid hq
  clear hq
  go_enter Try.func4, Try.ntmps4
  go_wp2_with fail
  refine (awake06 _).mono ?_
  rintro e w1 ⟨rfl, hb1⟩
  have HB1 := Lib.hid hb1
  clear hb1
  go_wp2_with fail
  refine (large06 _ _ [key, nonce, data, sealed] _ (strs_new6 w1 [key, nonce, data, sealed] 9) (by simp)).mono ?_
  rintro e w2 ⟨rfl, rfl⟩
  have HB2 := Lib.hid (below_alloc' HB1.out (.cells #[.string key, .string nonce, .string data, .string sealed] 9))
  clear HB1
  rcases Bool.eq_false_or_eq_true (overA [key, nonce, data, sealed]) with hL | hL
  · rw [hL]
    clear hL
    go_wp2_with fail
    go_ret
    exact ⟨rfl, HB2.out⟩
  have HSM := overA_no hL
  rw [hL]
  clear hL
  have zkey : key.size ≤ 512 ∨ 16400 < key.size := HSM key (by simp)
  have znonce : nonce.size ≤ 512 ∨ 16400 < nonce.size := HSM nonce (by simp)
  have zdata : data.size ≤ 512 ∨ 16400 < data.size := HSM data (by simp)
  have zsealed : sealed.size ≤ 512 ∨ 16400 < sealed.size := HSM sealed (by simp)
  clear HSM
  clear zkey znonce zdata zsealed
  go_wp2_with fail
  refine (Open_walk key nonce data sealed hs q c HQ.out _).mono ?_
  rintro e w3 ⟨rfl, hb3⟩
  have HB3 := Lib.hid (bthen HB2.out hb3)
  clear hb3
  go_wp2_with fail
  refine (ROpen_walk key nonce data sealed hs q c HQ.out _).mono ?_
  rintro e w4 ⟨rfl, hb4⟩
  have HB4 := Lib.hid (bthen HB3.out hb4)
  have hqq := seq_self q
  have hcc : (c == c) = true := beq_self_eq_true c
  clear hb4
  go_wp2_with fail
  go_ret
  exact ⟨rfl, HB4.out⟩
set_option maxRecDepth 100000 in
set_option maxHeartbeats 4000000 in
theorem AeadCovers_w (data sealed other more : ByteArray) (w : World) : Calls Try.prog 7 #[.string data, .string sealed, .string other, .string more] w fun e w' => e = .returned (.bool true) ∧ Below w.heap.size w w' := by
  obtain ⟨a, ha⟩ : ∃ a, Is a (coverL data.data.toList sealed.data.toList) := ⟨_, Is.of _⟩
  obtain ⟨b, hb⟩ : ∃ b, Is b (coverL other.data.toList more.data.toList) := ⟨_, Is.of _⟩
  have e1 : data.data.toList.length = data.size := by rw [Array.length_toList]; rfl
  have e2 : sealed.data.toList.length = sealed.size := by rw [Array.length_toList]; rfl
  have e3 : other.data.toList.length = other.size := by rw [Array.length_toList]; rfl
  have e4 : more.data.toList.length = more.size := by rw [Array.length_toList]; rfl
  have HA := Lib.hid ha
  have HB := Lib.hid hb
  obtain ⟨i, j, h1, h2, h3, h4, h5⟩ := coverL_length data.data.toList sealed.data.toList
  rw [← ha.size, e1, e2] at h5
  rw [e1] at h3
  rw [e2] at h4
  have HAM := Lib.hid (show ((a.size : Int) % 16 == 0) = true by rw [beq_iff_eq]; omega)
  have HGE := Lib.hid (show decide ((16 : Int) + (data.size : Int) + (sealed.size : Int) ≤ (a.size : Int)) = true from decide_eq_true (by omega))
  have HLE := Lib.hid (show decide ((a.size : Int) ≤ (46 : Int) + (data.size : Int) + (sealed.size : Int)) = true from decide_eq_true (by omega))
  clear h1 h2 h3 h4 h5
  by_cases hover : data.size ≤ 512 ∧ sealed.size ≤ 512 ∧ other.size ≤ 512 ∧ more.size ≤ 512
  · obtain ⟨z1, z2, z3, z4⟩ := hover
    have d1 : decide ((512 : Int) < (data.size : Int)) = false := decide_eq_false (by omega)
    have d2 : decide ((512 : Int) < (sealed.size : Int)) = false := decide_eq_false (by omega)
    have d3 : decide ((512 : Int) < (other.size : Int)) = false := decide_eq_false (by omega)
    have d4 : decide ((512 : Int) < (more.size : Int)) = false := decide_eq_false (by omega)
    have HNE := Lib.hid (show ¬ (data = other ∧ sealed = more) → seq a b = false from fun hn => seq_no.2 (fun hh => by
      have hl : coverL data.data.toList sealed.data.toList = coverL other.data.toList more.data.toList := by rw [← ha.out, ← hb.out, hh]
      obtain ⟨h6, h7⟩ := coverL_inj (by rw [e1]; omega) (by rw [e2]; omega) (by rw [e3]; omega) (by rw [e4]; omega) hl
      exact hn ⟨(Is.self data).inj (by rw [h6]; exact Is.self other), (Is.self sealed).inj (by rw [h7]; exact Is.self more)⟩))
    have HEQ := Lib.hid (show data = other → sealed = more → seq a b = true from fun h6 h7 => by
      rw [seq_iff]
      exact ha.inj (by rw [h6, h7]; exact hb))
    clear ha hb e1 e2 e3 e4
    by_cases hdo : data = other
    · by_cases hsm : sealed = more
      · have q1 : seq a b = true := HEQ.out hdo hsm
        have q2 : seq data other = true := by rw [seq_iff]; exact hdo
        have q3 : seq sealed more = true := by rw [seq_iff]; exact hsm
        clear hdo hsm HEQ HNE
        go_enter Try.func7, Try.ntmps7
        go_wp2_with fail
        refine (awake06 _).mono ?_
        rintro e w1 ⟨rfl, hb1⟩
        have HB1 := Lib.hid hb1
        clear hb1
        go_wp2_with fail
        refine (Covered_walk data sealed (by omega) (by omega) a HA.out _).mono ?_
        rintro e w2 ⟨rfl, hb2⟩
        have HB2 := Lib.hid (bthen HB1.out hb2)
        clear hb2
        go_wp2_with fail
        refine (Covered_walk other more (by omega) (by omega) b HB.out _).mono ?_
        rintro e w3 ⟨rfl, hb3⟩
        have HB3 := Lib.hid (bthen HB2.out hb3)
        have ham := HAM.out
        have hge := HGE.out
        have hle := HLE.out
        clear hb3 HA HB HB1 HB2
        go_wp2_with fail
        go_ret
        exact ⟨rfl, HB3.out⟩
      · have q1 : seq a b = false := HNE.out (fun hh => hsm hh.2)
        have q2 : seq data other = true := by rw [seq_iff]; exact hdo
        have q3 : seq sealed more = false := seq_no.2 hsm
        clear hdo hsm HEQ HNE
        go_enter Try.func7, Try.ntmps7
        go_wp2_with fail
        refine (awake06 _).mono ?_
        rintro e w1 ⟨rfl, hb1⟩
        have HB1 := Lib.hid hb1
        clear hb1
        go_wp2_with fail
        refine (Covered_walk data sealed (by omega) (by omega) a HA.out _).mono ?_
        rintro e w2 ⟨rfl, hb2⟩
        have HB2 := Lib.hid (bthen HB1.out hb2)
        clear hb2
        go_wp2_with fail
        refine (Covered_walk other more (by omega) (by omega) b HB.out _).mono ?_
        rintro e w3 ⟨rfl, hb3⟩
        have HB3 := Lib.hid (bthen HB2.out hb3)
        have ham := HAM.out
        have hge := HGE.out
        have hle := HLE.out
        clear hb3 HA HB HB1 HB2
        go_wp2_with fail
        go_ret
        exact ⟨rfl, HB3.out⟩
    · have q1 : seq a b = false := HNE.out (fun hh => hdo hh.1)
      have q2 : seq data other = false := seq_no.2 hdo
      clear hdo HEQ HNE
      go_enter Try.func7, Try.ntmps7
      go_wp2_with fail
      refine (awake06 _).mono ?_
      rintro e w1 ⟨rfl, hb1⟩
      have HB1 := Lib.hid hb1
      clear hb1
      go_wp2_with fail
      refine (Covered_walk data sealed (by omega) (by omega) a HA.out _).mono ?_
      rintro e w2 ⟨rfl, hb2⟩
      have HB2 := Lib.hid (bthen HB1.out hb2)
      clear hb2
      go_wp2_with fail
      refine (Covered_walk other more (by omega) (by omega) b HB.out _).mono ?_
      rintro e w3 ⟨rfl, hb3⟩
      have HB3 := Lib.hid (bthen HB2.out hb3)
      have ham := HAM.out
      have hge := HGE.out
      have hle := HLE.out
      clear hb3 HA HB HB1 HB2
      go_wp2_with fail
      go_ret
      exact ⟨rfl, HB3.out⟩
  · clear ha hb e1 e2 e3 e4 HA HB HAM HGE HLE
    by_cases z1 : data.size ≤ 512
    · have d1 : decide ((512 : Int) < (data.size : Int)) = false := decide_eq_false (by omega)
      by_cases z2 : sealed.size ≤ 512
      · have d2 : decide ((512 : Int) < (sealed.size : Int)) = false := decide_eq_false (by omega)
        by_cases z3 : other.size ≤ 512
        · have d3 : decide ((512 : Int) < (other.size : Int)) = false := decide_eq_false (by omega)
          have d4 : decide ((512 : Int) < (more.size : Int)) = true := decide_eq_true (by omega)
          clear hover
          go_enter Try.func7, Try.ntmps7
          go_wp2_with fail
          refine (awake06 _).mono ?_
          rintro e w1 ⟨rfl, hb1⟩
          have HB1 := Lib.hid hb1
          clear hb1
          go_wp2_with fail
          go_ret
          exact ⟨rfl, HB1.out⟩
        · have d3 : decide ((512 : Int) < (other.size : Int)) = true := decide_eq_true (by omega)
          clear hover
          go_enter Try.func7, Try.ntmps7
          go_wp2_with fail
          refine (awake06 _).mono ?_
          rintro e w1 ⟨rfl, hb1⟩
          have HB1 := Lib.hid hb1
          clear hb1
          go_wp2_with fail
          go_ret
          exact ⟨rfl, HB1.out⟩
      · have d2 : decide ((512 : Int) < (sealed.size : Int)) = true := decide_eq_true (by omega)
        clear hover
        go_enter Try.func7, Try.ntmps7
        go_wp2_with fail
        refine (awake06 _).mono ?_
        rintro e w1 ⟨rfl, hb1⟩
        have HB1 := Lib.hid hb1
        clear hb1
        go_wp2_with fail
        go_ret
        exact ⟨rfl, HB1.out⟩
    · have d1 : decide ((512 : Int) < (data.size : Int)) = true := decide_eq_true (by omega)
      clear hover
      go_enter Try.func7, Try.ntmps7
      go_wp2_with fail
      refine (awake06 _).mono ?_
      rintro e w1 ⟨rfl, hb1⟩
      have HB1 := Lib.hid hb1
      clear hb1
      go_wp2_with fail
      go_ret
      exact ⟨rfl, HB1.out⟩
set_option maxRecDepth 100000 in
set_option maxHeartbeats 4000000 in
theorem AeadSizes_w (key nonce data text : ByteArray) (hs : text.size ≤ 140737488351232) (w : World) : Calls Try.prog 8 #[.string key, .string nonce, .string data, .string text] w fun e w' => e = .returned (.bool true) ∧ Below w.heap.size w w' := by
  have lk : key.data.toList.length = key.size := by rw [Array.length_toList]; rfl
  have ln : nonce.data.toList.length = nonce.size := by rw [Array.length_toList]; rfl
  have ld : data.data.toList.length = data.size := by rw [Array.length_toList]; rfl
  have lt : text.data.toList.length = text.size := by rw [Array.length_toList]; rfl
  have HNO := Lib.hid (show ¬ (key.size = 32 ∧ nonce.size = 12 ∧ data.size ≤ 4096 ∧ 16 ≤ text.size ∧ text.size ≤ 16400) → openA key.data.toList nonce.data.toList data.data.toList text.data.toList = ([], 5) from fun hn => by
    unfold openA
    rw [if_neg (by rw [lk, ln, ld, lt]; exact hn)])
  have HYES := Lib.hid (show (key.size = 32 ∧ nonce.size = 12 ∧ data.size ≤ 4096 ∧ 16 ≤ text.size ∧ text.size ≤ 16400) → (∃ l, openA key.data.toList nonce.data.toList data.data.toList text.data.toList = (l, 0)) ∨ openA key.data.toList nonce.data.toList data.data.toList text.data.toList = ([], 20) from fun hn => by
    unfold openA
    rw [if_pos (by rw [lk, ln, ld, lt]; exact hn)]
    split
    · exact Or.inl ⟨_, rfl⟩
    · exact Or.inr rfl)
  clear lk ln ld lt
  go_enter Try.func8, Try.ntmps8
  go_wp2_with fail
  refine (awake06 _).mono ?_
  rintro e w1 ⟨rfl, hb1⟩
  have HB1 := Lib.hid hb1
  clear hb1
  go_wp2_with fail
  refine (large06 _ _ [key, nonce, data, text] _ (strs_new6 w1 [key, nonce, data, text] 9) (by simp)).mono ?_
  rintro e w2 ⟨rfl, rfl⟩
  have HB2 := Lib.hid (below_alloc' HB1.out (.cells #[.string key, .string nonce, .string data, .string text] 9))
  clear HB1
  rcases Bool.eq_false_or_eq_true (overA [key, nonce, data, text]) with hL | hL
  · rw [hL]
    clear hL
    go_wp2_with fail
    go_ret
    exact ⟨rfl, HB2.out⟩
  have HSM := overA_no hL
  rw [hL]
  clear hL
  have zkey : key.size ≤ 512 ∨ 16400 < key.size := HSM key (by simp)
  have znonce : nonce.size ≤ 512 ∨ 16400 < nonce.size := HSM nonce (by simp)
  have zdata : data.size ≤ 512 ∨ 16400 < data.size := HSM data (by simp)
  have ztext : text.size ≤ 512 ∨ 16400 < text.size := HSM text (by simp)
  clear HSM
  by_cases hk : key.size = 32
  · have k1 : ((key.size : Int) == 32) = true := by rw [hk]; rfl
    by_cases hn : nonce.size = 12
    · have k2 : ((nonce.size : Int) == 12) = true := by rw [hn]; rfl
      by_cases hd : data.size ≤ 4096
      · have k3 : decide ((data.size : Int) ≤ 4096) = true := decide_eq_true (by omega)
        by_cases ht : 16384 < text.size
        · have k4 : decide ((16384 : Int) < (text.size : Int)) = true := decide_eq_true (by omega)
          have k5 : decide ((16 : Int) ≤ (text.size : Int)) = true := decide_eq_true (by omega)
          have k6 : decide ((text.size : Int) ≤ 16400) = false := decide_eq_false (by omega)
          have HE := Lib.hid (HNO.out (by omega))
          clear HNO HYES
          go_wp2_with fail
          refine (Seal_no key nonce data text (Or.inr (Or.inr ht)) _).mono ?_
          rintro e w3 ⟨rfl, rfl⟩
          have HB3 := HB2
          go_wp2_with fail
          refine (Open_walk key nonce data text hs ⟨#[]⟩ 5 (by rw [HE.out]; exact ⟨Is.self _, rfl⟩) _).mono ?_
          rintro e w4 ⟨rfl, hb4⟩
          have HB4 := Lib.hid (bthen HB3.out hb4)
          clear hb4
          go_wp2_with fail
          go_ret
          exact ⟨rfl, HB4.out⟩
        · have k4 : decide ((16384 : Int) < (text.size : Int)) = false := decide_eq_false (by omega)
          obtain ⟨q, hq⟩ : ∃ q, Is q (sealL key.data.toList nonce.data.toList data.data.toList text.data.toList) := ⟨_, Is.of _⟩
          have HQ := Lib.hid hq
          have HK := Lib.hid hk
          have HN := Lib.hid hn
          clear hq
          by_cases h16 : 16 ≤ text.size
          · have k5 : decide ((16 : Int) ≤ (text.size : Int)) = true := decide_eq_true (by omega)
            have k6 : decide ((text.size : Int) ≤ 16400) = true := decide_eq_true (by omega)
            rcases HYES.out ⟨hk, hn, hd, h16, by omega⟩ with ⟨l, hl⟩ | hl
            · obtain ⟨u, hu⟩ : ∃ u, Is u l := ⟨_, Is.of _⟩
              have HU := Lib.hid (show Is u (openA key.data.toList nonce.data.toList data.data.toList text.data.toList).1 ∧ (0 : Int) = (openA key.data.toList nonce.data.toList data.data.toList text.data.toList).2 by rw [hl]; exact ⟨hu, rfl⟩)
              clear hl hu
              clear HNO HYES
              go_wp2_with fail
              refine (Seal_ok key nonce data text HK.out HN.out (by omega) (by omega) q HQ.out _).mono ?_
              rintro e w3 ⟨rfl, hb3⟩
              have HB3 := Lib.hid (bthen HB2.out hb3)
              clear hb3
              go_wp2_with fail
              refine (Open_walk key nonce data text hs u 0 HU.out _).mono ?_
              rintro e w4 ⟨rfl, hb4⟩
              have HB4 := Lib.hid (bthen HB3.out hb4)
              clear hb4
              go_wp2_with fail
              go_ret
              exact ⟨rfl, HB4.out⟩
            · have HU := Lib.hid (show Is (ByteArray.mk #[]) (openA key.data.toList nonce.data.toList data.data.toList text.data.toList).1 ∧ (20 : Int) = (openA key.data.toList nonce.data.toList data.data.toList text.data.toList).2 by rw [hl]; exact ⟨Is.self _, rfl⟩)
              clear hl
              clear HNO HYES
              go_wp2_with fail
              refine (Seal_ok key nonce data text HK.out HN.out (by omega) (by omega) q HQ.out _).mono ?_
              rintro e w3 ⟨rfl, hb3⟩
              have HB3 := Lib.hid (bthen HB2.out hb3)
              clear hb3
              go_wp2_with fail
              refine (Open_walk key nonce data text hs ⟨#[]⟩ 20 HU.out _).mono ?_
              rintro e w4 ⟨rfl, hb4⟩
              have HB4 := Lib.hid (bthen HB3.out hb4)
              clear hb4
              go_wp2_with fail
              go_ret
              exact ⟨rfl, HB4.out⟩
          · have k5 : decide ((16 : Int) ≤ (text.size : Int)) = false := decide_eq_false (by omega)
            have HE := Lib.hid (HNO.out (by omega))
            clear HNO HYES
            go_wp2_with fail
            refine (Seal_ok key nonce data text HK.out HN.out (by omega) (by omega) q HQ.out _).mono ?_
            rintro e w3 ⟨rfl, hb3⟩
            have HB3 := Lib.hid (bthen HB2.out hb3)
            clear hb3
            go_wp2_with fail
            refine (Open_walk key nonce data text hs ⟨#[]⟩ 5 (by rw [HE.out]; exact ⟨Is.self _, rfl⟩) _).mono ?_
            rintro e w4 ⟨rfl, hb4⟩
            have HB4 := Lib.hid (bthen HB3.out hb4)
            clear hb4
            go_wp2_with fail
            go_ret
            exact ⟨rfl, HB4.out⟩
      · have k3 : decide ((data.size : Int) ≤ 4096) = false := decide_eq_false (by omega)
        have HE := Lib.hid (HNO.out (by omega))
        clear HNO HYES
        go_wp2_with fail
        refine (Seal_no key nonce data text (Or.inr (Or.inl (by omega))) _).mono ?_
        rintro e w3 ⟨rfl, rfl⟩
        have HB3 := HB2
        go_wp2_with fail
        refine (Open_walk key nonce data text hs ⟨#[]⟩ 5 (by rw [HE.out]; exact ⟨Is.self _, rfl⟩) _).mono ?_
        rintro e w4 ⟨rfl, hb4⟩
        have HB4 := Lib.hid (bthen HB3.out hb4)
        clear hb4
        go_wp2_with fail
        go_ret
        exact ⟨rfl, HB4.out⟩
    · have k2 : ((nonce.size : Int) == 12) = false := by rw [beq_eq_false_iff_ne]; omega
      have HE := Lib.hid (HNO.out (by omega))
      clear HNO HYES
      go_wp2_with fail
      refine (Seal_no key nonce data text (Or.inl (fun hh => hn hh.2)) _).mono ?_
      rintro e w3 ⟨rfl, rfl⟩
      have HB3 := HB2
      go_wp2_with fail
      refine (Open_walk key nonce data text hs ⟨#[]⟩ 5 (by rw [HE.out]; exact ⟨Is.self _, rfl⟩) _).mono ?_
      rintro e w4 ⟨rfl, hb4⟩
      have HB4 := Lib.hid (bthen HB3.out hb4)
      clear hb4
      go_wp2_with fail
      go_ret
      exact ⟨rfl, HB4.out⟩
  · have k1 : ((key.size : Int) == 32) = false := by rw [beq_eq_false_iff_ne]; omega
    have HE := Lib.hid (HNO.out (by omega))
    clear HNO HYES
    go_wp2_with fail
    refine (Seal_no key nonce data text (Or.inl (fun hh => hk hh.1)) _).mono ?_
    rintro e w3 ⟨rfl, rfl⟩
    have HB3 := HB2
    go_wp2_with fail
    refine (Open_walk key nonce data text hs ⟨#[]⟩ 5 (by rw [HE.out]; exact ⟨Is.self _, rfl⟩) _).mono ?_
    rintro e w4 ⟨rfl, hb4⟩
    have HB4 := Lib.hid (bthen HB3.out hb4)
    clear hb4
    go_wp2_with fail
    go_ret
    exact ⟨rfl, HB4.out⟩
end Go.Proofs.Ytfglhemmccihfaa
