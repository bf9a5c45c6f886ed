/-
  Reference 06 (aead): Once, Covered, Seal, Open.
-/
import Derived.Test.YtfglhemmccihfaaPlainA
import Derived.Test.YtfglhemmccihfaaRchaC
import Derived.Test.YtfglhemmccihfaaRpolyC
import Derived.Test.YtfglhemmccihfaaAead
namespace Go.Proofs.Ytfglhemmccihfaa
open Go.RowKit

theorem RTag_as (key text : ByteArray) (hk : key.size = 32) (ht : text.size ≤ 1000000) (q : ByteArray) (hq : Is q (tagL key.data.toList text.data.toList)) (w : World) :
    Calls Try.prog 36 #[.string key, .string text] w fun e w' => e = .returned (.tuple #[.string q, .int .i64 0]) ∧ Below w.heap.size w w' :=
  (RTag_ok key text hk ht w).mono fun e w' ⟨r, h1, h2, h3⟩ => ⟨by rw [h1, h2.inj hq], h3⟩
theorem RTurn_as (key nonce text : ByteArray) (hk : key.size = 32) (hn : nonce.size = 12) (hm : text.size ≤ 65536) (q : ByteArray) (hq : Is q (turnL key.data.toList 1#32 nonce.data.toList text.data.toList)) (w : World) :
    Calls Try.prog 35 #[.string key, .int .u32 1, .string nonce, .string text] w fun e w' => e = .returned (.tuple #[.string q, .int .i64 0]) ∧ Below w.heap.size w w' :=
  (RTurn_ok key nonce text 1#32 hk hn hm w).mono fun e w' ⟨r, h1, h2, h3⟩ => ⟨by rw [h1, h2.inj hq], h3⟩
theorem RStream32 (key nonce : ByteArray) (hk : key.size = 32) (hn : nonce.size = 12) (q : ByteArray) (hq : Is q (onceL key.data.toList nonce.data.toList)) (w : World) :
    Calls Try.prog 38 #[.string key, .int .u32 0, .string nonce, .int .i64 32] w fun e w' => e = .returned (.tuple #[.string q, .int .i64 0]) ∧ Below w.heap.size w w' :=
  (RStream_ok key nonce 0#32 32 hk hn (by decide) w).mono fun e w' ⟨r, h1, h2, h3⟩ => ⟨by rw [h1, h2.inj (by rw [onceL_stream]; exact hq)], h3⟩
theorem RStream32_no (key nonce : ByteArray) (h : ¬ (key.size = 32 ∧ nonce.size = 12)) (w : World) :
    Calls Try.prog 38 #[.string key, .int .u32 0, .string nonce, .int .i64 32] w fun e w' => e = .returned (.tuple #[.string ⟨#[]⟩, .int .i64 5]) ∧ w = w' := RStream_no key nonce 0#32 32 (Or.inl h) w
theorem RFill_as (s : ByteArray) (n : Int) (hs : s.size ≤ 140737488351232) (hn : n ≤ 1048576) (q : ByteArray) (hq : Is q (fillL s.data.toList n)) (w : World) :
    Calls Try.prog 40 #[.string s, .int .i64 n] w fun e w' => e = .returned (.string q) ∧ Below w.heap.size w w' :=
  (RFill_walk s n hs hn w).mono fun e w' ⟨r, h1, h2, h3⟩ => ⟨by rw [h1, h2.inj hq], h3⟩
theorem RLow_as (x : BitVec 64) (n : Int) (q : ByteArray) (hq : Is q (lowL x (cut n))) (w : World) : Calls Try.prog 41 #[.int .u64 (bvi x), .int .i64 n] w fun e w' => e = .returned (.string q) ∧ Below w.heap.size w w' :=
  (RLow_walk x n w).mono fun e w' ⟨r, h1, h2, h3⟩ => ⟨by rw [h1, h2.inj hq], h3⟩
set_option maxHeartbeats 400000 in
theorem ROnce_ok (key nonce : ByteArray) (hk : key.size = 32) (hn : nonce.size = 12) (q : ByteArray) (hq : Is q (onceL key.data.toList nonce.data.toList)) (w : World) :
    Calls Try.prog 18 #[.string key, .string nonce] w fun e w' => e = .returned (.tuple #[.string q, .int .i64 0]) ∧ Below w.heap.size w w' := by
  have HQ := Lib.hid hq
  have HK := Lib.hid hk
  have HN := Lib.hid hn
  clear hq hk hn
  go_enter Try.func18, Try.ntmps18
  go_wp2_with fail
  refine (RStream32 key nonce HK.out HN.out q HQ.out _).mono ?_
  rintro e w1 ⟨rfl, hb1⟩
  go_wp2_with fail
  go_ret2
  exact ⟨rfl, hb1⟩
set_option maxHeartbeats 400000 in
theorem ROnce_no (key nonce : ByteArray) (h : ¬ (key.size = 32 ∧ nonce.size = 12)) (w : World) :
    Calls Try.prog 18 #[.string key, .string nonce] w fun e w' => e = .returned (.tuple #[.string ⟨#[]⟩, .int .i64 5]) ∧ w = w' := by
  have HH := Lib.hid h
  clear h
  go_enter Try.func18, Try.ntmps18
  go_wp2_with fail
  refine (RStream32_no key nonce HH.out _).mono ?_
  rintro e w1 ⟨rfl, rfl⟩
  go_wp2_with fail
  go_ret2
  exact ⟨rfl, rfl⟩
set_option maxHeartbeats 1000000 in
theorem RCovered_walk (d s : ByteArray) (hd : d.size ≤ 140737488351232) (hs : s.size ≤ 140737488351232) (q : ByteArray) (hq : Is q (coverL d.data.toList s.data.toList)) (w : World) :
    Calls Try.prog 20 #[.string d, .string s] w fun e w' => e = .returned (.string q) ∧ Below w.heap.size w w' := by
  have e1 : d.data.toList.length = d.size := by rw [Array.length_toList]; rfl
  have e2 : s.data.toList.length = s.size := by rw [Array.length_toList]; rfl
  obtain ⟨f1, hf1⟩ : ∃ f, Is f (fillL d.data.toList 16) := ⟨_, Is.of _⟩
  obtain ⟨f2, hf2⟩ : ∃ f, Is f (fillL s.data.toList 16) := ⟨_, Is.of _⟩
  obtain ⟨f3, hf3⟩ : ∃ f, Is f (lowL (BitVec.ofNat 64 d.size) (cut 8)) := ⟨_, Is.of _⟩
  obtain ⟨f4, hf4⟩ : ∃ f, Is f (lowL (BitVec.ofNat 64 s.size) (cut 8)) := ⟨_, Is.of _⟩
  have z1 : f1.size ≤ d.size + 16 := by
    obtain ⟨i, h1, h2, _⟩ := fillL_16 d.data.toList
    rw [hf1.size, h1, List.length_append, List.length_replicate]; omega
  have z2 : f2.size ≤ s.size + 16 := by
    obtain ⟨i, h1, h2, _⟩ := fillL_16 s.data.toList
    rw [hf2.size, h1, List.length_append, List.length_replicate]; omega
  have z3 : f3.size = 8 := by rw [hf3.size, lowL_length]; rfl
  have z4 : f4.size = 8 := by rw [hf4.size, lowL_length]; rfl
  have HE := Lib.hid (show f1 ++ f2 ++ f3 ++ f4 = q by
    refine (((hf1.append hf2).append hf3).append hf4).inj ?_
    rw [← e1, ← e2]; exact hq)
  have hov1 : ¬ 9223372036854775807 < f1.size + f2.size := by omega
  have hov2 : ¬ 9223372036854775807 < f1.size + f2.size + f3.size := by omega
  have hov3 : ¬ 9223372036854775807 < f1.size + f2.size + f3.size + f4.size := by omega
  have H1 := Lib.hid hf1
  have H2 := Lib.hid hf2
  have H3 := Lib.hid hf3
  have H4 := Lib.hid hf4
  clear hq hf1 hf2 hf3 hf4 e1 e2 z1 z2 z3 z4
  go_enter Try.func20, Try.ntmps20
  go_wp2_with fail
  refine (RFill_as d 16 hd (by decide) f1 H1.out _).mono ?_
  rintro e w1 ⟨rfl, hb1⟩
  have HB1 := Lib.hid hb1
  clear hb1
  go_wp2_with fail
  refine (RFill_as s 16 hs (by decide) f2 H2.out _).mono ?_
  rintro e w2 ⟨rfl, hb2⟩
  have HB2 := Lib.hid (bthen HB1.out hb2)
  clear hb2
  go_wp2_with fail
  refine (RLow_as _ 8 f3 H3.out _).mono ?_
  rintro e w3 ⟨rfl, hb3⟩
  have HB3 := Lib.hid (bthen HB2.out hb3)
  clear hb3
  go_wp2_with fail
  refine (RLow_as _ 8 f4 H4.out _).mono ?_
  rintro e w4 ⟨rfl, hb4⟩
  have HB4 := Lib.hid (bthen HB3.out hb4)
  clear hb4
  go_wp2_with fail
  go_ret
  exact ⟨ret_val (congrArg Value.string HE.out), HB4.out⟩
set_option maxHeartbeats 1000000 in
theorem RSeal_ok (key nonce d t : ByteArray) (hk : key.size = 32) (hn : nonce.size = 12) (hd : d.size ≤ 4096) (ht : t.size ≤ 16384) (q : ByteArray) (hq : Is q (sealL key.data.toList nonce.data.toList d.data.toList t.data.toList)) (w : World) :
    Calls Try.prog 16 #[.string key, .string nonce, .string d, .string t] w fun e w' => e = .returned (.tuple #[.string q, .int .i64 0]) ∧ Below w.heap.size w w' := by
  obtain ⟨s, hs⟩ : ∃ s, Is s (turnL key.data.toList 1#32 nonce.data.toList t.data.toList) := ⟨_, Is.of _⟩
  obtain ⟨o, ho⟩ : ∃ o, Is o (onceL key.data.toList nonce.data.toList) := ⟨_, Is.of _⟩
  obtain ⟨c, hc⟩ : ∃ c, Is c (coverL d.data.toList s.data.toList) := ⟨_, Is.of _⟩
  obtain ⟨g, hg⟩ : ∃ g, Is g (tagL o.data.toList c.data.toList) := ⟨_, Is.of _⟩
  have htl : t.data.toList.length = t.size := by rw [Array.length_toList]; rfl
  have sz : s.size = t.size := by rw [hs.size, turnL_length, htl]
  have gz : g.size = 16 := by rw [hg.size, tagL_length]
  have HE := Lib.hid (show s ++ g = q by
    refine (hs.append hg).inj ?_
    rw [ho.out, hc.out, hs.out]; exact hq)
  have g1 : decide ((4096 : Int) < (d.size : Int)) = false := decide_eq_false (by omega)
  have g2 : decide ((16384 : Int) < (t.size : Int)) = false := decide_eq_false (by omega)
  have hov : ¬ 9223372036854775807 < s.size + g.size := by omega
  have HCZ := Lib.hid (show c.size ≤ 1000000 by
    obtain ⟨i, j, h1, h2, _, _, h5⟩ := coverL_length d.data.toList s.data.toList
    have e1 : d.data.toList.length = d.size := by rw [Array.length_toList]; rfl
    have e2 : s.data.toList.length = s.size := by rw [Array.length_toList]; rfl
    rw [hc.size, h5, e1, e2]; omega)
  have HOZ := Lib.hid (show o.size = 32 by rw [ho.size, onceL_length])
  have HSZ := Lib.hid (show s.size ≤ 140737488351232 by omega)
  have HS := Lib.hid hs
  have HO := Lib.hid ho
  have HC := Lib.hid hc
  have HG := Lib.hid hg
  have HK := Lib.hid hk
  have HN := Lib.hid hn
  clear hq hs ho hc hg hk hn htl sz gz
  go_enter Try.func16, Try.ntmps16
  go_wp2_with fail
  refine (ROnce_ok key nonce HK.out HN.out o HO.out _).mono ?_
  rintro e w1 ⟨rfl, hb1⟩
  have HB1 := Lib.hid hb1
  clear hb1
  go_wp2_with fail
  refine (RTurn_as key nonce t HK.out HN.out (by omega) s HS.out _).mono ?_
  rintro e w2 ⟨rfl, hb2⟩
  have HB2 := Lib.hid (bthen HB1.out hb2)
  clear hb2
  go_wp2_with fail
  refine (RCovered_walk d s (by omega) HSZ.out c HC.out _).mono ?_
  rintro e w3 ⟨rfl, hb3⟩
  have HB3 := Lib.hid (bthen HB2.out hb3)
  clear hb3
  go_wp2_with fail
  refine (RTag_as o c HOZ.out HCZ.out g HG.out _).mono ?_
  rintro e w4 ⟨rfl, hb4⟩
  have HB4 := Lib.hid (bthen HB3.out hb4)
  clear hb4
  go_wp2_with fail
  go_ret2
  exact ⟨ret_val (by rw [← HE.out]; rfl), HB4.out⟩
set_option maxHeartbeats 1000000 in
theorem RSeal_no (key nonce d t : ByteArray) (h : ¬ (key.size = 32 ∧ nonce.size = 12) ∨ 4096 < d.size ∨ 16384 < t.size) (w : World) :
    Calls Try.prog 16 #[.string key, .string nonce, .string d, .string t] w fun e w' => e = .returned (.tuple #[.string ⟨#[]⟩, .int .i64 5]) ∧ Below w.heap.size w w' := by
  by_cases hkn : key.size = 32 ∧ nonce.size = 12
  · have hdt : 4096 < d.size ∨ 16384 < t.size := h.resolve_left (fun hh => hh hkn)
    have HK := Lib.hid hkn
    obtain ⟨o, ho⟩ : ∃ o, Is o (onceL key.data.toList nonce.data.toList) := ⟨_, Is.of _⟩
    have HO := Lib.hid ho
    clear hkn ho h
    by_cases hd : 4096 < d.size
    · have g1 : decide ((4096 : Int) < (d.size : Int)) = true := decide_eq_true (by omega)
      clear hdt
      go_enter Try.func16, Try.ntmps16
      go_wp2_with fail
      refine (ROnce_ok key nonce HK.out.1 HK.out.2 o HO.out _).mono ?_
      rintro e w1 ⟨rfl, hb1⟩
      go_wp2_with fail
      go_ret2
      exact ⟨rfl, hb1⟩
    · have g1 : decide ((4096 : Int) < (d.size : Int)) = false := decide_eq_false (by omega)
      have g2 : decide ((16384 : Int) < (t.size : Int)) = true := decide_eq_true (by omega)
      clear hdt
      go_enter Try.func16, Try.ntmps16
      go_wp2_with fail
      refine (ROnce_ok key nonce HK.out.1 HK.out.2 o HO.out _).mono ?_
      rintro e w1 ⟨rfl, hb1⟩
      go_wp2_with fail
      go_ret2
      exact ⟨rfl, hb1⟩
  · have HH := Lib.hid hkn
    clear hkn h
    go_enter Try.func16, Try.ntmps16
    go_wp2_with fail
    refine (ROnce_no key nonce HH.out _).mono ?_
    rintro e w1 ⟨rfl, rfl⟩
    go_wp2_with fail
    go_ret2
    exact ⟨rfl, Below.refl _ _⟩
set_option maxRecDepth 100000 in
set_option maxHeartbeats 1000000 in
theorem ROpen_walk (key nonce d s : ByteArray) (hsb : s.size ≤ 140737488351232) (q : ByteArray) (c : Int) (h : Is q (openA key.data.toList nonce.data.toList d.data.toList s.data.toList).1 ∧ c = (openA key.data.toList nonce.data.toList d.data.toList s.data.toList).2) (w : World) :
    Calls Try.prog 22 #[.string key, .string nonce, .string d, .string s] w fun e w' => e = .returned (.tuple #[.string q, .int .i64 c]) ∧ Below w.heap.size w w' := by
  have lk : key.data.toList.length = key.size := by rw [Array.length_toList]; rfl
  have ln : nonce.data.toList.length = nonce.size := by rw [Array.length_toList]; rfl
  have ld : d.data.toList.length = d.size := by rw [Array.length_toList]; rfl
  have ls : s.data.toList.length = s.size := by rw [Array.length_toList]; rfl
  unfold openA at h
  rw [lk, ln, ld, ls] at h
  obtain ⟨o, ho⟩ : ∃ o, Is o (onceL key.data.toList nonce.data.toList) := ⟨_, Is.of _⟩
  have HO := Lib.hid ho
  clear ho
  by_cases hok : key.size = 32 ∧ nonce.size = 12 ∧ d.size ≤ 4096 ∧ 16 ≤ s.size ∧ s.size ≤ 16400
  · rw [if_pos hok] at h
    obtain ⟨hk, hn, hd, hs1, hs2⟩ := hok
    obtain ⟨m, hm⟩ : ∃ m, s.size = m + 16 := ⟨s.size - 16, by omega⟩
    rw [show s.size - 16 = m by omega] at h
    obtain ⟨x, hx⟩ : ∃ x, x = s.extract 0 m := ⟨_, rfl⟩
    have ix : Is x (s.data.toList.take m) := by
      have h := (Is.self s).extract 0 m
      rw [List.drop_zero, Nat.sub_zero] at h
      rw [hx]; exact h
    have xz : x.size = m := by rw [ix.size, List.length_take, ls]; omega
    obtain ⟨y, hy⟩ : ∃ y, Is y (turnL key.data.toList 1#32 nonce.data.toList x.data.toList) := ⟨_, Is.of _⟩
    have xl : x.data.toList.length = x.size := by rw [Array.length_toList]; rfl
    have yz : y.size = m := by rw [hy.size, turnL_length, xl, xz]
    obtain ⟨a, ha⟩ : ∃ a, Is a (sealL key.data.toList nonce.data.toList d.data.toList y.data.toList) := ⟨_, Is.of _⟩
    have HAG := Lib.hid (show (a = s) ↔ tagA key.data.toList nonce.data.toList d.data.toList (s.data.toList.take m) = s.data.toList.drop m by
      have h9 := sealL_again key.data.toList nonce.data.toList d.data.toList s.data.toList m (by omega)
      rw [← ix.out, ← hy.out] at h9
      rw [← ix.out, ← h9]
      constructor
      · rintro rfl; exact ha.out.symm
      · intro hh; exact ha.inj (by rw [hh]; exact Is.self s))
    have g1 : decide ((4096 : Int) < (d.size : Int)) = false := decide_eq_false (by omega)
    have hm2 : (s.size : Int) - 16 = (m : Int) := by omega
    have hm3 : (m : Int) ≤ (s.size : Int) := by omega
    have g4 : decide ((m : Int) < 0) = false := decide_eq_false (by omega)
    have g5 : decide ((16384 : Int) < (m : Int)) = false := decide_eq_false (by omega)
    have HX := Lib.hid hx
    have HY := Lib.hid hy
    have HA := Lib.hid ha
    have HXZ := Lib.hid (show x.size ≤ 16384 by omega)
    have HYZ := Lib.hid (show y.size ≤ 16384 by omega)
    have HK := Lib.hid hk
    have HN := Lib.hid hn
    clear hx xz hy ha hk hn lk ln ld ls hm xl yz
    by_cases ht : tagA key.data.toList nonce.data.toList d.data.toList (s.data.toList.take m) = s.data.toList.drop m
    · rw [if_pos ht] at h
      have HE := Lib.hid (show y = q by
        refine HY.out.inj ?_
        rw [ix.out]; exact h.1)
      have HC := Lib.hid h.2
      have hsq : seq a s = true := by rw [(seq_iff a s).2 (HAG.out.2 ht)]
      clear ht h ix
      go_enter Try.func22, Try.ntmps22
      go_wp2_with fail
      refine (ROnce_ok key nonce HK.out HN.out o HO.out _).mono ?_
      rintro e w1 ⟨rfl, hb1⟩
      have HB1 := Lib.hid hb1
      clear hb1
      go_wp2_with fail
      rw [← HX.out]
      refine (RTurn_as key nonce x HK.out HN.out (by have := HXZ.out; omega) y HY.out _).mono ?_
      rintro e w2 ⟨rfl, hb2⟩
      have HB2 := Lib.hid (bthen HB1.out hb2)
      clear hb2
      go_wp2_with fail
      refine (RSeal_ok key nonce d y HK.out HN.out hd HYZ.out a HA.out _).mono ?_
      rintro e w3 ⟨rfl, hb3⟩
      have HB3 := Lib.hid (bthen HB2.out hb3)
      clear hb3
      go_wp2_with fail
      go_ret2
      exact ⟨ret_val (by rw [HC.out, ← HE.out]; rfl), HB3.out⟩
    · rw [if_neg ht] at h
      have HE := Lib.hid (show q = ⟨#[]⟩ from h.1.eq)
      have HC := Lib.hid h.2
      have hsq : seq a s = false := seq_no.2 (fun hh => ht (HAG.out.1 hh))
      clear ht h ix
      go_enter Try.func22, Try.ntmps22
      go_wp2_with fail
      refine (ROnce_ok key nonce HK.out HN.out o HO.out _).mono ?_
      rintro e w1 ⟨rfl, hb1⟩
      have HB1 := Lib.hid hb1
      clear hb1
      go_wp2_with fail
      rw [← HX.out]
      refine (RTurn_as key nonce x HK.out HN.out (by have := HXZ.out; omega) y HY.out _).mono ?_
      rintro e w2 ⟨rfl, hb2⟩
      have HB2 := Lib.hid (bthen HB1.out hb2)
      clear hb2
      go_wp2_with fail
      refine (RSeal_ok key nonce d y HK.out HN.out hd HYZ.out a HA.out _).mono ?_
      rintro e w3 ⟨rfl, hb3⟩
      have HB3 := Lib.hid (bthen HB2.out hb3)
      clear hb3
      go_wp2_with fail
      go_ret2
      exact ⟨ret_val (by rw [HC.out, HE.out]; rfl), HB3.out⟩
  · rw [if_neg hok] at h
    have HE := Lib.hid (show q = ⟨#[]⟩ from h.1.eq)
    have HC := Lib.hid h.2
    clear h lk ln ld ls
    by_cases hkn : key.size = 32 ∧ nonce.size = 12
    · have HK := Lib.hid hkn
      by_cases hd : 4096 < d.size
      · have g1 : decide ((4096 : Int) < (d.size : Int)) = true := decide_eq_true (by omega)
        clear hok hkn
        go_enter Try.func22, Try.ntmps22
        go_wp2_with fail
        refine (ROnce_ok key nonce HK.out.1 HK.out.2 o HO.out _).mono ?_
        rintro e w1 ⟨rfl, hb1⟩
        go_wp2_with fail
        go_ret2
        exact ⟨ret_val (by rw [HC.out, HE.out]; rfl), hb1⟩
      · have g1 : decide ((4096 : Int) < (d.size : Int)) = false := decide_eq_false (by omega)
        by_cases hs1 : s.size < 16
        · have g2 : decide ((s.size : Int) - 16 < 0) = true := decide_eq_true (by omega)
          clear hok hkn
          go_enter Try.func22, Try.ntmps22
          go_wp2_with fail
          refine (ROnce_ok key nonce HK.out.1 HK.out.2 o HO.out _).mono ?_
          rintro e w1 ⟨rfl, hb1⟩
          go_wp2_with fail
          go_ret2
          exact ⟨ret_val (by rw [HC.out, HE.out]; rfl), hb1⟩
        · have g2 : decide ((s.size : Int) - 16 < 0) = false := decide_eq_false (by omega)
          have g3 : decide ((16384 : Int) < (s.size : Int) - 16) = true := decide_eq_true (by
            have : ¬ s.size ≤ 16400 := fun hh => hok ⟨hkn.1, hkn.2, by omega, by omega, hh⟩
            omega)
          clear hok hkn
          go_enter Try.func22, Try.ntmps22
          go_wp2_with fail
          refine (ROnce_ok key nonce HK.out.1 HK.out.2 o HO.out _).mono ?_
          rintro e w1 ⟨rfl, hb1⟩
          go_wp2_with fail
          go_ret2
          exact ⟨ret_val (by rw [HC.out, HE.out]; rfl), hb1⟩
    · have HH := Lib.hid hkn
      clear hok hkn
      go_enter Try.func22, Try.ntmps22
      go_wp2_with fail
      refine (ROnce_no key nonce HH.out _).mono ?_
      rintro e w1 ⟨rfl, rfl⟩
      go_wp2_with fail
      go_ret2
      exact ⟨ret_val (by rw [HC.out, HE.out]; rfl), Below.refl _ _⟩
end Go.Proofs.Ytfglhemmccihfaa
