/-
  Layer 3's laws, walked: MacTells, MacExpands, MacDerives, MacBegins.
-/
import Derived.Test.YtdfgcjjaiggpkaaL03A
namespace Go.Proofs.Ytdfgcjjaiggpkaa
open Go.RowKit

theorem bool_eql (c : Bool) : (c == c) = true := by cases c <;> rfl
theorem seq_comm (a b : ByteArray) : seq a b = seq b a := by
  rw [seq_eq (Is.self a) (Is.self b), seq_eq (Is.self b) (Is.self a)]
  congr 1
  exact propext ⟨fun h => h.symm, fun h => h.symm⟩
set_option maxRecDepth 100000 in
set_option maxHeartbeats 2000000 in
theorem MacTells_w (key text sum : ByteArray) (w : World) : Calls Try.prog 9 #[.string key, .string text, .string sum] w fun e w' => e = .returned (.bool true) ∧ Below w.heap.size w w' := by
  obtain ⟨q, hq⟩ : ∃ q, Is q (macL key.data.toList text.data.toList) := ⟨_, Is.of _⟩
  have HQ := Lib.hid hq
  clear hq
  go_enter Try.func9, Try.ntmps9
  go_wp2_with fail
  refine (awake03 _).mono ?_
  rintro e w1 ⟨rfl, hb1⟩
  have HB1 := Lib.hid hb1
  clear hb1
  go_wp2_with fail
  refine (large03 _ _ [key, text, sum] _ (strs_new w1 [key, text, sum] 9) (by simp)).mono ?_
  rintro e w2 ⟨rfl, rfl⟩
  have HB2 := Lib.hid (below_alloc' HB1.out (.cells #[.string key, .string text, .string sum] 9))
  clear HB1
  rcases Bool.eq_false_or_eq_true (overB 2048 [key, text, sum]) with hL | hL
  · rw [hL]
    clear hL
    go_wp2_with fail
    go_ret
    exact ⟨rfl, HB2.out⟩
  have HSM := overB_no hL
  rw [hL]
  clear hL
  have zkey : key.size ≤ 2048 := HSM key (by simp)
  have ztext : text.size ≤ 2048 := HSM text (by simp)
  have zsum : sum.size ≤ 2048 := HSM sum (by simp)
  clear HSM
  go_wp2_with fail
  refine (RMSum_walk key text (by omega) (by omega) q HQ.out _).mono ?_
  rintro e w3 ⟨rfl, hb3⟩
  have HB3 := Lib.hid (bthen HB2.out hb3)
  clear hb3
  go_wp2_with fail
  refine (MSum_walk key text (by omega) (by omega) q HQ.out _).mono ?_
  rintro e w4 ⟨rfl, hb4⟩
  have HB4 := Lib.hid (bthen HB3.out hb4)
  have hqq := seq_self q
  clear hb4
  go_wp2_with fail
  refine (MCheck_walk key text q (by omega) (by omega) q HQ.out _).mono ?_
  rintro e w5 ⟨rfl, hb5⟩
  have HB5 := Lib.hid (bthen HB4.out hb5)
  rw [hqq]
  clear hb5
  go_wp2_with fail
  refine (MCheck_walk key text sum (by omega) (by omega) q HQ.out _).mono ?_
  rintro e w6 ⟨rfl, hb6⟩
  have HB6 := Lib.hid (bthen HB5.out hb6)
  obtain ⟨c, hc⟩ : ∃ c, seq sum q = c := ⟨_, rfl⟩
  rw [seq_comm q sum, hc]
  have hcc := bool_eql c
  clear hb6
  go_wp2_with fail
  refine (MExtract_walk key text (by omega) (by omega) q HQ.out _).mono ?_
  rintro e w7 ⟨rfl, hb7⟩
  have HB7 := Lib.hid (bthen HB6.out hb7)
  clear hb7
  go_wp2_with fail
  go_ret
  exact ⟨rfl, HB7.out⟩
set_option maxRecDepth 100000 in
set_option maxHeartbeats 2000000 in
theorem MacExpands_w (salt secret info : ByteArray) (n : Int) (lo : -9223372036854775808 ≤ n) (hi : n ≤ 9223372036854775807) (w : World) : Calls Try.prog 10 #[.string salt, .string secret, .string info, .int .i64 n] w fun e w' => e = .returned (.bool true) ∧ Below w.heap.size w w' := by
  go_enter Try.func10, Try.ntmps10
  go_wp2_with fail
  refine (awake03 _).mono ?_
  rintro e w1 ⟨rfl, hb1⟩
  have HB1 := Lib.hid hb1
  clear hb1
  go_wp2_with fail
  refine (large03 _ _ [salt, secret, info] _ (strs_new w1 [salt, secret, info] 9) (by simp)).mono ?_
  rintro e w2 ⟨rfl, rfl⟩
  have HB2 := Lib.hid (below_alloc' HB1.out (.cells #[.string salt, .string secret, .string info] 9))
  clear HB1
  rcases Bool.eq_false_or_eq_true (overB 2048 [salt, secret, info]) with hL | hL
  · rw [hL]
    clear hL
    go_wp2_with fail
    go_ret
    exact ⟨rfl, HB2.out⟩
  have HSM := overB_no hL
  rw [hL]
  clear hL
  have zsalt : salt.size ≤ 2048 := HSM salt (by simp)
  have zsecret : secret.size ≤ 2048 := HSM secret (by simp)
  have zinfo : info.size ≤ 2048 := HSM info (by simp)
  clear HSM
  by_cases hno : n < 0 ∨ 8160 < n
  · have HN := Lib.hid hno
    by_cases h0 : n < 0
    · have g1 : decide ((300 : Int) < n) = false := decide_eq_false (by omega)
      clear hno
      go_wp2_with fail
      refine (Expand_no secret info n HN.out _).mono ?_
      rintro e w3 ⟨rfl, rfl⟩
      go_wp2_with fail
      refine (RExpand_no secret info n HN.out _).mono ?_
      rintro e w4 ⟨rfl, rfl⟩
      go_wp2_with fail
      refine (Derive_no salt secret info n HN.out (by omega) (by omega) _).mono ?_
      rintro e w5 ⟨rfl, hb5⟩
      have HB5 := Lib.hid (bthen HB2.out hb5)
      clear hb5
      go_wp2_with fail
      refine (RDerive_no salt secret info n HN.out (by omega) (by omega) _).mono ?_
      rintro e w6 ⟨rfl, hb6⟩
      have HB6 := Lib.hid (bthen HB5.out hb6)
      clear hb6
      go_wp2_with fail
      go_ret
      exact ⟨rfl, HB6.out⟩
    · have g1 : decide ((300 : Int) < n) = true := decide_eq_true (by omega)
      have g2 : decide (n ≤ 8160) = false := decide_eq_false (by omega)
      clear hno
      go_wp2_with fail
      refine (Expand_no secret info n HN.out _).mono ?_
      rintro e w3 ⟨rfl, rfl⟩
      go_wp2_with fail
      refine (RExpand_no secret info n HN.out _).mono ?_
      rintro e w4 ⟨rfl, rfl⟩
      go_wp2_with fail
      refine (Derive_no salt secret info n HN.out (by omega) (by omega) _).mono ?_
      rintro e w5 ⟨rfl, hb5⟩
      have HB5 := Lib.hid (bthen HB2.out hb5)
      clear hb5
      go_wp2_with fail
      refine (RDerive_no salt secret info n HN.out (by omega) (by omega) _).mono ?_
      rintro e w6 ⟨rfl, hb6⟩
      have HB6 := Lib.hid (bthen HB5.out hb6)
      clear hb6
      go_wp2_with fail
      go_ret
      exact ⟨rfl, HB6.out⟩
  · by_cases h3 : 300 < n
    · have g1 : decide ((300 : Int) < n) = true := decide_eq_true h3
      have g2 : decide (n ≤ 8160) = true := decide_eq_true (by omega)
      clear hno
      go_wp2_with fail
      go_ret
      exact ⟨rfl, HB2.out⟩
    · obtain ⟨m, rfl⟩ := Int.eq_ofNat_of_zero_le (show 0 ≤ n by omega)
      have g1 : decide ((300 : Int) < (m : Int)) = false := decide_eq_false (by omega)
      obtain ⟨q, hq⟩ : ∃ q, Is q (expandL secret.data.toList info.data.toList m) := ⟨_, Is.of _⟩
      obtain ⟨r, hr⟩ : ∃ r, Is r (expandL (macL salt.data.toList secret.data.toList) info.data.toList m) := ⟨_, Is.of _⟩
      have HQ := Lib.hid hq
      have HR := Lib.hid hr
      clear hq hr hno
      go_wp2_with fail
      refine (Expand_ok secret info m (by omega) (by omega) (by omega) q HQ.out _).mono ?_
      rintro e w3 ⟨rfl, hb3⟩
      have HB3 := Lib.hid (bthen HB2.out hb3)
      clear hb3
      go_wp2_with fail
      refine (RExpand_ok secret info m (by omega) (by omega) (by omega) q HQ.out _).mono ?_
      rintro e w4 ⟨rfl, hb4⟩
      have HB4 := Lib.hid (bthen HB3.out hb4)
      clear hb4
      go_wp2_with fail
      refine (Derive_ok salt secret info m (by omega) (by omega) (by omega) (by omega) r HR.out _).mono ?_
      rintro e w5 ⟨rfl, hb5⟩
      have HB5 := Lib.hid (bthen HB4.out hb5)
      clear hb5
      go_wp2_with fail
      refine (RDerive_ok salt secret info m (by omega) (by omega) (by omega) (by omega) r HR.out _).mono ?_
      rintro e w6 ⟨rfl, hb6⟩
      have HB6 := Lib.hid (bthen HB5.out hb6)
      clear hb6
      have hqq := seq_self q
      have hrr := seq_self r
      go_wp2_with fail
      go_ret
      exact ⟨rfl, HB6.out⟩
theorem part_one (k info : List UInt8) : partK k info 1 = macL k (info ++ [1]) := rfl
theorem part_two (k info : List UInt8) : partK k info 2 = macL k (partK k info 1 ++ info ++ [2]) := rfl
theorem expand_parts (k info : List UInt8) : expandL k info 64 = partK k info 1 ++ partK k info 2 := by
  have h1 : (partK k info 1).length = 32 := macL_length _ _
  have h2 : (partK k info 2).length = 32 := macL_length _ _
  show (([] ++ partK k info 1) ++ partK k info 2).take 64 = _
  rw [List.nil_append, List.take_of_length_le (by rw [List.length_append, h1, h2]; decide)]
set_option maxRecDepth 100000 in
set_option maxHeartbeats 4000000 in
theorem MacDerives_w (salt secret info : ByteArray) (w : World) : Calls Try.prog 14 #[.string salt, .string secret, .string info] w fun e w' => e = .returned (.bool true) ∧ Below w.heap.size w w' := by
  obtain ⟨q, hq⟩ : ∃ q, Is q (macL salt.data.toList secret.data.toList) := ⟨_, Is.of _⟩
  obtain ⟨r, hr⟩ : ∃ r, Is r (expandL q.data.toList info.data.toList 64) := ⟨_, Is.of _⟩
  have hp1 : (partK q.data.toList info.data.toList 1).length = 32 := macL_length _ _
  have hp2 : (partK q.data.toList info.data.toList 2).length = 32 := macL_length _ _
  have hr0 := hr
  rw [expand_parts] at hr0
  obtain ⟨x1, hx1⟩ : ∃ x1, x1 = r.extract 0 32 := ⟨_, rfl⟩
  obtain ⟨x2, hx2⟩ : ∃ x2, x2 = r.extract 32 r.size := ⟨_, rfl⟩
  have rz : r.size = 64 := by rw [hr.size, expandL_length]
  have i1 : Is x1 (partK q.data.toList info.data.toList 1) := by
    have h := hr0.extract 0 32
    rw [List.drop_zero, Nat.sub_zero, List.take_left' hp1] at h
    rw [hx1]; exact h
  have i2 : Is x2 (partK q.data.toList info.data.toList 2) := by
    have h := hr0.extract 32 r.size
    rw [List.drop_left' hp1, List.take_of_length_le (by rw [hp2, rz]; decide)] at h
    rw [hx2]; exact h
  have x1z : x1.size = 32 := by rw [i1.size, hp1]
  have HX1 := Lib.hid hx1.symm
  have HX2 := Lib.hid hx2.symm
  have HX1Z := Lib.hid x1z
  obtain ⟨y1, hy1⟩ : ∃ y1, y1 = info ++ ⟨#[1]⟩ := ⟨_, rfl⟩
  obtain ⟨y2, hy2⟩ : ∃ y2, y2 = x1 ++ info ++ ⟨#[2]⟩ := ⟨_, rfl⟩
  have HM1 := Lib.hid (show Is x1 (macL q.data.toList y1.data.toList) by
    rw [hy1, ((Is.self info).append (Is.of [1])).out, ← part_one]; exact i1)
  have HM2 := Lib.hid (show Is x2 (macL q.data.toList y2.data.toList) by
    rw [hy2, ((i1.append (Is.self info)).append (Is.of [2])).out, ← part_two]; exact i2)
  have HY1Z := Lib.hid (show y1.size = info.size + 1 by rw [hy1, ByteArray.size_append]; rfl)
  have HY2Z := Lib.hid (show y2.size = 32 + info.size + 1 by rw [hy2, ByteArray.size_append, ByteArray.size_append, x1z]; rfl)
  have HY1 := Lib.hid hy1.symm
  have HY2 := Lib.hid hy2.symm
  have HQ := Lib.hid hq
  have HR := Lib.hid (show Is r (expandL (macL salt.data.toList secret.data.toList) info.data.toList 64) by rw [← hq.out]; exact hr)
  have HR2 := Lib.hid hr
  have HRZ := Lib.hid rz
  have HQZ := Lib.hid (show q.size ≤ 140737488351000 by rw [hq.size, macL_length]; decide)
  clear hq hr hr0 hp1 hp2 hx1 hx2 i1 i2 x1z rz hy1 hy2
  go_enter Try.func14, Try.ntmps14
  go_wp2_with fail
  refine (awake03 _).mono ?_
  rintro e w1 ⟨rfl, hb1⟩
  have HB1 := Lib.hid hb1
  clear hb1
  go_wp2_with fail
  refine (large03 _ _ [salt, secret, info] _ (strs_new w1 [salt, secret, info] 9) (by simp)).mono ?_
  rintro e w2 ⟨rfl, rfl⟩
  have HB2 := Lib.hid (below_alloc' HB1.out (.cells #[.string salt, .string secret, .string info] 9))
  clear HB1
  rcases Bool.eq_false_or_eq_true (overB 2048 [salt, secret, info]) with hL | hL
  · rw [hL]
    clear hL
    go_wp2_with fail
    go_ret
    exact ⟨rfl, HB2.out⟩
  have HSM := overB_no hL
  rw [hL]
  clear hL
  have zsalt : salt.size ≤ 2048 := HSM salt (by simp)
  have zsecret : secret.size ≤ 2048 := HSM secret (by simp)
  have zinfo : info.size ≤ 2048 := HSM info (by simp)
  clear HSM
  go_wp2_with fail
  refine (MExtract_walk salt secret (by omega) (by omega) q HQ.out _).mono ?_
  rintro e w3 ⟨rfl, hb3⟩
  have HB3 := Lib.hid (bthen HB2.out hb3)
  clear hb3
  go_wp2_with fail
  refine (Derive_ok salt secret info 64 (by decide) (by omega) (by omega) (by omega) r HR.out _).mono ?_
  rintro e w4 ⟨rfl, hb4⟩
  have HB4 := Lib.hid (bthen HB3.out hb4)
  clear hb4
  go_wp2_with fail
  refine (Expand_ok q info 64 (by decide) HQZ.out (by omega) r HR2.out _).mono ?_
  rintro e w5 ⟨rfl, hb5⟩
  have HB5 := Lib.hid (bthen HB4.out hb5)
  have hrr := seq_self r
  have hqq := seq_self q
  have hrz := HRZ.out
  clear hb5
  go_wp2_with fail
  refine (MSum_walk salt secret (by omega) (by omega) q HQ.out _).mono ?_
  rintro e w6 ⟨rfl, hb6⟩
  have HB6 := Lib.hid (bthen HB5.out hb6)
  clear hb6
  go_wp2_with fail
  clear hrr hqq hrz
  refine region_table (by kernel_rfl) [58, 59, 60, 61, 62, 63, 64, 65, 66, 67, 68, 69, 70, 71, 72, 73, 74, 75, 76, 6]
    (fun i x_ => match i with
      | 0 => x_ = .string r
      | 1 => x_ = .string x1
      | 2 => x_ = .string q
      | 3 => x_ = .string info
      | 4 => x_ = .string y1
      | 5 => x_ = .string x1
      | 6 => x_ = .bool (true)
      | 7 => x_ = .bool (true)
      | 8 => x_ = .string r
      | 9 => x_ = .string x2
      | 10 => x_ = .string q
      | 11 => x_ = .string r
      | 12 => x_ = .string x1
      | 13 => x_ = .string info
      | 14 => x_ = .string (x1 ++ info)
      | 15 => x_ = .string y2
      | 16 => x_ = .string x2
      | 17 => x_ = .bool (true)
      | 18 => x_ = .bool (true)
      | 19 => x_ = .bool (true)
      | _ => True) (fun _ _ w' => Below w6.heap.size w6 w') (by kernel_rfl) (by kernel_rfl) rfl (by kernel_rfl) ((Below.refl _ _).drew) ?_ ?_
  · refine StepsOk.cons ?_ (StepsOk.cons ?_ (StepsOk.cons ?_ (StepsOk.cons ?_ (StepsOk.cons ?_ (StepsOk.cons ?_ (StepsOk.cons ?_ (StepsOk.cons ?_ (StepsOk.cons ?_ (StepsOk.cons ?_ (StepsOk.cons ?_ (StepsOk.cons ?_ (StepsOk.cons ?_ (StepsOk.cons ?_ (StepsOk.cons ?_ (StepsOk.cons ?_ (StepsOk.cons ?_ (StepsOk.cons ?_ (StepsOk.cons ?_ (StepsOk.cons ?_ StepsOk.nil)))))))))))))))))))
    · intro L a w4 Kx hl hsz hs ht hr he hK
      refine step_plain rfl ?_
      have h8 : a.tmps.getD 8 undef = .string r := (hs 8 (by decide)).trans rfl
      go_simp
      exact hK _ _ rfl hr
    · intro L a w4 Kx hl hsz hs ht hr he hK
      refine step_plain rfl ?_
      have h58 : a.tmps.getD 58 undef = .string r := ht 0 (he 0 (by kernel_rfl)) 58 rfl
      have hk : (32 : Int) ≤ (r.size : Int) := by rw [HRZ.out]; decide
      go_simp
      exact hK _ _ (congrArg Value.string HX1.out) hr
    · intro L a w4 Kx hl hsz hs ht hr he hK
      refine step_plain rfl ?_
      have h7 : a.tmps.getD 7 undef = .string q := (hs 7 (by decide)).trans rfl
      go_simp
      exact hK _ _ rfl hr
    · intro L a w4 Kx hl hsz hs ht hr he hK
      refine step_plain rfl ?_
      have h2 : a.tmps.getD 2 undef = .string info := (hs 2 (by decide)).trans rfl
      go_simp
      exact hK _ _ rfl hr
    · intro L a w4 Kx hl hsz hs ht hr he hK
      refine step_plain rfl ?_
      have h61 : a.tmps.getD 61 undef = .string info := ht 3 (he 3 (by kernel_rfl)) 61 rfl
      have hov : ¬ 9223372036854775807 < info.size + 1 := by omega
      go_simp
      exact hK _ _ (congrArg Value.string HY1.out) hr
    · intro L a w4 Kx hl hsz hs ht hr he hK
      refine step_plain rfl ?_
      have h60 : a.tmps.getD 60 undef = .string q := ht 2 (he 2 (by kernel_rfl)) 60 rfl
      have h62 : a.tmps.getD 62 undef = .string y1 := ht 4 (he 4 (by kernel_rfl)) 62 rfl
      go_simp
      refine (MSum_walk q y1 HQZ.out (by rw [HY1Z.out]; omega) x1 HM1.out _).mono ?_
      rintro e w7 ⟨rfl, hb7⟩
      exact hK _ _ rfl (bthen hr hb7)
    · intro L a w4 Kx hl hsz hs ht hr he hK
      refine step_plain rfl ?_
      have h59 : a.tmps.getD 59 undef = .string x1 := ht 1 (he 1 (by kernel_rfl)) 59 rfl
      have h63 : a.tmps.getD 63 undef = .string x1 := ht 5 (he 5 (by kernel_rfl)) 63 rfl
      have hqq := seq_self x1
      go_simp
      exact hK _ _ rfl hr
    · intro L a w4 Kx hl hsz hs ht hr he hK
      refine step_plain rfl ?_
      have h64 : a.tmps.getD 64 undef = .bool (true) := ht 6 (he 6 (by kernel_rfl)) 64 rfl
      go_simp
      exact hK _ _ rfl hr
    · intro L a w4 Kx hl hsz hs ht hr he hK
      have h65 : a.tmps.getD 65 undef = .bool (true) := ht 7 (he 7 (by kernel_rfl)) 65 rfl
      refine step_guard 7 true (true) 65 rfl rfl (by rw [hsz]; exact of_decide_eq_true (by kernel_rfl)) h65 ?_
      rw [if_pos rfl]
      have h8 : a.tmps.getD 8 undef = .string r := (hs 8 (by decide)).trans rfl
      go_simp
      exact hK _ _ rfl hr
    · intro L a w4 Kx hl hsz hs ht hr he hK
      have h65 : a.tmps.getD 65 undef = .bool (true) := ht 7 (he 7 (by kernel_rfl)) 65 rfl
      refine step_guard 7 true (true) 65 rfl rfl (by rw [hsz]; exact of_decide_eq_true (by kernel_rfl)) h65 ?_
      rw [if_pos rfl]
      have h66 : a.tmps.getD 66 undef = .string r := ht 8 (he 8 (by kernel_rfl)) 66 rfl
      have hk : (32 : Int) ≤ (r.size : Int) := by rw [HRZ.out]; decide
      go_simp
      exact hK _ _ (congrArg Value.string HX2.out) hr
    · intro L a w4 Kx hl hsz hs ht hr he hK
      have h65 : a.tmps.getD 65 undef = .bool (true) := ht 7 (he 7 (by kernel_rfl)) 65 rfl
      refine step_guard 7 true (true) 65 rfl rfl (by rw [hsz]; exact of_decide_eq_true (by kernel_rfl)) h65 ?_
      rw [if_pos rfl]
      have h7 : a.tmps.getD 7 undef = .string q := (hs 7 (by decide)).trans rfl
      go_simp
      exact hK _ _ rfl hr
    · intro L a w4 Kx hl hsz hs ht hr he hK
      have h65 : a.tmps.getD 65 undef = .bool (true) := ht 7 (he 7 (by kernel_rfl)) 65 rfl
      refine step_guard 7 true (true) 65 rfl rfl (by rw [hsz]; exact of_decide_eq_true (by kernel_rfl)) h65 ?_
      rw [if_pos rfl]
      have h8 : a.tmps.getD 8 undef = .string r := (hs 8 (by decide)).trans rfl
      go_simp
      exact hK _ _ rfl hr
    · intro L a w4 Kx hl hsz hs ht hr he hK
      have h65 : a.tmps.getD 65 undef = .bool (true) := ht 7 (he 7 (by kernel_rfl)) 65 rfl
      refine step_guard 7 true (true) 65 rfl rfl (by rw [hsz]; exact of_decide_eq_true (by kernel_rfl)) h65 ?_
      rw [if_pos rfl]
      have h69 : a.tmps.getD 69 undef = .string r := ht 11 (he 11 (by kernel_rfl)) 69 rfl
      have hk : (32 : Int) ≤ (r.size : Int) := by rw [HRZ.out]; decide
      go_simp
      exact hK _ _ (congrArg Value.string HX1.out) hr
    · intro L a w4 Kx hl hsz hs ht hr he hK
      have h65 : a.tmps.getD 65 undef = .bool (true) := ht 7 (he 7 (by kernel_rfl)) 65 rfl
      refine step_guard 7 true (true) 65 rfl rfl (by rw [hsz]; exact of_decide_eq_true (by kernel_rfl)) h65 ?_
      rw [if_pos rfl]
      have h2 : a.tmps.getD 2 undef = .string info := (hs 2 (by decide)).trans rfl
      go_simp
      exact hK _ _ rfl hr
    · intro L a w4 Kx hl hsz hs ht hr he hK
      have h65 : a.tmps.getD 65 undef = .bool (true) := ht 7 (he 7 (by kernel_rfl)) 65 rfl
      refine step_guard 7 true (true) 65 rfl rfl (by rw [hsz]; exact of_decide_eq_true (by kernel_rfl)) h65 ?_
      rw [if_pos rfl]
      have h70 : a.tmps.getD 70 undef = .string x1 := ht 12 (he 12 (by kernel_rfl)) 70 rfl
      have h71 : a.tmps.getD 71 undef = .string info := ht 13 (he 13 (by kernel_rfl)) 71 rfl
      have hov : ¬ 9223372036854775807 < x1.size + info.size := by have := HX1Z.out; omega
      go_simp
      exact hK _ _ rfl hr
    · intro L a w4 Kx hl hsz hs ht hr he hK
      have h65 : a.tmps.getD 65 undef = .bool (true) := ht 7 (he 7 (by kernel_rfl)) 65 rfl
      refine step_guard 7 true (true) 65 rfl rfl (by rw [hsz]; exact of_decide_eq_true (by kernel_rfl)) h65 ?_
      rw [if_pos rfl]
      have h72 : a.tmps.getD 72 undef = .string (x1 ++ info) := ht 14 (he 14 (by kernel_rfl)) 72 rfl
      have hov : ¬ 9223372036854775807 < x1.size + info.size + 1 := by have := HX1Z.out; omega
      go_simp
      exact hK _ _ (congrArg Value.string HY2.out) hr
    · intro L a w4 Kx hl hsz hs ht hr he hK
      have h65 : a.tmps.getD 65 undef = .bool (true) := ht 7 (he 7 (by kernel_rfl)) 65 rfl
      refine step_guard 7 true (true) 65 rfl rfl (by rw [hsz]; exact of_decide_eq_true (by kernel_rfl)) h65 ?_
      rw [if_pos rfl]
      have h68 : a.tmps.getD 68 undef = .string q := ht 10 (he 10 (by kernel_rfl)) 68 rfl
      have h73 : a.tmps.getD 73 undef = .string y2 := ht 15 (he 15 (by kernel_rfl)) 73 rfl
      go_simp
      refine (MSum_walk q y2 HQZ.out (by rw [HY2Z.out]; omega) x2 HM2.out _).mono ?_
      rintro e w7 ⟨rfl, hb7⟩
      exact hK _ _ rfl (bthen hr hb7)
    · intro L a w4 Kx hl hsz hs ht hr he hK
      have h65 : a.tmps.getD 65 undef = .bool (true) := ht 7 (he 7 (by kernel_rfl)) 65 rfl
      refine step_guard 7 true (true) 65 rfl rfl (by rw [hsz]; exact of_decide_eq_true (by kernel_rfl)) h65 ?_
      rw [if_pos rfl]
      have h67 : a.tmps.getD 67 undef = .string x2 := ht 9 (he 9 (by kernel_rfl)) 67 rfl
      have h74 : a.tmps.getD 74 undef = .string x2 := ht 16 (he 16 (by kernel_rfl)) 74 rfl
      have hqq := seq_self x2
      go_simp
      exact hK _ _ rfl hr
    · intro L a w4 Kx hl hsz hs ht hr he hK
      refine step_plain rfl ?_
      have h65 : a.tmps.getD 65 undef = .bool (true) := ht 7 (he 7 (by kernel_rfl)) 65 rfl
      have h75 : a.tmps.getD 75 undef = .bool (true) := ht 17 (he 17 (by kernel_rfl)) 75 rfl
      go_simp
      exact hK _ _ rfl hr
    · intro L a w4 Kx hl hsz hs ht hr he hK
      refine step_plain rfl ?_
      have h76 : a.tmps.getD 76 undef = .bool (true) := ht 18 (he 18 (by kernel_rfl)) 76 rfl
      go_simp
      exact hK _ _ rfl hr
  · intro f L w4 hf hall hr
    have h6 : f 6 = .bool true := hf 19 (by decide) 6 rfl
    simp only [List.foldl, Act.put, List.setIfInBounds_toArray, List.set_cons_zero, List.set_cons_succ]
    rw [h6]
    clear hf h6
    generalize f 58 = z58
    generalize f 59 = z59
    generalize f 60 = z60
    generalize f 61 = z61
    generalize f 62 = z62
    generalize f 63 = z63
    generalize f 64 = z64
    generalize f 65 = z65
    generalize f 66 = z66
    generalize f 67 = z67
    generalize f 68 = z68
    generalize f 69 = z69
    generalize f 70 = z70
    generalize f 71 = z71
    generalize f 72 = z72
    generalize f 73 = z73
    generalize f 74 = z74
    generalize f 75 = z75
    generalize f 76 = z76
    have HB7 := Lib.hid (bthen HB6.out hr)
    clear hall hr
    go_wp2_with fail
    go_ret
    exact ⟨rfl, HB7.out⟩
set_option maxRecDepth 100000 in
set_option maxHeartbeats 4000000 in
theorem MacBegins_w (key info : ByteArray) (n m : BitVec 16) (w : World) : Calls Try.prog 13 #[.string key, .string info, .int .u16 (bvi n), .int .u16 (bvi m)] w fun e w' => e = .returned (.bool true) ∧ Below w.heap.size w w' := by
  have hA4 : (n % 401#16).toNat ≤ 400 := by rw [BitVec.toNat_umod]; have : (401#16).toNat = 401 := rfl; have := Nat.mod_lt n.toNat (show 0 < (401#16).toNat by decide); omega
  have hB4 : (m % 401#16).toNat ≤ 400 := by rw [BitVec.toNat_umod]; have : (401#16).toNat = 401 := rfl; have := Nat.mod_lt m.toNat (show 0 < (401#16).toNat by decide); omega
  have hA : bvi (n % 401#16) = (((n % 401#16).toNat : Nat) : Int) := rfl
  have hB : bvi (m % 401#16) = (((m % 401#16).toNat : Nat) : Int) := rfl
  generalize (n % 401#16).toNat = A at hA4 hA
  generalize (m % 401#16).toNat = B at hB4 hB
  obtain ⟨K, hK⟩ : ∃ K : Nat, K = min A B := ⟨_, rfl⟩
  have hmin : min (A : Int) (B : Int) = (K : Int) := by omega
  have hKA : K ≤ A := by omega
  have hKB : K ≤ B := by omega
  obtain ⟨qa, ha⟩ : ∃ q, Is q (expandL key.data.toList info.data.toList A) := ⟨_, Is.of _⟩
  obtain ⟨qb, hb⟩ : ∃ q, Is q (expandL key.data.toList info.data.toList B) := ⟨_, Is.of _⟩
  have haz : qa.size = A := by rw [ha.size, expandL_length]
  have hbz : qb.size = B := by rw [hb.size, expandL_length]
  have HEQ := Lib.hid (show seq (qa.extract 0 K) (qb.extract 0 K) = true by
    have h1 := ha.extract 0 K
    have h2 := hb.extract 0 K
    rw [List.drop_zero, Nat.sub_zero, expandL_take _ _ _ _ hKA] at h1
    rw [List.drop_zero, Nat.sub_zero, expandL_take _ _ _ _ hKB] at h2
    exact seq_is h1 h2)
  have HQA := Lib.hid ha
  have HQB := Lib.hid hb
  have HA := Lib.hid hA
  have HB := Lib.hid hB
  have HAZ := Lib.hid haz
  have HBZ := Lib.hid hbz
  have HMIN := Lib.hid hmin
  clear ha hb hA hB haz hbz hmin hK
  go_enter Try.func13, Try.ntmps13
  go_wp2_with fail
  refine (awake03 _).mono ?_
  rintro e w1 ⟨rfl, hb1⟩
  have HB1 := Lib.hid hb1
  clear hb1
  go_wp2_with fail
  refine (large03 _ _ [key, info] _ (strs_new w1 [key, info] 9) (by simp)).mono ?_
  rintro e w2 ⟨rfl, rfl⟩
  have HB2 := Lib.hid (below_alloc' HB1.out (.cells #[.string key, .string info] 9))
  clear HB1
  rcases Bool.eq_false_or_eq_true (overB 2048 [key, info]) with hL | hL
  · rw [hL]
    clear hL
    go_wp2_with fail
    go_ret
    exact ⟨rfl, HB2.out⟩
  have HSM := overB_no hL
  rw [hL]
  clear hL
  have zkey : key.size ≤ 2048 := HSM key (by simp)
  have zinfo : info.size ≤ 2048 := HSM info (by simp)
  clear HSM
  have hA := HA.out
  have hB := HB.out
  go_wp2_with fail
  refine (Expand_ok key info A (by omega) (by omega) (by omega) qa HQA.out _).mono ?_
  rintro e w3 ⟨rfl, hb3⟩
  have HB3 := Lib.hid (bthen HB2.out hb3)
  clear hb3
  go_wp2_with fail
  refine (Expand_ok key info B (by omega) (by omega) (by omega) qb HQB.out _).mono ?_
  rintro e w4 ⟨rfl, hb4⟩
  have HB4 := Lib.hid (bthen HB3.out hb4)
  have haz := HAZ.out
  have hbz := HBZ.out
  have hmin := HMIN.out
  clear hb4
  go_wp2_with fail
  clear hA hB haz hbz hmin
  refine region_table (by kernel_rfl) [65, 66, 67, 68, 69, 70, 71, 8]
    (fun i x_ => match i with
      | 0 => x_ = .string qa
      | 1 => x_ = .int .i64 ((K : Int))
      | 2 => x_ = .string (qa.extract 0 K)
      | 3 => x_ = .string qb
      | 4 => x_ = .int .i64 ((K : Int))
      | 5 => x_ = .string (qb.extract 0 K)
      | 6 => x_ = .bool (true)
      | 7 => x_ = .bool (true)
      | _ => True) (fun _ _ w' => w' = w4.drew) (by kernel_rfl) (by kernel_rfl) rfl (by kernel_rfl) (rfl) ?_ ?_
  · refine StepsOk.cons ?_ (StepsOk.cons ?_ (StepsOk.cons ?_ (StepsOk.cons ?_ (StepsOk.cons ?_ (StepsOk.cons ?_ (StepsOk.cons ?_ (StepsOk.cons ?_ StepsOk.nil)))))))
    · intro L a w4 Kx hl hsz hs ht hr he hK
      refine step_plain rfl ?_
      have h9 : a.tmps.getD 9 undef = .string qa := (hs 9 (by decide)).trans rfl
      subst hr
      go_simp
      exact hK _ _ rfl rfl
    · intro L a w4 Kx hl hsz hs ht hr he hK
      refine step_plain rfl ?_
      have h13 : a.tmps.getD 13 undef = .int .i64 ((K : Int)) := (hs 13 (by decide)).trans rfl
      subst hr
      go_simp
      exact hK _ _ rfl rfl
    · intro L a w4 Kx hl hsz hs ht hr he hK
      refine step_plain rfl ?_
      have h65 : a.tmps.getD 65 undef = .string qa := ht 0 (he 0 (by kernel_rfl)) 65 rfl
      have h66 : a.tmps.getD 66 undef = .int .i64 ((K : Int)) := ht 1 (he 1 (by kernel_rfl)) 66 rfl
      have hk : (K : Int) ≤ (qa.size : Int) := by rw [HAZ.out]; omega
      subst hr
      go_simp
      exact hK _ _ rfl rfl
    · intro L a w4 Kx hl hsz hs ht hr he hK
      refine step_plain rfl ?_
      have h11 : a.tmps.getD 11 undef = .string qb := (hs 11 (by decide)).trans rfl
      subst hr
      go_simp
      exact hK _ _ rfl rfl
    · intro L a w4 Kx hl hsz hs ht hr he hK
      refine step_plain rfl ?_
      have h13 : a.tmps.getD 13 undef = .int .i64 ((K : Int)) := (hs 13 (by decide)).trans rfl
      subst hr
      go_simp
      exact hK _ _ rfl rfl
    · intro L a w4 Kx hl hsz hs ht hr he hK
      refine step_plain rfl ?_
      have h68 : a.tmps.getD 68 undef = .string qb := ht 3 (he 3 (by kernel_rfl)) 68 rfl
      have h69 : a.tmps.getD 69 undef = .int .i64 ((K : Int)) := ht 4 (he 4 (by kernel_rfl)) 69 rfl
      have hk : (K : Int) ≤ (qb.size : Int) := by rw [HBZ.out]; omega
      subst hr
      go_simp
      exact hK _ _ rfl rfl
    · intro L a w4 Kx hl hsz hs ht hr he hK
      refine step_plain rfl ?_
      have h67 : a.tmps.getD 67 undef = .string (qa.extract 0 K) := ht 2 (he 2 (by kernel_rfl)) 67 rfl
      have h70 : a.tmps.getD 70 undef = .string (qb.extract 0 K) := ht 5 (he 5 (by kernel_rfl)) 70 rfl
      have hq := HEQ.out
      subst hr
      go_simp
      exact hK _ _ rfl rfl
    · intro L a w4 Kx hl hsz hs ht hr he hK
      refine step_plain rfl ?_
      have h71 : a.tmps.getD 71 undef = .bool (true) := ht 6 (he 6 (by kernel_rfl)) 71 rfl
      subst hr
      go_simp
      exact hK _ _ rfl rfl
  · intro f L w4 hf hall hr
    have h8 : f 8 = .bool (true) := hf 7 (by decide) 8 rfl
    subst hr
    simp only [List.foldl, Act.put, List.setIfInBounds_toArray, List.set_cons_zero, List.set_cons_succ]
    rw [h8]
    clear hf h8
    generalize f 65 = z65
    generalize f 66 = z66
    generalize f 67 = z67
    generalize f 68 = z68
    generalize f 69 = z69
    generalize f 70 = z70
    generalize f 71 = z71
    go_wp2_with fail
    go_ret
    exact ⟨rfl, HB4.out.drew⟩
end Go.Proofs.Ytdfgcjjaiggpkaa
