/-
  Layer 6's laws, walked: AeadBack, AeadTurned.
-/
import Derived.Test.YtfglhemmccihfaaL06C
import Derived.BigQuiet
namespace Go.Proofs.Ytfglhemmccihfaa
open Go.RowKit

theorem openA_ok {key nonce d s l : List UInt8} (h : openA key nonce d s = (l, 0)) : key.length = 32 ∧ nonce.length = 12 ∧ d.length ≤ 4096 ∧ l.length ≤ 16384 ∧ sealL key nonce d l = s := by
  unfold openA at h
  split at h
  · rename_i hc
    obtain ⟨h1, h2, h3, h4, h5⟩ := hc
    split at h
    · rename_i ht
      obtain ⟨rfl, _⟩ := Prod.mk.inj h
      refine ⟨h1, h2, h3, by rw [turnL_length, List.length_take]; omega, (sealL_again key nonce d s (s.length - 16) (by omega)).2 ht⟩
    · exact absurd (Prod.mk.inj h).2 (by decide)
  · exact absurd (Prod.mk.inj h).2 (by decide)
theorem openA_cases (key nonce d s : List UInt8) (hk : key.length = 32) (hn : nonce.length = 12) (hd : d.length ≤ 4096) (hs : s.length ≤ 16400) :
    (∃ l, openA key nonce d s = (l, 0)) ∨ (openA key nonce d s = ([], 20) ∧ 16 ≤ s.length) ∨ (openA key nonce d s = ([], 5) ∧ s.length < 16) := by
  unfold openA
  by_cases h16 : 16 ≤ s.length
  · rw [if_pos ⟨hk, hn, hd, h16, hs⟩]
    split
    · exact Or.inl ⟨_, rfl⟩
    · exact Or.inr (Or.inl ⟨rfl, h16⟩)
  · rw [if_neg (fun hh => h16 hh.2.2.2.1)]
    exact Or.inr (Or.inr ⟨rfl, by omega⟩)
set_option maxRecDepth 100000 in
set_option maxHeartbeats 4000000 in
theorem AeadBack_w (key : List UInt8) (lk : key.length = 32) (nonce : List UInt8) (ln : nonce.length = 12) (data text sealed : ByteArray) (w : World) :
    Calls Try.prog 5 #[.agg (cells key).toArray, .agg (cells nonce).toArray, .string data, .string text, .string sealed] w fun e w' => e = .returned (.bool true) ∧ Below w.heap.size w w' := by
  have ld : data.data.toList.length = data.size := by rw [Array.length_toList]; rfl
  have lt : text.data.toList.length = text.size := by rw [Array.length_toList]; rfl
  have lse : sealed.data.toList.length = sealed.size := by rw [Array.length_toList]; rfl
  have LD := Lib.hid ld
  have LT := Lib.hid lt
  have LS := Lib.hid lse
  clear ld lt lse
  have hcz : (cells key).toArray.size = 32 := by simp [cells_length, lk]
  have hcm : (cells nonce).toArray.size = 12 := by simp [cells_length, ln]
  go_enter Try.func5, Try.ntmps5
  go_wp2_with fail
  refine (awake06 _).mono ?_
  rintro e w1 ⟨rfl, hb1⟩
  have RK := Lib.hid (((RowAt.new w (cells key).toArray 30 (0, 0)).alloc (.cells (cells nonce).toArray 31)).below hb1 (by simp <;> omega))
  have hrn2 := ((RowAt.new (w.alloc (.cells (cells key).toArray 30)) (cells nonce).toArray 31 (0, 0)).below hb1 (by simp))
  have HB1 := Lib.hid (show Below w.heap.size w w1 from Below.trans (((Below.refl _ _).alloc (Nat.le_refl _) _).alloc (by simp) _) (hb1.mono (by simp; omega)))
  have HLK := Lib.hid lk
  have HLN := Lib.hid ln
  rw [show (w.alloc (.cells (cells key).toArray 30)).heap.size = w.heap.size + 1 by simp] at hrn2
  have RN := Lib.hid hrn2
  clear hb1 hrn2 hcz hcm
  rcases Nat.lt_or_ge 512 data.size with hz | z1
  · have d1 : decide ((512 : Int) < (data.size : Int)) = true := decide_eq_true (by omega)
    clear lk ln
    go_wp2_with fail
    go_ret
    exact ⟨rfl, HB1.out⟩
  have d1 : decide ((512 : Int) < (data.size : Int)) = false := decide_eq_false (by omega)
  rcases Nat.lt_or_ge 512 text.size with hz | z2
  · have d2 : decide ((512 : Int) < (text.size : Int)) = true := decide_eq_true (by omega)
    clear lk ln
    go_wp2_with fail
    go_ret
    exact ⟨rfl, HB1.out⟩
  have d2 : decide ((512 : Int) < (text.size : Int)) = false := decide_eq_false (by omega)
  rcases Nat.lt_or_ge 512 sealed.size with hz | z3
  · have d3 : decide ((512 : Int) < (sealed.size : Int)) = true := decide_eq_true (by omega)
    clear lk ln
    go_wp2_with fail
    go_ret
    exact ⟨rfl, HB1.out⟩
  have d3 : decide ((512 : Int) < (sealed.size : Int)) = false := decide_eq_false (by omega)
  obtain ⟨s, hs⟩ : ∃ s, Is s (sealL key nonce data.data.toList text.data.toList) := ⟨_, Is.of _⟩
  have sz : s.size = text.size + 16 := by rw [hs.size, sealL_length, LT.out]
  have HSZ := Lib.hid sz
  have HOP := Lib.hid (show openA key nonce data.data.toList s.data.toList = (text.data.toList, 0) by
    rw [hs.out]
    exact openA_seal _ _ _ _ lk ln (by rw [LD.out]; omega) (by rw [LT.out]; omega))
  have HS := Lib.hid hs
  have HCA := Lib.hid (openA_cases key nonce data.data.toList sealed.data.toList lk ln (by rw [LD.out]; omega) (by rw [LS.out]; omega))
  clear hs sz
  have hc1 := fun nq => run_str (P := Try.prog) (w1.drewN nq) 32 5 Try.underlying32 Try.underlying5 9 Try.underlying9 w.heap.size 32 32 _ _ _ key RK.out.out lk (by rw [← lk]; exact List.take_of_length_le (by rw [cells_length]; exact Nat.le_refl _))
  have hc2 := fun nq => run_str (P := Try.prog) (w1.drewN nq) 32 5 Try.underlying32 Try.underlying5 9 Try.underlying9 (w.heap.size + 1) 12 12 _ _ _ nonce RN.out.out ln (by rw [← ln]; exact List.take_of_length_le (by rw [cells_length]; exact Nat.le_refl _))
  clear lk ln
  go_wp2_with fail
  go_quiet (fail)
  clear hc1 hc2 RK RN
  have hK := Is.of key
  have hN := Is.of nonce
  generalize ByteArray.mk key.toArray = K at hK ⊢
  generalize ByteArray.mk nonce.toArray = N at hN ⊢
  have HKZ := Lib.hid (show K.size = 32 by rw [hK.size]; exact HLK.out)
  have HNZ := Lib.hid (show N.size = 12 by rw [hN.size]; exact HLN.out)
  have HK := Lib.hid hK.out
  have HN := Lib.hid hN.out
  have HB3 := Lib.hid (below_drewN HB1.out nq)
  generalize w1.drewN nq = w3 at HB3 ⊢
  clear hK hN HB1
  go_wp2_with fail
  refine (Seal_ok K N data text HKZ.out HNZ.out (by omega) (by omega) s (by rw [HK.out, HN.out]; exact HS.out) _).mono ?_
  rintro e w4 ⟨rfl, hb4⟩
  have HB4 := Lib.hid (bthen HB3.out hb4)
  clear hb4
  go_wp2_with fail
  refine (Open_walk K N data s (by rw [HSZ.out]; omega) text 0 (by rw [HK.out, HN.out, HOP.out]; exact ⟨Is.self _, rfl⟩) _).mono ?_
  rintro e w5 ⟨rfl, hb5⟩
  have HB5 := Lib.hid (bthen HB4.out hb5)
  have hne : ((s.size : Int) != (text.size : Int) + 16) = false := by rw [HSZ.out]; simp
  have htt := seq_self text
  clear hb5
  rcases HCA.out with ⟨l, hl⟩ | ⟨hl, h16⟩ | ⟨hl, h16⟩
  · obtain ⟨u, hu⟩ : ∃ u, Is u l := ⟨_, Is.of _⟩
    obtain ⟨k1, k2, k3, k4, k5⟩ := openA_ok hl
    have HL := Lib.hid hl
    have HU := Lib.hid hu
    have HUZ := Lib.hid (show u.size ≤ 16384 by rw [hu.size]; exact k4)
    have HAG := Lib.hid (show Is sealed (sealL K.data.toList N.data.toList data.data.toList u.data.toList) by
      rw [HK.out, HN.out, hu.out, k5]; exact Is.self _)
    clear hl hu k1 k2 k3 k4 k5 HCA
    go_wp2_with fail
    refine (Open_walk K N data sealed (by omega) u 0 (by rw [HK.out, HN.out, HL.out]; exact ⟨HU.out, rfl⟩) _).mono ?_
    rintro e w6 ⟨rfl, hb6⟩
    have HB6 := Lib.hid (bthen HB5.out hb6)
    clear hb6
    go_wp2_with fail
    refine (Seal_ok K N data u HKZ.out HNZ.out (by omega) HUZ.out sealed HAG.out _).mono ?_
    rintro e w7 ⟨rfl, hb7⟩
    have HB7 := Lib.hid (bthen HB6.out hb7)
    have hss := seq_self sealed
    clear hb7
    go_wp2_with fail
    go_ret
    exact ⟨rfl, HB7.out⟩
  · have HL := Lib.hid hl
    have g16 : decide ((16 : Int) ≤ (sealed.size : Int)) = true := decide_eq_true (by have := LS.out; omega)
    clear hl h16 HCA
    go_wp2_with fail
    refine (Open_walk K N data sealed (by omega) ⟨#[]⟩ 20 (by rw [HK.out, HN.out, HL.out]; exact ⟨Is.self _, rfl⟩) _).mono ?_
    rintro e w6 ⟨rfl, hb6⟩
    have HB6 := Lib.hid (bthen HB5.out hb6)
    clear hb6
    go_wp2_with fail
    go_ret
    exact ⟨rfl, HB6.out⟩
  · have HL := Lib.hid hl
    have g16 : decide ((16 : Int) ≤ (sealed.size : Int)) = false := decide_eq_false (by have := LS.out; omega)
    clear hl h16 HCA
    go_wp2_with fail
    refine (Open_walk K N data sealed (by omega) ⟨#[]⟩ 5 (by rw [HK.out, HN.out, HL.out]; exact ⟨Is.self _, rfl⟩) _).mono ?_
    rintro e w6 ⟨rfl, hb6⟩
    have HB6 := Lib.hid (bthen HB5.out hb6)
    clear hb6
    go_wp2_with fail
    go_ret
    exact ⟨rfl, HB6.out⟩
/-- With one byte of the tag turned it isn't opened. -/
theorem openA_turned (key nonce d t : List UInt8) (hk : key.length = 32) (hn : nonce.length = 12) (hd : d.length ≤ 4096) (ht : t.length ≤ 16384) (i : Nat) (h1 : t.length ≤ i) (h2 : i < t.length + 16) (x : UInt8)
    (hx : x ≠ (sealL key nonce d t).getD i 0) : openA key nonce d ((sealL key nonce d t).set i x) = ([], 20) := by
  have hl : ((sealL key nonce d t).set i x).length = t.length + 16 := by rw [List.length_set, sealL_length]
  unfold openA
  rw [hl, if_pos ⟨hk, hn, hd, by omega, by omega⟩, show t.length + 16 - 16 = t.length by omega]
  have e1 : ((sealL key nonce d t).set i x).take t.length = turnL key 1#32 nonce t := by
    rw [List.take_set_of_le h1, sealL_take]
  rw [e1, if_neg]
  intro hh
  rw [← sealL_drop] at hh
  have h3 := congrArg (fun l => l.getD (i - t.length) 0) hh
  simp only [List.getD_eq_getElem?_getD, List.getElem?_drop] at h3
  rw [show t.length + (i - t.length) = i by omega, List.getElem?_set_self (by rw [sealL_length]; exact h2)] at h3
  rw [List.getD_eq_getElem?_getD] at hx
  exact hx h3.symm
theorem xor_ne (v : UInt8) (y : BitVec 8) (h : y ≠ 0#8) : v ^^^ (⟨y⟩ : UInt8) ≠ v := by
  intro hh
  apply h
  have h2 := congrArg UInt8.toBitVec hh
  have h3 : v.toBitVec ^^^ y = v.toBitVec := h2
  have h4 : v.toBitVec ^^^ (v.toBitVec ^^^ y) = v.toBitVec ^^^ v.toBitVec := by rw [h3]
  rw [← BitVec.xor_assoc, BitVec.xor_self, BitVec.zero_xor] at h4
  exact h4
set_option maxRecDepth 100000 in
set_option maxHeartbeats 4000000 in
theorem AeadTurned_w (key : List UInt8) (lk : key.length = 32) (nonce : List UInt8) (ln : nonce.length = 12) (data text : ByteArray) (ad y : BitVec 8) (w : World) :
    Calls Try.prog 6 #[.agg (cells key).toArray, .agg (cells nonce).toArray, .string data, .string text, .int .u8 (bvi ad), .int .u8 (bvi y)] w fun e w' => e = .returned (.bool true) ∧ Below w.heap.size w w' := by
  have ld : data.data.toList.length = data.size := by rw [Array.length_toList]; rfl
  have lt : text.data.toList.length = text.size := by rw [Array.length_toList]; rfl
  have LD := Lib.hid ld
  have LT := Lib.hid lt
  clear ld lt
  have hcz : (cells key).toArray.size = 32 := by simp [cells_length, lk]
  have hcm : (cells nonce).toArray.size = 12 := by simp [cells_length, ln]
  go_enter Try.func6, Try.ntmps6
  go_wp2_with fail
  refine (awake06 _).mono ?_
  rintro e w1 ⟨rfl, hb1⟩
  have RK := Lib.hid (((RowAt.new w (cells key).toArray 30 (0, 0)).alloc (.cells (cells nonce).toArray 31)).below hb1 (by simp <;> omega))
  have hrn2 := ((RowAt.new (w.alloc (.cells (cells key).toArray 30)) (cells nonce).toArray 31 (0, 0)).below hb1 (by simp))
  have HB1 := Lib.hid (show Below w.heap.size w w1 from Below.trans (((Below.refl _ _).alloc (Nat.le_refl _) _).alloc (by simp) _) (hb1.mono (by simp; omega)))
  have HLK := Lib.hid lk
  have HLN := Lib.hid ln
  rw [show (w.alloc (.cells (cells key).toArray 30)).heap.size = w.heap.size + 1 by simp] at hrn2
  have RN := Lib.hid hrn2
  clear hb1 hrn2 hcz hcm
  rcases Nat.lt_or_ge 512 data.size with hz | z1
  · have d1 : decide ((512 : Int) < (data.size : Int)) = true := decide_eq_true (by omega)
    clear lk ln
    go_wp2_with fail
    go_ret
    exact ⟨rfl, HB1.out⟩
  have d1 : decide ((512 : Int) < (data.size : Int)) = false := decide_eq_false (by omega)
  rcases Nat.lt_or_ge 512 text.size with hz | z2
  · have d2 : decide ((512 : Int) < (text.size : Int)) = true := decide_eq_true (by omega)
    clear lk ln
    go_wp2_with fail
    go_ret
    exact ⟨rfl, HB1.out⟩
  have d2 : decide ((512 : Int) < (text.size : Int)) = false := decide_eq_false (by omega)
  by_cases hy : y = 0#8
  · have d3 : (bvi y == 0) = true := by rw [hy]; rfl
    clear lk ln hy
    go_wp2_with fail
    go_ret
    exact ⟨rfl, HB1.out⟩
  have d3 : (bvi y == 0) = false := by
    rw [beq_eq_false_iff_ne, show (0 : Int) = bvi (0#8) from rfl]
    exact fun hh => hy (bvi_inj.1 hh)
  obtain ⟨s, hs⟩ : ∃ s, Is s (sealL key nonce data.data.toList text.data.toList) := ⟨_, Is.of _⟩
  have sz : s.size = text.size + 16 := by rw [hs.size, sealL_length, LT.out]
  have hj0 := bvi_nonneg (ad % 16#8)
  have hj1 : bvi (ad % 16#8) < 16 := by
    unfold bvi
    rw [BitVec.toNat_umod]
    have := Nat.mod_lt ad.toNat (show 0 < (16#8).toNat by decide)
    have h16 : (16#8).toNat = 16 := rfl
    omega
  obtain ⟨n1, hn1⟩ : ∃ n1 : Nat, n1 = s.size - 1 := ⟨_, rfl⟩
  obtain ⟨i, hi0⟩ : ∃ i : Nat, (s.size : Int) - 1 - bvi (ad % 16#8) = (i : Int) := ⟨_, (Int.toNat_of_nonneg (by omega)).symm⟩
  have hw1 : wrap64 ((s.size : Int) - 1) = (n1 : Int) := by rw [IntWalk.wrap64_in _ (by omega)]; omega
  have hi : wrap64 ((n1 : Int) - bvi (ad % 16#8)) = (i : Int) := by rw [IntWalk.wrap64_in _ (by omega)]; omega
  have HW := Lib.hid hw1
  have hi1 : text.size ≤ i := by omega
  have hi2 : i < text.size + 16 := by omega
  have HTU := Lib.hid (openA_turned key nonce data.data.toList text.data.toList lk ln (by rw [LD.out]; omega) (by rw [LT.out]; omega) i (by rw [LT.out]; exact hi1) (by rw [LT.out]; exact hi2) (s.data.toList.getD i 0 ^^^ ⟨y⟩) (by rw [← hs.out]; exact xor_ne _ y hy))
  rw [← hs.out] at HTU
  have HSZ := Lib.hid sz
  have HI := Lib.hid hi
  have HIL := Lib.hid (show i < s.size by omega)
  have HS := Lib.hid hs
  have d4 : decide ((s.size : Int) < 16) = false := decide_eq_false (by omega)
  clear hs sz hj0 hj1 hn1 hi0 hw1 hi hy hi1 hi2
  have hc1 := fun nq => run_str (P := Try.prog) (w1.drewN nq) 32 5 Try.underlying32 Try.underlying5 9 Try.underlying9 w.heap.size 32 32 _ _ _ key RK.out.out lk (by rw [← lk]; exact List.take_of_length_le (by rw [cells_length]; exact Nat.le_refl _))
  have hc2 := fun nq => run_str (P := Try.prog) (w1.drewN nq) 32 5 Try.underlying32 Try.underlying5 9 Try.underlying9 (w.heap.size + 1) 12 12 _ _ _ nonce RN.out.out ln (by rw [← ln]; exact List.take_of_length_le (by rw [cells_length]; exact Nat.le_refl _))
  clear lk ln
  go_wp2_with fail
  go_quiet (fail)
  clear hc1 hc2 RK RN
  have hK := Is.of key
  have hN := Is.of nonce
  generalize ByteArray.mk key.toArray = K at hK ⊢
  generalize ByteArray.mk nonce.toArray = N at hN ⊢
  have HKZ := Lib.hid (show K.size = 32 by rw [hK.size]; exact HLK.out)
  have HNZ := Lib.hid (show N.size = 12 by rw [hN.size]; exact HLN.out)
  have HK := Lib.hid hK.out
  have HN := Lib.hid hN.out
  have HB3 := Lib.hid (below_drewN HB1.out nq)
  generalize w1.drewN nq = w3 at HB3 ⊢
  clear hK hN HB1
  go_wp2_with fail
  refine (Seal_ok K N data text HKZ.out HNZ.out (by omega) (by omega) s (by rw [HK.out, HN.out]; exact HS.out) _).mono ?_
  rintro e w4 ⟨rfl, hb4⟩
  have HB4 := Lib.hid (bthen HB3.out hb4)
  clear hb4
  have hil := HIL.out
  have hi := HI.out
  have hw1 := HW.out
  have hcv := run_bytes_of_string (P := Try.prog) w4 9 32 5 s Try.underlying9 Try.underlying32 Try.underlying5
  have hrow0 := (RowAt.new w4 (bytesRow s (grownCap w4 s.size 0 5)) 5 ((bytesRow s (grownCap w4 s.size 0 5)).size, (bytesRow s (grownCap w4 s.size 0 5)).size + 1)).drew
  have ht0 := bytesRow_take s (grownCap w4 s.size 0 5)
  have hs1 := bytesRow_size s (grownCap w4 s.size 0 5)
  generalize grownCap w4 s.size 0 5 = cap at hcv hrow0 ht0 hs1
  generalize bytesRow s cap = row at hcv hrow0 ht0 hs1
  have hl : s.data.toList.length = s.size := by rw [Array.length_toList]; rfl
  have c1 := hrow0.cell (take_cell ht0 (i := i) (by rw [hl]; exact hil) hil)
  have f1 := hrow0.free (i := i) (by simp; omega)
  have hlu : i < s.data.toList.length := by rw [hl]; exact hil
  have HGD := Lib.hid (show s.data.toList.getD i 0 = s.data.toList[i] by rw [List.getD_eq_getElem?_getD, List.getElem?_eq_getElem hlu]; rfl)
  rw [HGD.out] at HTU
  generalize s.data.toList[i] = v at c1 HTU
  have hst := run_str (P := Try.prog) ((w4.alloc (.cells row 5 (row.size, row.size + 1))).setCell ⟨w4.heap.size, i, none⟩ (.int .u8 (bvi (v.toBitVec ^^^ y)))).drew 32 5 Try.underlying32 Try.underlying5 9 Try.underlying9 w4.heap.size s.size cap _ _ _ (s.data.toList.set i (v ^^^ ⟨y⟩)) ((RowAt.new w4 row _ _).store i _).drew (by rw [List.length_set, hl]) (take_set ht0 i (v ^^^ (⟨y⟩ : UInt8)))
  have hbW : Below w4.heap.size w4 ((w4.alloc (.cells row 5 (row.size, row.size + 1))).setCell ⟨w4.heap.size, i, none⟩ (.int .u8 (bvi (v.toBitVec ^^^ y)))).drew := (((Below.refl _ _).alloc (Nat.le_refl _) _).setCell (p := ⟨_, _, _⟩) (Nat.le_refl _) _).drew
  have hr := Is.of (s.data.toList.set i (v ^^^ ⟨y⟩))
  generalize ByteArray.mk (s.data.toList.set i (v ^^^ ⟨y⟩)).toArray = r at hst hr
  have HR := Lib.hid hr
  have HRZ := Lib.hid (show r.size ≤ 140737488351232 by rw [hr.size, List.length_set, hl, HSZ.out]; exact Nat.le_trans (Nat.add_le_add_right z2 16) (by decide))
  clear hr ht0 hs1 hrow0 hl hlu HGD z1 z2
  go_wp2_with fail
  refine (Open_walk K N data r HRZ.out ⟨#[]⟩ 20 (by rw [HK.out, HN.out, HR.out.out, HTU.out]; exact ⟨Is.self _, rfl⟩) _).mono ?_
  rintro e w5 ⟨rfl, hb5⟩
  have HB5 := Lib.hid (bthen (bthen HB4.out hbW) hb5)
  clear hb5
  go_wp2_with fail
  go_ret
  exact ⟨rfl, HB5.out⟩
end Go.Proofs.Ytfglhemmccihfaa
