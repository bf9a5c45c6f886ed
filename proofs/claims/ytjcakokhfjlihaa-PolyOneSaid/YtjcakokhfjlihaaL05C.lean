/-
  Layer 5's laws, walked: PolyClamps, PolyAdds.
-/
import Derived.Test.YtjcakokhfjlihaaL05B
namespace Go.Proofs.Ytjcakokhfjlihaa
open Go.RowKit

theorem clampB_twice (i : Nat) (b : UInt8) : clampB i (clampB i b) = clampB i b := by
  unfold clampB
  split
  · rw [UInt8.and_assoc, UInt8.and_self]
  · split
    · rw [UInt8.and_assoc, UInt8.and_self]
    · rfl
theorem clampL_get (l : List UInt8) (i : Nat) (h : i < (clampL l).length) : (clampL l)[i] = clampB i (l.getD i 0) :=
  (clampK_get l l.length i h).trans (if_pos (by rw [clampL_length] at h; exact h))
theorem clampL_twice (l : List UInt8) : clampL (clampL l) = clampL l := by
  apply List.ext_getElem (by rw [clampL_length])
  intro i h1 h2
  rw [clampL_get, clampL_get, List.getD_eq_getElem?_getD, List.getElem?_eq_getElem h2, Option.getD_some, clampL_get, clampB_twice]
theorem tag_clamped (key t : List UInt8) (hk : key.length = 32) : tagL (clampL (key.take 16) ++ key.drop 16) t = tagL key t := by
  have hl : (clampL (key.take 16)).length = 16 := by rw [clampL_length, List.length_take]; omega
  unfold tagL keyR keyS
  rw [List.take_left' hl, List.drop_left' hl, clampL_twice]
/-- 'string(b)', b a slice in the midst of a row of bytes. -/
theorem run_str_at {P : Program} (w : World) (src e : TypeId) (hs : P.underlying src = some (.slice e)) (he : P.underlying e = some (.int .u8)) (dst : TypeId) (hd : P.underlying dst = some .string)
    (g o n cap : Nat) (l : List UInt8) (hl : l.length = n) (hc : ∀ i, i < n → w.cell? ⟨g, o + i, none⟩ = some (.int .u8 (bvi (l.getD i 0).toBitVec))) :
    (convert src dst (.slice (some ⟨g, o, none⟩) n cap)).run P w = .ok (.string ⟨l.toArray⟩) w := by
  rw [run_convert_bytes_arg w src e hs he g o n cap (l.map fun b => bvi b.toBitVec) (by simpa using hl) ?_ dst hd, strOfNums_bvi]
  intro i hi
  rw [hc i hi]
  have hi' : i < l.length := by omega
  simp [List.getD_eq_getElem?_getD, hi']

set_option maxRecDepth 100000 in
set_option maxHeartbeats 2000000 in
theorem PolyClamps_w (key : List UInt8) (lk : key.length = 32) (text : ByteArray) (w : World) :
    Calls Try.prog 11 #[.agg (cells key).toArray, .string text] w fun e w' => e = .returned (.bool true) ∧ Below w.heap.size w w' := by
  have hcz : (cells key).toArray.size = 32 := by simp [cells_length, lk]
  rcases Nat.lt_or_ge 1024 text.size with ht | ht
  · go_enter Try.func11, Try.ntmps11
    go_wp2_with fail
    refine (awake05 _).mono ?_
    rintro e w1 ⟨rfl, hb1⟩
    have HB1 := Lib.hid (show Below w.heap.size w w1 from Below.trans ((Below.refl _ _).alloc (Nat.le_refl _) _) (hb1.mono (by simp)))
    clear hb1
    go_wp2_with fail
    go_ret
    exact ⟨rfl, HB1.out⟩
  · go_enter Try.func11, Try.ntmps11
    go_wp2_with fail
    refine (awake05 _).mono ?_
    rintro e w1 ⟨rfl, hb1⟩
    have HB1 := Lib.hid (show Below w.heap.size w w1 from Below.trans ((Below.refl _ _).alloc (Nat.le_refl _) _) (hb1.mono (by simp)))
    have hrow := (RowAt.new w (cells key).toArray 36 (0, 0)).below hb1 (by simp)
    have hst := run_str (P := Try.prog) w1 38 5 Try.underlying38 Try.underlying5 9 Try.underlying9 w.heap.size 32 32 _ _ _ key hrow.out lk (by rw [← lk]; exact List.take_of_length_le (by rw [cells_length]; exact Nat.le_refl _))
    have HLK := Lib.hid lk
    clear hb1 hrow lk hcz
    have hK0 := Is.of key
    generalize ByteArray.mk key.toArray = K at hst hK0
    have hK : Is K key := hK0
    clear hK0
    have hKs : K.size = 32 := by rw [hK.size]; exact HLK.out
    have hk1 : 16 ≤ K.size := by omega
    have HKS := Lib.hid hKs
    have HIK := Lib.hid hK
    have HX := Lib.hid (show Is (K.extract 0 16) (key.take 16) from by have := hK.extract 0 16; rwa [List.drop_zero, Nat.sub_zero] at this)
    have HY := Lib.hid (show Is (K.extract 16 K.size) (key.drop 16) from by
      have := hK.extract 16 K.size
      rwa [List.take_of_length_le (by rw [List.length_drop, hK.size]; exact Nat.le_refl _)] at this)
    have hx16 : (K.extract 0 16).size = 16 := by rw [ByteArray.size_extract]; omega
    have HXZ := Lib.hid hx16
    have hy16 : (K.extract 16 K.size).size ≤ 16 := by rw [ByteArray.size_extract]; omega
    have hy32 : (K.extract 16 K.size).size = 16 := by rw [ByteArray.size_extract]; omega
    have HYZ := Lib.hid hy32
    clear hKs hK hx16 hy32
    go_wp2_with fail
    refine (Clamp_ok _ HXZ.out _).mono ?_
    rw [HX.out.out]
    rintro e w2 ⟨c, rfl, hc, hb2⟩
    have HCZ := Lib.hid (show c.size = 16 by rw [hc.size, clampL_length, List.length_take, HLK.out]; rfl)
    have HC := Lib.hid hc
    have HB2 := Lib.hid (bthen HB1.out hb2)
    clear hc hb2
    go_wp2_with fail
    refine (Clamp_ok c HCZ.out _).mono ?_
    rw [HC.out.out, clampL_twice]
    rintro e w3 ⟨d, rfl, hd, hb3⟩
    have HB3 := Lib.hid (bthen HB2.out hb3)
    have q1 : seq c d = true := seq_is HC.out hd
    have q2 : ((c.size : Int) != 16) = false := by rw [HCZ.out]; rfl
    clear hd hb3
    go_wp2_with fail
    refine (Tag_is K text (tagL key text.data.toList) HKS.out (by omega) (by rw [HIK.out.out]) _).mono ?_
    rintro e w4 ⟨r4, rfl, hr4, hb4⟩
    have HR4 := Lib.hid hr4
    have HB4 := Lib.hid (bthen HB3.out hb4)
    have hcs : c.size ≤ 16 := by rw [HCZ.out]; exact Nat.le_refl _
    clear hr4 hb4
    go_wp2_with fail
    refine (Tag_is (c ++ K.extract 16 K.size) text (tagL key text.data.toList) (by rw [ByteArray.size_append, HCZ.out, HYZ.out]) (by omega) (by
      rw [(HC.out.append HY.out).out, tag_clamped key _ HLK.out]) _).mono ?_
    rintro e w5 ⟨r5, rfl, hr5, hb5⟩
    have HB5 := Lib.hid (bthen HB4.out hb5)
    have q3 : seq r4 r5 = true := seq_is HR4.out hr5
    clear hr5 hb5
    go_wp2_with fail
    go_ret
    exact ⟨rfl, HB5.out⟩
end Go.Proofs.Ytjcakokhfjlihaa
