/-
  What layer 6 (aead) computes, in plain words. No program.
-/
import Derived.Test.YtfglhemmccihfaaPlainC
import Derived.Test.YtfglhemmccihfaaPlainF
import Derived.Test.YtfglhemmccihfaaPlainP
namespace Go.Proofs.Ytfglhemmccihfaa

/-- The key once used. -/
def onceL (key nonce : List UInt8) : List UInt8 := (blockL key 0#32 nonce).take 32
theorem onceL_length (key nonce : List UInt8) : (onceL key nonce).length = 32 := by rw [onceL, List.length_take, blockL_length]; rfl
theorem onceL_stream (key nonce : List UInt8) : streamL key 0#32 nonce 32 = onceL key nonce := by
  unfold streamL onceL
  rw [show (32 + 63) / 64 = 0 + 1 from rfl, blocksL, blocksL, List.nil_append, show (0#32 + BitVec.ofNat 32 0) = 0#32 from rfl]
/-- What a tag covers. -/
def coverL (d s : List UInt8) : List UInt8 := fillL d 16 ++ fillL s 16 ++ lowL (BitVec.ofNat 64 d.length) 8 ++ lowL (BitVec.ofNat 64 s.length) 8
theorem fillL_16 (l : List UInt8) : ∃ k, fillL l 16 = l ++ List.replicate k 0 ∧ k < 16 ∧ (l.length + k) % 16 = 0 := by
  refine ⟨((-(l.length : Int)) % 16).toNat, ?_, by omega, by omega⟩
  unfold fillL
  rw [if_neg (by decide)]
theorem coverL_length (d s : List UInt8) : ∃ i j, i < 16 ∧ j < 16 ∧ (d.length + i) % 16 = 0 ∧ (s.length + j) % 16 = 0 ∧ (coverL d s).length = d.length + i + (s.length + j) + 16 := by
  obtain ⟨i, h1, h2, h3⟩ := fillL_16 d
  obtain ⟨j, h4, h5, h6⟩ := fillL_16 s
  refine ⟨i, j, h2, h5, h3, h6, ?_⟩
  unfold coverL
  rw [h1, h4]
  simp only [List.length_append, List.length_replicate, lowL_length]
theorem lowL_inj8 {x y : BitVec 64} (h : lowL x 8 = lowL y 8) : x = y := by
  have h2 : loV (lowL x 8) = loV (lowL y 8) := by rw [h]
  apply BitVec.eq_of_getLsbD_eq
  intro i hi
  have h3 : (loV (lowL x 8)).getLsbD i = (loV (lowL y 8)).getLsbD i := by rw [h2]
  rw [loV_low x 8 i hi, loV_low y 8 i hi] at h3
  have h4 : decide (i < 8 * 8) = true := decide_eq_true (by omega)
  rw [h4, Bool.true_and, Bool.true_and] at h3
  exact h3
/-- What a tag covers tells both apart. -/
theorem coverL_inj {d s d' s' : List UInt8} (hd : d.length < 18446744073709551616) (hs : s.length < 18446744073709551616) (hd' : d'.length < 18446744073709551616) (hs' : s'.length < 18446744073709551616) (h : coverL d s = coverL d' s') : d = d' ∧ s = s' := by
  unfold coverL at h
  have l8 : ∀ x, (lowL x 8).length = 8 := fun x => lowL_length x 8
  obtain ⟨h1, h2⟩ := List.append_inj' h (by rw [l8, l8])
  obtain ⟨h3, h4⟩ := List.append_inj' h1 (by rw [l8, l8])
  have e1 : d.length = d'.length := by
    have h5 := congrArg BitVec.toNat (lowL_inj8 h4)
    rw [BitVec.toNat_ofNat, BitVec.toNat_ofNat, Nat.mod_eq_of_lt hd, Nat.mod_eq_of_lt hd'] at h5
    exact h5
  have e2 : s.length = s'.length := by
    have h5 := congrArg BitVec.toNat (lowL_inj8 h2)
    rw [BitVec.toNat_ofNat, BitVec.toNat_ofNat, Nat.mod_eq_of_lt hs, Nat.mod_eq_of_lt hs'] at h5
    exact h5
  have hf : ∀ l m : List UInt8, l.length = m.length → (fillL l 16).length = (fillL m 16).length := by
    intro l m hlm
    unfold fillL
    rw [if_neg (by decide), if_neg (by decide), List.length_append, List.length_append, List.length_replicate, List.length_replicate, hlm]
  obtain ⟨h6, h7⟩ := List.append_inj h3 (hf _ _ e1)
  have ht : ∀ l m : List UInt8, l.length = m.length → fillL l 16 = fillL m 16 → l = m := by
    intro l m hlm hh
    unfold fillL at hh
    rw [if_neg (by decide), if_neg (by decide)] at hh
    exact (List.append_inj hh hlm).1
  exact ⟨ht _ _ e1 h6, ht _ _ e2 h7⟩
/-- The tag of sealed bytes. -/
def tagA (key nonce d s : List UInt8) : List UInt8 := tagL (onceL key nonce) (coverL d s)
theorem tagA_length (key nonce d s : List UInt8) : (tagA key nonce d s).length = 16 := tagL_length _ _
/-- A text sealed. -/
def sealL (key nonce d t : List UInt8) : List UInt8 := turnL key 1#32 nonce t ++ tagA key nonce d (turnL key 1#32 nonce t)
theorem sealL_length (key nonce d t : List UInt8) : (sealL key nonce d t).length = t.length + 16 := by
  rw [sealL, List.length_append, turnL_length, tagA_length]
theorem sealL_take (key nonce d t : List UInt8) : (sealL key nonce d t).take t.length = turnL key 1#32 nonce t := by
  rw [sealL, List.take_left' (turnL_length ..)]
theorem sealL_drop (key nonce d t : List UInt8) : (sealL key nonce d t).drop t.length = tagA key nonce d (turnL key 1#32 nonce t) := by
  rw [sealL, List.drop_left' (turnL_length ..)]
/-- Sealed again, what was turned back is the same just if the tag is right. -/
theorem sealL_again (key nonce d s : List UInt8) (n : Nat) (_hn : n ≤ s.length) : sealL key nonce d (turnL key 1#32 nonce (s.take n)) = s ↔ tagA key nonce d (s.take n) = s.drop n := by
  unfold sealL
  rw [turnL_twice]
  constructor
  · intro h
    have h2 : s.take n ++ tagA key nonce d (s.take n) = s.take n ++ s.drop n := by rw [h, List.take_append_drop]
    exact List.append_cancel_left h2
  · intro h
    rw [h, List.take_append_drop]
end Go.Proofs.Ytfglhemmccihfaa
