/-
  Layer 6's 'awake' is true.
-/
import Derived.Test.YtfglhemmccihfaaL06A
import Derived.Test.YtfglhemmccihfaaRegTab
namespace Go.Proofs.Ytfglhemmccihfaa
open Go.RowKit

/-- Bytes 0 as cells. -/
def zerosA (n : Nat) : Array Value := (cells (List.replicate n 0)).toArray
theorem make_32 (wx : World) : (Instr.makeSlice 32 (.int .i64 32) (.int .i64 32)).run Try.prog wx = .ok (.slice (some ⟨wx.heap.size, 0, none⟩) 32 32) (wx.alloc (.cells (zerosA 32) 5)) := by kernel_rfl
theorem make_12 (wx : World) : (Instr.makeSlice 32 (.int .i64 12) (.int .i64 12)).run Try.prog wx = .ok (.slice (some ⟨wx.heap.size, 0, none⟩) 12 12) (wx.alloc (.cells (zerosA 12) 5)) := by kernel_rfl
/-- So many bytes 0. -/
def zeroStr (n : Nat) : ByteArray := ⟨(List.replicate n 0).toArray⟩
theorem zeroStr_is (n : Nat) : Is (zeroStr n) (List.replicate n 0) := Is.of _
theorem zeroStr_size (n : Nat) : (zeroStr n).size = n := by rw [(zeroStr_is n).size]; simp
theorem str_zeros (n : Nat) {w : World} {g : Nat} (h : RowAt w g (zerosA n) 5 (0, 0)) : (convert 32 9 (.slice (some ⟨g, 0, none⟩) n n)).run Try.prog w = .ok (.string (zeroStr n)) w :=
  run_str w 32 5 Try.underlying32 Try.underlying5 9 Try.underlying9 g n n _ _ _ (List.replicate n 0) h (by simp) (by
    unfold zerosA
    exact List.take_of_length_le (by rw [cells_length]; simp))
theorem str_row32 {w : World} {g : Nat} (h : RowAt w g (zerosA 32) 5 (0, 0)) : (convert 32 9 (.slice (some ⟨g, 0, none⟩) 32 32)).run Try.prog w = .ok (.string (zeroStr 32)) w := str_zeros 32 h
theorem str_row12 {w : World} {g : Nat} (h : RowAt w g (zerosA 12) 5 (0, 0)) : (convert 32 9 (.slice (some ⟨g, 0, none⟩) 12 12)).run Try.prog w = .ok (.string (zeroStr 12)) w := str_zeros 12 h
/-- The bytes 128, 129, .. -/
def upL : Nat → List UInt8
  | 0 => []
  | n + 1 => upL n ++ [⟨BitVec.ofInt 8 (128 + (n : Int))⟩]
theorem upL_length (n : Nat) : (upL n).length = n := by
  induction n with
  | zero => rfl
  | succ n ih => rw [upL, List.length_append, ih]; rfl
/-- What was sealed is opened to the text. -/
theorem openA_seal (key nonce d t : List UInt8) (hk : key.length = 32) (hn : nonce.length = 12) (hd : d.length ≤ 4096) (ht : t.length ≤ 16384) : openA key nonce d (sealL key nonce d t) = (t, 0) := by
  unfold openA
  rw [sealL_length, if_pos ⟨hk, hn, hd, by omega, by omega⟩, show t.length + 16 - 16 = t.length by omega, sealL_take, sealL_drop, if_pos rfl, turnL_twice]
def z32 : List UInt8 := List.replicate 32 0
def z12 : List UInt8 := List.replicate 12 0
def lady : List UInt8 := [76, 97, 100, 105, 101, 115]
def ladyN : List UInt8 := [7, 0, 0, 0, 64, 65, 66, 67, 68, 69, 70, 71]
theorem lady_six : turnL (upL 32) 1#32 ladyN lady = [211, 26, 141, 52, 100, 142] := by decide +kernel
theorem lady_seal : (sealL (upL 32) ladyN [] lady).take 6 = [211, 26, 141, 52, 100, 142] := by
  have h := sealL_take (upL 32) ladyN [] lady
  rw [lady_six] at h
  exact h
theorem once_four : (onceL z32 z12).take 4 = [118, 184, 224, 173] := by decide +kernel
theorem open_text : openA z32 z12 [100] (sealL z32 z12 [100] [116, 101, 120, 116]) = ([116, 101, 120, 116], 0) := openA_seal _ _ _ _ (by decide) (by decide) (by decide) (by decide)
theorem open_tag : openA z32 z12 [120] (sealL z32 z12 [100] [116, 101, 120, 116]) = ([], 20) := by decide +kernel
theorem open_short : openA z32 z12 [] [115, 104, 111, 114, 116] = ([], 5) := by decide +kernel
set_option maxRecDepth 100000 in
set_option maxHeartbeats 4000000 in
theorem awake06 (w : World) : Calls Try.prog 13 #[] w fun e w' => e = .returned (.bool true) ∧ Below w.heap.size w w' := by
  obtain ⟨s, hs⟩ : ∃ s, Is s (sealL (upL 32) ladyN [] lady) := ⟨_, Is.of _⟩
  obtain ⟨t, ht⟩ : ∃ t, Is t (sealL z32 z12 [100] [116, 101, 120, 116]) := ⟨_, Is.of _⟩
  obtain ⟨o, ho⟩ : ∃ o, Is o (onceL z32 z12) := ⟨_, Is.of _⟩
  obtain ⟨c, hc⟩ : ∃ c, Is c (coverL [97] []) := ⟨_, Is.of _⟩
  have HSZ := Lib.hid (show s.size = 22 by rw [hs.size, sealL_length]; rfl)
  have HTZ := Lib.hid (show t.size = 20 by rw [ht.size, sealL_length]; rfl)
  have HOZ := Lib.hid (show o.size = 32 by rw [ho.size, onceL_length])
  have HCZ := Lib.hid (show c.size = 32 by rw [hc.size]; rfl)
  have HS6 := Lib.hid (show seq (s.extract 0 6) ⟨#[211, 26, 141, 52, 100, 142]⟩ = true by
    have h := hs.extract 0 6
    rw [List.drop_zero, Nat.sub_zero, lady_seal] at h
    exact seq_is h (Is.self _))
  have HO4 := Lib.hid (show seq (o.extract 0 4) ⟨#[118, 184, 224, 173]⟩ = true by
    have h := ho.extract 0 4
    rw [List.drop_zero, Nat.sub_zero, once_four] at h
    exact seq_is h (Is.self _))
  have HZK := Lib.hid (zeroStr_size 32)
  have HZN := Lib.hid (zeroStr_size 12)
  have HKL := Lib.hid (show (zeroStr 32).data.toList = z32 from (zeroStr_is 32).out)
  have HNL := Lib.hid (show (zeroStr 12).data.toList = z12 from (zeroStr_is 12).out)
  have HS := Lib.hid hs
  have HT := Lib.hid ht
  have HO := Lib.hid ho
  have HC := Lib.hid hc
  clear hs ht ho hc
  go_enter Try.func13, Try.ntmps13
  go_wp2_with fail
  refine region_table (by kernel_rfl) [19, 20, 21, 22, 1, 2]
    (fun i x_ => match i with
      | 0 => True
      | 1 => x_ = .string (zeroStr 32)
      | 2 => True
      | 3 => x_ = .string (zeroStr 12)
      | 4 => x_ = .string (zeroStr 32)
      | 5 => x_ = .string (zeroStr 12)
      | _ => True) (fun L t w' => Below w.heap.size w w' ∧ (L 0 = true → ∃ g, t 19 = .slice (some ⟨g, 0, none⟩) 32 32 ∧ RowAt w' g (zerosA 32) 5 (0, 0)) ∧ (L 2 = true → ∃ g, t 21 = .slice (some ⟨g, 0, none⟩) 12 12 ∧ RowAt w' g (zerosA 12) 5 (0, 0))) (by kernel_rfl) (by kernel_rfl) rfl (by kernel_rfl) (⟨(Below.refl _ _).drew, (fun h => by cases h), (fun h => by cases h)⟩) ?_ ?_
  · refine StepsOk.cons ?_ (StepsOk.cons ?_ (StepsOk.cons ?_ (StepsOk.cons ?_ (StepsOk.cons ?_ (StepsOk.cons ?_ StepsOk.nil)))))
    · intro L a w4 Kx hl hsz hs ht hr he hK
      refine step_plain rfl ?_
      have hmk := make_32
      go_simp
      refine hK _ _ trivial ⟨hr.1.alloc hr.1.size _, fun h => ?_, fun h => ?_⟩
      · exact ⟨w4.heap.size, slot_out (by rw [hsz]; exact of_decide_eq_true (by kernel_rfl)), RowAt.new w4 _ _ _⟩
      · obtain ⟨g, h1, h2⟩ := hr.2.2 (by simpa using h)
        exact ⟨g, (slot_ne _ _ _ _ (by decide)).trans h1, h2.alloc _⟩
    · intro L a w4 Kx hl hsz hs ht hr he hK
      refine step_plain rfl ?_
      obtain ⟨g, hm, hrow⟩ := hr.2.1 (he 0 (by kernel_rfl))
      have h19 : a.tmps.getD 19 undef = .slice (some ⟨g, 0, none⟩) 32 32 := hm
      have hcv := str_row32 hrow
      go_simp
      refine hK _ _ rfl ⟨hr.1, fun h => ?_, fun h => ?_⟩
      · obtain ⟨g, h1, h2⟩ := hr.2.1 (by simpa using h)
        exact ⟨g, (slot_ne _ _ _ _ (by decide)).trans h1, h2⟩
      · obtain ⟨g, h1, h2⟩ := hr.2.2 (by simpa using h)
        exact ⟨g, (slot_ne _ _ _ _ (by decide)).trans h1, h2⟩
    · intro L a w4 Kx hl hsz hs ht hr he hK
      refine step_plain rfl ?_
      have hmk := make_12
      go_simp
      refine hK _ _ trivial ⟨hr.1.alloc hr.1.size _, fun h => ?_, fun h => ?_⟩
      · obtain ⟨g, h1, h2⟩ := hr.2.1 (by simpa using h)
        exact ⟨g, (slot_ne _ _ _ _ (by decide)).trans h1, h2.alloc _⟩
      · exact ⟨w4.heap.size, slot_out (by rw [hsz]; exact of_decide_eq_true (by kernel_rfl)), RowAt.new w4 _ _ _⟩
    · intro L a w4 Kx hl hsz hs ht hr he hK
      refine step_plain rfl ?_
      obtain ⟨g, hm, hrow⟩ := hr.2.2 (he 2 (by kernel_rfl))
      have h21 : a.tmps.getD 21 undef = .slice (some ⟨g, 0, none⟩) 12 12 := hm
      have hcv := str_row12 hrow
      go_simp
      refine hK _ _ rfl ⟨hr.1, fun h => ?_, fun h => ?_⟩
      · obtain ⟨g, h1, h2⟩ := hr.2.1 (by simpa using h)
        exact ⟨g, (slot_ne _ _ _ _ (by decide)).trans h1, h2⟩
      · obtain ⟨g, h1, h2⟩ := hr.2.2 (by simpa using h)
        exact ⟨g, (slot_ne _ _ _ _ (by decide)).trans h1, h2⟩
    · intro L a w4 Kx hl hsz hs ht hr he hK
      refine step_plain rfl ?_
      have h20 : a.tmps.getD 20 undef = .string (zeroStr 32) := ht 1 (he 1 (by kernel_rfl)) 20 rfl
      go_simp
      refine hK _ _ rfl ⟨hr.1, fun h => ?_, fun h => ?_⟩
      · obtain ⟨g, h1, h2⟩ := hr.2.1 (by simpa using h)
        exact ⟨g, (slot_ne _ _ _ _ (by decide)).trans h1, h2⟩
      · obtain ⟨g, h1, h2⟩ := hr.2.2 (by simpa using h)
        exact ⟨g, (slot_ne _ _ _ _ (by decide)).trans h1, h2⟩
    · intro L a w4 Kx hl hsz hs ht hr he hK
      refine step_plain rfl ?_
      have h22 : a.tmps.getD 22 undef = .string (zeroStr 12) := ht 3 (he 3 (by kernel_rfl)) 22 rfl
      go_simp
      refine hK _ _ rfl ⟨hr.1, fun h => ?_, fun h => ?_⟩
      · obtain ⟨g, h1, h2⟩ := hr.2.1 (by simpa using h)
        exact ⟨g, (slot_ne _ _ _ _ (by decide)).trans h1, h2⟩
      · obtain ⟨g, h1, h2⟩ := hr.2.2 (by simpa using h)
        exact ⟨g, (slot_ne _ _ _ _ (by decide)).trans h1, h2⟩
  · intro f L w4 hf hall hr
    have h1 : f 1 = .string (zeroStr 32) := hf 4 (by decide) 1 rfl
    have h2 : f 2 = .string (zeroStr 12) := hf 5 (by decide) 2 rfl
    have HBZ := Lib.hid hr.1
    clear hall hr
    simp only [List.foldl, Act.put, List.setIfInBounds_toArray, List.set_cons_zero, List.set_cons_succ]
    rw [h1, h2]
    clear hf h1 h2
    generalize f 19 = z19
    generalize f 20 = z20
    generalize f 21 = z21
    generalize f 22 = z22
    generalize zeroStr 32 = KS at HZK HKL ⊢
    generalize zeroStr 12 = NS at HZN HNL ⊢
    have zW := HBZ.out.size
    go_wp2_with fail
    go_loopw [3, 4] (fun x i wr => ∃ k : Nat, k ≤ 32 ∧ i = .int .i64 k ∧ wr.ownsRow w.heap.size 5 1 x k (cells (upL k)) ∧ Below w.heap.size w wr) (fun _ i _ => 32 - (intOf i).toNat)
    case atStart => exact ⟨0, Nat.zero_le _, rfl, owns_zero w4 _ zW, HBZ.out.alloc zW _⟩
    case round =>
      obtain ⟨k, hk, rfl, hown, hbel⟩ := hrel
      rcases Nat.lt_or_ge k 32 with hlt | hge
      · have hd : decide ((k : Int) < 32) = true := decide_eq_true (by omega)
        have hk2 : (128 : Int) + k ≤ 9223372036854775807 := by omega
        go_wp2_with (at_builtin; refine append_one rfl _ _ 32 rfl wr w.heap.size 5 (.int .u8 0) 1 Try.underlying32 infoB rfl hown rfl _ rfl rfl ?c1 ?c2 ?c3 ?_)
        case c1 => omega
        case c2 => omega
        case c3 => have := hbel.size; omega
        intro v' w5 hown' hb5 _ _
        clear hown
        go_wp2_with fail
        go_roundw
        case rel => exact ⟨k + 1, by omega, by go_num, by rw [upL, cells_append]; exact hown', hbel.trans hb5⟩
        case measure => simp [intOf]; omega
      · obtain rfl : k = 32 := by omega
        have hst := run_str_own (P := Try.prog) wr 32 5 Try.underlying32 Try.underlying5 9 Try.underlying9 _ 32 _ (upL 32) hown
        obtain ⟨QS, hq⟩ : ∃ QS : ByteArray, QS = ⟨(upL 32).toArray⟩ := ⟨_, rfl⟩
        rw [← hq] at hst
        have hqi : Is QS (upL 32) := by rw [hq]; exact Is.of _
        have HQZ := Lib.hid (show QS.size = 32 by rw [hqi.size, upL_length])
        have HQI := Lib.hid hqi
        have HB5 := Lib.hid hbel
        have hd : decide ((32 : Int) < 32) = false := rfl
        clear hq hqi hown hbel
        go_wp2_with fail
        clear hst
        refine (Seal_ok QS ⟨#[7, 0, 0, 0, 64, 65, 66, 67, 68, 69, 70, 71]⟩ ⟨#[]⟩ ⟨#[76, 97, 100, 105, 101, 115]⟩ HQZ.out (by decide) (by decide) (by decide) s (by rw [HQI.out.out]; exact HS.out) _).mono ?_
        rintro e w6 ⟨rfl, hb6⟩
        have HB6 := Lib.hid (bthen HB5.out hb6)
        clear hb6
        go_wp2_with fail
        refine (Seal_ok KS NS ⟨#[100]⟩ ⟨#[116, 101, 120, 116]⟩ HZK.out HZN.out (by decide) (by decide) t (by rw [HKL.out, HNL.out]; exact HT.out) _).mono ?_
        rintro e w7 ⟨rfl, hb7⟩
        have HB7 := Lib.hid (bthen HB6.out hb7)
        clear hb7
        go_wp2_with fail
        refine (Open_walk KS NS ⟨#[100]⟩ t (by rw [HTZ.out]; decide) ⟨#[116, 101, 120, 116]⟩ 0 (by rw [HKL.out, HNL.out, HT.out.out]; show Is _ (openA z32 z12 [100] _).1 ∧ _ = (openA z32 z12 [100] _).2; rw [open_text]; exact ⟨Is.self _, rfl⟩) _).mono ?_
        rintro e w8 ⟨rfl, hb8⟩
        have HB8 := Lib.hid (bthen HB7.out hb8)
        clear hb8
        go_wp2_with fail
        refine (Open_walk KS NS ⟨#[120]⟩ t (by rw [HTZ.out]; decide) ⟨#[]⟩ 20 (by rw [HKL.out, HNL.out, HT.out.out]; show Is _ (openA z32 z12 [120] _).1 ∧ _ = (openA z32 z12 [120] _).2; rw [open_tag]; exact ⟨Is.self _, rfl⟩) _).mono ?_
        rintro e w9 ⟨rfl, hb9⟩
        have HB9 := Lib.hid (bthen HB8.out hb9)
        clear hb9
        go_wp2_with fail
        refine (Seal_no ⟨#[]⟩ NS ⟨#[]⟩ ⟨#[]⟩ (Or.inl (fun hh => absurd hh.1 (by decide))) _).mono ?_
        rintro e w9 ⟨rfl, rfl⟩
        go_wp2_with fail
        refine (Open_walk KS NS ⟨#[]⟩ ⟨#[115, 104, 111, 114, 116]⟩ (by decide) ⟨#[]⟩ 5 (by rw [HKL.out, HNL.out]; show Is _ (openA z32 z12 [] [115, 104, 111, 114, 116]).1 ∧ _ = (openA z32 z12 [] [115, 104, 111, 114, 116]).2; rw [open_short]; exact ⟨Is.self _, rfl⟩) _).mono ?_
        rintro e w10 ⟨rfl, hb10⟩
        have HB10 := Lib.hid (bthen HB9.out hb10)
        clear hb10
        go_wp2_with fail
        refine (Once_ok KS NS HZK.out HZN.out o (by rw [HKL.out, HNL.out]; exact HO.out) _).mono ?_
        rintro e w11 ⟨rfl, hb11⟩
        have HB11 := Lib.hid (bthen HB10.out hb11)
        have hsz := HSZ.out
        have htz := HTZ.out
        have hoz := HOZ.out
        have h6s : 6 ≤ s.size := by rw [HSZ.out]; decide
        have h4o : 4 ≤ o.size := by rw [HOZ.out]; decide
        have hs6 := HS6.out
        have ho4 := HO4.out
        clear hb11
        go_wp2_with fail
        refine (Covered_walk ⟨#[97]⟩ ⟨#[]⟩ (by decide) (by decide) c HC.out _).mono ?_
        rintro e w12 ⟨rfl, hb12⟩
        have HB12 := Lib.hid (bthen HB11.out hb12)
        have hcz := HCZ.out
        clear hb12
        go_wp2_with fail
        go_ret
        exact ⟨rfl, HB12.out⟩
end Go.Proofs.Ytfglhemmccihfaa
