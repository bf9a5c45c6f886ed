/-
Layer 6's laws: 'large'; 'awake' is true.
Layer 6's 'awake' is true.
Layer 7's laws: 'fixed', 'large'; 'awake' is true.
Layer 7's 'awake' is true.
The frame's openers for an act and a slice of acts (layer 7).
-/
import Derived.Test.YtfglhemmccihfaaMa
import Derived.Test.YtfglhemmccihfaaMb
import Derived.Test.YtfglhemmccihfaaMp
import Derived.Test.YtfglhemmccihfaaMq
import Derived.Test.YtfglhemmccihfaaMs
namespace Go.Proofs.Ytfglhemmccihfaa
open Go.RowKit

/-- Looked at are texts up to 2^9 bytes, and such as are too long for a seal. -/
def overA (ss : List ByteArray) : Bool := ss.any fun s => decide (512 < s.size ∧ s.size ≤ 16400)
theorem overA_no {ss : List ByteArray} (h : overA ss = false) : ∀ s ∈ ss, s.size ≤ 512 ∨ 16400 < s.size := by
  intro s hs
  unfold overA at h
  rw [List.any_eq_false] at h
  have := h s hs
  rw [decide_eq_true_eq] at this
  omega
theorem strs_new6 (w : World) (ss : List ByteArray) (T : TypeId) : StrsAt (w.alloc (.cells (ss.map Value.string).toArray T)) (some ⟨w.heap.size, 0, none⟩) ss := by
  intro i h
  refine ⟨w.heap.size, 0, rfl, by simp, ?_⟩
  rw [Nat.zero_add]
  refine RowAt.cell (RowAt.new w _ _ (0, 0)) (i := i) ?_
  rw [List.getElem?_toArray, List.getElem?_map, List.getElem?_eq_getElem h]; rfl
set_option maxHeartbeats 1000000 in
theorem large06 (ao : Option Addr) (cap : Nat) (ss : List ByteArray) (w : World) (hss : StrsAt w ao ss) (hl : ss.length ≤ 1000) :
    Calls Try.prog 14 #[.slice ao ss.length cap] w fun e w' => e = .returned (.bool (overA ss)) ∧ w = w' := by
  have HS := Lib.hid hss
  clear hss
  go_enter Try.func14, Try.ntmps14
  go_wp2_with fail
  go_loop [6] (fun i => ∃ k : Nat, k ≤ ss.length ∧ i = .int .i64 k ∧ Hid (overA ss = overA (ss.drop k))) (fun i => ss.length - (intOf i).toNat)
  case atStart => exact ⟨0, Nat.zero_le _, rfl, rfl⟩
  case round =>
    obtain ⟨k, hk, rfl, hd⟩ := hrel
    rcases Nat.lt_or_ge k ss.length with hlt | hge
    · obtain ⟨b, off, rfl, hb, hc⟩ := HS.out k hlt
      have hdr : overA (ss.drop k) = (decide (512 < ss[k].size ∧ ss[k].size ≤ 16400) || overA (ss.drop (k + 1))) := by
        rw [List.drop_eq_getElem_cons hlt]; rfl
      have HDR := Lib.hid hdr
      clear hdr
      generalize ss[k] = s at hc HDR
      by_cases h : 512 < s.size
      · have hx : decide ((512 : Int) < (s.size : Int)) = true := decide_eq_true (by omega)
        by_cases h2 : s.size ≤ 4096
        · have hx2 : decide ((s.size : Int) ≤ 4096) = true := decide_eq_true (by omega)
          have HX := Lib.hid (show decide (512 < s.size ∧ s.size ≤ 16400) = true from decide_eq_true (by omega))
          clear h h2
          go_wp2_with fail
          go_ret
          exact ⟨by rw [hd.out, HDR.out, HX.out]; rfl, rfl⟩
        · have hx2 : decide ((s.size : Int) ≤ 4096) = false := decide_eq_false (by omega)
          have hx3 : decide ((4096 : Int) < (s.size : Int)) = true := decide_eq_true (by omega)
          by_cases h3 : s.size ≤ 16400
          · have hx4 : decide ((s.size : Int) ≤ 16400) = true := decide_eq_true (by omega)
            have HX := Lib.hid (show decide (512 < s.size ∧ s.size ≤ 16400) = true from decide_eq_true (by omega))
            clear h h2 h3
            go_wp2_with fail
            go_ret
            exact ⟨by rw [hd.out, HDR.out, HX.out]; rfl, rfl⟩
          · have hx4 : decide ((s.size : Int) ≤ 16400) = false := decide_eq_false (by omega)
            have HX := Lib.hid (show decide (512 < s.size ∧ s.size ≤ 16400) = false from decide_eq_false (by omega))
            clear h h2 h3
            go_wp2_with fail
            go_round
            case rel => exact ⟨k + 1, by omega, by go_num, by unfold Hid; rw [hd.out, HDR.out, HX.out]; rfl⟩
            case measure => simp [intOf]; omega
      · have hx : decide ((512 : Int) < (s.size : Int)) = false := decide_eq_false (by omega)
        have hx3 : decide ((4096 : Int) < (s.size : Int)) = false := decide_eq_false (by omega)
        have HX := Lib.hid (show decide (512 < s.size ∧ s.size ≤ 16400) = false from decide_eq_false (by omega))
        clear h
        go_wp2_with fail
        go_round
        case rel => exact ⟨k + 1, by omega, by go_num, by unfold Hid; rw [hd.out, HDR.out, HX.out]; rfl⟩
        case measure => simp [intOf]; omega
    · have HZ := Lib.hid (show overA ss = false by
        rw [hd.out, List.drop_of_length_le hge]; rfl)
      go_wp2_with fail
      go_ret
      exact ⟨by rw [HZ.out]; rfl, rfl⟩
end Go.Proofs.Ytfglhemmccihfaa
namespace Go.Proofs.Ytfglhemmccihfaa
open Go.RowKit

/-- Bytes 0 as cells. -/
def zerosA (n : Nat) : Array Value := (cells (List.replicate n 0)).toArray
theorem make_32 (wx : World) : (Instr.makeSlice 32 (.int .i64 32) (.int .i64 32)).run Try.prog wx = .ok (.slice (some ⟨wx.heap.size, 0, none⟩) 32 32) (wx.alloc (.cells (zerosA 32) 5)) := by kernel_rfl
theorem make_12 (wx : World) : (Instr.makeSlice 32 (.int .i64 12) (.int .i64 12)).run Try.prog wx = .ok (.slice (some ⟨wx.heap.size, 0, none⟩) 12 12) (wx.alloc (.cells (zerosA 12) 5)) := by kernel_rfl
/-- So many bytes 0. -/
def zeroStr (n : Nat) : ByteArray := ⟨(List.replicate n 0).toArray⟩
theorem zeroStr_is (n : Nat) : Is (zeroStr n) (List.replicate n 0) := Is.of _
theorem zeroStr_size (n : Nat) : (zeroStr n).size = n := by rw [(zeroStr_is n).size]; simp
theorem str_zeros (n : Nat) {w : World} {g : Nat} (h : RowAt w g (zerosA n) 5 (0, 0)) : (convert 32 9 (.slice (some ⟨g, 0, none⟩) n n)).run Try.prog w = .ok (.string (zeroStr n)) w :=
  run_str w 32 5 Try.underlying32 Try.underlying5 9 Try.underlying9 g n n _ _ _ (List.replicate n 0) h (by simp) (by
    unfold zerosA
    exact List.take_of_length_le (by rw [cells_length]; simp))
theorem str_row32 {w : World} {g : Nat} (h : RowAt w g (zerosA 32) 5 (0, 0)) : (convert 32 9 (.slice (some ⟨g, 0, none⟩) 32 32)).run Try.prog w = .ok (.string (zeroStr 32)) w := str_zeros 32 h
theorem str_row12 {w : World} {g : Nat} (h : RowAt w g (zerosA 12) 5 (0, 0)) : (convert 32 9 (.slice (some ⟨g, 0, none⟩) 12 12)).run Try.prog w = .ok (.string (zeroStr 12)) w := str_zeros 12 h
/-- The bytes 128, 129, .. -/
def upL : Nat → List UInt8
  | 0 => []
  | n + 1 => upL n ++ [⟨BitVec.ofInt 8 (128 + (n : Int))⟩]
theorem upL_length (n : Nat) : (upL n).length = n := by
  induction n with
  | zero => rfl
  | succ n ih => rw [upL, List.length_append, ih]; rfl
/-- What was sealed is opened to the text. -/
theorem openA_seal (key nonce d t : List UInt8) (hk : key.length = 32) (hn : nonce.length = 12) (hd : d.length ≤ 4096) (ht : t.length ≤ 16384) : openA key nonce d (sealL key nonce d t) = (t, 0) := by
  unfold openA
  rw [sealL_length, if_pos ⟨hk, hn, hd, by omega, by omega⟩, show t.length + 16 - 16 = t.length by omega, sealL_take, sealL_drop, if_pos rfl, turnL_twice]
def z32 : List UInt8 := List.replicate 32 0
def z12 : List UInt8 := List.replicate 12 0
def lady : List UInt8 := [76, 97, 100, 105, 101, 115]
def ladyN : List UInt8 := [7, 0, 0, 0, 64, 65, 66, 67, 68, 69, 70, 71]
theorem lady_six : turnL (upL 32) 1#32 ladyN lady = [211, 26, 141, 52, 100, 142] := by decide +kernel
theorem lady_seal : (sealL (upL 32) ladyN [] lady).take 6 = [211, 26, 141, 52, 100, 142] := by
  have h := sealL_take (upL 32) ladyN [] lady
  rw [lady_six] at h
  exact h
theorem once_four : (onceL z32 z12).take 4 = [118, 184, 224, 173] := by decide +kernel
theorem open_text : openA z32 z12 [100] (sealL z32 z12 [100] [116, 101, 120, 116]) = ([116, 101, 120, 116], 0) := openA_seal _ _ _ _ (by decide) (by decide) (by decide) (by decide)
theorem open_tag : openA z32 z12 [120] (sealL z32 z12 [100] [116, 101, 120, 116]) = ([], 20) := by decide +kernel
theorem open_short : openA z32 z12 [] [115, 104, 111, 114, 116] = ([], 5) := by decide +kernel
set_option maxRecDepth 100000 in
set_option maxHeartbeats 4000000 in
theorem awake06 (w : World) : Calls Try.prog 13 #[] w fun e w' => e = .returned (.bool true) ∧ Below w.heap.size w w' := by
  obtain ⟨s, hs⟩ : ∃ s, Is s (sealL (upL 32) ladyN [] lady) := ⟨_, Is.of _⟩
  obtain ⟨t, ht⟩ : ∃ t, Is t (sealL z32 z12 [100] [116, 101, 120, 116]) := ⟨_, Is.of _⟩
  obtain ⟨o, ho⟩ : ∃ o, Is o (onceL z32 z12) := ⟨_, Is.of _⟩
  obtain ⟨c, hc⟩ : ∃ c, Is c (coverL [97] []) := ⟨_, Is.of _⟩
  have HSZ := Lib.hid (show s.size = 22 by rw [hs.size, sealL_length]; rfl)
  have HTZ := Lib.hid (show t.size = 20 by rw [ht.size, sealL_length]; rfl)
  have HOZ := Lib.hid (show o.size = 32 by rw [ho.size, onceL_length])
  have HCZ := Lib.hid (show c.size = 32 by rw [hc.size]; rfl)
  have HS6 := Lib.hid (show seq (s.extract 0 6) ⟨#[211, 26, 141, 52, 100, 142]⟩ = true by
    have h := hs.extract 0 6
    rw [List.drop_zero, Nat.sub_zero, lady_seal] at h
    exact seq_is h (Is.self _))
  have HO4 := Lib.hid (show seq (o.extract 0 4) ⟨#[118, 184, 224, 173]⟩ = true by
    have h := ho.extract 0 4
    rw [List.drop_zero, Nat.sub_zero, once_four] at h
    exact seq_is h (Is.self _))
  have HZK := Lib.hid (zeroStr_size 32)
  have HZN := Lib.hid (zeroStr_size 12)
  have HKL := Lib.hid (show (zeroStr 32).data.toList = z32 from (zeroStr_is 32).out)
  have HNL := Lib.hid (show (zeroStr 12).data.toList = z12 from (zeroStr_is 12).out)
  have HS := Lib.hid hs
  have HT := Lib.hid ht
  have HO := Lib.hid ho
  have HC := Lib.hid hc
  clear hs ht ho hc
  go_enter Try.func13, Try.ntmps13
  go_wp2_with fail
  refine region_table (by kernel_rfl) [19, 20, 21, 22, 1, 2]
    (fun i x_ => match i with
      | 0 => True
      | 1 => x_ = .string (zeroStr 32)
      | 2 => True
      | 3 => x_ = .string (zeroStr 12)
      | 4 => x_ = .string (zeroStr 32)
      | 5 => x_ = .string (zeroStr 12)
      | _ => True) (fun L t w' => Below w.heap.size w w' ∧ (L 0 = true → ∃ g, t 19 = .slice (some ⟨g, 0, none⟩) 32 32 ∧ RowAt w' g (zerosA 32) 5 (0, 0)) ∧ (L 2 = true → ∃ g, t 21 = .slice (some ⟨g, 0, none⟩) 12 12 ∧ RowAt w' g (zerosA 12) 5 (0, 0))) (by kernel_rfl) (by kernel_rfl) rfl (by kernel_rfl) (⟨(Below.refl _ _).drew, (fun h => by cases h), (fun h => by cases h)⟩) ?_ ?_
  · refine StepsOk.cons ?_ (StepsOk.cons ?_ (StepsOk.cons ?_ (StepsOk.cons ?_ (StepsOk.cons ?_ (StepsOk.cons ?_ StepsOk.nil)))))
    · intro L a w4 Kx hl hsz hs ht hr he hK
      refine step_plain rfl ?_
      have hmk := make_32
      go_simp
      refine hK _ _ trivial ⟨hr.1.alloc hr.1.size _, fun h => ?_, fun h => ?_⟩
      · exact ⟨w4.heap.size, slot_out (by rw [hsz]; exact of_decide_eq_true (by kernel_rfl)), RowAt.new w4 _ _ _⟩
      · obtain ⟨g, h1, h2⟩ := hr.2.2 (by simpa using h)
        exact ⟨g, (slot_ne _ _ _ _ (by decide)).trans h1, h2.alloc _⟩
    · intro L a w4 Kx hl hsz hs ht hr he hK
      refine step_plain rfl ?_
      obtain ⟨g, hm, hrow⟩ := hr.2.1 (he 0 (by kernel_rfl))
      have h19 : a.tmps.getD 19 undef = .slice (some ⟨g, 0, none⟩) 32 32 := hm
      have hcv := str_row32 hrow
      go_simp
      refine hK _ _ rfl ⟨hr.1, fun h => ?_, fun h => ?_⟩
      · obtain ⟨g, h1, h2⟩ := hr.2.1 (by simpa using h)
        exact ⟨g, (slot_ne _ _ _ _ (by decide)).trans h1, h2⟩
      · obtain ⟨g, h1, h2⟩ := hr.2.2 (by simpa using h)
        exact ⟨g, (slot_ne _ _ _ _ (by decide)).trans h1, h2⟩
    · intro L a w4 Kx hl hsz hs ht hr he hK
      refine step_plain rfl ?_
      have hmk := make_12
      go_simp
      refine hK _ _ trivial ⟨hr.1.alloc hr.1.size _, fun h => ?_, fun h => ?_⟩
      · obtain ⟨g, h1, h2⟩ := hr.2.1 (by simpa using h)
        exact ⟨g, (slot_ne _ _ _ _ (by decide)).trans h1, h2.alloc _⟩
      · exact ⟨w4.heap.size, slot_out (by rw [hsz]; exact of_decide_eq_true (by kernel_rfl)), RowAt.new w4 _ _ _⟩
    · intro L a w4 Kx hl hsz hs ht hr he hK
      refine step_plain rfl ?_
      obtain ⟨g, hm, hrow⟩ := hr.2.2 (he 2 (by kernel_rfl))
      have h21 : a.tmps.getD 21 undef = .slice (some ⟨g, 0, none⟩) 12 12 := hm
      have hcv := str_row12 hrow
      go_simp
      refine hK _ _ rfl ⟨hr.1, fun h => ?_, fun h => ?_⟩
      · obtain ⟨g, h1, h2⟩ := hr.2.1 (by simpa using h)
        exact ⟨g, (slot_ne _ _ _ _ (by decide)).trans h1, h2⟩
      · obtain ⟨g, h1, h2⟩ := hr.2.2 (by simpa using h)
        exact ⟨g, (slot_ne _ _ _ _ (by decide)).trans h1, h2⟩
    · intro L a w4 Kx hl hsz hs ht hr he hK
      refine step_plain rfl ?_
      have h20 : a.tmps.getD 20 undef = .string (zeroStr 32) := ht 1 (he 1 (by kernel_rfl)) 20 rfl
      go_simp
      refine hK _ _ rfl ⟨hr.1, fun h => ?_, fun h => ?_⟩
      · obtain ⟨g, h1, h2⟩ := hr.2.1 (by simpa using h)
        exact ⟨g, (slot_ne _ _ _ _ (by decide)).trans h1, h2⟩
      · obtain ⟨g, h1, h2⟩ := hr.2.2 (by simpa using h)
        exact ⟨g, (slot_ne _ _ _ _ (by decide)).trans h1, h2⟩
    · intro L a w4 Kx hl hsz hs ht hr he hK
      refine step_plain rfl ?_
      have h22 : a.tmps.getD 22 undef = .string (zeroStr 12) := ht 3 (he 3 (by kernel_rfl)) 22 rfl
      go_simp
      refine hK _ _ rfl ⟨hr.1, fun h => ?_, fun h => ?_⟩
      · obtain ⟨g, h1, h2⟩ := hr.2.1 (by simpa using h)
        exact ⟨g, (slot_ne _ _ _ _ (by decide)).trans h1, h2⟩
      · obtain ⟨g, h1, h2⟩ := hr.2.2 (by simpa using h)
        exact ⟨g, (slot_ne _ _ _ _ (by decide)).trans h1, h2⟩
  · intro f L w4 hf hall hr
    have h1 : f 1 = .string (zeroStr 32) := hf 4 (by decide) 1 rfl
    have h2 : f 2 = .string (zeroStr 12) := hf 5 (by decide) 2 rfl
    have HBZ := Lib.hid hr.1
    clear hall hr
    simp only [List.foldl, Act.put, List.setIfInBounds_toArray, List.set_cons_zero, List.set_cons_succ]
    rw [h1, h2]
    clear hf h1 h2
    generalize f 19 = z19
    generalize f 20 = z20
    generalize f 21 = z21
    generalize f 22 = z22
    generalize zeroStr 32 = KS at HZK HKL ⊢
    generalize zeroStr 12 = NS at HZN HNL ⊢
    have zW := HBZ.out.size
    go_wp2_with fail
    go_loopw [3, 4] (fun x i wr => ∃ k : Nat, k ≤ 32 ∧ i = .int .i64 k ∧ wr.ownsRow w.heap.size 5 1 x k (cells (upL k)) ∧ Below w.heap.size w wr) (fun _ i _ => 32 - (intOf i).toNat)
    case atStart => exact ⟨0, Nat.zero_le _, rfl, owns_zero w4 _ zW, HBZ.out.alloc zW _⟩
    case round =>
      obtain ⟨k, hk, rfl, hown, hbel⟩ := hrel
      rcases Nat.lt_or_ge k 32 with hlt | hge
      · have hd : decide ((k : Int) < 32) = true := decide_eq_true (by omega)
        have hk2 : (128 : Int) + k ≤ 9223372036854775807 := by omega
        go_wp2_with (at_builtin; refine append_one rfl _ _ 32 rfl wr w.heap.size 5 (.int .u8 0) 1 Try.underlying32 infoB rfl hown rfl _ rfl rfl ?c1 ?c2 ?c3 ?_)
        case c1 => omega
        case c2 => omega
        case c3 => have := hbel.size; omega
        intro v' w5 hown' hb5 _ _
        clear hown
        go_wp2_with fail
        go_roundw
        case rel => exact ⟨k + 1, by omega, by go_num, by rw [upL, cells_append]; exact hown', hbel.trans hb5⟩
        case measure => simp [intOf]; omega
      · obtain rfl : k = 32 := by omega
        have hst := run_str_own (P := Try.prog) wr 32 5 Try.underlying32 Try.underlying5 9 Try.underlying9 _ 32 _ (upL 32) hown
        obtain ⟨QS, hq⟩ : ∃ QS : ByteArray, QS = ⟨(upL 32).toArray⟩ := ⟨_, rfl⟩
        rw [← hq] at hst
        have hqi : Is QS (upL 32) := by rw [hq]; exact Is.of _
        have HQZ := Lib.hid (show QS.size = 32 by rw [hqi.size, upL_length])
        have HQI := Lib.hid hqi
        have HB5 := Lib.hid hbel
        have hd : decide ((32 : Int) < 32) = false := rfl
        clear hq hqi hown hbel
        go_wp2_with fail
        clear hst
        refine (Seal_ok QS ⟨#[7, 0, 0, 0, 64, 65, 66, 67, 68, 69, 70, 71]⟩ ⟨#[]⟩ ⟨#[76, 97, 100, 105, 101, 115]⟩ HQZ.out (by decide) (by decide) (by decide) s (by rw [HQI.out.out]; exact HS.out) _).mono ?_
        rintro e w6 ⟨rfl, hb6⟩
        have HB6 := Lib.hid (bthen HB5.out hb6)
        clear hb6
        go_wp2_with fail
        refine (Seal_ok KS NS ⟨#[100]⟩ ⟨#[116, 101, 120, 116]⟩ HZK.out HZN.out (by decide) (by decide) t (by rw [HKL.out, HNL.out]; exact HT.out) _).mono ?_
        rintro e w7 ⟨rfl, hb7⟩
        have HB7 := Lib.hid (bthen HB6.out hb7)
        clear hb7
        go_wp2_with fail
        refine (Open_walk KS NS ⟨#[100]⟩ t (by rw [HTZ.out]; decide) ⟨#[116, 101, 120, 116]⟩ 0 (by rw [HKL.out, HNL.out, HT.out.out]; show Is _ (openA z32 z12 [100] _).1 ∧ _ = (openA z32 z12 [100] _).2; rw [open_text]; exact ⟨Is.self _, rfl⟩) _).mono ?_
        rintro e w8 ⟨rfl, hb8⟩
        have HB8 := Lib.hid (bthen HB7.out hb8)
        clear hb8
        go_wp2_with fail
        refine (Open_walk KS NS ⟨#[120]⟩ t (by rw [HTZ.out]; decide) ⟨#[]⟩ 20 (by rw [HKL.out, HNL.out, HT.out.out]; show Is _ (openA z32 z12 [120] _).1 ∧ _ = (openA z32 z12 [120] _).2; rw [open_tag]; exact ⟨Is.self _, rfl⟩) _).mono ?_
        rintro e w9 ⟨rfl, hb9⟩
        have HB9 := Lib.hid (bthen HB8.out hb9)
        clear hb9
        go_wp2_with fail
        refine (Seal_no ⟨#[]⟩ NS ⟨#[]⟩ ⟨#[]⟩ (Or.inl (fun hh => absurd hh.1 (by decide))) _).mono ?_
        rintro e w9 ⟨rfl, rfl⟩
        go_wp2_with fail
        refine (Open_walk KS NS ⟨#[]⟩ ⟨#[115, 104, 111, 114, 116]⟩ (by decide) ⟨#[]⟩ 5 (by rw [HKL.out, HNL.out]; show Is _ (openA z32 z12 [] [115, 104, 111, 114, 116]).1 ∧ _ = (openA z32 z12 [] [115, 104, 111, 114, 116]).2; rw [open_short]; exact ⟨Is.self _, rfl⟩) _).mono ?_
        rintro e w10 ⟨rfl, hb10⟩
        have HB10 := Lib.hid (bthen HB9.out hb10)
        clear hb10
        go_wp2_with fail
        refine (Once_ok KS NS HZK.out HZN.out o (by rw [HKL.out, HNL.out]; exact HO.out) _).mono ?_
        rintro e w11 ⟨rfl, hb11⟩
        have HB11 := Lib.hid (bthen HB10.out hb11)
        have hsz := HSZ.out
        have htz := HTZ.out
        have hoz := HOZ.out
        have h6s : 6 ≤ s.size := by rw [HSZ.out]; decide
        have h4o : 4 ≤ o.size := by rw [HOZ.out]; decide
        have hs6 := HS6.out
        have ho4 := HO4.out
        clear hb11
        go_wp2_with fail
        refine (Covered_walk ⟨#[97]⟩ ⟨#[]⟩ (by decide) (by decide) c HC.out _).mono ?_
        rintro e w12 ⟨rfl, hb12⟩
        have HB12 := Lib.hid (bthen HB11.out hb12)
        have hcz := HCZ.out
        clear hb12
        go_wp2_with fail
        go_ret
        exact ⟨rfl, HB12.out⟩
end Go.Proofs.Ytfglhemmccihfaa
namespace Go.Proofs.Ytfglhemmccihfaa
open Go.RowKit

/-- An act. -/
structure ActB where
  kind : Int
  k : ByteArray
  n : ByteArray
  d : ByteArray
  t : ByteArray
def actC (x : ActB) : Array Value := #[.int .i64 x.kind, .string x.k, .string x.n, .string x.d, .string x.t]
def actV (x : ActB) : Value := .agg (actC x)
def zeroAct : Array Value := #[.int .i64 0, .string ⟨#[]⟩, .string ⟨#[]⟩, .string ⟨#[]⟩, .string ⟨#[]⟩]
def largeB (x : ActB) : Bool := decide (100 < x.k.size ∨ 100 < x.n.size ∨ 500 < x.d.size ∨ 500 < x.t.size)
def fixedB (x : ActB) : ActB := if 10 ≤ x.kind then ⟨x.kind - 10, x.k, x.n, x.d, x.t⟩ else ⟨x.kind, (x.k ++ zeroStr 32).extract 0 32, (x.n ++ zeroStr 12).extract 0 12, x.d, x.t⟩
theorem largeB_no {x : ActB} (h : largeB x = false) : x.k.size ≤ 100 ∧ x.n.size ≤ 100 ∧ x.d.size ≤ 500 ∧ x.t.size ≤ 500 := by
  have := of_decide_eq_false h
  omega
theorem fixedB_sizes {x : ActB} (h : largeB x = false) : (fixedB x).k.size ≤ 100 ∧ (fixedB x).n.size ≤ 100 ∧ (fixedB x).d.size ≤ 500 ∧ (fixedB x).t.size ≤ 500 := by
  obtain ⟨h1, h2, h3, h4⟩ := largeB_no h
  unfold fixedB
  split
  · exact ⟨h1, h2, h3, h4⟩
  · refine ⟨?_, ?_, h3, h4⟩
    · show ((x.k ++ zeroStr 32).extract 0 32).size ≤ 100
      rw [ByteArray.size_extract]; omega
    · show ((x.n ++ zeroStr 12).extract 0 12).size ≤ 100
      rw [ByteArray.size_extract]; omega
set_option maxHeartbeats 1000000 in
theorem large07 (x : ActB) (w : World) : Calls Try.prog 27 #[actV x] w fun e w' => e = .returned (.bool (largeB x)) ∧ Below w.heap.size w w' := by
  unfold actV actC
  by_cases h1 : 100 < x.k.size
  · have g1 : decide ((100 : Int) < (x.k.size : Int)) = true := decide_eq_true (by omega)
    have HL := Lib.hid (show largeB x = true from decide_eq_true (Or.inl h1))
    clear h1
    go_enter Try.func27, Try.ntmps27
    go_wp2_with fail
    go_ret
    exact ⟨by rw [HL.out]; rfl, by (repeat' (first | (with_reducible exact Below.refl _ _) | (with_reducible assumption) | refine Below.setCell ?_ (by simp <;> omega) _ | refine below_alloc' ?_ _ | refine Below.alloc ?_ (by simp <;> omega) _ | refine below_drewN ?_ _ | refine Below.drew ?_))⟩
  · have g1 : decide ((100 : Int) < (x.k.size : Int)) = false := decide_eq_false (by omega)
    by_cases h2 : 100 < x.n.size
    · have g2 : decide ((100 : Int) < (x.n.size : Int)) = true := decide_eq_true (by omega)
      have HL := Lib.hid (show largeB x = true from decide_eq_true (Or.inr (Or.inl h2)))
      clear h1 h2
      go_enter Try.func27, Try.ntmps27
      go_wp2_with fail
      go_ret
      exact ⟨by rw [HL.out]; rfl, by (repeat' (first | (with_reducible exact Below.refl _ _) | (with_reducible assumption) | refine Below.setCell ?_ (by simp <;> omega) _ | refine below_alloc' ?_ _ | refine Below.alloc ?_ (by simp <;> omega) _ | refine below_drewN ?_ _ | refine Below.drew ?_))⟩
    · have g2 : decide ((100 : Int) < (x.n.size : Int)) = false := decide_eq_false (by omega)
      by_cases h3 : 500 < x.d.size
      · have g3 : decide ((500 : Int) < (x.d.size : Int)) = true := decide_eq_true (by omega)
        have HL := Lib.hid (show largeB x = true from decide_eq_true (Or.inr (Or.inr (Or.inl h3))))
        clear h1 h2 h3
        go_enter Try.func27, Try.ntmps27
        go_wp2_with fail
        go_ret
        exact ⟨by rw [HL.out]; rfl, by (repeat' (first | (with_reducible exact Below.refl _ _) | (with_reducible assumption) | refine Below.setCell ?_ (by simp <;> omega) _ | refine below_alloc' ?_ _ | refine Below.alloc ?_ (by simp <;> omega) _ | refine below_drewN ?_ _ | refine Below.drew ?_))⟩
      · have g3 : decide ((500 : Int) < (x.d.size : Int)) = false := decide_eq_false (by omega)
        have HL := Lib.hid (show largeB x = decide ((500 : Int) < (x.t.size : Int)) by
          unfold largeB
          rw [decide_eq_decide]; omega)
        clear h1 h2 h3
        go_enter Try.func27, Try.ntmps27
        go_wp2_with fail
        go_ret
        exact ⟨by rw [HL.out]; rfl, by (repeat' (first | (with_reducible exact Below.refl _ _) | (with_reducible assumption) | refine Below.setCell ?_ (by simp <;> omega) _ | refine below_alloc' ?_ _ | refine Below.alloc ?_ (by simp <;> omega) _ | refine below_drewN ?_ _ | refine Below.drew ?_))⟩
set_option maxRecDepth 100000 in
set_option maxHeartbeats 4000000 in
theorem fixed07 (x : ActB) (hlo : -9223372036854775808 ≤ x.kind) (hhi : x.kind ≤ 9223372036854775807) (hx : largeB x = false) (w : World) : Calls Try.prog 28 #[actV x] w fun e w' => e = .returned (actV (fixedB x)) ∧ Below w.heap.size w w' := by
  unfold actV actC
  by_cases h1 : 10 ≤ x.kind
  · have g1 : decide ((10 : Int) ≤ x.kind) = true := decide_eq_true h1
    have g2 : -9223372036854775808 ≤ x.kind - 10 := by omega
    have g3 : x.kind - 10 ≤ 9223372036854775807 := by omega
    have HF := Lib.hid (show fixedB x = ⟨x.kind - 10, x.k, x.n, x.d, x.t⟩ from if_pos h1)
    clear h1
    have hz0 : RowAt ((w.alloc (.cells #[.int .i64 (x.kind - 10), .string x.k, .string x.n, .string x.d, .string x.t] 44)).alloc (.cells zeroAct 44)) (w.heap.size + 1) zeroAct 44 (0, 0) := by
      have := RowAt.new (w.alloc (.cells #[.int .i64 (x.kind - 10), .string x.k, .string x.n, .string x.d, .string x.t] 44)) zeroAct 44 (0, 0)
      simpa using this
    go_enter Try.func28, Try.ntmps28
    go_wp2_with (with_reducible refine wpList_store_rowTo rfl 44 (.tmp 2) (.tmp 10) rfl rfl (w.heap.size + 1) #[.int .i64 (x.kind - 10), .string x.k, .string x.n, .string x.d, .string x.t] ?h1 ?h2 44 zeroAct ?h0 ?h3 ?h4 ?h5 ?_)
    case h0 => exact hz0.out
    case h1 => rfl
    case h2 => rfl
    case h3 => kernel_rfl
    case h4 => rfl
    case h5 => simp [Value.oneCell']
    refine bodyPost_ret (v := .agg #[.int .i64 (x.kind - 10), .string x.k, .string x.n, .string x.d, .string x.t]) (results_cell_row rfl _ _ (w.heap.size + 1) 44 #[.int .i64 (x.kind - 10), .string x.k, .string x.n, .string x.d, .string x.t] (0, 0) _ rfl (RowAt.setRow hz0 _).out Try.underlying44 rfl (by kernel_rfl)) rfl ⟨by rw [HF.out], ?_⟩
    refine Below.setRow ?_ (by omega) _
    (repeat' (first | (with_reducible exact Below.refl _ _) | (with_reducible assumption) | refine Below.setCell ?_ (by simp <;> omega) _ | refine below_alloc' ?_ _ | refine Below.alloc ?_ (by simp <;> omega) _ | refine below_drewN ?_ _ | refine Below.drew ?_))
  · have g1 : decide ((10 : Int) ≤ x.kind) = false := decide_eq_false h1
    obtain ⟨KZ, hkz⟩ : ∃ KZ, KZ = x.k ++ zeroStr 32 := ⟨_, rfl⟩
    obtain ⟨NZ, hnz⟩ : ∃ NZ, NZ = x.n ++ zeroStr 12 := ⟨_, rfl⟩
    obtain ⟨K2, hk2⟩ : ∃ K2, K2 = KZ.extract 0 32 := ⟨_, rfl⟩
    obtain ⟨N2, hn2⟩ : ∃ N2, N2 = NZ.extract 0 12 := ⟨_, rfl⟩
    have HF := Lib.hid (show fixedB x = ⟨x.kind, K2, N2, x.d, x.t⟩ by rw [hk2, hn2, hkz, hnz]; exact if_neg h1)
    have HKZZ := Lib.hid (show KZ.size = x.k.size + 32 by rw [hkz, ByteArray.size_append, zeroStr_size])
    have HNZZ := Lib.hid (show NZ.size = x.n.size + 12 by rw [hnz, ByteArray.size_append, zeroStr_size])
    obtain ⟨zk, zn, _, _⟩ := largeB_no hx
    have HKZ := Lib.hid hkz
    have HNZ := Lib.hid hnz
    have HK2 := Lib.hid hk2
    have HN2 := Lib.hid hn2
    clear h1 hkz hnz hk2 hn2 hx
    go_enter Try.func28, Try.ntmps28
    go_wp2_with fail
    have ha0 : RowAt (((w.alloc (.cells #[.int .i64 x.kind, .string x.k, .string x.n, .string x.d, .string x.t] 44)).alloc (.cells zeroAct 44)).drew) w.heap.size #[.int .i64 x.kind, .string x.k, .string x.n, .string x.d, .string x.t] 44 (0, 0) := ((RowAt.new w _ _ _).alloc _).drew
    have hz0 : RowAt (((w.alloc (.cells #[.int .i64 x.kind, .string x.k, .string x.n, .string x.d, .string x.t] 44)).alloc (.cells zeroAct 44)).drew) (w.heap.size + 1) zeroAct 44 (0, 0) := by
      have := RowAt.new (w.alloc (.cells #[.int .i64 x.kind, .string x.k, .string x.n, .string x.d, .string x.t] 44)) zeroAct 44 (0, 0)
      simpa using this.drew
    have hb0 : Below w.heap.size w (((w.alloc (.cells #[.int .i64 x.kind, .string x.k, .string x.n, .string x.d, .string x.t] 44)).alloc (.cells zeroAct 44)).drew) := by (repeat' (first | (with_reducible exact Below.refl _ _) | (with_reducible assumption) | refine Below.setCell ?_ (by simp <;> omega) _ | refine below_alloc' ?_ _ | refine Below.alloc ?_ (by simp <;> omega) _ | refine below_drewN ?_ _ | refine Below.drew ?_))
    refine region_anc (by kernel_rfl) [11, 12, 13, 14, 15, 16, 17]
      (fun i x_ => match i with
        | 0 => x_ = .pointer (some ⟨w.heap.size, 1, none⟩)
        | 1 => x_ = .string x.k
        | 2 => True
        | 3 => x_ = .string (zeroStr 32)
        | 4 => x_ = .string KZ
        | 5 => x_ = .string K2
        | 6 => x_ = .pointer (some ⟨w.heap.size, 1, none⟩)
        | _ => True) (fun L t w' => Below w.heap.size w w' ∧ RowAt w' (w.heap.size + 1) zeroAct 44 (0, 0) ∧ (L 7 = false → RowAt w' (w.heap.size) #[.int .i64 x.kind, .string x.k, .string x.n, .string x.d, .string x.t] 44 (0, 0)) ∧ (L 7 = true → RowAt w' (w.heap.size) #[.int .i64 (x.kind), .string K2, .string x.n, .string x.d, .string x.t] 44 (0, 0)) ∧ (L 7 = false → L 2 = true → ∃ g, t 13 = .slice (some ⟨g, 0, none⟩) 32 32 ∧ RowAt w' g (zerosA 32) 5 (0, 0))) (by kernel_rfl) (by kernel_rfl) rfl (by kernel_rfl) (⟨hb0, hz0, fun _ => ha0, (fun h => by cases h), (fun _ h => by cases h)⟩) ?_ ?_
    · refine StepsOk2.cons ?_ (StepsOk2.cons ?_ (StepsOk2.cons ?_ (StepsOk2.cons ?_ (StepsOk2.cons ?_ (StepsOk2.cons ?_ (StepsOk2.cons ?_ (StepsOk2.cons ?_ StepsOk2.nil)))))))
      · intro L a w4 Kx hl hsz hs ht hr he hcl hK
        refine step_plain rfl ?_
        have h1 : a.tmps.getD 1 undef = .pointer (some ⟨w.heap.size, 0, none⟩) := (hs 1 (by decide)).trans rfl
        go_simp
        refine hK _ _ rfl ⟨hr.1, hr.2.1, fun h => hr.2.2.1 (by simpa using h), fun h => hr.2.2.2.1 (by simpa using h), fun h h2 => ?_⟩
        obtain ⟨g, h3, h4⟩ := hr.2.2.2.2 (by simpa using h) (by simpa using h2)
        exact ⟨g, (slot_ne _ _ _ _ (by decide)).trans h3, h4⟩
      · intro L a w4 Kx hl hsz hs ht hr he hcl hK
        refine step_plain rfl ?_
        have h11 : a.tmps.getD 11 undef = .pointer (some ⟨w.heap.size, 1, none⟩) := ht 0 (he 0 (by kernel_rfl)) 11 rfl
        have hx : L 7 = false := by
          cases hy : L 7 with
          | false => rfl
          | true => have := hcl 6 1 (by kernel_rfl) (hcl 7 6 (by kernel_rfl) hy); rw [hl] at this; cases this
        have hrow := hr.2.2.1 hx
        have hcell := hrow.cell (i := 1) rfl
        go_simp
        refine hK _ _ rfl ⟨hr.1, hr.2.1, fun h => hr.2.2.1 (by simpa using h), fun h => hr.2.2.2.1 (by simpa using h), fun h h2 => ?_⟩
        obtain ⟨g, h3, h4⟩ := hr.2.2.2.2 (by simpa using h) (by simpa using h2)
        exact ⟨g, (slot_ne _ _ _ _ (by decide)).trans h3, h4⟩
      · intro L a w4 Kx hl hsz hs ht hr he hcl hK
        refine step_plain rfl ?_
        have hmk := make_32
        go_simp
        refine hK _ _ trivial ⟨hr.1.alloc (Nat.le_trans (Nat.le_refl _) hr.1.size) _, hr.2.1.alloc _, fun h => (hr.2.2.1 (by simpa using h)).alloc _, fun h => (hr.2.2.2.1 (by simpa using h)).alloc _, fun _ _ => ⟨w4.heap.size, slot_out (by rw [hsz]; exact of_decide_eq_true (by kernel_rfl)), RowAt.new w4 _ _ _⟩⟩
      · intro L a w4 Kx hl hsz hs ht hr he hcl hK
        refine step_plain rfl ?_
        have hx : L 7 = false := by
          cases hy : L 7 with
          | false => rfl
          | true => have := hcl 6 3 (by kernel_rfl) (hcl 7 6 (by kernel_rfl) hy); rw [hl] at this; cases this
        obtain ⟨g, hm, hrow⟩ := hr.2.2.2.2 hx (he 2 (by kernel_rfl))
        have h13 : a.tmps.getD 13 undef = .slice (some ⟨g, 0, none⟩) 32 32 := hm
        have hcv := str_row32 hrow
        go_simp
        refine hK _ _ rfl ⟨hr.1, hr.2.1, fun h => hr.2.2.1 (by simpa using h), fun h => hr.2.2.2.1 (by simpa using h), fun h h2 => ?_⟩
        obtain ⟨g, h3, h4⟩ := hr.2.2.2.2 (by simpa using h) (by simpa using h2)
        exact ⟨g, (slot_ne _ _ _ _ (by decide)).trans h3, h4⟩
      · intro L a w4 Kx hl hsz hs ht hr he hcl hK
        refine step_plain rfl ?_
        have h12 : a.tmps.getD 12 undef = .string x.k := ht 1 (he 1 (by kernel_rfl)) 12 rfl
        have h14 : a.tmps.getD 14 undef = .string (zeroStr 32) := ht 3 (he 3 (by kernel_rfl)) 14 rfl
        have hov := (show ¬ 9223372036854775807 < x.k.size + (zeroStr 32).size by rw [zeroStr_size]; omega)
        go_simp
        rw [← HKZ.out]
        refine hK _ _ rfl ⟨hr.1, hr.2.1, fun h => hr.2.2.1 (by simpa using h), fun h => hr.2.2.2.1 (by simpa using h), fun h h2 => ?_⟩
        obtain ⟨g, h3, h4⟩ := hr.2.2.2.2 (by simpa using h) (by simpa using h2)
        exact ⟨g, (slot_ne _ _ _ _ (by decide)).trans h3, h4⟩
      · intro L a w4 Kx hl hsz hs ht hr he hcl hK
        refine step_plain rfl ?_
        have h15 : a.tmps.getD 15 undef = .string KZ := ht 4 (he 4 (by kernel_rfl)) 15 rfl
        have hle := (show (32 : Int) ≤ (KZ.size : Int) by have := HKZZ.out; omega)
        go_simp
        rw [← HK2.out]
        refine hK _ _ rfl ⟨hr.1, hr.2.1, fun h => hr.2.2.1 (by simpa using h), fun h => hr.2.2.2.1 (by simpa using h), fun h h2 => ?_⟩
        obtain ⟨g, h3, h4⟩ := hr.2.2.2.2 (by simpa using h) (by simpa using h2)
        exact ⟨g, (slot_ne _ _ _ _ (by decide)).trans h3, h4⟩
      · intro L a w4 Kx hl hsz hs ht hr he hcl hK
        refine step_plain rfl ?_
        have h1 : a.tmps.getD 1 undef = .pointer (some ⟨w.heap.size, 0, none⟩) := (hs 1 (by decide)).trans rfl
        go_simp
        refine hK _ _ rfl ⟨hr.1, hr.2.1, fun h => hr.2.2.1 (by simpa using h), fun h => hr.2.2.2.1 (by simpa using h), fun h h2 => ?_⟩
        obtain ⟨g, h3, h4⟩ := hr.2.2.2.2 (by simpa using h) (by simpa using h2)
        exact ⟨g, (slot_ne _ _ _ _ (by decide)).trans h3, h4⟩
      · intro L a w4 Kx hl hsz hs ht hr he hcl hK
        refine step_plain rfl ?_
        have h17 : a.tmps.getD 17 undef = .pointer (some ⟨w.heap.size, 1, none⟩) := ht 6 (he 6 (by kernel_rfl)) 17 rfl
        have h16 : a.tmps.getD 16 undef = .string K2 := ht 5 (he 5 (by kernel_rfl)) 16 rfl
        have hrow := hr.2.2.1 hl
        have hcell := hrow.cell (i := 1) rfl
        have hfree := hrow.free (i := 1) (by simp)
        go_simp
        refine hK undef _ trivial ⟨hr.1.setCell (p := ⟨w.heap.size, 1, none⟩) (Nat.le_refl _) _, hr.2.1.other (show w.heap.size ≠ w.heap.size + 1 by omega) _, fun h => ?_, fun _ => hrow.store 1 _, fun h => ?_⟩
        all_goals
          have h' : (L 7 || true) = false := h
          rw [Bool.or_true] at h'
          cases h'
    · intro f L w4 hf hall hr
      have HB_11 := Lib.hid hr.1
      have HZ_11 := Lib.hid hr.2.1
      have HA_11 := Lib.hid (hr.2.2.2.1 (hall 7 (by decide)))
      clear hall hr
      simp only [List.foldl, Act.put, List.setIfInBounds_toArray, List.set_cons_zero, List.set_cons_succ]
      clear hf
      generalize f 11 = z11
      generalize f 12 = z12
      generalize f 13 = z13
      generalize f 14 = z14
      generalize f 15 = z15
      generalize f 16 = z16
      generalize f 17 = z17
      go_wp2_with fail
      refine region_anc (by kernel_rfl) [18, 19, 20, 21, 22, 23, 24]
        (fun i x_ => match i with
          | 0 => x_ = .pointer (some ⟨w.heap.size, 2, none⟩)
          | 1 => x_ = .string x.n
          | 2 => True
          | 3 => x_ = .string (zeroStr 12)
          | 4 => x_ = .string NZ
          | 5 => x_ = .string N2
          | 6 => x_ = .pointer (some ⟨w.heap.size, 2, none⟩)
          | _ => True) (fun L t w' => Below w.heap.size w w' ∧ RowAt w' (w.heap.size + 1) zeroAct 44 (0, 0) ∧ (L 7 = false → RowAt w' (w.heap.size) #[.int .i64 (x.kind), .string K2, .string x.n, .string x.d, .string x.t] 44 (0, 0)) ∧ (L 7 = true → RowAt w' (w.heap.size) #[.int .i64 (x.kind), .string K2, .string N2, .string x.d, .string x.t] 44 (0, 0)) ∧ (L 7 = false → L 2 = true → ∃ g, t 20 = .slice (some ⟨g, 0, none⟩) 12 12 ∧ RowAt w' g (zerosA 12) 5 (0, 0))) (by kernel_rfl) (by kernel_rfl) rfl (by kernel_rfl) (⟨HB_11.out.drew, HZ_11.out.drew, fun _ => HA_11.out.drew, (fun h => by cases h), (fun _ h => by cases h)⟩) ?_ ?_
      · refine StepsOk2.cons ?_ (StepsOk2.cons ?_ (StepsOk2.cons ?_ (StepsOk2.cons ?_ (StepsOk2.cons ?_ (StepsOk2.cons ?_ (StepsOk2.cons ?_ (StepsOk2.cons ?_ StepsOk2.nil)))))))
        · intro L a w4 Kx hl hsz hs ht hr he hcl hK
          refine step_plain rfl ?_
          have h1 : a.tmps.getD 1 undef = .pointer (some ⟨w.heap.size, 0, none⟩) := (hs 1 (by decide)).trans rfl
          go_simp
          refine hK _ _ rfl ⟨hr.1, hr.2.1, fun h => hr.2.2.1 (by simpa using h), fun h => hr.2.2.2.1 (by simpa using h), fun h h2 => ?_⟩
          obtain ⟨g, h3, h4⟩ := hr.2.2.2.2 (by simpa using h) (by simpa using h2)
          exact ⟨g, (slot_ne _ _ _ _ (by decide)).trans h3, h4⟩
        · intro L a w4 Kx hl hsz hs ht hr he hcl hK
          refine step_plain rfl ?_
          have h18 : a.tmps.getD 18 undef = .pointer (some ⟨w.heap.size, 2, none⟩) := ht 0 (he 0 (by kernel_rfl)) 18 rfl
          have hx : L 7 = false := by
            cases hy : L 7 with
            | false => rfl
            | true => have := hcl 6 1 (by kernel_rfl) (hcl 7 6 (by kernel_rfl) hy); rw [hl] at this; cases this
          have hrow := hr.2.2.1 hx
          have hcell := hrow.cell (i := 2) rfl
          go_simp
          refine hK _ _ rfl ⟨hr.1, hr.2.1, fun h => hr.2.2.1 (by simpa using h), fun h => hr.2.2.2.1 (by simpa using h), fun h h2 => ?_⟩
          obtain ⟨g, h3, h4⟩ := hr.2.2.2.2 (by simpa using h) (by simpa using h2)
          exact ⟨g, (slot_ne _ _ _ _ (by decide)).trans h3, h4⟩
        · intro L a w4 Kx hl hsz hs ht hr he hcl hK
          refine step_plain rfl ?_
          have hmk := make_12
          go_simp
          refine hK _ _ trivial ⟨hr.1.alloc (Nat.le_trans (Nat.le_refl _) hr.1.size) _, hr.2.1.alloc _, fun h => (hr.2.2.1 (by simpa using h)).alloc _, fun h => (hr.2.2.2.1 (by simpa using h)).alloc _, fun _ _ => ⟨w4.heap.size, slot_out (by rw [hsz]; exact of_decide_eq_true (by kernel_rfl)), RowAt.new w4 _ _ _⟩⟩
        · intro L a w4 Kx hl hsz hs ht hr he hcl hK
          refine step_plain rfl ?_
          have hx : L 7 = false := by
            cases hy : L 7 with
            | false => rfl
            | true => have := hcl 6 3 (by kernel_rfl) (hcl 7 6 (by kernel_rfl) hy); rw [hl] at this; cases this
          obtain ⟨g, hm, hrow⟩ := hr.2.2.2.2 hx (he 2 (by kernel_rfl))
          have h20 : a.tmps.getD 20 undef = .slice (some ⟨g, 0, none⟩) 12 12 := hm
          have hcv := str_row12 hrow
          go_simp
          refine hK _ _ rfl ⟨hr.1, hr.2.1, fun h => hr.2.2.1 (by simpa using h), fun h => hr.2.2.2.1 (by simpa using h), fun h h2 => ?_⟩
          obtain ⟨g, h3, h4⟩ := hr.2.2.2.2 (by simpa using h) (by simpa using h2)
          exact ⟨g, (slot_ne _ _ _ _ (by decide)).trans h3, h4⟩
        · intro L a w4 Kx hl hsz hs ht hr he hcl hK
          refine step_plain rfl ?_
          have h19 : a.tmps.getD 19 undef = .string x.n := ht 1 (he 1 (by kernel_rfl)) 19 rfl
          have h21 : a.tmps.getD 21 undef = .string (zeroStr 12) := ht 3 (he 3 (by kernel_rfl)) 21 rfl
          have hov := (show ¬ 9223372036854775807 < x.n.size + (zeroStr 12).size by rw [zeroStr_size]; omega)
          go_simp
          rw [← HNZ.out]
          refine hK _ _ rfl ⟨hr.1, hr.2.1, fun h => hr.2.2.1 (by simpa using h), fun h => hr.2.2.2.1 (by simpa using h), fun h h2 => ?_⟩
          obtain ⟨g, h3, h4⟩ := hr.2.2.2.2 (by simpa using h) (by simpa using h2)
          exact ⟨g, (slot_ne _ _ _ _ (by decide)).trans h3, h4⟩
        · intro L a w4 Kx hl hsz hs ht hr he hcl hK
          refine step_plain rfl ?_
          have h22 : a.tmps.getD 22 undef = .string NZ := ht 4 (he 4 (by kernel_rfl)) 22 rfl
          have hle := (show (12 : Int) ≤ (NZ.size : Int) by have := HNZZ.out; omega)
          go_simp
          rw [← HN2.out]
          refine hK _ _ rfl ⟨hr.1, hr.2.1, fun h => hr.2.2.1 (by simpa using h), fun h => hr.2.2.2.1 (by simpa using h), fun h h2 => ?_⟩
          obtain ⟨g, h3, h4⟩ := hr.2.2.2.2 (by simpa using h) (by simpa using h2)
          exact ⟨g, (slot_ne _ _ _ _ (by decide)).trans h3, h4⟩
        · intro L a w4 Kx hl hsz hs ht hr he hcl hK
          refine step_plain rfl ?_
          have h1 : a.tmps.getD 1 undef = .pointer (some ⟨w.heap.size, 0, none⟩) := (hs 1 (by decide)).trans rfl
          go_simp
          refine hK _ _ rfl ⟨hr.1, hr.2.1, fun h => hr.2.2.1 (by simpa using h), fun h => hr.2.2.2.1 (by simpa using h), fun h h2 => ?_⟩
          obtain ⟨g, h3, h4⟩ := hr.2.2.2.2 (by simpa using h) (by simpa using h2)
          exact ⟨g, (slot_ne _ _ _ _ (by decide)).trans h3, h4⟩
        · intro L a w4 Kx hl hsz hs ht hr he hcl hK
          refine step_plain rfl ?_
          have h24 : a.tmps.getD 24 undef = .pointer (some ⟨w.heap.size, 2, none⟩) := ht 6 (he 6 (by kernel_rfl)) 24 rfl
          have h23 : a.tmps.getD 23 undef = .string N2 := ht 5 (he 5 (by kernel_rfl)) 23 rfl
          have hrow := hr.2.2.1 hl
          have hcell := hrow.cell (i := 2) rfl
          have hfree := hrow.free (i := 2) (by simp)
          go_simp
          refine hK undef _ trivial ⟨hr.1.setCell (p := ⟨w.heap.size, 2, none⟩) (Nat.le_refl _) _, hr.2.1.other (show w.heap.size ≠ w.heap.size + 1 by omega) _, fun h => ?_, fun _ => hrow.store 2 _, fun h => ?_⟩
          all_goals
            have h' : (L 7 || true) = false := h
            rw [Bool.or_true] at h'
            cases h'
      · intro f L w4 hf hall hr
        have HB_18 := Lib.hid hr.1
        have HZ_18 := Lib.hid hr.2.1
        have HA_18 := Lib.hid (hr.2.2.2.1 (hall 7 (by decide)))
        clear hall hr
        simp only [List.foldl, Act.put, List.setIfInBounds_toArray, List.set_cons_zero, List.set_cons_succ]
        clear hf
        generalize f 18 = z18
        generalize f 19 = z19
        generalize f 20 = z20
        generalize f 21 = z21
        generalize f 22 = z22
        generalize f 23 = z23
        generalize f 24 = z24
        have a0 := HA_18.out.cell (i := 0) rfl
        have a1 := HA_18.out.cell (i := 1) rfl
        have a2 := HA_18.out.cell (i := 2) rfl
        have a3 := HA_18.out.cell (i := 3) rfl
        have a4 := HA_18.out.cell (i := 4) rfl
        have zW := HB_18.out.size
        go_wp2_with (with_reducible refine wpList_store_rowTo rfl 44 (.tmp 2) (.tmp 25) rfl rfl (w.heap.size + 1) #[.int .i64 x.kind, .string K2, .string N2, .string x.d, .string x.t] ?h1 ?h2 44 zeroAct HZ_18.out.out ?h3 ?h4 ?h5 ?_)
        case h1 => rfl
        case h2 => rfl
        case h3 => kernel_rfl
        case h4 => rfl
        case h5 => simp [Value.oneCell']
        refine bodyPost_ret (v := .agg #[.int .i64 x.kind, .string K2, .string N2, .string x.d, .string x.t]) (results_cell_row rfl _ _ (w.heap.size + 1) 44 #[.int .i64 x.kind, .string K2, .string N2, .string x.d, .string x.t] (0, 0) _ rfl (HZ_18.out.setRow _).out Try.underlying44 rfl (by kernel_rfl)) rfl ⟨by rw [HF.out], Below.setRow HB_18.out (by omega) _⟩
end Go.Proofs.Ytfglhemmccihfaa
namespace Go.Proofs.Ytfglhemmccihfaa
open Go.RowKit

def DRa : ByteArray := ⟨#[48, 49, 50, 51, 52, 53, 54, 55, 56, 57, 97, 98, 99, 100, 101, 102, 103, 104, 105, 106, 107, 108, 109, 110, 111, 112, 113, 114, 115, 116, 117, 118, 119, 120, 121, 122, 43, 45, 42, 47]⟩
def sealedOne : BoxSt := ⟨DRa.extract 20 40, [⟨zeroStr 32, zeroStr 12, ⟨#[100]⟩, ⟨#[116, 101, 120, 116]⟩, DRa.extract 0 20⟩]⟩
theorem awake_s1 : sealB ⟨DRa, []⟩ (zeroStr 32) (zeroStr 12) ⟨#[100]⟩ ⟨#[116, 101, 120, 116]⟩ = (DRa.extract 0 20, 0, sealedOne) := by kernel_rfl
theorem awake_s2 : sealB sealedOne (zeroStr 32) (zeroStr 12) ⟨#[100]⟩ ⟨#[116, 101, 120, 116]⟩ = (DRa.extract 0 20, 0, sealedOne) := by kernel_rfl
theorem awake_s3 : sealB sealedOne (zeroStr 32) (zeroStr 12) ⟨#[100]⟩ ⟨#[111, 116, 104, 101, 114]⟩ = (⟨#[]⟩, 11, sealedOne) := by kernel_rfl
theorem awake_s4 : sealB sealedOne (zeroStr 32) ⟨#[97, 98, 99, 100, 101, 102, 103, 104, 105, 106, 107, 108]⟩ ⟨#[]⟩ ⟨#[109, 117, 99, 104, 32, 109, 111, 114, 101]⟩ = (⟨#[]⟩, 21, sealedOne) := by kernel_rfl
theorem awake_o1 : openB sealedOne (zeroStr 32) (zeroStr 12) ⟨#[100]⟩ (DRa.extract 0 20) = (⟨#[116, 101, 120, 116]⟩, 0) := by kernel_rfl
theorem awake_o2 : openB sealedOne (zeroStr 32) (zeroStr 12) ⟨#[120]⟩ (DRa.extract 0 20) = (⟨#[]⟩, 20) := by kernel_rfl
theorem len0 : 0 < maxLen := by decide
theorem len1 : 1 < maxLen := by decide
theorem keyB_length (m d : List UInt8) (e : BitVec 64) : (keyB m d e).length = 32 := expandL_length _ _ _
set_option maxRecDepth 100000 in
set_option maxHeartbeats 4000000 in
theorem awake07 (w : World) : Calls Try.prog 23 #[] w fun e w' => e = .returned (.bool true) ∧ Below w.heap.size w w' := by
  obtain ⟨S1, hs1⟩ : ∃ s, s = DRa.extract 0 20 := ⟨_, rfl⟩
  obtain ⟨DR2, hd2⟩ : ∃ s, s = DRa.extract 20 40 := ⟨_, rfl⟩
  have HSZ := Lib.hid (show S1.size = 20 by rw [hs1]; decide)
  have HD2Z := Lib.hid (show DR2.size = 20 by rw [hd2]; decide)
  have SE1 := Lib.hid awake_s1
  have SE2 := Lib.hid awake_s2
  have SE3 := Lib.hid awake_s3
  have SE4 := Lib.hid awake_s4
  have OP1 := Lib.hid awake_o1
  have OP2 := Lib.hid awake_o2
  unfold sealedOne at SE1 SE2 SE3 SE4 OP1 OP2
  rw [← hs1, ← hd2] at SE1 SE2 SE3 SE4 OP1 OP2
  obtain ⟨DR, hdr⟩ : ∃ s, s = DRa := ⟨_, rfl⟩
  rw [← hdr] at SE1
  have HSE := Lib.hid (show seq S1 (DR.extract 0 20) = true by rw [hs1, hdr]; exact seq_self _)
  have HDL := Lib.hid (show (20 : Int) ≤ ((DR.size : Nat) : Int) by rw [hdr]; decide)
  have HDE := Lib.hid hdr
  obtain ⟨v, hv⟩ : ∃ s, Is s (sealL z32 z12 [] []) := ⟨_, Is.of _⟩
  obtain ⟨x, hx⟩ : ∃ s, Is s (keyB z32 [97, 46, 98] 1#64) := ⟨_, Is.of _⟩
  obtain ⟨y, hy⟩ : ∃ s, Is s (keyB z32 [97, 46, 98] 2#64) := ⟨_, Is.of _⟩
  have HVZ := Lib.hid (show v.size = 16 by rw [hv.size, sealL_length]; rfl)
  have HXZ := Lib.hid (show x.size = 32 by rw [hx.size, keyB_length])
  have HYZ := Lib.hid (show y.size = 32 by rw [hy.size, keyB_length])
  have HV := Lib.hid hv
  have HX := Lib.hid hx
  have HY := Lib.hid hy
  have HZK := Lib.hid (zeroStr_size 32)
  have HZN := Lib.hid (zeroStr_size 12)
  have HKL := Lib.hid (show (zeroStr 32).data.toList = z32 from (zeroStr_is 32).out)
  have HNL := Lib.hid (show (zeroStr 12).data.toList = z12 from (zeroStr_is 12).out)
  clear hs1 hd2 hv hx hy hdr
  go_enter Try.func23, Try.ntmps23
  go_wp2_with fail
  rw [show (⟨#[48, 49, 50, 51, 52, 53, 54, 55, 56, 57, 97, 98, 99, 100, 101, 102, 103, 104, 105, 106, 107, 108, 109, 110, 111, 112, 113, 114, 115, 116, 117, 118, 119, 120, 121, 122, 43, 45, 42, 47]⟩ : ByteArray) = DR from HDE.out.symm]
  refine (Ideal_walk DR _).mono ?_
  rintro e w1 ⟨rfl, hx1, hb1⟩
  obtain ⟨mb, hmb⟩ : ∃ n, n = w.heap.size := ⟨_, rfl⟩
  obtain ⟨bb, hbb⟩ : ∃ n, n = w.heap.size + 1 := ⟨_, rfl⟩
  rw [← hbb, ← hmb] at hx1
  rw [← hbb]
  have HBX1 := Lib.hid hx1
  have HB1 := Lib.hid hb1
  have HS2 := Lib.hid (show ∀ k ∈ [bb, mb], w.heap.size ≤ k by rw [hmb, hbb]; simp)
  clear hx1 hb1 hmb hbb
  go_wp2_with fail
  refine (Real_walk _).mono ?_
  rintro e w2 ⟨rfl, hr2, hb2⟩
  obtain ⟨rb, hrb⟩ : ∃ n, n = w1.heap.size := ⟨_, rfl⟩
  rw [← hrb] at hr2 ⊢
  have HNR := Lib.hid (show rb ∉ [bb, mb] by
    have l1 := HBX1.out.1.lt
    have l2 := HBX1.out.2.lt
    simp; omega)
  have HBX2 := Lib.hid (HBX1.out.below hb2)
  have HR2 := Lib.hid hr2
  have HB2 := Lib.hid (bthen HB1.out hb2)
  clear hr2 hb2 hrb
  go_wp2_with fail
  refine region_table (by kernel_rfl) [35, 36, 37, 38, 4, 5]
    (fun i x_ => match i with
      | 0 => True
      | 1 => x_ = .string (zeroStr 32)
      | 2 => True
      | 3 => x_ = .string (zeroStr 12)
      | 4 => x_ = .string (zeroStr 32)
      | 5 => x_ = .string (zeroStr 12)
      | _ => True) (fun L t w' => Below w2.heap.size w2 w' ∧ (L 0 = true → ∃ g, t 35 = .slice (some ⟨g, 0, none⟩) 32 32 ∧ RowAt w' g (zerosA 32) 5 (0, 0)) ∧ (L 2 = true → ∃ g, t 37 = .slice (some ⟨g, 0, none⟩) 12 12 ∧ RowAt w' g (zerosA 12) 5 (0, 0))) (by kernel_rfl) (by kernel_rfl) rfl (by kernel_rfl) (⟨(Below.refl w2.heap.size w2).drew, (fun h => by cases h), (fun h => by cases h)⟩) ?_ ?_
  · refine StepsOk.cons ?_ (StepsOk.cons ?_ (StepsOk.cons ?_ (StepsOk.cons ?_ (StepsOk.cons ?_ (StepsOk.cons ?_ StepsOk.nil)))))
    · intro L a w4 Kx hl hsz hs ht hr he hK
      refine step_plain rfl ?_
      have hmk := make_32
      go_simp
      refine hK _ _ trivial ⟨hr.1.alloc hr.1.size _, fun h => ?_, fun h => ?_⟩
      · exact ⟨w4.heap.size, slot_out (by rw [hsz]; exact of_decide_eq_true (by kernel_rfl)), RowAt.new w4 _ _ _⟩
      · obtain ⟨g, h1, h2⟩ := hr.2.2 (by simpa using h)
        exact ⟨g, (slot_ne _ _ _ _ (by decide)).trans h1, h2.alloc _⟩
    · intro L a w4 Kx hl hsz hs ht hr he hK
      refine step_plain rfl ?_
      obtain ⟨g, hm, hrow⟩ := hr.2.1 (he 0 (by kernel_rfl))
      have h35 : a.tmps.getD 35 undef = .slice (some ⟨g, 0, none⟩) 32 32 := hm
      have hcv := str_row32 hrow
      go_simp
      refine hK _ _ rfl ⟨hr.1, fun h => ?_, fun h => ?_⟩
      · obtain ⟨g, h1, h2⟩ := hr.2.1 (by simpa using h)
        exact ⟨g, (slot_ne _ _ _ _ (by decide)).trans h1, h2⟩
      · obtain ⟨g, h1, h2⟩ := hr.2.2 (by simpa using h)
        exact ⟨g, (slot_ne _ _ _ _ (by decide)).trans h1, h2⟩
    · intro L a w4 Kx hl hsz hs ht hr he hK
      refine step_plain rfl ?_
      have hmk := make_12
      go_simp
      refine hK _ _ trivial ⟨hr.1.alloc hr.1.size _, fun h => ?_, fun h => ?_⟩
      · obtain ⟨g, h1, h2⟩ := hr.2.1 (by simpa using h)
        exact ⟨g, (slot_ne _ _ _ _ (by decide)).trans h1, h2.alloc _⟩
      · exact ⟨w4.heap.size, slot_out (by rw [hsz]; exact of_decide_eq_true (by kernel_rfl)), RowAt.new w4 _ _ _⟩
    · intro L a w4 Kx hl hsz hs ht hr he hK
      refine step_plain rfl ?_
      obtain ⟨g, hm, hrow⟩ := hr.2.2 (he 2 (by kernel_rfl))
      have h37 : a.tmps.getD 37 undef = .slice (some ⟨g, 0, none⟩) 12 12 := hm
      have hcv := str_row12 hrow
      go_simp
      refine hK _ _ rfl ⟨hr.1, fun h => ?_, fun h => ?_⟩
      · obtain ⟨g, h1, h2⟩ := hr.2.1 (by simpa using h)
        exact ⟨g, (slot_ne _ _ _ _ (by decide)).trans h1, h2⟩
      · obtain ⟨g, h1, h2⟩ := hr.2.2 (by simpa using h)
        exact ⟨g, (slot_ne _ _ _ _ (by decide)).trans h1, h2⟩
    · intro L a w4 Kx hl hsz hs ht hr he hK
      refine step_plain rfl ?_
      have h36 : a.tmps.getD 36 undef = .string (zeroStr 32) := ht 1 (he 1 (by kernel_rfl)) 36 rfl
      go_simp
      refine hK _ _ rfl ⟨hr.1, fun h => ?_, fun h => ?_⟩
      · obtain ⟨g, h1, h2⟩ := hr.2.1 (by simpa using h)
        exact ⟨g, (slot_ne _ _ _ _ (by decide)).trans h1, h2⟩
      · obtain ⟨g, h1, h2⟩ := hr.2.2 (by simpa using h)
        exact ⟨g, (slot_ne _ _ _ _ (by decide)).trans h1, h2⟩
    · intro L a w4 Kx hl hsz hs ht hr he hK
      refine step_plain rfl ?_
      have h38 : a.tmps.getD 38 undef = .string (zeroStr 12) := ht 3 (he 3 (by kernel_rfl)) 38 rfl
      go_simp
      refine hK _ _ rfl ⟨hr.1, fun h => ?_, fun h => ?_⟩
      · obtain ⟨g, h1, h2⟩ := hr.2.1 (by simpa using h)
        exact ⟨g, (slot_ne _ _ _ _ (by decide)).trans h1, h2⟩
      · obtain ⟨g, h1, h2⟩ := hr.2.2 (by simpa using h)
        exact ⟨g, (slot_ne _ _ _ _ (by decide)).trans h1, h2⟩
  · intro f L w4 hf hall hr
    have h4 : f 4 = .string (zeroStr 32) := hf 4 (by decide) 4 rfl
    have h5 : f 5 = .string (zeroStr 12) := hf 5 (by decide) 5 rfl
    have HWZ := Lib.hid hr.1
    clear hall hr
    simp only [List.foldl, Act.put, List.setIfInBounds_toArray, List.set_cons_zero, List.set_cons_succ]
    rw [h4, h5]
    clear hf h4 h5
    generalize f 35 = z35
    generalize f 36 = z36
    generalize f 37 = z37
    generalize f 38 = z38
    generalize zeroStr 32 = KS at HZK HKL SE1 SE2 SE3 OP1 OP2 SE4 ⊢
    generalize zeroStr 12 = NS at HZN HNL SE1 SE2 SE3 OP1 OP2 SE4 ⊢
    have HBX4 := Lib.hid (HBX2.out.below HWZ.out)
    have HR4 := Lib.hid (HR2.out.below HWZ.out HR2.out.lt)
    have HB4 := Lib.hid (HB2.out.trans (HWZ.out.mono HB2.out.size))
    clear HWZ
    go_wp2_with fail
    refine (BSeal_walk bb mb ⟨DR, []⟩ KS NS ⟨#[100]⟩ ⟨#[116, 101, 120, 116]⟩ (by rw [HZK.out]; decide) (by rw [HZN.out]; decide) (by decide) _ HBX4.out len0 S1 0 ⟨DR2, [⟨KS, NS, ⟨#[100]⟩, ⟨#[116, 101, 120, 116]⟩, S1⟩]⟩ SE1.out).mono ?_
    rintro e w5 ⟨rfl, hx5, hs5⟩
    have HBX5 := Lib.hid hx5
    have HR5 := Lib.hid (HR4.out.beside hs5 HNR.out)
    have HB5 := Lib.hid (HB4.out.trans (hs5.below HS2.out HB4.out.size))
    clear hx5 hs5
    go_wp2_with fail
    refine (BSeal_walk bb mb ⟨DR2, [⟨KS, NS, ⟨#[100]⟩, ⟨#[116, 101, 120, 116]⟩, S1⟩]⟩ KS NS ⟨#[100]⟩ ⟨#[116, 101, 120, 116]⟩ (by rw [HZK.out]; decide) (by rw [HZN.out]; decide) (by decide) _ HBX5.out len1 S1 0 ⟨DR2, [⟨KS, NS, ⟨#[100]⟩, ⟨#[116, 101, 120, 116]⟩, S1⟩]⟩ SE2.out).mono ?_
    rintro e w6 ⟨rfl, hx6, hs6⟩
    have HBX6 := Lib.hid hx6
    have HR6 := Lib.hid (HR5.out.beside hs6 HNR.out)
    have HB6 := Lib.hid (HB5.out.trans (hs6.below HS2.out HB5.out.size))
    clear hx6 hs6
    go_wp2_with fail
    refine (BSeal_walk bb mb ⟨DR2, [⟨KS, NS, ⟨#[100]⟩, ⟨#[116, 101, 120, 116]⟩, S1⟩]⟩ KS NS ⟨#[100]⟩ ⟨#[111, 116, 104, 101, 114]⟩ (by rw [HZK.out]; decide) (by rw [HZN.out]; decide) (by decide) _ HBX6.out len1 ⟨#[]⟩ 11 ⟨DR2, [⟨KS, NS, ⟨#[100]⟩, ⟨#[116, 101, 120, 116]⟩, S1⟩]⟩ SE3.out).mono ?_
    rintro e w7 ⟨rfl, hx7, hs7⟩
    have HBX7 := Lib.hid hx7
    have HR7 := Lib.hid (HR6.out.beside hs7 HNR.out)
    have HB7 := Lib.hid (HB6.out.trans (hs7.below HS2.out HB6.out.size))
    clear hx7 hs7
    go_wp2_with fail
    refine (BOpen_walk bb mb ⟨DR2, [⟨KS, NS, ⟨#[100]⟩, ⟨#[116, 101, 120, 116]⟩, S1⟩]⟩ KS NS ⟨#[100]⟩ S1 (by rw [HZK.out]; decide) (by rw [HZN.out]; decide) (by rw [HSZ.out]; decide) _ HBX7.out ⟨#[116, 101, 120, 116]⟩ 0 OP1.out).mono ?_
    rintro e w8 ⟨rfl, hb8⟩
    have HBX8 := Lib.hid (HBX7.out.below hb8)
    have HR8 := Lib.hid (HR7.out.below hb8 HR7.out.lt)
    have HB8 := Lib.hid (bthen HB7.out hb8)
    clear hb8
    go_wp2_with fail
    refine (BOpen_walk bb mb ⟨DR2, [⟨KS, NS, ⟨#[100]⟩, ⟨#[116, 101, 120, 116]⟩, S1⟩]⟩ KS NS ⟨#[120]⟩ S1 (by rw [HZK.out]; decide) (by rw [HZN.out]; decide) (by rw [HSZ.out]; decide) _ HBX8.out ⟨#[]⟩ 20 OP2.out).mono ?_
    rintro e w9 ⟨rfl, hb9⟩
    have HBX9 := Lib.hid (HBX8.out.below hb9)
    have HR9 := Lib.hid (HR8.out.below hb9 HR8.out.lt)
    have HB9 := Lib.hid (bthen HB8.out hb9)
    clear hb9
    go_wp2_with fail
    refine (BSeal_walk bb mb ⟨DR2, [⟨KS, NS, ⟨#[100]⟩, ⟨#[116, 101, 120, 116]⟩, S1⟩]⟩ KS ⟨#[97, 98, 99, 100, 101, 102, 103, 104, 105, 106, 107, 108]⟩ ⟨#[]⟩ ⟨#[109, 117, 99, 104, 32, 109, 111, 114, 101]⟩ (by rw [HZK.out]; decide) (by decide) (by decide) _ HBX9.out len1 ⟨#[]⟩ 21 ⟨DR2, [⟨KS, NS, ⟨#[100]⟩, ⟨#[116, 101, 120, 116]⟩, S1⟩]⟩ SE4.out).mono ?_
    rintro e w10 ⟨rfl, hx10, hs10⟩
    have HBX10 := Lib.hid hx10
    have HR10 := Lib.hid (HR9.out.beside hs10 HNR.out)
    have HB10 := Lib.hid (HB9.out.trans (hs10.below HS2.out HB9.out.size))
    clear hx10 hs10
    go_wp2_with fail
    refine (RealSeal_ok rb KS NS ⟨#[]⟩ ⟨#[]⟩ HZK.out HZN.out (by decide) (by decide) v (by rw [HKL.out, HNL.out]; exact HV.out) _ HR10.out).mono ?_
    rintro e w11 ⟨rfl, hb11⟩
    have HBX11 := Lib.hid (HBX10.out.below hb11)
    have HR11 := Lib.hid (HR10.out.below hb11 HR10.out.lt)
    have HB11 := Lib.hid (bthen HB10.out hb11)
    clear hb11
    go_wp2_with fail
    refine (Key_ok KS ⟨#[97, 46, 98]⟩ 1#64 HZK.out (by decide) x (by rw [HKL.out]; exact HX.out) _).mono ?_
    rintro e w12 ⟨rfl, hb12⟩
    have HBX12 := Lib.hid (HBX11.out.below hb12)
    have HR12 := Lib.hid (HR11.out.below hb12 HR11.out.lt)
    have HB12 := Lib.hid (bthen HB11.out hb12)
    clear hb12
    go_wp2_with fail
    refine (Key_ok KS ⟨#[97, 46, 98]⟩ 2#64 HZK.out (by decide) y (by rw [HKL.out]; exact HY.out) _).mono ?_
    rintro e w13 ⟨rfl, hb13⟩
    have HBX13 := Lib.hid (HBX12.out.below hb13)
    have HR13 := Lib.hid (HR12.out.below hb13 HR12.out.lt)
    have HB13 := Lib.hid (bthen HB12.out hb13)
    clear hb13
    go_wp2_with fail
    refine (Key_no ⟨#[]⟩ ⟨#[]⟩ 0#64 (Or.inl (by decide)) _).mono ?_
    rintro e w14 ⟨rfl, rfl⟩
    have hvz := HVZ.out
    have hxz := HXZ.out
    have hyz := HYZ.out
    have hsl : (20 : Int) ≤ ((DR.size : Nat) : Int) := HDL.out
    have hs1 := HSE.out
    have hs2 := seq_self S1
    go_wp2_with fail
    refine (BLen_walk bb mb ⟨DR2, [⟨KS, NS, ⟨#[100]⟩, ⟨#[116, 101, 120, 116]⟩, S1⟩]⟩ _ HBX13.out).mono ?_
    rintro e w14 ⟨rfl, rfl⟩
    go_wp2_with fail
    refine (BLeft_walk bb mb ⟨DR2, [⟨KS, NS, ⟨#[100]⟩, ⟨#[116, 101, 120, 116]⟩, S1⟩]⟩ _ HBX13.out).mono ?_
    rintro e w14 ⟨rfl, rfl⟩
    have hd2z := HD2Z.out
    go_wp2_with fail
    refine (LenR_walk rb _ HR13.out).mono ?_
    rintro e w14 ⟨rfl, rfl⟩
    go_wp2_with fail
    go_ret
    exact ⟨rfl, HB13.out⟩
end Go.Proofs.Ytfglhemmccihfaa
namespace Go.Proofs.Ytfglhemmccihfaa
open Go.ChangeShapes Go.WideShapes Go.ChangeAt Go.RowKit

/-- An act's number is one of 64 bits. -/
def ActB.ok (x : ActB) : Prop := -9223372036854775808 ≤ x.kind ∧ x.kind ≤ 9223372036854775807
set_option maxRecDepth 100000 in
theorem act_of {H : Type} {enc : TypeId × Value → H} {W : World} {base : Nat} {sp : Nat → Bool} {held : Bool} {n : Nat} {cs : List Value} {x : DataW H × List MemPlace}
    (h : DataW.trod enc Try.prog W base sp held n 44 cs = some x) (hl : cs.length = 5) : ∃ q : ActB, q.ok ∧ cs = [.int .i64 q.kind, .string q.k, .string q.n, .string q.d, .string q.t] := by
  have h0 : Try.prog.cellsOf 3 = 1 := by kernel_rfl
  have h1 : Try.prog.cellsOf 9 = 1 := by kernel_rfl
  obtain ⟨ys, n', _, _, _, hyl, hfs⟩ := DataW.trod_struct Try.underlying44 h
  match cs, hl with
  | [c0, c1, c2, c3, c4], _ =>
    match ys, hyl with
    | [y0, y1, y2, y3, y4], _ =>
      have f0 := hfs 0 _ rfl
      have f1 := hfs 1 _ rfl
      have f2 := hfs 2 _ rfl
      have f3 := hfs 3 _ rfl
      have f4 := hfs 4 _ rfl
      have g0 : DataW.trod enc Try.prog W base sp held n' 3 [c0] = some y0 := by
        have k : DataW.trod enc Try.prog W base sp held n' 3 (([c0, c1, c2, c3, c4].drop 0).take (Try.prog.cellsOf 3)) = some y0 := f0
        rw [h0] at k
        exact k
      have g1 : DataW.trod enc Try.prog W base sp held n' 9 [c1] = some y1 := by
        have k : DataW.trod enc Try.prog W base sp held n' 9 (([c0, c1, c2, c3, c4].drop 1).take (Try.prog.cellsOf 9)) = some y1 := f1
        rw [h1] at k
        exact k
      have g2 : DataW.trod enc Try.prog W base sp held n' 9 [c2] = some y2 := by
        have k : DataW.trod enc Try.prog W base sp held n' 9 (([c0, c1, c2, c3, c4].drop 2).take (Try.prog.cellsOf 9)) = some y2 := f2
        rw [h1] at k
        exact k
      have g3 : DataW.trod enc Try.prog W base sp held n' 9 [c3] = some y3 := by
        have k : DataW.trod enc Try.prog W base sp held n' 9 (([c0, c1, c2, c3, c4].drop 3).take (Try.prog.cellsOf 9)) = some y3 := f3
        rw [h1] at k
        exact k
      have g4 : DataW.trod enc Try.prog W base sp held n' 9 [c4] = some y4 := by
        have k : DataW.trod enc Try.prog W base sp held n' 9 (([c0, c1, c2, c3, c4].drop 4).take (Try.prog.cellsOf 9)) = some y4 := f4
        rw [h1] at k
        exact k
      clear f0 f1 f2 f3 f4
      obtain ⟨z0, e0, _, w0⟩ := DataW.trod_int Try.underlying3 g0
      obtain ⟨z1, e1, _⟩ := DataW.trod_string Try.underlying9 g1
      obtain ⟨z2, e2, _⟩ := DataW.trod_string Try.underlying9 g2
      obtain ⟨z3, e3, _⟩ := DataW.trod_string Try.underlying9 g3
      obtain ⟨z4, e4, _⟩ := DataW.trod_string Try.underlying9 g4
      injection e0 with e0
      injection e1 with e1
      injection e2 with e2
      injection e3 with e3
      injection e4 with e4
      subst e0 e1 e2 e3 e4
      exact ⟨⟨z0, z1, z2, z3, z4⟩, wf_i64 w0, rfl⟩
/-- The acts lie there. -/
def ActsAt (w : World) (ao : Option Addr) (l : List ActB) : Prop :=
  ∀ (i : Nat) (h : i < l.length), ∃ b off, ao = some ⟨b, off, none⟩ ∧ b < w.heap.size ∧ w.cell? ⟨b, off + i * 5, none⟩ = some (.int .i64 l[i].kind) ∧ w.cell? ⟨b, off + i * 5 + 1, none⟩ = some (.string l[i].k) ∧
    w.cell? ⟨b, off + i * 5 + 2, none⟩ = some (.string l[i].n) ∧ w.cell? ⟨b, off + i * 5 + 3, none⟩ = some (.string l[i].d) ∧ w.cell? ⟨b, off + i * 5 + 4, none⟩ = some (.string l[i].t)
theorem ActsAt.below {w w' : World} {ao : Option Addr} {l : List ActB} (h : ActsAt w ao l) (hb : Below w.heap.size w w') : ActsAt w' ao l := by
  intro i hi
  obtain ⟨b, off, h1, h2, h3, h4, h5, h6, h7⟩ := h i hi
  have hs := hb.size
  exact ⟨b, off, h1, by omega, (hb.cell h2).trans h3, (hb.cell h2).trans h4, (hb.cell h2).trans h5, (hb.cell h2).trans h6, (hb.cell h2).trans h7⟩
set_option maxRecDepth 100000 in
theorem open_act {H : Type} {enc : TypeId × Value → H} {W : World} {base : Nat} {sp : Nat → Bool} {held : Bool} {v : Value} {d : DataW H} {p : List MemPlace} {r : Reach} {b0 : Nat}
    (hv : Value.okWide Try.prog W r b0 44 v) (h : DataW.Trod enc Try.prog W base sp held 44 v d p) : ∃ q : ActB, q.ok ∧ v = actV q := by
  obtain ⟨cs, rfl, hsz⟩ := okWide_struct Try.underlying44 hv
  obtain ⟨fuel, hf⟩ := h
  have hc : Try.prog.cellsOf 44 = 5 := by kernel_rfl
  obtain ⟨q, h1, h2⟩ := act_of hf (by show cs.toList.length = 5; rw [Array.length_toList, hsz, hc])
  refine ⟨q, h1, ?_⟩
  have h3 : cs.toList = [.int .i64 q.kind, .string q.k, .string q.n, .string q.d, .string q.t] := h2
  unfold actV actC
  congr 1
  exact Array.toList_inj.1 h3
set_option maxRecDepth 100000 in
theorem open_acts {H : Type} {enc : TypeId × Value → H} {W : World} {base : Nat} {sp : Nat → Bool} {held : Bool} {v : Value} {d : DataW H} {p : List MemPlace} {r : Reach} {b0 : Nat}
    (hv : Value.okWide Try.prog W r b0 38 v) (h : DataW.Trod enc Try.prog W base sp held 38 v d p) :
    ∃ (ao : Option Addr) (cap : Nat) (l : List ActB), v = .slice ao l.length cap ∧ ActsAt W ao l ∧ (∀ a ∈ l, a.ok) := by
  obtain ⟨ao, n, cap, rfl⟩ := okWide_slice Try.underlying38 hv
  obtain ⟨fuel, hf⟩ := h
  rcases Go.Deep.open_slice Try.underlying38 hf with ⟨hcs, hx⟩ | ⟨a, len, cap', m, nn, D, Pl, hcs, hb, hl, hm, hmm, hx, hi⟩
  · simp [Value.cells] at hcs
    obtain ⟨rfl, rfl, rfl⟩ := hcs
    exact ⟨none, 0, [], rfl, fun i hi => absurd hi (by simp), fun s hs => absurd hs (by simp)⟩
  · simp [Value.cells] at hcs
    obtain ⟨rfl, rfl, rfl⟩ := hcs
    have hn : n ≤ m := by rw [hmm]; split <;> omega
    have hC : Try.prog.cellsOf 44 = 5 := by kernel_rfl
    have each : ∀ i, i < n → ∃ q : ActB, q.ok ∧ W.cell? (a.add (i * 5)) = some (.int .i64 q.kind) ∧ W.cell? ((a.add (i * 5)).add 1) = some (.string q.k) ∧
        W.cell? ((a.add (i * 5)).add 2) = some (.string q.n) ∧ W.cell? ((a.add (i * 5)).add 3) = some (.string q.d) ∧ W.cell? ((a.add (i * 5)).add 4) = some (.string q.t) := by
      intro i hin
      obtain ⟨cs', hc, ht⟩ := hi i (by omega)
      rw [hC] at hc
      obtain ⟨_, hcl, hat⟩ := World.cells?_some hc
      obtain ⟨q, hq, rfl⟩ := act_of ht hcl
      have k0 := hat 0 (by omega)
      rw [show (a.add (i * 5)).add 0 = a.add (i * 5) from by unfold Addr.add; simp] at k0
      exact ⟨q, hq, k0, hat 1 (by omega), hat 2 (by omega), hat 3 (by omega), hat 4 (by omega)⟩
    refine ⟨some a, cap, List.ofFn fun i : Fin n => Classical.choose (each i.1 i.2), by rw [List.length_ofFn], ?_, ?_⟩
    · intro i hi
      rw [List.length_ofFn] at hi
      have hc := Classical.choose_spec (each i hi)
      have hc0 := Classical.choose_spec (each 0 (by omega))
      have hz := hc0.2.1
      generalize (Classical.choose (each 0 (by omega))).kind = z0 at hz
      rw [show a.add (0 * 5) = a from by unfold Addr.add; simp] at hz
      obtain ⟨b, off, hab, hbl⟩ := addr_plain hz
      rw [List.getElem_ofFn]
      have ha : ∀ j, a.add j = ⟨b, off + j, none⟩ := fun j => by rw [hab]; exact add_plain ..
      refine ⟨b, off, by rw [hab], hbl, ?_, ?_, ?_, ?_, ?_⟩
      · rw [← ha (i * 5)]; exact hc.2.1
      · rw [← add_plain, ← ha (i * 5)]; exact hc.2.2.1
      · rw [← add_plain, ← ha (i * 5)]; exact hc.2.2.2.1
      · rw [← add_plain, ← ha (i * 5)]; exact hc.2.2.2.2.1
      · rw [← add_plain, ← ha (i * 5)]; exact hc.2.2.2.2.2
    · intro q hq
      obtain ⟨i, rfl⟩ := List.mem_ofFn.1 hq
      exact (Classical.choose_spec (each i.1 i.2)).1
end Go.Proofs.Ytfglhemmccihfaa
