/-
  Layer 5, the program's package poly: Add, Tag, Check.
-/
import Derived.Test.YtfglhemmccihfaaPolyD
import Derived.Deep.LoopGhost
namespace Go.Proofs.Ytfglhemmccihfaa
open Go.RowKit

/-- Block b is a Poly to which the text t was added. -/
def PolyAt (w : World) (b : Nat) (rl sl : List (BitVec 64)) (t : List UInt8) : Prop := ∃ rest, Is rest (t.drop (16 * (t.length / 16))) ∧ PolyIs w b rl sl (foldL rl t (t.length / 16)) rest
theorem PolyAt.below {B : Nat} {w w' : World} {b : Nat} {rl sl : List (BitVec 64)} {t : List UInt8} (h : PolyAt w b rl sl t) (hb : Below B w w') (hB : b < B) : PolyAt w' b rl sl t := by
  obtain ⟨rest, hr, hp⟩ := h
  exact ⟨rest, hr, hp.below hb hB⟩
theorem PolyAt.lt {w : World} {b : Nat} {rl sl : List (BitVec 64)} {t : List UInt8} (h : PolyAt w b rl sl t) : b < w.heap.size := by
  obtain ⟨rest, hr, hp⟩ := h
  exact hp.lt
theorem PolyIs.setRest' {w : World} {b : Nat} {rl sl al : List (BitVec 64)} {rest : ByteArray} (h : PolyIs w b rl sl al rest) (t : ByteArray) : PolyIs (w.setCell ⟨b, 15, none⟩ (.string t)) b rl sl al t := h.setRest t

set_option maxRecDepth 100000 in
set_option maxHeartbeats 4000000 in
theorem Add_walk (b : Nat) (rl sl : List (BitVec 64)) (t : List UInt8) (text : ByteArray) (htx : text.size ≤ 140737488351232) (w : World) (h : PolyAt w b rl sl t) :
    Calls Try.prog 77 #[.pointer (some ⟨b, 0, none⟩), .string text] w fun e w' => e = .returned (.tuple #[]) ∧ PolyAt w' b rl sl (t ++ text.data.toList) ∧ Only b w w' := by
  obtain ⟨rest, hrest, hp⟩ := h
  have hrz : rest.size ≤ 16 := by rw [hrest.size, List.length_drop]; omega
  have hblt := hp.lt
  have hra := hp.1
  have c15 := hp.rest_cell
  have f15 := hp.free 15
  have hov : rest.size + text.size ≤ 9223372036854775807 := by omega
  obtain ⟨t', ht'⟩ : ∃ t', t' = t ++ text.data.toList := ⟨_, rfl⟩
  have hj : t.length / 16 ≤ t'.length / 16 := by rw [ht', List.length_append]; omega
  have HT' := Lib.hid ht'
  have HRE := Lib.hid (show Is (rest ++ text) (t'.drop (16 * (t.length / 16))) from by
    rw [ht', List.drop_append_of_le_length (by omega)]
    exact hrest.append (Is.self text))
  have HP := Lib.hid (show PolyIs (w.setCell ⟨b, 15, none⟩ (.string (rest ++ text))) b rl sl (foldL rl t' (t.length / 16)) (rest ++ text) from by
    rw [ht', foldL_append _ _ _ _ (by omega)]
    exact hp.setRest (rest ++ text))
  rw [← ht']
  clear hrest hp ht'
  go_enter Try.func77, Try.ntmps77
  go_wp2_with fail
  have HO := Lib.hid ((Only.refl b w).setCell (p := ⟨b, 15, none⟩) rfl (.string (rest ++ text)))
  clear c15 f15
  generalize w.setCell ⟨b, 15, none⟩ (.string (rest ++ text)) = w1 at HP HO ⊢
  go_loopg [12] (t'.length / 16 - t.length / 16) (fun g u wr => ∃ (j : Nat) (rest : ByteArray), j + g = t'.length / 16 ∧ Is rest (t'.drop (16 * j)) ∧ PolyIs wr b rl sl (foldL rl t' j) rest ∧ Only b w wr)
  case atStart => exact ⟨t.length / 16, rest ++ text, by omega, HRE.out, HP.out, HO.out⟩
  case round =>
    obtain ⟨j, rs, hjg, hrs, hps, hos⟩ := hrel
    have hrz : rs.size = t'.length - 16 * j := by rw [hrs.size, List.length_drop]
    have HJ := Lib.hid hjg
    have HRS := Lib.hid hrs
    have HPS := Lib.hid hps
    have HOS := Lib.hid hos
    have c15 := hps.rest_cell
    rcases Nat.lt_or_ge 0 gk with hg | hg
    · have h16 : 16 ≤ rs.size := by omega
      have HZ := Lib.hid hrz
      have HX := Lib.hid (show Is (rs.extract 0 16) (chunkL t' j) from by have := hrs.extract 0 16; rwa [List.drop_zero, Nat.sub_zero] at this)
      have HY := Lib.hid (show Is (rs.extract 16 rs.size) (t'.drop (16 * (j + 1))) from by
        have := hrs.extract 16 rs.size
        rwa [List.drop_drop, List.take_of_length_le (by rw [List.length_drop, hrz]; omega), show 16 * j + 16 = 16 * (j + 1) by omega] at this)
      have hd16 : decide ((16 : Int) ≤ (rs.size : Int)) = true := decide_eq_true (by omega)
      have hl5 := foldL_length rl t' j
      have HL5 := Lib.hid hl5
      have hx16 : (rs.extract 0 16).size ≤ 16 := by rw [ByteArray.size_extract]; omega
      obtain ⟨nw, hnw⟩ : ∃ nw, nw = foldL rl t' (j + 1) := ⟨_, rfl⟩
      have HNL := Lib.hid (show nw.length = 5 by rw [hnw]; exact foldL_length _ _ _)
      have HNW := Lib.hid (show nw = stepL (foldL rl t' j) rl (chunkL t' j) by rw [hnw, foldL])
      have HFS := Lib.hid hnw
      clear hnw
      generalize foldL rl t' j = al at HPS HL5 HNW
      have hblt2 := HPS.out.lt
      clear hrs hps hos hrz hjg hl5
      go_wp2_with fail
      refine region_table (by kernel_rfl) [18, 19, 20, 21, 22, 23, 24, 25, 26, 27, 28, 29, 30, 31]
        (fun i x => match i with
          | 0 => x = .pointer (some ⟨b, 0, none⟩)
          | 1 => x = .pointer (some ⟨b, 0, none⟩)
          | 2 => x = .pointer (some ⟨b, 0, none⟩)
          | 3 => x = .pointer (some ⟨b, 0, none⟩)
          | 4 => x = .pointer (some ⟨b, 10, none⟩)
          | 5 => x = .agg (d64 al).toArray
          | 6 => x = .pointer (some ⟨b, 0, none⟩)
          | 7 => x = .pointer (some ⟨b, 0, none⟩)
          | 8 => x = .pointer (some ⟨b, 15, none⟩)
          | 9 => x = .string rs
          | 10 => x = .string (rs.extract 0 16)
          | 11 => x = .agg (d64 nw).toArray
          | 12 => x = .pointer (some ⟨b, 0, none⟩)
          | 13 => x = .pointer (some ⟨b, 10, none⟩)
          | _ => True) (fun L _ w' => Only b wr w' ∧ PolyIs w' b rl sl (if L 14 = true then nw else al) rs ∧ (L 14 = true → L 5 = true)) (by kernel_rfl) (by kernel_rfl) rfl (by kernel_rfl) (⟨(Only.refl b wr).drew, HPS.out.drew, (fun h => by cases h)⟩) ?_ ?_
      · refine StepsOk.cons ?_ (StepsOk.cons ?_ (StepsOk.cons ?_ (StepsOk.cons ?_ (StepsOk.cons ?_ (StepsOk.cons ?_ (StepsOk.cons ?_ (StepsOk.cons ?_ (StepsOk.cons ?_ (StepsOk.cons ?_ (StepsOk.cons ?_ (StepsOk.cons ?_ (StepsOk.cons ?_ (StepsOk.cons ?_ (StepsOk.cons ?_ StepsOk.nil))))))))))))))
        · intro L a w4 Kx hl hsz hs ht hr he hK
          refine step_plain rfl ?_
          have h0 : a.tmps.getD 0 undef = .pointer (some ⟨b, 0, none⟩) := (hs 0 (by decide)).trans rfl
          go_simp
          exact hK _ _ rfl (by simpa using hr)
        · intro L a w4 Kx hl hsz hs ht hr he hK
          refine step_plain rfl ?_
          have h0 : a.tmps.getD 0 undef = .pointer (some ⟨b, 0, none⟩) := (hs 0 (by decide)).trans rfl
          go_simp
          exact hK _ _ rfl (by simpa using hr)
        · intro L a w4 Kx hl hsz hs ht hr he hK
          refine step_plain rfl ?_
          have h0 : a.tmps.getD 0 undef = .pointer (some ⟨b, 0, none⟩) := (hs 0 (by decide)).trans rfl
          go_simp
          exact hK _ _ rfl (by simpa using hr)
        · intro L a w4 Kx hl hsz hs ht hr he hK
          refine step_plain rfl ?_
          have h20 : a.tmps.getD 20 undef = .pointer (some ⟨b, 0, none⟩) := ht 2 (he 2 (by kernel_rfl)) 20 rfl
          go_simp
          exact hK _ _ rfl (by simpa using hr)
        · intro L a w4 Kx hl hsz hs ht hr he hK
          refine step_plain rfl ?_
          have h21 : a.tmps.getD 21 undef = .pointer (some ⟨b, 0, none⟩) := ht 3 (he 3 (by kernel_rfl)) 21 rfl
          go_simp
          exact hK _ _ rfl (by simpa using hr)
        · intro L a w4 Kx hl hsz hs ht hr he hK
          refine step_plain rfl ?_
          have h22 : a.tmps.getD 22 undef = .pointer (some ⟨b, 10, none⟩) := ht 4 (he 4 (by kernel_rfl)) 22 rfl
          have hx : L 14 = false := by
            cases hy : L 14 with
            | false => rfl
            | true => have := hr.2.2 hy; rw [hl] at this; cases this
          have hr2 : PolyIs w4 b rl sl al rs := by have := hr.2.1; rwa [hx] at this
          refine wp_load_mid 121 _ rfl b 10 h22 (d64 al) _ hr2.a_mid Try.underlying121 rfl (num_info' _ HL5.out) (hK _ _ rfl ⟨hr.1, ?_, fun _ => ?_⟩)
          · show PolyIs w4 b rl sl (if (L 14 || false) = true then _ else _) rs
            rw [hx]; exact hr2
          · show (L 5 || true) = true
            rw [Bool.or_true]
        · intro L a w4 Kx hl hsz hs ht hr he hK
          refine step_plain rfl ?_
          have h0 : a.tmps.getD 0 undef = .pointer (some ⟨b, 0, none⟩) := (hs 0 (by decide)).trans rfl
          go_simp
          exact hK _ _ rfl (by simpa using hr)
        · intro L a w4 Kx hl hsz hs ht hr he hK
          refine step_plain rfl ?_
          have h24 : a.tmps.getD 24 undef = .pointer (some ⟨b, 0, none⟩) := ht 6 (he 6 (by kernel_rfl)) 24 rfl
          go_simp
          exact hK _ _ rfl (by simpa using hr)
        · intro L a w4 Kx hl hsz hs ht hr he hK
          refine step_plain rfl ?_
          have h25 : a.tmps.getD 25 undef = .pointer (some ⟨b, 0, none⟩) := ht 7 (he 7 (by kernel_rfl)) 25 rfl
          go_simp
          exact hK _ _ rfl (by simpa using hr)
        · intro L a w4 Kx hl hsz hs ht hr he hK
          refine step_plain rfl ?_
          have h26 : a.tmps.getD 26 undef = .pointer (some ⟨b, 15, none⟩) := ht 8 (he 8 (by kernel_rfl)) 26 rfl
          have c := hr.2.1.rest_cell
          go_simp
          exact hK _ _ rfl (by simpa using hr)
        · intro L a w4 Kx hl hsz hs ht hr he hK
          refine step_plain rfl ?_
          have h27 : a.tmps.getD 27 undef = .string rs := ht 9 (he 9 (by kernel_rfl)) 27 rfl
          have hk3 : (16 : Int) ≤ (rs.size : Int) := by omega
          go_simp
          exact hK _ _ rfl (by simpa using hr)
        · intro L a w4 Kx hl hsz hs ht hr he hK
          refine step_plain rfl ?_
          have h19 : a.tmps.getD 19 undef = .pointer (some ⟨b, 0, none⟩) := ht 1 (he 1 (by kernel_rfl)) 19 rfl
          have h23 : a.tmps.getD 23 undef = .agg (d64 al).toArray := ht 5 (he 5 (by kernel_rfl)) 23 rfl
          have h28 : a.tmps.getD 28 undef = .string (rs.extract 0 16) := ht 10 (he 10 (by kernel_rfl)) 28 rfl
          go_simp
          have hw := step_walk b rl sl _ al rs (rs.extract 0 16) w4 HL5.out hr.2.1 hx16
          rw [HX.out.out, ← HNW.out] at hw
          refine hw.mono ?_
          rintro e w5 ⟨rfl, hb5⟩
          exact hK _ _ rfl (by simpa using (show Only b wr w5 ∧ PolyIs w5 b rl sl (if L 14 = true then nw else al) rs ∧ (L 14 = true → L 5 = true) from ⟨hr.1.trans (Only.of_below hb5), hr.2.1.below hb5 hr.2.1.lt, hr.2.2⟩))
        · intro L a w4 Kx hl hsz hs ht hr he hK
          refine step_plain rfl ?_
          have h18 : a.tmps.getD 18 undef = .pointer (some ⟨b, 0, none⟩) := ht 0 (he 0 (by kernel_rfl)) 18 rfl
          go_simp
          exact hK _ _ rfl (by simpa using hr)
        · intro L a w4 Kx hl hsz hs ht hr he hK
          refine step_plain rfl ?_
          have h30 : a.tmps.getD 30 undef = .pointer (some ⟨b, 0, none⟩) := ht 12 (he 12 (by kernel_rfl)) 30 rfl
          go_simp
          exact hK _ _ rfl (by simpa using hr)
        · intro L a w4 Kx hl hsz hs ht hr he hK
          refine step_plain rfl ?_
          have h31 : a.tmps.getD 31 undef = .pointer (some ⟨b, 10, none⟩) := ht 13 (he 13 (by kernel_rfl)) 31 rfl
          have h29 : a.tmps.getD 29 undef = .agg (d64 nw).toArray := ht 11 (he 11 (by kernel_rfl)) 29 rfl
          have hr2 : PolyIs w4 b rl sl al rs := by have := hr.2.1; rwa [hl] at this
          have hsz5 : (d64 nw).toArray.size = 5 := d64_size _ HNL.out
          refine wp_store_mid 121 _ _ rfl b 10 (d64 nw).toArray h31 h29 (by rw [hsz5]; exact hr2.a_there) (num_info _ HNL.out) (d64_cells _) (hK _ _ trivial ⟨Only.setCells _ _ _ hr.1, ?_, fun _ => ?_⟩)
          · show PolyIs _ b rl sl (if (L 14 || true) = true then _ else _) rs
            rw [Bool.or_true, if_pos rfl]
            exact hr2.setA nw HNL.out
          · show (L 5 || false) = true
            rw [he 5 (by kernel_rfl)]; rfl
      · intro f L w4 hf hall hr
        have hr2 : PolyIs w4 b rl sl nw rs := by have := hr.2.1; rwa [hall 14 (by decide), if_pos rfl] at this
        have HO2 := Lib.hid (HOS.out.trans hr.1)
        have c15 := hr2.rest_cell
        have f15 := hr2.free 15
        have HP3 := Lib.hid (hr2.setRest (rs.extract 16 rs.size))
        simp only [List.foldl, Act.put, List.setIfInBounds_toArray, List.set_cons_zero, List.set_cons_succ]
        clear hf hall hr hr2
        have hk3 : (16 : Int) ≤ (rs.size : Int) := by omega
        go_wp2_with fail
        go_roundg (gk - 1)
        case measure => omega
        case rel =>
          exact ⟨j + 1, rs.extract 16 rs.size, by have := HJ.out; omega, HY.out, by rw [← HFS.out]; exact HP3.out, HO2.out.setCell (p := ⟨b, 15, none⟩) rfl _⟩
    · obtain rfl : gk = 0 := by omega
      have hd16 : decide ((16 : Int) ≤ (rs.size : Int)) = false := decide_eq_false (by omega)
      have hjj : j = t'.length / 16 := by omega
      have HJJ := Lib.hid hjj
      clear hrs hps hos hrz hjg hjj
      go_wp2_with fail
      go_end0
      exact ⟨rfl, ⟨rs, by rw [← HJJ.out]; exact HRS.out, by rw [← HJJ.out]; exact HPS.out⟩, HOS.out⟩

theorem rest_empty (r : ByteArray) : seq r ⟨#[]⟩ = decide (r.data.toList = []) := rfl
set_option maxRecDepth 100000 in
set_option maxHeartbeats 8000000 in
theorem PTag_walk (b : Nat) (rl sl al : List (BitVec 64)) (rest : ByteArray) (hz16 : rest.size ≤ 16) (w : World) (hp : PolyIs w b rl sl al rest) :
    Calls Try.prog 78 #[.pointer (some ⟨b, 0, none⟩)] w fun e w' => ∃ r, e = .returned (.string r) ∧ Is r (tagOf rl sl al rest.data.toList) ∧ Below w.heap.size w w' := by
  have HP := Lib.hid hp
  have hblt := hp.lt
  have HAL := Lib.hid hp.2.2.1
  have HSL := Lib.hid hp.2.1
  have c15 := hp.rest_cell
  clear hp
  go_enter Try.func78, Try.ntmps78
  go_upto_region 2 with (first
    | (with_reducible refine wpList_load_mid rfl 121 (.tmp 7) rfl b 10 ?p1 (d64 al) _ HP.out.a_mid Try.underlying121 rfl ?p2 ?_)
    | (with_reducible refine wpList_store_rowTo rfl 121 (.tmp 3) (.tmp 8) rfl rfl w.heap.size (d64 al).toArray ?q1 ?q2 121 zero5 ?q3 ?q4 ?q5 ?q6 ?_))
  case p1 => rfl
  case p2 => exact num_info' _ HAL.out
  case q1 => rfl
  case q2 => rfl
  case q3 => exact heap_alloc_last w _
  case q4 => exact num_info _ HAL.out
  case q5 => rw [d64_size _ HAL.out]; rfl
  case q6 => exact d64_cells _
  rw [World.setRow_alloc_new]
  have hn1 := NumAt.new w al
  have hb1 : Below w.heap.size w (w.alloc (.cells (d64 al).toArray 121)) := (Below.refl _ _).alloc (Nat.le_refl _) _
  have c15' : (w.alloc (.cells (d64 al).toArray 121)).cell? ⟨b, 15, none⟩ = some (.string rest) := (HP.out.below hb1 hblt).rest_cell
  clear c15
  generalize w.alloc (.cells (d64 al).toArray 121) = w1 at hn1 hb1 c15' ⊢
  have HN1 := Lib.hid hn1
  have HB1 := Lib.hid hb1
  clear hn1 hb1
  have HTO := Lib.hid (show tagOf rl sl al rest.data.toList = bytes5 (finalL (if rest.data.toList = [] then al else stepL al rl rest.data.toList) sl) 16 from rfl)
  by_cases hre : rest.data.toList = []
  · have hq : seq rest ⟨#[]⟩ = true := by rw [rest_empty]; exact decide_eq_true hre
    have HT2 := Lib.hid (show tagOf rl sl al rest.data.toList = bytes5 (finalL al sl) 16 by rw [HTO.out, if_pos hre])
    clear hre HTO
    go_wp2_with fail
    refine region_table (by kernel_rfl) [21, 22, 23, 24, 25, 26, 27]
      (fun i x => match i with
        | 0 => x = .agg (d64 al).toArray
        | 1 => x = .agg (d64 (wholeL al)).toArray
        | 2 => x = .pointer (some ⟨b, 0, none⟩)
        | 3 => x = .pointer (some ⟨b, 0, none⟩)
        | 4 => x = .pointer (some ⟨b, 5, none⟩)
        | 5 => x = .agg (d64 sl).toArray
        | 6 => x = .agg (d64 (plusL (wholeL al) sl)).toArray
        | _ => True) (fun L _ w' => Below w.heap.size w w' ∧ NumAt w' w.heap.size (if L 7 = true then (plusL (wholeL al) sl) else al) ∧ (L 7 = true → L 0 = true)) (by kernel_rfl) (by kernel_rfl) rfl (by kernel_rfl) (⟨HB1.out.drew, HN1.out.drew, (fun h => by cases h)⟩) ?_ ?_
    · refine StepsOk.cons ?_ (StepsOk.cons ?_ (StepsOk.cons ?_ (StepsOk.cons ?_ (StepsOk.cons ?_ (StepsOk.cons ?_ (StepsOk.cons ?_ (StepsOk.cons ?_ StepsOk.nil)))))))
      · intro L a w4 Kx hl hsz hs ht hr he hK
        refine step_plain rfl ?_
        have h3 : a.tmps.getD 3 undef = .pointer (some ⟨w.heap.size, 0, none⟩) := (hs 3 (by decide)).trans rfl
        have hx : L 7 = false := by
          cases hy : L 7 with
          | false => rfl
          | true => have := hr.2.2 hy; rw [hl] at this; cases this
        have hr2 : NumAt w4 w.heap.size al := by have := hr.2.1; rwa [hx] at this
        refine wp_load_row 121 _ rfl w.heap.size h3 121 _ (0, 0) _ hr2.out.out Try.underlying121 rfl (num_info _ HAL.out) (hK _ _ rfl ⟨hr.1, ?_, fun _ => ?_⟩)
        · show NumAt w4 w.heap.size (if (L 7 || false) = true then _ else _)
          rw [hx]; exact hr2
        · show (L 0 || true) = true
          rw [Bool.or_true]
      · intro L a w4 Kx hl hsz hs ht hr he hK
        refine step_plain rfl ?_
        have h21 : a.tmps.getD 21 undef = .agg (d64 al).toArray := ht 0 (he 0 (by kernel_rfl)) 21 rfl
        go_simp
        refine (whole_walk al HAL.out _).mono ?_
        rintro e w5 ⟨rfl, hb5⟩
        exact hK _ _ rfl (by simpa using (show Below w.heap.size w w5 ∧ NumAt w5 w.heap.size (if L 7 = true then (plusL (wholeL al) sl) else al) ∧ (L 7 = true → L 0 = true) from ⟨hr.1.trans (hb5.mono hr.1.size), hr.2.1.below hb5 hr.2.1.lt, hr.2.2⟩))
      · intro L a w4 Kx hl hsz hs ht hr he hK
        refine step_plain rfl ?_
        have h0 : a.tmps.getD 0 undef = .pointer (some ⟨b, 0, none⟩) := (hs 0 (by decide)).trans rfl
        go_simp
        exact hK _ _ rfl (by simpa using hr)
      · intro L a w4 Kx hl hsz hs ht hr he hK
        refine step_plain rfl ?_
        have h23 : a.tmps.getD 23 undef = .pointer (some ⟨b, 0, none⟩) := ht 2 (he 2 (by kernel_rfl)) 23 rfl
        go_simp
        exact hK _ _ rfl (by simpa using hr)
      · intro L a w4 Kx hl hsz hs ht hr he hK
        refine step_plain rfl ?_
        have h24 : a.tmps.getD 24 undef = .pointer (some ⟨b, 0, none⟩) := ht 3 (he 3 (by kernel_rfl)) 24 rfl
        go_simp
        exact hK _ _ rfl (by simpa using hr)
      · intro L a w4 Kx hl hsz hs ht hr he hK
        refine step_plain rfl ?_
        have h25 : a.tmps.getD 25 undef = .pointer (some ⟨b, 5, none⟩) := ht 4 (he 4 (by kernel_rfl)) 25 rfl
        refine wp_load_mid 121 _ rfl b 5 h25 (d64 sl) _ ((HP.out.below hr.1 hblt).s_mid) Try.underlying121 rfl (num_info' _ HSL.out) (hK _ _ rfl (by simpa using hr))
      · intro L a w4 Kx hl hsz hs ht hr he hK
        refine step_plain rfl ?_
        have h22 : a.tmps.getD 22 undef = .agg (d64 (wholeL al)).toArray := ht 1 (he 1 (by kernel_rfl)) 22 rfl
        have h26 : a.tmps.getD 26 undef = .agg (d64 sl).toArray := ht 5 (he 5 (by kernel_rfl)) 26 rfl
        go_simp
        refine (plus_walk (wholeL al) sl ((wholeL_length _).trans HAL.out) HSL.out _).mono ?_
        rintro e w5 ⟨rfl, hb5⟩
        exact hK _ _ rfl (by simpa using (show Below w.heap.size w w5 ∧ NumAt w5 w.heap.size (if L 7 = true then (plusL (wholeL al) sl) else al) ∧ (L 7 = true → L 0 = true) from ⟨hr.1.trans (hb5.mono hr.1.size), hr.2.1.below hb5 hr.2.1.lt, hr.2.2⟩))
      · intro L a w4 Kx hl hsz hs ht hr he hK
        refine step_plain rfl ?_
        have h27 : a.tmps.getD 27 undef = .agg (d64 (plusL (wholeL al) sl)).toArray := ht 6 (he 6 (by kernel_rfl)) 27 rfl
        have h3 : a.tmps.getD 3 undef = .pointer (some ⟨w.heap.size, 0, none⟩) := (hs 3 (by decide)).trans rfl
        have hr2 : NumAt w4 w.heap.size al := by have := hr.2.1; rwa [hl] at this
        refine wp_store_row 121 _ _ rfl w.heap.size (d64 (plusL (wholeL al) sl)).toArray h3 h27 121 _ hr2.out.out (num_info _ ((plusL_length _ _).trans ((wholeL_length _).trans HAL.out))) (num_same _ _ ((plusL_length _ _).trans ((wholeL_length _).trans HAL.out)) HAL.out) (d64_cells _) (hK _ _ trivial ⟨Go.Proofs.Ytfglhemmccihfaa.Below.setRow hr.1 (Nat.le_refl _) _, ?_, fun _ => ?_⟩)
        · show NumAt _ _ (if (L 7 || true) = true then _ else _)
          rw [Bool.or_true, if_pos rfl]
          exact hr2.out.setRow _
        · show (L 0 || false) = true
          rw [he 0 (by kernel_rfl)]; rfl
    · intro f L w4 hf hall hr
      have hr2 : NumAt w4 w.heap.size (plusL (wholeL al) sl) := by have := hr.2.1; rwa [hall 7 (by decide), if_pos rfl] at this
      simp only [List.foldl, Act.put, List.setIfInBounds_toArray, List.set_cons_zero, List.set_cons_succ]
      have HN2 := Lib.hid hr2
      have HB2 := Lib.hid hr.1
      have HQL := Lib.hid (show (plusL (wholeL al) sl).length = 5 from ((plusL_length _ _).trans ((wholeL_length _).trans HAL.out)))
      have HFL := Lib.hid (show finalL al sl = pushK (plusL (wholeL al) sl) 4 from rfl)
      clear hf hall hr hr2
      generalize (plusL (wholeL al) sl) = q at HN2 HQL HFL ⊢
      generalize f 21 = z21
      generalize f 22 = z22
      generalize f 23 = z23
      generalize f 24 = z24
      generalize f 25 = z25
      generalize f 26 = z26
      generalize f 27 = z27
      go_wp2_with fail
      go_loopw [28] (fun i wr => ∃ k : Nat, k ≤ 4 ∧ i = .int .i64 k ∧ NumAt wr w.heap.size (pushK q k) ∧ Below w.heap.size w wr) (fun i _ => 4 - (intOf i).toNat)
      case atStart => exact ⟨0, Nat.zero_le _, rfl, HN2.out, HB2.out⟩
      case round =>
        obtain ⟨k, hk, rfl, hm, hb⟩ := hrel
        have HM := Lib.hid hm
        have HB := Lib.hid hb
        clear hm hb
        have HLP := Lib.hid ((pushK_length q k).trans HQL.out)
        rcases Nat.lt_or_ge k 4 with hlt | hge
        · have c1 := HM.out.cell (k + 1) (by rw [HLP.out]; omega)
          have c2 := HM.out.cell k (by rw [HLP.out]; omega)
          have f1 := HM.out.free (k + 1)
          have f2 := HM.out.free k
          go_wp2_with fail
          go_region
          go_wp2_with fail
          go_roundw
          case rel =>
            have hs := ((HM.out.store (k + 1) ((pushK q k).getD (k + 1) 0 + (pushK q k).getD k 0 >>> 26)).drew).store k ((pushK q k).getD k 0 &&& 67108863#64)
            exact ⟨k + 1, by omega, by go_num, by rw [pushK, set_getD_ne _ _ _ _ _ (by omega)]; exact hs, ((HB.out.setCell (Nat.le_refl _) _).drew).setCell (Nat.le_refl _) _⟩
          case measure => simp [intOf]; omega
        · obtain rfl : k = 4 := by omega
          go_wp2_with (with_reducible refine wpList_load_row rfl 121 (.tmp 3) rfl w.heap.size ?u1 121 _ (0, 0) _ HM.out.out.out Try.underlying121 rfl ?u2 ?_)
          case u1 => rfl
          case u2 => exact num_info _ HLP.out
          go_wp2_with fail
          refine (bytes5_walk _ HLP.out _).mono ?_
          rintro e w9 ⟨r9, rfl, hr9, hb9⟩
          go_wp2_with fail
          go_ret
          exact ⟨r9, rfl, by rw [HT2.out, HFL.out]; exact hr9, HB.out.trans (hb9.mono HB.out.size)⟩
  · have hq : seq rest ⟨#[]⟩ = false := by rw [rest_empty]; exact decide_eq_false hre
    have HT2 := Lib.hid (show tagOf rl sl al rest.data.toList = bytes5 (finalL (stepL al rl rest.data.toList) sl) 16 by rw [HTO.out, if_neg hre])
    clear hre HTO
    go_wp2_with fail
    refine region_table (by kernel_rfl) [14, 15, 16, 17, 18, 19, 20]
      (fun i x => match i with
        | 0 => x = .pointer (some ⟨b, 0, none⟩)
        | 1 => x = .agg (d64 al).toArray
        | 2 => x = .pointer (some ⟨b, 0, none⟩)
        | 3 => x = .pointer (some ⟨b, 0, none⟩)
        | 4 => x = .pointer (some ⟨b, 15, none⟩)
        | 5 => x = .string rest
        | 6 => x = .agg (d64 (stepL al rl rest.data.toList)).toArray
        | _ => True) (fun L _ w' => Below w.heap.size w w' ∧ NumAt w' w.heap.size (if L 7 = true then (stepL al rl rest.data.toList) else al) ∧ (L 7 = true → L 1 = true)) (by kernel_rfl) (by kernel_rfl) rfl (by kernel_rfl) (⟨HB1.out.drew, HN1.out.drew, (fun h => by cases h)⟩) ?_ ?_
    · refine StepsOk.cons ?_ (StepsOk.cons ?_ (StepsOk.cons ?_ (StepsOk.cons ?_ (StepsOk.cons ?_ (StepsOk.cons ?_ (StepsOk.cons ?_ (StepsOk.cons ?_ StepsOk.nil)))))))
      · intro L a w4 Kx hl hsz hs ht hr he hK
        refine step_plain rfl ?_
        have h0 : a.tmps.getD 0 undef = .pointer (some ⟨b, 0, none⟩) := (hs 0 (by decide)).trans rfl
        go_simp
        exact hK _ _ rfl (by simpa using hr)
      · intro L a w4 Kx hl hsz hs ht hr he hK
        refine step_plain rfl ?_
        have h3 : a.tmps.getD 3 undef = .pointer (some ⟨w.heap.size, 0, none⟩) := (hs 3 (by decide)).trans rfl
        have hx : L 7 = false := by
          cases hy : L 7 with
          | false => rfl
          | true => have := hr.2.2 hy; rw [hl] at this; cases this
        have hr2 : NumAt w4 w.heap.size al := by have := hr.2.1; rwa [hx] at this
        refine wp_load_row 121 _ rfl w.heap.size h3 121 _ (0, 0) _ hr2.out.out Try.underlying121 rfl (num_info _ HAL.out) (hK _ _ rfl ⟨hr.1, ?_, fun _ => ?_⟩)
        · show NumAt w4 w.heap.size (if (L 7 || false) = true then _ else _)
          rw [hx]; exact hr2
        · show (L 1 || true) = true
          rw [Bool.or_true]
      · intro L a w4 Kx hl hsz hs ht hr he hK
        refine step_plain rfl ?_
        have h0 : a.tmps.getD 0 undef = .pointer (some ⟨b, 0, none⟩) := (hs 0 (by decide)).trans rfl
        go_simp
        exact hK _ _ rfl (by simpa using hr)
      · intro L a w4 Kx hl hsz hs ht hr he hK
        refine step_plain rfl ?_
        have h16 : a.tmps.getD 16 undef = .pointer (some ⟨b, 0, none⟩) := ht 2 (he 2 (by kernel_rfl)) 16 rfl
        go_simp
        exact hK _ _ rfl (by simpa using hr)
      · intro L a w4 Kx hl hsz hs ht hr he hK
        refine step_plain rfl ?_
        have h17 : a.tmps.getD 17 undef = .pointer (some ⟨b, 0, none⟩) := ht 3 (he 3 (by kernel_rfl)) 17 rfl
        go_simp
        exact hK _ _ rfl (by simpa using hr)
      · intro L a w4 Kx hl hsz hs ht hr he hK
        refine step_plain rfl ?_
        have h18 : a.tmps.getD 18 undef = .pointer (some ⟨b, 15, none⟩) := ht 4 (he 4 (by kernel_rfl)) 18 rfl
        have c := (HP.out.below hr.1 hblt).rest_cell
        go_simp
        exact hK _ _ rfl (by simpa using hr)
      · intro L a w4 Kx hl hsz hs ht hr he hK
        refine step_plain rfl ?_
        have h14 : a.tmps.getD 14 undef = .pointer (some ⟨b, 0, none⟩) := ht 0 (he 0 (by kernel_rfl)) 14 rfl
        have h15 : a.tmps.getD 15 undef = .agg (d64 al).toArray := ht 1 (he 1 (by kernel_rfl)) 15 rfl
        have h19 : a.tmps.getD 19 undef = .string rest := ht 5 (he 5 (by kernel_rfl)) 19 rfl
        go_simp
        refine (step_walk b rl sl _ al rest rest w4 HAL.out (HP.out.below hr.1 hblt) hz16).mono ?_
        rintro e w5 ⟨rfl, hb5⟩
        exact hK _ _ rfl (by simpa using (show Below w.heap.size w w5 ∧ NumAt w5 w.heap.size (if L 7 = true then (stepL al rl rest.data.toList) else al) ∧ (L 7 = true → L 1 = true) from ⟨hr.1.trans (hb5.mono hr.1.size), hr.2.1.below hb5 hr.2.1.lt, hr.2.2⟩))
      · intro L a w4 Kx hl hsz hs ht hr he hK
        refine step_plain rfl ?_
        have h20 : a.tmps.getD 20 undef = .agg (d64 (stepL al rl rest.data.toList)).toArray := ht 6 (he 6 (by kernel_rfl)) 20 rfl
        have h3 : a.tmps.getD 3 undef = .pointer (some ⟨w.heap.size, 0, none⟩) := (hs 3 (by decide)).trans rfl
        have hr2 : NumAt w4 w.heap.size al := by have := hr.2.1; rwa [hl] at this
        refine wp_store_row 121 _ _ rfl w.heap.size (d64 (stepL al rl rest.data.toList)).toArray h3 h20 121 _ hr2.out.out (num_info _ (stepL_length _ _ _)) (num_same _ _ (stepL_length _ _ _) HAL.out) (d64_cells _) (hK _ _ trivial ⟨Go.Proofs.Ytfglhemmccihfaa.Below.setRow hr.1 (Nat.le_refl _) _, ?_, fun _ => ?_⟩)
        · show NumAt _ _ (if (L 7 || true) = true then _ else _)
          rw [Bool.or_true, if_pos rfl]
          exact hr2.out.setRow _
        · show (L 1 || false) = true
          rw [he 1 (by kernel_rfl)]; rfl
    · intro f L w4 hf hall hr
      have hr2 : NumAt w4 w.heap.size (stepL al rl rest.data.toList) := by have := hr.2.1; rwa [hall 7 (by decide), if_pos rfl] at this
      simp only [List.foldl, Act.put, List.setIfInBounds_toArray, List.set_cons_zero, List.set_cons_succ]
      have HN1 := Lib.hid hr2
      have HB1 := Lib.hid hr.1
      have HAS := Lib.hid (stepL_length al rl rest.data.toList)
      clear hf hall hr hr2 c15'
      generalize (stepL al rl rest.data.toList) = al2 at HN1 HT2 HAS ⊢
      generalize f 14 = y14
      generalize f 15 = y15
      generalize f 16 = y16
      generalize f 17 = y17
      generalize f 18 = y18
      generalize f 19 = y19
      generalize f 20 = y20
      clear HAL
      have HAL := HAS
      clear HAS
      go_wp2_with fail
      refine region_table (by kernel_rfl) [21, 22, 23, 24, 25, 26, 27]
        (fun i x => match i with
          | 0 => x = .agg (d64 al2).toArray
          | 1 => x = .agg (d64 (wholeL al2)).toArray
          | 2 => x = .pointer (some ⟨b, 0, none⟩)
          | 3 => x = .pointer (some ⟨b, 0, none⟩)
          | 4 => x = .pointer (some ⟨b, 5, none⟩)
          | 5 => x = .agg (d64 sl).toArray
          | 6 => x = .agg (d64 (plusL (wholeL al2) sl)).toArray
          | _ => True) (fun L _ w' => Below w.heap.size w w' ∧ NumAt w' w.heap.size (if L 7 = true then (plusL (wholeL al2) sl) else al2) ∧ (L 7 = true → L 0 = true)) (by kernel_rfl) (by kernel_rfl) rfl (by kernel_rfl) (⟨HB1.out.drew, HN1.out.drew, (fun h => by cases h)⟩) ?_ ?_
      · refine StepsOk.cons ?_ (StepsOk.cons ?_ (StepsOk.cons ?_ (StepsOk.cons ?_ (StepsOk.cons ?_ (StepsOk.cons ?_ (StepsOk.cons ?_ (StepsOk.cons ?_ StepsOk.nil)))))))
        · intro L a w4 Kx hl hsz hs ht hr he hK
          refine step_plain rfl ?_
          have h3 : a.tmps.getD 3 undef = .pointer (some ⟨w.heap.size, 0, none⟩) := (hs 3 (by decide)).trans rfl
          have hx : L 7 = false := by
            cases hy : L 7 with
            | false => rfl
            | true => have := hr.2.2 hy; rw [hl] at this; cases this
          have hr2 : NumAt w4 w.heap.size al2 := by have := hr.2.1; rwa [hx] at this
          refine wp_load_row 121 _ rfl w.heap.size h3 121 _ (0, 0) _ hr2.out.out Try.underlying121 rfl (num_info _ HAL.out) (hK _ _ rfl ⟨hr.1, ?_, fun _ => ?_⟩)
          · show NumAt w4 w.heap.size (if (L 7 || false) = true then _ else _)
            rw [hx]; exact hr2
          · show (L 0 || true) = true
            rw [Bool.or_true]
        · intro L a w4 Kx hl hsz hs ht hr he hK
          refine step_plain rfl ?_
          have h21 : a.tmps.getD 21 undef = .agg (d64 al2).toArray := ht 0 (he 0 (by kernel_rfl)) 21 rfl
          go_simp
          refine (whole_walk al2 HAL.out _).mono ?_
          rintro e w5 ⟨rfl, hb5⟩
          exact hK _ _ rfl (by simpa using (show Below w.heap.size w w5 ∧ NumAt w5 w.heap.size (if L 7 = true then (plusL (wholeL al2) sl) else al2) ∧ (L 7 = true → L 0 = true) from ⟨hr.1.trans (hb5.mono hr.1.size), hr.2.1.below hb5 hr.2.1.lt, hr.2.2⟩))
        · intro L a w4 Kx hl hsz hs ht hr he hK
          refine step_plain rfl ?_
          have h0 : a.tmps.getD 0 undef = .pointer (some ⟨b, 0, none⟩) := (hs 0 (by decide)).trans rfl
          go_simp
          exact hK _ _ rfl (by simpa using hr)
        · intro L a w4 Kx hl hsz hs ht hr he hK
          refine step_plain rfl ?_
          have h23 : a.tmps.getD 23 undef = .pointer (some ⟨b, 0, none⟩) := ht 2 (he 2 (by kernel_rfl)) 23 rfl
          go_simp
          exact hK _ _ rfl (by simpa using hr)
        · intro L a w4 Kx hl hsz hs ht hr he hK
          refine step_plain rfl ?_
          have h24 : a.tmps.getD 24 undef = .pointer (some ⟨b, 0, none⟩) := ht 3 (he 3 (by kernel_rfl)) 24 rfl
          go_simp
          exact hK _ _ rfl (by simpa using hr)
        · intro L a w4 Kx hl hsz hs ht hr he hK
          refine step_plain rfl ?_
          have h25 : a.tmps.getD 25 undef = .pointer (some ⟨b, 5, none⟩) := ht 4 (he 4 (by kernel_rfl)) 25 rfl
          refine wp_load_mid 121 _ rfl b 5 h25 (d64 sl) _ ((HP.out.below hr.1 hblt).s_mid) Try.underlying121 rfl (num_info' _ HSL.out) (hK _ _ rfl (by simpa using hr))
        · intro L a w4 Kx hl hsz hs ht hr he hK
          refine step_plain rfl ?_
          have h22 : a.tmps.getD 22 undef = .agg (d64 (wholeL al2)).toArray := ht 1 (he 1 (by kernel_rfl)) 22 rfl
          have h26 : a.tmps.getD 26 undef = .agg (d64 sl).toArray := ht 5 (he 5 (by kernel_rfl)) 26 rfl
          go_simp
          refine (plus_walk (wholeL al2) sl ((wholeL_length _).trans HAL.out) HSL.out _).mono ?_
          rintro e w5 ⟨rfl, hb5⟩
          exact hK _ _ rfl (by simpa using (show Below w.heap.size w w5 ∧ NumAt w5 w.heap.size (if L 7 = true then (plusL (wholeL al2) sl) else al2) ∧ (L 7 = true → L 0 = true) from ⟨hr.1.trans (hb5.mono hr.1.size), hr.2.1.below hb5 hr.2.1.lt, hr.2.2⟩))
        · intro L a w4 Kx hl hsz hs ht hr he hK
          refine step_plain rfl ?_
          have h27 : a.tmps.getD 27 undef = .agg (d64 (plusL (wholeL al2) sl)).toArray := ht 6 (he 6 (by kernel_rfl)) 27 rfl
          have h3 : a.tmps.getD 3 undef = .pointer (some ⟨w.heap.size, 0, none⟩) := (hs 3 (by decide)).trans rfl
          have hr2 : NumAt w4 w.heap.size al2 := by have := hr.2.1; rwa [hl] at this
          refine wp_store_row 121 _ _ rfl w.heap.size (d64 (plusL (wholeL al2) sl)).toArray h3 h27 121 _ hr2.out.out (num_info _ ((plusL_length _ _).trans ((wholeL_length _).trans HAL.out))) (num_same _ _ ((plusL_length _ _).trans ((wholeL_length _).trans HAL.out)) HAL.out) (d64_cells _) (hK _ _ trivial ⟨Go.Proofs.Ytfglhemmccihfaa.Below.setRow hr.1 (Nat.le_refl _) _, ?_, fun _ => ?_⟩)
          · show NumAt _ _ (if (L 7 || true) = true then _ else _)
            rw [Bool.or_true, if_pos rfl]
            exact hr2.out.setRow _
          · show (L 0 || false) = true
            rw [he 0 (by kernel_rfl)]; rfl
      · intro f L w4 hf hall hr
        have hr2 : NumAt w4 w.heap.size (plusL (wholeL al2) sl) := by have := hr.2.1; rwa [hall 7 (by decide), if_pos rfl] at this
        simp only [List.foldl, Act.put, List.setIfInBounds_toArray, List.set_cons_zero, List.set_cons_succ]
        have HN2 := Lib.hid hr2
        have HB2 := Lib.hid hr.1
        have HQL := Lib.hid (show (plusL (wholeL al2) sl).length = 5 from ((plusL_length _ _).trans ((wholeL_length _).trans HAL.out)))
        have HFL := Lib.hid (show finalL al2 sl = pushK (plusL (wholeL al2) sl) 4 from rfl)
        clear hf hall hr hr2
        generalize (plusL (wholeL al2) sl) = q at HN2 HQL HFL ⊢
        generalize f 21 = z21
        generalize f 22 = z22
        generalize f 23 = z23
        generalize f 24 = z24
        generalize f 25 = z25
        generalize f 26 = z26
        generalize f 27 = z27
        go_wp2_with fail
        go_loopw [28] (fun i wr => ∃ k : Nat, k ≤ 4 ∧ i = .int .i64 k ∧ NumAt wr w.heap.size (pushK q k) ∧ Below w.heap.size w wr) (fun i _ => 4 - (intOf i).toNat)
        case atStart => exact ⟨0, Nat.zero_le _, rfl, HN2.out, HB2.out⟩
        case round =>
          obtain ⟨k, hk, rfl, hm, hb⟩ := hrel
          have HM := Lib.hid hm
          have HB := Lib.hid hb
          clear hm hb
          have HLP := Lib.hid ((pushK_length q k).trans HQL.out)
          rcases Nat.lt_or_ge k 4 with hlt | hge
          · have c1 := HM.out.cell (k + 1) (by rw [HLP.out]; omega)
            have c2 := HM.out.cell k (by rw [HLP.out]; omega)
            have f1 := HM.out.free (k + 1)
            have f2 := HM.out.free k
            go_wp2_with fail
            go_region
            go_wp2_with fail
            go_roundw
            case rel =>
              have hs := ((HM.out.store (k + 1) ((pushK q k).getD (k + 1) 0 + (pushK q k).getD k 0 >>> 26)).drew).store k ((pushK q k).getD k 0 &&& 67108863#64)
              exact ⟨k + 1, by omega, by go_num, by rw [pushK, set_getD_ne _ _ _ _ _ (by omega)]; exact hs, ((HB.out.setCell (Nat.le_refl _) _).drew).setCell (Nat.le_refl _) _⟩
            case measure => simp [intOf]; omega
          · obtain rfl : k = 4 := by omega
            go_wp2_with (with_reducible refine wpList_load_row rfl 121 (.tmp 3) rfl w.heap.size ?u1 121 _ (0, 0) _ HM.out.out.out Try.underlying121 rfl ?u2 ?_)
            case u1 => rfl
            case u2 => exact num_info _ HLP.out
            go_wp2_with fail
            refine (bytes5_walk _ HLP.out _).mono ?_
            rintro e w9 ⟨r9, rfl, hr9, hb9⟩
            go_wp2_with fail
            go_ret
            exact ⟨r9, rfl, by rw [HT2.out, HFL.out]; exact hr9, HB.out.trans (hb9.mono HB.out.size)⟩

/-- A text's tag by a key. -/
theorem tagOf_tagL (key t : List UInt8) (hk : key.length = 32) :
    tagOf (readL (clampL (key.take 16))) (readL (key.drop 16)) (foldL (readL (clampL (key.take 16))) t (t.length / 16)) (t.drop (16 * (t.length / 16))) = tagL key t := by
  obtain ⟨h1, h2⟩ := readL_val (clampL (key.take 16)) (Or.inl (by rw [clampL_length, List.length_take]; omega))
  obtain ⟨h3, h4⟩ := readL_val (key.drop 16) (Or.inl (by rw [List.length_drop]; omega))
  rw [tagOf_val _ _ _ h1 h3, h2, h4]
  rfl
/-- Block b is a Poly of a key to which the text t was added. -/
def PolyK (w : World) (b : Nat) (key t : List UInt8) : Prop := PolyAt w b (readL (clampL (key.take 16))) (readL (key.drop 16)) t
theorem New_walk (key : ByteArray) (hk : key.size = 32) (w : World) :
    Calls Try.prog 76 #[.string key] w fun e w' => ∃ b, e = .returned (.tuple #[.pointer (some ⟨b, 0, none⟩), .int .i64 0]) ∧ w.heap.size ≤ b ∧ PolyK w' b key.data.toList [] ∧ Below w.heap.size w w' := by
  refine (New_ok key hk w).mono ?_
  rintro e w' ⟨b, rfl, hb, hp, hw⟩
  exact ⟨b, rfl, hb, ⟨⟨#[]⟩, Is.of [], hp⟩, hw⟩
theorem AddK_walk (b : Nat) (key t : List UInt8) (text : ByteArray) (htx : text.size ≤ 140737488351232) (w : World) (h : PolyK w b key t) :
    Calls Try.prog 77 #[.pointer (some ⟨b, 0, none⟩), .string text] w fun e w' => e = .returned (.tuple #[]) ∧ PolyK w' b key (t ++ text.data.toList) ∧ Only b w w' := Add_walk b _ _ t text htx w h
theorem TagK_walk (b : Nat) (key t : List UInt8) (hk : key.length = 32) (w : World) (h : PolyK w b key t) :
    Calls Try.prog 78 #[.pointer (some ⟨b, 0, none⟩)] w fun e w' => ∃ r, e = .returned (.string r) ∧ Is r (tagL key t) ∧ Below w.heap.size w w' := by
  obtain ⟨rest, hr, hp⟩ := h
  have := PTag_walk b _ _ _ rest (by rw [hr.size, List.length_drop]; omega) w hp
  rw [hr.out, tagOf_tagL key t hk] at this
  exact this

set_option maxHeartbeats 1000000 in
theorem Tag_ok (key text : ByteArray) (hk : key.size = 32) (ht : text.size ≤ 140737488351232) (w : World) :
    Calls Try.prog 51 #[.string key, .string text] w fun e w' => ∃ r, e = .returned (.tuple #[.string r, .int .i64 0]) ∧ Is r (tagL key.data.toList text.data.toList) ∧ Below w.heap.size w w' := by
  have HK := Lib.hid hk
  have HKL := Lib.hid (show key.data.toList.length = 32 by rw [Array.length_toList]; exact hk)
  clear hk
  go_enter Try.func51, Try.ntmps51
  go_wp2_with fail
  refine (New_walk key HK.out _).mono ?_
  rintro e w1 ⟨b, rfl, hwb, hp, hb1⟩
  go_wp2_with fail
  refine (AddK_walk b _ [] text ht _ hp).mono ?_
  rintro e w2 ⟨rfl, hp2, ho2⟩
  rw [List.nil_append] at hp2
  go_wp2_with fail
  refine (TagK_walk b _ _ HKL.out _ hp2).mono ?_
  rintro e w3 ⟨r, rfl, hr, hb3⟩
  go_wp2_with fail
  go_ret2
  exact ⟨r, rfl, hr, bthen (hb1.trans (ho2.below hwb hb1.size)) hb3⟩
set_option maxHeartbeats 400000 in
theorem Tag_no (key text : ByteArray) (hk : key.size ≠ 32) (w : World) :
    Calls Try.prog 51 #[.string key, .string text] w fun e w' => e = .returned (.tuple #[.string ByteArray.empty, .int .i64 5]) ∧ w = w' := by
  go_enter Try.func51, Try.ntmps51
  go_wp2_with fail
  refine (New_no key hk _).mono ?_
  rintro e w1 ⟨rfl, rfl⟩
  go_wp2_with fail
  go_ret2
  exact ⟨rfl, rfl⟩
end Go.Proofs.Ytfglhemmccihfaa
