/-
  The program's sha: mix, New, Add, Len, Sum.
-/
import Derived.Test.YtdfgcjjaiggpkaaShaC
import Derived.Test.YtdfgcjjaiggpkaaOnly
import Derived.Test.YtdfgcjjaiggpkaaBuildL
import Derived.Deep.LoopGhost
import Derived.Outline
namespace Go.Proofs.Ytdfgcjjaiggpkaa
open Go.RowKit

theorem Mix_as (st : List (BitVec 32)) (hl : st.length = 8) (s : ByteArray) (h : s.size = 64) (nw : List (BitVec 32)) (hn : nw = mixS st s.data.toList) (w : World) :
    Calls Try.prog 18 #[.agg (words st).toArray, .string s] w fun e w' => e = .returned (.tuple #[.agg (words nw).toArray, .int .i64 0]) ∧ Below w.heap.size w w' := by
  rw [hn]
  exact Mix_ok st hl s h w
set_option maxRecDepth 100000 in
set_option maxHeartbeats 1000000 in
theorem mix_walk (st : List (BitVec 32)) (hst : st.length = 8) (s : ByteArray) (V : List (BitVec 32)) (hV : V = mixK st s.data.toList (s.size / 64)) (r : ByteArray) (hr : Is r (restS s.data.toList)) (w : World) :
    Calls Try.prog 52 #[.agg (words st).toArray, .string s] w fun e w' => e = .returned (.tuple #[.agg (words V).toArray, .string r]) ∧ Below w.heap.size w w' := by
  have HL := Lib.hid hst
  have HV := Lib.hid hV
  have HR := Lib.hid hr
  have HTL := Lib.hid (show s.data.toList.length = s.size by rw [Array.length_toList]; rfl)
  clear hst hV hr
  go_enter Try.func52, Try.ntmps52
  go_wp2_with fail
  have HS0 := Lib.hid ((RowAt.new w (words st).toArray 27 (0, 0)).alloc (.cells (words zero8).toArray 27))
  have HZ0 := RowAt.new (w.alloc (.cells (words st).toArray 27)) (words zero8).toArray 27 (0, 0)
  rw [show (w.alloc (.cells (words st).toArray 27)).heap.size = w.heap.size + 1 by simp] at HZ0
  have HZ1 := Lib.hid HZ0
  have HB0 := Lib.hid (((Below.refl w.heap.size w).alloc (Nat.le_refl _) (.cells (words st).toArray 27)).alloc (by simp) (.cells (words zero8).toArray 27))
  clear HZ0
  go_loopg [1] (s.size / 64) (fun g v wr => ∃ (j : Nat) (rs : ByteArray), j + g = s.size / 64 ∧ v = .string rs ∧ Is rs (s.data.toList.drop (64 * j)) ∧ RowAt wr w.heap.size (words (mixK st s.data.toList j)).toArray 27 (0, 0) ∧ RowAt wr (w.heap.size + 1) (words zero8).toArray 27 (0, 0) ∧ Below w.heap.size w wr)
  case atStart => exact ⟨0, s, by omega, rfl, Is.self s, HS0.out, HZ1.out, HB0.out⟩
  case round =>
    obtain ⟨j, rs, hjg, rfl, hrs, r1, r2, r3⟩ := hrel
    have hrz : rs.size = s.size - 64 * j := by rw [hrs.size, List.length_drop, HTL.out]
    have HJ := Lib.hid hjg
    have HRS := Lib.hid hrs
    have R1 := Lib.hid r1
    have R2 := Lib.hid r2
    have R3 := Lib.hid r3
    clear r1 r2 r3
    rcases Nat.lt_or_ge 0 gk with hg | hg
    · have h64 : 64 ≤ rs.size := by omega
      have hX := hrs.extract 0 64
      rw [List.drop_zero, Nat.sub_zero] at hX
      have HX := Lib.hid hX
      have HXZ := Lib.hid (show (rs.extract 0 64).size = 64 by rw [ByteArray.size_extract]; omega)
      have HY := Lib.hid (show Is (rs.extract 64 rs.size) (s.data.toList.drop (64 * (j + 1))) from by
        have := hrs.extract 64 rs.size
        rwa [List.drop_drop, List.take_of_length_le (by rw [List.length_drop, HTL.out, hrz]; omega), show 64 * j + 64 = 64 * (j + 1) by omega] at this)
      have HLC := Lib.hid (show (mixK st s.data.toList j).length = 8 by rw [mixK_length]; exact HL.out)
      obtain ⟨nw, hnw⟩ : ∃ nw, nw = mixK st s.data.toList (j + 1) := ⟨_, rfl⟩
      have HLN := Lib.hid (show nw.length = 8 by rw [hnw, mixK_length]; exact HL.out)
      have HNW := Lib.hid (show nw = mixS (mixK st s.data.toList j) (rs.extract 0 64).data.toList by rw [HX.out.out, hnw]; rfl)
      have HFS := Lib.hid hnw
      clear hnw
      generalize mixK st s.data.toList j = cur at R1 HLC HNW
      have hd : decide ((64 : Int) ≤ (rs.size : Int)) = true := decide_eq_true (by omega)
      have hk3 : (64 : Int) ≤ (rs.size : Int) := by omega
      clear hrs hX hrz hjg
      go_wp2_with fail
      refine region_table (by kernel_rfl) [10, 11, 12, 13, 9, 14, 15]
        (fun i x_ => match i with
          | 0 => x_ = .agg (words cur).toArray
          | 1 => x_ = .string rs
          | 2 => x_ = .string (rs.extract 0 64)
          | 3 => x_ = .tuple #[.agg (words nw).toArray, .int .i64 0]
          | 4 => x_ = .tuple #[.agg (words nw).toArray, .int .i64 0]
          | 5 => x_ = .agg (words nw).toArray
          | 6 => x_ = .int .i64 (0)
          | 7 => True
          | _ => True) (fun L _ w' => Below w.heap.size w w' ∧ RowAt w' w.heap.size (words (if L 7 = true then nw else cur)).toArray 27 (0, 0) ∧ RowAt w' (w.heap.size + 1) (words zero8).toArray 27 (0, 0) ∧ (L 7 = true → L 0 = true)) (by kernel_rfl) (by kernel_rfl) rfl (by kernel_rfl) (⟨R3.out.drew, R1.out.drew, R2.out.drew, (fun h => by cases h)⟩) ?_ ?_
      · refine StepsOk.cons ?_ (StepsOk.cons ?_ (StepsOk.cons ?_ (StepsOk.cons ?_ (StepsOk.cons ?_ (StepsOk.cons ?_ (StepsOk.cons ?_ (StepsOk.cons ?_ StepsOk.nil)))))))
        · intro L a w4 Kx hl hsz hs ht hr he hK
          refine step_plain rfl ?_
          have h2 : a.tmps.getD 2 undef = .pointer (some ⟨w.heap.size, 0, none⟩) := (hs 2 (by decide)).trans rfl
          have hx : L 7 = false := by
            cases hy : L 7 with
            | false => rfl
            | true => have := hr.2.2.2 hy; rw [hl] at this; cases this
          have hr2 : RowAt w4 w.heap.size (words cur).toArray 27 (0, 0) := by have := hr.2.1; rwa [hx] at this
          refine wp_load_row 27 _ rfl w.heap.size h2 27 (words cur).toArray (0, 0) _ hr2.out Try.underlying27 rfl (w8_info _ HLC.out) (hK _ _ rfl ⟨hr.1, ?_, hr.2.2.1, fun _ => ?_⟩)
          · show RowAt w4 w.heap.size (words (if (L 7 || false) = true then _ else _)).toArray _ _
            rw [hx]; exact hr2
          · show (L 0 || true) = true
            rw [Bool.or_true]
        · intro L a w4 Kx hl hsz hs ht hr he hK
          refine step_plain rfl ?_
          have h1 : a.tmps.getD 1 undef = .string rs := (hs 1 (by decide)).trans rfl
          go_simp
          exact hK _ _ rfl (by simpa using hr)
        · intro L a w4 Kx hl hsz hs ht hr he hK
          refine step_plain rfl ?_
          have h11 : a.tmps.getD 11 undef = .string rs := ht 1 (he 1 (by kernel_rfl)) 11 rfl
          go_simp
          exact hK _ _ rfl (by simpa using hr)
        · intro L a w4 Kx hl hsz hs ht hr he hK
          refine step_plain rfl ?_
          have h10 : a.tmps.getD 10 undef = .agg (words cur).toArray := ht 0 (he 0 (by kernel_rfl)) 10 rfl
          have h12 : a.tmps.getD 12 undef = .string (rs.extract 0 64) := ht 2 (he 2 (by kernel_rfl)) 12 rfl
          go_simp
          refine (Mix_as cur HLC.out (rs.extract 0 64) HXZ.out nw HNW.out _).mono ?_
          rintro e w5 ⟨rfl, hb5⟩
          exact hK _ _ rfl (by simpa using (show Below w.heap.size w w5 ∧ RowAt w5 w.heap.size (words (if L 7 = true then nw else cur)).toArray 27 (0, 0) ∧ RowAt w5 (w.heap.size + 1) (words zero8).toArray 27 (0, 0) ∧ (L 7 = true → L 0 = true) from ⟨bthen hr.1 hb5, hr.2.1.below hb5 hr.2.1.lt, hr.2.2.1.below hb5 hr.2.2.1.lt, hr.2.2.2⟩))
        · intro L a w4 Kx hl hsz hs ht hr he hK
          refine step_plain rfl ?_
          have h13 : a.tmps.getD 13 undef = .tuple #[.agg (words nw).toArray, .int .i64 0] := ht 3 (he 3 (by kernel_rfl)) 13 rfl
          go_simp
          exact hK _ _ rfl (by simpa using hr)
        · intro L a w4 Kx hl hsz hs ht hr he hK
          refine step_plain rfl ?_
          have h9 : a.tmps.getD 9 undef = .tuple #[.agg (words nw).toArray, .int .i64 0] := ht 4 (he 4 (by kernel_rfl)) 9 rfl
          go_simp
          exact hK _ _ rfl (by simpa using hr)
        · intro L a w4 Kx hl hsz hs ht hr he hK
          refine step_plain rfl ?_
          have h9 : a.tmps.getD 9 undef = .tuple #[.agg (words nw).toArray, .int .i64 0] := ht 4 (he 4 (by kernel_rfl)) 9 rfl
          go_simp
          exact hK _ _ rfl (by simpa using hr)
        · intro L a w4 Kx hl hsz hs ht hr he hK
          refine step_plain rfl ?_
          have h14 : a.tmps.getD 14 undef = .agg (words nw).toArray := ht 5 (he 5 (by kernel_rfl)) 14 rfl
          have h2 : a.tmps.getD 2 undef = .pointer (some ⟨w.heap.size, 0, none⟩) := (hs 2 (by decide)).trans rfl
          have hr2 : RowAt w4 w.heap.size (words cur).toArray 27 (0, 0) := by have := hr.2.1; rwa [hl] at this
          refine wp_store_row 27 _ _ rfl w.heap.size (words nw).toArray h2 h14 27 _ hr2.out (w8_info _ HLN.out) (by rw [words_size, words_size, HLC.out, HLN.out]) (wordsS_cells _) (hK _ _ trivial ⟨Go.Proofs.Ytdfgcjjaiggpkaa.Below.setRow hr.1 (Nat.le_refl _) _, ?_, hr.2.2.1.setOther (by omega) _, fun _ => ?_⟩)
          · show RowAt _ _ (words (if (L 7 || true) = true then _ else _)).toArray _ _
            rw [Bool.or_true, if_pos rfl]
            exact hr2.setRow _
          · show (L 0 || false) = true
            rw [he 0 (by kernel_rfl)]; rfl
      · intro f L w4 hf hall hr
        have hr2 : RowAt w4 w.heap.size (words nw).toArray 27 (0, 0) := by have := hr.2.1; rwa [hall 7 (by decide), if_pos rfl] at this
        have P1 := Lib.hid hr2
        have P2 := Lib.hid hr.2.2.1
        have P3 := Lib.hid hr.1
        simp only [List.foldl, Act.put, List.setIfInBounds_toArray, List.set_cons_zero, List.set_cons_succ]
        clear hf
        generalize f 10 = z10
        generalize f 11 = z11
        generalize f 12 = z12
        generalize f 13 = z13
        generalize f 9 = z9
        generalize f 14 = z14
        generalize f 15 = z15
        clear hall hr hr2
        go_wp2_with fail
        go_roundg (gk - 1)
        case measure => omega
        case rel => exact ⟨j + 1, rs.extract 64 rs.size, by have := HJ.out; omega, rfl, HY.out, by rw [← HFS.out]; exact P1.out, P2.out, P3.out⟩
    · obtain rfl : gk = 0 := by omega
      have hd : decide ((64 : Int) ≤ (rs.size : Int)) = false := decide_eq_false (by omega)
      have hjj : j = s.size / 64 := by omega
      have HRR := Lib.hid (show rs = r by
        refine hrs.inj ?_
        rw [hjj]
        have h := HR.out
        unfold restS at h
        rwa [HTL.out] at h)
      have HLC := Lib.hid (show (mixK st s.data.toList j).length = 8 by rw [mixK_length]; exact HL.out)
      have HVV := Lib.hid (show mixK st s.data.toList j = V by rw [HV.out, hjj])
      clear hrs hrz hjg hjj
      go_wp2_with (first | (with_reducible refine wpList_load_row rfl 27 (.tmp 2) rfl w.heap.size ?h1 27 (words (mixK st s.data.toList j)).toArray (0, 0) _ R1.out.out Try.underlying27 rfl ?h2 ?_) | (with_reducible refine wpList_store_rowTo rfl 27 (.tmp 4) (.tmp 18) rfl rfl (w.heap.size + 1) (words (mixK st s.data.toList j)).toArray ?g1 ?g2 27 (words zero8).toArray ?g0 ?g3 ?g4 ?g5 ?_))
      case h1 => rfl
      case h2 => exact w8_info _ HLC.out
      case g1 => rfl
      case g2 => rfl
      case g0 => exact R2.out.out
      case g3 => exact w8_info _ HLC.out
      case g4 => rw [words_size, words_size, HLC.out]; rfl
      case g5 => exact wordsS_cells _
      refine bodyPost_ret (v := .tuple #[.agg (words (mixK st s.data.toList j)).toArray, .string rs]) (results_cell_tmp_row rfl _ _ (w.heap.size + 1) 27 (words (mixK st s.data.toList j)).toArray (0, 0) _ _ (by kernel_rfl) rfl (R2.out.setRow _).out Try.underlying27 rfl (w8_info _ HLC.out)) rfl ⟨?_, ?_⟩
      · rw [HVV.out, HRR.out]
      · exact Go.Proofs.Ytdfgcjjaiggpkaa.Below.setRow R3.out (by omega) _

/-! ### A Hash -/
def hashL (st : List (BitVec 32)) (n : BitVec 64) (r : ByteArray) : List Value := words st ++ [.int .u64 (bvi n), .string r]
def HashIs (w : World) (b : Nat) (st : List (BitVec 32)) (n : BitVec 64) (r : ByteArray) : Prop := st.length = 8 ∧ RowAt w b (hashL st n r).toArray 73 (0, 0)
/-- Block b is a Hash to which the text t was added. -/
def HashAt (w : World) (b : Nat) (t : List UInt8) : Prop := ∃ r, Is r (restS t) ∧ HashIs w b (mixK firstS t (t.length / 64)) (BitVec.ofNat 64 t.length) r
section
variable {w w' : World} {b : Nat} {st : List (BitVec 32)} {n : BitVec 64} {r : ByteArray}
theorem HashIs.lt (h : HashIs w b st n r) : b < w.heap.size := h.2.lt
theorem HashIs.below {B : Nat} (h : HashIs w b st n r) (hb : Below B w w') (hB : b < B) : HashIs w' b st n r := ⟨h.1, h.2.below hb hB⟩
theorem HashIs.drew (h : HashIs w b st n r) : HashIs w.drew b st n r := h
theorem HashIs.mid (h : HashIs w b st n r) : w.rangeAt b 0 (words st) := by
  obtain ⟨_, hw⟩ := h
  unfold hashL at hw
  exact RowAt.mid (xs := []) (by simpa using hw)
theorem hash_at (i : Nat) (h : st.length = 8) : (hashL st n r).toArray[8 + i]? = ([Value.int .u64 (bvi n), .string r] : List Value)[i]? := by
  unfold hashL
  rw [List.getElem?_toArray, List.getElem?_append_right (by rw [words_length, h]; omega), words_length, h, Nat.add_sub_cancel_left]
theorem HashIs.n_cell (h : HashIs w b st n r) : w.cell? ⟨b, 8, none⟩ = some (.int .u64 (bvi n)) := RowAt.cell h.2 (i := 8) (hash_at 0 h.1)
theorem HashIs.rest_cell (h : HashIs w b st n r) : w.cell? ⟨b, 9, none⟩ = some (.string r) := RowAt.cell h.2 (i := 9) (hash_at 1 h.1)
theorem HashIs.free (h : HashIs w b st n r) (i : Nat) : w.frozen? ⟨b, i, none⟩ = false := h.2.free (by simp)
theorem HashIs.there (h : HashIs w b st n r) : w.there b 0 8 := RowAt.there h.2 0 8 (by simp [hashL, words_length, h.1])
theorem HashIs.setN (h : HashIs w b st n r) (m : BitVec 64) : HashIs (w.setCell ⟨b, 8, none⟩ (.int .u64 (bvi m))) b st m r := by
  obtain ⟨hl, hw⟩ := h
  refine ⟨hl, ?_⟩
  have := RowAt.store hw 8 (.int .u64 (bvi m))
  unfold hashL at this ⊢
  rw [List.setIfInBounds_toArray, List.set_append_right _ _ (by rw [words_length, hl]; decide), words_length, hl] at this
  exact this
theorem HashIs.setR (h : HashIs w b st n r) (t : ByteArray) : HashIs (w.setCell ⟨b, 9, none⟩ (.string t)) b st n t := by
  obtain ⟨hl, hw⟩ := h
  refine ⟨hl, ?_⟩
  have := RowAt.store hw 9 (.string t)
  unfold hashL at this ⊢
  rw [List.setIfInBounds_toArray, List.set_append_right _ _ (by rw [words_length, hl]; decide), words_length, hl] at this
  exact this
theorem HashIs.setS (h : HashIs w b st n r) (V : List (BitVec 32)) (hV : V.length = 8) : HashIs (w.setCells b 0 (words V)) b V n r := by
  obtain ⟨hl, hw⟩ := h
  refine ⟨hV, ?_⟩
  unfold hashL at hw ⊢
  have := RowAt.setMid (words V) w [] (words st) [Value.int .u64 (bvi n), .string r] (by rw [words_length, words_length, hl, hV]) (by simpa using hw)
  simpa using this
theorem HashAt.lt {t : List UInt8} (h : HashAt w b t) : b < w.heap.size := by
  obtain ⟨r, _, h2⟩ := h; exact h2.lt
theorem HashAt.below {t : List UInt8} {B : Nat} (h : HashAt w b t) (hb : Below B w w') (hB : b < B) : HashAt w' b t := by
  obtain ⟨r, h1, h2⟩ := h; exact ⟨r, h1, h2.below hb hB⟩
end
theorem w8_info' (l : List (BitVec 32)) (h : l.length = 8) : (Try.prog.info? 27).map (·.size) = some (words l).length := by
  rw [words_length, h]; kernel_rfl

set_option maxRecDepth 100000 in
set_option maxHeartbeats 1000000 in
theorem ShaNew_walk (w : World) : Calls Try.prog 24 #[] w fun e w' => e = .returned (.pointer (some ⟨w'.heap.size - 1, 0, none⟩)) ∧ HashAt w' (w'.heap.size - 1) [] ∧ w.heap.size < w'.heap.size ∧ Below w.heap.size w w' := by
  go_enter Try.func24, Try.ntmps24
  go_wp2_with fail
  refine (First_walk _).mono ?_
  rintro e w1 ⟨rfl, hb1⟩
  have HB := Lib.hid hb1
  clear hb1
  go_wp2_with (with_reducible refine wpList_buildTo rfl 73 _ rfl (some 2) rfl (hashL firstS 0#64 ByteArray.empty).toArray ?h1 ?_)
  case h1 => kernel_rfl
  go_ret
  have hs : (w1.alloc (.cells (hashL firstS 0#64 ByteArray.empty).toArray 73)).heap.size - 1 = w1.heap.size := by simp
  have hr := RowAt.new w1 (hashL firstS 0#64 ByteArray.empty).toArray 73 (0, 0)
  refine ⟨by rw [hs]; rfl, ?_, by have := HB.out.size; simp; omega, below_alloc' HB.out _⟩
  rw [hs]
  exact ⟨ByteArray.empty, Is.empty, rfl, hr⟩

theorem hash_next (t u : List UInt8) : mixK (mixK firstS t (t.length / 64)) (restS t ++ u) ((restS t ++ u).length / 64) = mixK firstS (t ++ u) ((t ++ u).length / 64) ∧ restS (restS t ++ u) = restS (t ++ u) := mix_more firstS t u
set_option maxRecDepth 100000 in
set_option maxHeartbeats 2000000 in
theorem HAdd_walk (b : Nat) (t : List UInt8) (text : ByteArray) (htx : text.size ≤ 140737488351232) (w : World) (h : HashAt w b t) :
    Calls Try.prog 25 #[.pointer (some ⟨b, 0, none⟩), .string text] w fun e w' => e = .returned (.tuple #[]) ∧ HashAt w' b (t ++ text.data.toList) ∧ Only b w w' := by
  obtain ⟨r, hr, hp⟩ := h
  have hrz : r.size ≤ 64 := by have := restS_length t; rw [hr.size]; omega
  have hov : r.size + text.size ≤ 9223372036854775807 := by omega
  have c8 := hp.n_cell
  have f8 := hp.free 8
  have HT := Lib.hid (show text.data.toList.length = text.size by rw [Array.length_toList]; rfl)
  have hn1 : (BitVec.ofNat 64 t.length) + BitVec.ofNat 64 text.size = BitVec.ofNat 64 (t ++ text.data.toList).length := by
    rw [List.length_append, HT.out, BitVec.ofNat_add]
  have hI : Is (r ++ text) (restS t ++ text.data.toList) := hr.append (Is.self text)
  obtain ⟨hx1, hx2⟩ := hash_next t text.data.toList
  obtain ⟨S, hS⟩ : ∃ S, S = mixK firstS t (t.length / 64) := ⟨_, rfl⟩
  obtain ⟨V, hV⟩ : ∃ V, V = mixK S (r ++ text).data.toList ((r ++ text).size / 64) := ⟨_, rfl⟩
  obtain ⟨r2, hr2⟩ : ∃ r2, Is r2 (restS (r ++ text).data.toList) := ⟨_, Is.of _⟩
  have HVT := Lib.hid (show V = mixK firstS (t ++ text.data.toList) ((t ++ text.data.toList).length / 64) by rw [hV, hS, hI.size, hI.out, hx1])
  have HR2T := Lib.hid (show Is r2 (restS (t ++ text.data.toList)) by rw [hI.out, hx2] at hr2; exact hr2)
  rw [← hS] at hp
  have HLS := Lib.hid hp.1
  have HLV := Lib.hid (show V.length = 8 by rw [hV, mixK_length]; exact hp.1)
  obtain ⟨n, hn⟩ : ∃ n, n = BitVec.ofNat 64 t.length := ⟨_, rfl⟩
  rw [← hn] at hp c8 hn1
  obtain ⟨m, hm⟩ : ∃ m, m = n + BitVec.ofNat 64 text.size := ⟨_, rfl⟩
  rw [← hm] at hn1
  have HM := Lib.hid hm
  have HP := Lib.hid (hp.setN m)
  have HO := Lib.hid ((Only.refl b w).setCell (p := ⟨b, 8, none⟩) rfl (.int .u64 (bvi m)))
  have HN1 := Lib.hid hn1
  have HV := Lib.hid hV
  have HR2 := Lib.hid hr2
  clear hr hp hn1 hI hx1 hx2 hS hV hr2 hn hm
  go_enter Try.func25, Try.ntmps25
  go_wp2_with fail
  rw [← HM.out]
  clear c8 f8
  generalize w.setCell ⟨b, 8, none⟩ (.int .u64 (bvi m)) = w1 at HP HO ⊢
  refine region_table (by kernel_rfl) [15, 16, 17, 18, 19, 20, 21, 22, 23, 24, 25, 26, 27, 14, 28, 29, 30, 31, 32, 33]
    (fun i x_ => match i with
      | 0 => x_ = .pointer (some ⟨b, 0, none⟩)
      | 1 => x_ = .pointer (some ⟨b, 0, none⟩)
      | 2 => x_ = .pointer (some ⟨b, 0, none⟩)
      | 3 => x_ = .pointer (some ⟨b, 0, none⟩)
      | 4 => x_ = .pointer (some ⟨b, 0, none⟩)
      | 5 => x_ = .agg (words S).toArray
      | 6 => x_ = .pointer (some ⟨b, 0, none⟩)
      | 7 => x_ = .pointer (some ⟨b, 0, none⟩)
      | 8 => x_ = .pointer (some ⟨b, 9, none⟩)
      | 9 => x_ = .string r
      | 10 => x_ = .string text
      | 11 => x_ = .string (r ++ text)
      | 12 => x_ = .tuple #[.agg (words V).toArray, .string r2]
      | 13 => x_ = .tuple #[.agg (words V).toArray, .string r2]
      | 14 => x_ = .agg (words V).toArray
      | 15 => x_ = .string r2
      | 16 => x_ = .pointer (some ⟨b, 0, none⟩)
      | 17 => x_ = .pointer (some ⟨b, 0, none⟩)
      | 18 => True
      | 19 => x_ = .pointer (some ⟨b, 0, none⟩)
      | 20 => x_ = .pointer (some ⟨b, 9, none⟩)
      | 21 => True
      | _ => True) (fun L _ w' => Only b w1 w' ∧ HashIs w' b (if L 18 = true then V else S) m (if L 21 = true then r2 else r) ∧ (L 18 = true → L 5 = true) ∧ (L 21 = true → L 9 = true)) (by kernel_rfl) (by kernel_rfl) rfl (by kernel_rfl) (⟨(Only.refl b w1).drew, HP.out.drew, (fun h => by cases h), (fun h => by cases h)⟩) ?_ ?_
  · refine StepsOk.cons ?_ (StepsOk.cons ?_ (StepsOk.cons ?_ (StepsOk.cons ?_ (StepsOk.cons ?_ (StepsOk.cons ?_ (StepsOk.cons ?_ (StepsOk.cons ?_ (StepsOk.cons ?_ (StepsOk.cons ?_ (StepsOk.cons ?_ (StepsOk.cons ?_ (StepsOk.cons ?_ (StepsOk.cons ?_ (StepsOk.cons ?_ (StepsOk.cons ?_ (StepsOk.cons ?_ (StepsOk.cons ?_ (StepsOk.cons ?_ (StepsOk.cons ?_ (StepsOk.cons ?_ (StepsOk.cons ?_ StepsOk.nil)))))))))))))))))))))
    · intro L a w4 Kx hl hsz hs ht hr he hK
      refine step_plain rfl ?_
      have h0 : a.tmps.getD 0 undef = .pointer (some ⟨b, 0, none⟩) := (hs 0 (by decide)).trans rfl
      go_simp
      exact hK _ _ rfl (by simpa using hr)
    · intro L a w4 Kx hl hsz hs ht hr he hK
      refine step_plain rfl ?_
      have h0 : a.tmps.getD 0 undef = .pointer (some ⟨b, 0, none⟩) := (hs 0 (by decide)).trans rfl
      go_simp
      exact hK _ _ rfl (by simpa using hr)
    · intro L a w4 Kx hl hsz hs ht hr he hK
      refine step_plain rfl ?_
      have h0 : a.tmps.getD 0 undef = .pointer (some ⟨b, 0, none⟩) := (hs 0 (by decide)).trans rfl
      go_simp
      exact hK _ _ rfl (by simpa using hr)
    · intro L a w4 Kx hl hsz hs ht hr he hK
      refine step_plain rfl ?_
      have h17 : a.tmps.getD 17 undef = .pointer (some ⟨b, 0, none⟩) := ht 2 (he 2 (by kernel_rfl)) 17 rfl
      go_simp
      exact hK _ _ rfl (by simpa using hr)
    · intro L a w4 Kx hl hsz hs ht hr he hK
      refine step_plain rfl ?_
      have h18 : a.tmps.getD 18 undef = .pointer (some ⟨b, 0, none⟩) := ht 3 (he 3 (by kernel_rfl)) 18 rfl
      go_simp
      exact hK _ _ rfl (by simpa using hr)
    · intro L a w4 Kx hl hsz hs ht hr he hK
      refine step_plain rfl ?_
      have h19 : a.tmps.getD 19 undef = .pointer (some ⟨b, 0, none⟩) := ht 4 (he 4 (by kernel_rfl)) 19 rfl
      have hx : L 18 = false := by
        cases hy : L 18 with
        | false => rfl
        | true => have := hr.2.2.1 hy; rw [hl] at this; cases this
      have hr2 : HashIs w4 b S m (if L 21 = true then r2 else r) := by have := hr.2.1; rwa [hx] at this
      refine wp_load_mid 27 _ rfl b 0 h19 (words S) _ hr2.mid Try.underlying27 rfl (w8_info' _ HLS.out) (hK _ _ rfl ⟨hr.1, by simpa using hr.2.1, fun _ => ?_, by simpa using hr.2.2.2⟩)
      show (L 5 || true) = true
      rw [Bool.or_true]
    · intro L a w4 Kx hl hsz hs ht hr he hK
      refine step_plain rfl ?_
      have h0 : a.tmps.getD 0 undef = .pointer (some ⟨b, 0, none⟩) := (hs 0 (by decide)).trans rfl
      go_simp
      exact hK _ _ rfl (by simpa using hr)
    · intro L a w4 Kx hl hsz hs ht hr he hK
      refine step_plain rfl ?_
      have h21 : a.tmps.getD 21 undef = .pointer (some ⟨b, 0, none⟩) := ht 6 (he 6 (by kernel_rfl)) 21 rfl
      go_simp
      exact hK _ _ rfl (by simpa using hr)
    · intro L a w4 Kx hl hsz hs ht hr he hK
      refine step_plain rfl ?_
      have h22 : a.tmps.getD 22 undef = .pointer (some ⟨b, 0, none⟩) := ht 7 (he 7 (by kernel_rfl)) 22 rfl
      go_simp
      exact hK _ _ rfl (by simpa using hr)
    · intro L a w4 Kx hl hsz hs ht hr he hK
      refine step_plain rfl ?_
      have h23 : a.tmps.getD 23 undef = .pointer (some ⟨b, 9, none⟩) := ht 8 (he 8 (by kernel_rfl)) 23 rfl
      have hx : L 21 = false := by
        cases hy : L 21 with
        | false => rfl
        | true => have := hr.2.2.2 hy; rw [hl] at this; cases this
      have hr2 : HashIs w4 b (if L 18 = true then V else S) m r := by have := hr.2.1; rwa [hx] at this
      have c9 := hr2.rest_cell
      go_simp
      refine hK _ _ rfl ⟨hr.1, by simpa using hr.2.1, by simpa using hr.2.2.1, fun _ => ?_⟩
      show (L 9 || true) = true
      rw [Bool.or_true]
    · intro L a w4 Kx hl hsz hs ht hr he hK
      refine step_plain rfl ?_
      have h1 : a.tmps.getD 1 undef = .string text := (hs 1 (by decide)).trans rfl
      go_simp
      exact hK _ _ rfl (by simpa using hr)
    · intro L a w4 Kx hl hsz hs ht hr he hK
      refine step_plain rfl ?_
      have h24 : a.tmps.getD 24 undef = .string r := ht 9 (he 9 (by kernel_rfl)) 24 rfl
      have h25 : a.tmps.getD 25 undef = .string text := ht 10 (he 10 (by kernel_rfl)) 25 rfl
      have hov2 : ¬ 9223372036854775807 < r.size + text.size := by omega
      go_simp
      exact hK _ _ rfl (by simpa using hr)
    · intro L a w4 Kx hl hsz hs ht hr he hK
      refine step_plain rfl ?_
      have h20 : a.tmps.getD 20 undef = .agg (words S).toArray := ht 5 (he 5 (by kernel_rfl)) 20 rfl
      have h26 : a.tmps.getD 26 undef = .string (r ++ text) := ht 11 (he 11 (by kernel_rfl)) 26 rfl
      go_simp
      refine (mix_walk S HLS.out (r ++ text) V HV.out r2 HR2.out _).mono ?_
      rintro e w5 ⟨rfl, hb5⟩
      exact hK _ _ rfl (by simpa using (show Only b w1 w5 ∧ HashIs w5 b (if L 18 = true then V else S) m (if L 21 = true then r2 else r) ∧ (L 18 = true → L 5 = true) ∧ (L 21 = true → L 9 = true) from ⟨hr.1.trans (Only.of_below hb5), hr.2.1.below hb5 hr.2.1.lt, hr.2.2.1, hr.2.2.2⟩))
    · intro L a w4 Kx hl hsz hs ht hr he hK
      refine step_plain rfl ?_
      have h27 : a.tmps.getD 27 undef = .tuple #[.agg (words V).toArray, .string r2] := ht 12 (he 12 (by kernel_rfl)) 27 rfl
      go_simp
      exact hK _ _ rfl (by simpa using hr)
    · intro L a w4 Kx hl hsz hs ht hr he hK
      refine step_plain rfl ?_
      have h14 : a.tmps.getD 14 undef = .tuple #[.agg (words V).toArray, .string r2] := ht 13 (he 13 (by kernel_rfl)) 14 rfl
      go_simp
      exact hK _ _ rfl (by simpa using hr)
    · intro L a w4 Kx hl hsz hs ht hr he hK
      refine step_plain rfl ?_
      have h14 : a.tmps.getD 14 undef = .tuple #[.agg (words V).toArray, .string r2] := ht 13 (he 13 (by kernel_rfl)) 14 rfl
      go_simp
      exact hK _ _ rfl (by simpa using hr)
    · intro L a w4 Kx hl hsz hs ht hr he hK
      refine step_plain rfl ?_
      have h15 : a.tmps.getD 15 undef = .pointer (some ⟨b, 0, none⟩) := ht 0 (he 0 (by kernel_rfl)) 15 rfl
      go_simp
      exact hK _ _ rfl (by simpa using hr)
    · intro L a w4 Kx hl hsz hs ht hr he hK
      refine step_plain rfl ?_
      have h30 : a.tmps.getD 30 undef = .pointer (some ⟨b, 0, none⟩) := ht 16 (he 16 (by kernel_rfl)) 30 rfl
      go_simp
      exact hK _ _ rfl (by simpa using hr)
    · intro L a w4 Kx hl hsz hs ht hr he hK
      refine step_plain rfl ?_
      have h31 : a.tmps.getD 31 undef = .pointer (some ⟨b, 0, none⟩) := ht 17 (he 17 (by kernel_rfl)) 31 rfl
      have h28 : a.tmps.getD 28 undef = .agg (words V).toArray := ht 14 (he 14 (by kernel_rfl)) 28 rfl
      have hr2 : HashIs w4 b S m (if L 21 = true then r2 else r) := by have := hr.2.1; rwa [hl] at this
      refine wp_store_mid 27 _ _ rfl b 0 (words V).toArray h31 h28 (by rw [words_size, HLV.out]; exact hr2.there) (w8_info _ HLV.out) (wordsS_cells _) (hK _ _ trivial ⟨Only.setCells _ _ _ hr.1, ?_, fun _ => ?_, ?_⟩)
      · show HashIs _ b (if (L 18 || true) = true then _ else _) m (if (L 21 || false) = true then _ else _)
        rw [Bool.or_true, if_pos rfl, Bool.or_false]
        exact hr2.setS V HLV.out
      · show (L 5 || false) = true
        rw [he 5 (by kernel_rfl)]; rfl
      · simpa using hr.2.2.2
    · intro L a w4 Kx hl hsz hs ht hr he hK
      refine step_plain rfl ?_
      have h16 : a.tmps.getD 16 undef = .pointer (some ⟨b, 0, none⟩) := ht 1 (he 1 (by kernel_rfl)) 16 rfl
      go_simp
      exact hK _ _ rfl (by simpa using hr)
    · intro L a w4 Kx hl hsz hs ht hr he hK
      refine step_plain rfl ?_
      have h32 : a.tmps.getD 32 undef = .pointer (some ⟨b, 0, none⟩) := ht 19 (he 19 (by kernel_rfl)) 32 rfl
      go_simp
      exact hK _ _ rfl (by simpa using hr)
    · intro L a w4 Kx hl hsz hs ht hr he hK
      refine step_plain rfl ?_
      have h33 : a.tmps.getD 33 undef = .pointer (some ⟨b, 9, none⟩) := ht 20 (he 20 (by kernel_rfl)) 33 rfl
      have h29 : a.tmps.getD 29 undef = .string r2 := ht 15 (he 15 (by kernel_rfl)) 29 rfl
      have hr2 : HashIs w4 b (if L 18 = true then V else S) m r := by have := hr.2.1; rwa [hl] at this
      have c9 := hr2.rest_cell
      have f9 := hr2.free 9
      go_simp
      refine hK undef _ trivial ⟨hr.1.setCell (p := ⟨b, 9, none⟩) rfl _, ?_, ?_, fun _ => ?_⟩
      · show HashIs _ b (if (L 18 || false) = true then _ else _) m (if (L 21 || true) = true then _ else _)
        rw [Bool.or_true, if_pos rfl, Bool.or_false]
        exact hr2.setR r2
      · simpa using hr.2.2.1
      · show (L 9 || false) = true
        rw [he 9 (by kernel_rfl)]; rfl
  · intro f L w4 hf hall hr
    have hr2 : HashIs w4 b V m r2 := by have := hr.2.1; rwa [hall 18 (by decide), if_pos rfl, hall 21 (by decide), if_pos rfl] at this
    have P1 := Lib.hid hr2
    have P2 := Lib.hid (HO.out.trans hr.1)
    simp only [List.foldl, Act.put, List.setIfInBounds_toArray, List.set_cons_zero, List.set_cons_succ]
    clear hf
    generalize f 15 = z15
    generalize f 16 = z16
    generalize f 17 = z17
    generalize f 18 = z18
    generalize f 19 = z19
    generalize f 20 = z20
    generalize f 21 = z21
    generalize f 22 = z22
    generalize f 23 = z23
    generalize f 24 = z24
    generalize f 25 = z25
    generalize f 26 = z26
    generalize f 27 = z27
    generalize f 14 = z14
    generalize f 28 = z28
    generalize f 29 = z29
    generalize f 30 = z30
    generalize f 31 = z31
    generalize f 32 = z32
    generalize f 33 = z33
    clear hall hr hr2
    go_wp2_with fail
    go_end0
    exact ⟨rfl, ⟨r2, HR2T.out, by rw [← HVT.out, ← HN1.out]; exact P1.out⟩, P2.out⟩

set_option maxHeartbeats 400000 in
theorem HLen_walk (b : Nat) (t : List UInt8) (w : World) (h : HashAt w b t) :
    Calls Try.prog 26 #[.pointer (some ⟨b, 0, none⟩)] w fun e w' => e = .returned (.int .u64 (bvi (BitVec.ofNat 64 t.length))) ∧ w = w' := by
  obtain ⟨r, hr, hp⟩ := h
  have c8 := hp.n_cell
  clear hr hp
  go_enter Try.func26, Try.ntmps26
  go_wp2_with fail
  go_ret
  exact ⟨rfl, rfl⟩

theorem Pad_as (n : BitVec 64) (q : ByteArray) (hq : Is q (padL n)) (w : World) : Calls Try.prog 22 #[.int .u64 (bvi n)] w fun e w' => e = .returned (.string q) ∧ Below w.heap.size w w' :=
  (Pad_walk n w).mono fun e w' ⟨r, h1, h2, h3⟩ => ⟨by rw [h1, h2.inj hq], h3⟩
theorem High_as (x : BitVec 64) (n : Int) (q : ByteArray) (hq : Is q (highL x (cut n))) (w : World) : Calls Try.prog 51 #[.int .u64 (bvi x), .int .i64 n] w fun e w' => e = .returned (.string q) ∧ Below w.heap.size w w' :=
  (High_walk x n w).mono fun e w' ⟨r, h1, h2, h3⟩ => ⟨by rw [h1, h2.inj hq], h3⟩
theorem list8 (V : List (BitVec 32)) (h : V.length = 8) : ∃ a b c d e f g i, V = [a, b, c, d, e, f, g, i] := by
  match V, h with
  | [a, b, c, d, e, f, g, i], _ => exact ⟨a, b, c, d, e, f, g, i, rfl⟩
theorem state_index (V : List (BitVec 32)) (h : V.length = 8) (k : Nat) (hk : k < 8) (wx : World) : (Instr.index 27 (.agg (words V).toArray) (.int .i64 k)).run Try.prog wx = .ok (.int .u32 (bvi (V.getD k 0))) wx := by
  obtain ⟨a, b, c, d, e, f, g, i, rfl⟩ := list8 V h
  obtain rfl | rfl | rfl | rfl | rfl | rfl | rfl | rfl : k = 0 ∨ k = 1 ∨ k = 2 ∨ k = 3 ∨ k = 4 ∨ k = 5 ∨ k = 6 ∨ k = 7 := by omega
  all_goals kernel_rfl
set_option maxRecDepth 100000 in
set_option maxHeartbeats 2000000 in
theorem HSum_walk (b : Nat) (t : List UInt8) (q : ByteArray) (hq : Is q (shaL t)) (w : World) (h : HashAt w b t) :
    Calls Try.prog 27 #[.pointer (some ⟨b, 0, none⟩)] w fun e w' => e = .returned (.string q) ∧ Below w.heap.size w w' := by
  obtain ⟨r, hr, hp⟩ := h
  have hrz : r.size ≤ 64 := by have := restS_length t; rw [hr.size]; omega
  obtain ⟨n, hn⟩ : ∃ n, n = BitVec.ofNat 64 t.length := ⟨_, rfl⟩
  obtain ⟨pd, hpd⟩ : ∃ pd, Is pd (padL n) := ⟨_, Is.of _⟩
  have hpz : pd.size ≤ 73 := by have := zerosS_lt n; rw [hpd.size, padL_length]; omega
  have hI : Is (r ++ pd) (restS t ++ padL n) := hr.append hpd
  obtain ⟨hx1, _⟩ := hash_next t (padL n)
  obtain ⟨S, hS⟩ : ∃ S, S = mixK firstS t (t.length / 64) := ⟨_, rfl⟩
  obtain ⟨V, hV⟩ : ∃ V, V = mixK S (r ++ pd).data.toList ((r ++ pd).size / 64) := ⟨_, rfl⟩
  obtain ⟨r2, hr2⟩ : ∃ r2, Is r2 (restS (r ++ pd).data.toList) := ⟨_, Is.of _⟩
  have HQ := Lib.hid (show Is q (bytesS V 8) by
    have : V = mixK firstS (allS t) ((allS t).length / 64) := by rw [hV, hS, hI.size, hI.out, hx1, hn]; rfl
    rw [this]; exact hq)
  rw [← hS, ← hn] at hp
  have HLS := Lib.hid hp.1
  have HLV := Lib.hid (show V.length = 8 by rw [hV, mixK_length]; exact hp.1)
  have HP := Lib.hid hp
  have hblt := hp.lt
  have HV := Lib.hid hV
  have HR2 := Lib.hid hr2
  have HPD := Lib.hid hpd
  clear hr hn hpd hI hx1 hS hV hr2 hp hq
  go_enter Try.func27, Try.ntmps27
  go_wp2_with fail
  refine region_table (by kernel_rfl) [9, 10, 11, 12, 13, 14, 15, 16, 17, 18, 19, 20, 21, 22, 23, 8, 24, 25, 3, 4]
    (fun i x_ => match i with
      | 0 => x_ = .pointer (some ⟨b, 0, none⟩)
      | 1 => x_ = .pointer (some ⟨b, 0, none⟩)
      | 2 => x_ = .pointer (some ⟨b, 0, none⟩)
      | 3 => x_ = .agg (words S).toArray
      | 4 => x_ = .pointer (some ⟨b, 0, none⟩)
      | 5 => x_ = .pointer (some ⟨b, 0, none⟩)
      | 6 => x_ = .pointer (some ⟨b, 9, none⟩)
      | 7 => x_ = .string r
      | 8 => x_ = .pointer (some ⟨b, 0, none⟩)
      | 9 => x_ = .pointer (some ⟨b, 0, none⟩)
      | 10 => x_ = .pointer (some ⟨b, 8, none⟩)
      | 11 => x_ = .int .u64 (bvi (n))
      | 12 => x_ = .string pd
      | 13 => x_ = .string (r ++ pd)
      | 14 => x_ = .tuple #[.agg (words V).toArray, .string r2]
      | 15 => x_ = .tuple #[.agg (words V).toArray, .string r2]
      | 16 => x_ = .agg (words V).toArray
      | 17 => x_ = .string r2
      | 18 => True
      | 19 => True
      | 20 => x_ = .string r2
      | _ => True) (fun L sl w' => Below w.heap.size w w' ∧ (L 18 = true → ∃ g, sl 3 = .pointer (some ⟨g, 0, none⟩) ∧ w.heap.size ≤ g ∧ RowAt w' g (words (if L 19 = true then V else zero8)).toArray 27 (0, 0)) ∧ (L 19 = true → L 18 = true)) (by kernel_rfl) (by kernel_rfl) rfl (by kernel_rfl) (⟨(Below.refl _ _).drew, (fun h => by cases h), (fun h => by cases h)⟩) ?_ ?_
  · refine StepsOk.cons ?_ (StepsOk.cons ?_ (StepsOk.cons ?_ (StepsOk.cons ?_ (StepsOk.cons ?_ (StepsOk.cons ?_ (StepsOk.cons ?_ (StepsOk.cons ?_ (StepsOk.cons ?_ (StepsOk.cons ?_ (StepsOk.cons ?_ (StepsOk.cons ?_ (StepsOk.cons ?_ (StepsOk.cons ?_ (StepsOk.cons ?_ (StepsOk.cons ?_ (StepsOk.cons ?_ (StepsOk.cons ?_ (StepsOk.cons ?_ (StepsOk.cons ?_ (StepsOk.cons ?_ StepsOk.nil))))))))))))))))))))
    · intro L a w4 Kx hl hsz hs ht hr he hK
      refine step_plain rfl ?_
      have h0 : a.tmps.getD 0 undef = .pointer (some ⟨b, 0, none⟩) := (hs 0 (by decide)).trans rfl
      go_simp
      exact hK _ _ rfl (by simpa [slot_ne] using hr)
    · intro L a w4 Kx hl hsz hs ht hr he hK
      refine step_plain rfl ?_
      have h9 : a.tmps.getD 9 undef = .pointer (some ⟨b, 0, none⟩) := ht 0 (he 0 (by kernel_rfl)) 9 rfl
      go_simp
      exact hK _ _ rfl (by simpa [slot_ne] using hr)
    · intro L a w4 Kx hl hsz hs ht hr he hK
      refine step_plain rfl ?_
      have h10 : a.tmps.getD 10 undef = .pointer (some ⟨b, 0, none⟩) := ht 1 (he 1 (by kernel_rfl)) 10 rfl
      go_simp
      exact hK _ _ rfl (by simpa [slot_ne] using hr)
    · intro L a w4 Kx hl hsz hs ht hr he hK
      refine step_plain rfl ?_
      have h11 : a.tmps.getD 11 undef = .pointer (some ⟨b, 0, none⟩) := ht 2 (he 2 (by kernel_rfl)) 11 rfl
      have hp := HP.out.below hr.1 hblt
      refine wp_load_mid 27 _ rfl b 0 h11 (words S) _ hp.mid Try.underlying27 rfl (w8_info' _ HLS.out) (hK _ _ rfl (by simpa [slot_ne] using hr))
    · intro L a w4 Kx hl hsz hs ht hr he hK
      refine step_plain rfl ?_
      have h0 : a.tmps.getD 0 undef = .pointer (some ⟨b, 0, none⟩) := (hs 0 (by decide)).trans rfl
      go_simp
      exact hK _ _ rfl (by simpa [slot_ne] using hr)
    · intro L a w4 Kx hl hsz hs ht hr he hK
      refine step_plain rfl ?_
      have h13 : a.tmps.getD 13 undef = .pointer (some ⟨b, 0, none⟩) := ht 4 (he 4 (by kernel_rfl)) 13 rfl
      go_simp
      exact hK _ _ rfl (by simpa [slot_ne] using hr)
    · intro L a w4 Kx hl hsz hs ht hr he hK
      refine step_plain rfl ?_
      have h14 : a.tmps.getD 14 undef = .pointer (some ⟨b, 0, none⟩) := ht 5 (he 5 (by kernel_rfl)) 14 rfl
      go_simp
      exact hK _ _ rfl (by simpa [slot_ne] using hr)
    · intro L a w4 Kx hl hsz hs ht hr he hK
      refine step_plain rfl ?_
      have h15 : a.tmps.getD 15 undef = .pointer (some ⟨b, 9, none⟩) := ht 6 (he 6 (by kernel_rfl)) 15 rfl
      have hp := HP.out.below hr.1 hblt
      have c9 := hp.rest_cell
      go_simp
      exact hK _ _ rfl (by simpa [slot_ne] using hr)
    · intro L a w4 Kx hl hsz hs ht hr he hK
      refine step_plain rfl ?_
      have h0 : a.tmps.getD 0 undef = .pointer (some ⟨b, 0, none⟩) := (hs 0 (by decide)).trans rfl
      go_simp
      exact hK _ _ rfl (by simpa [slot_ne] using hr)
    · intro L a w4 Kx hl hsz hs ht hr he hK
      refine step_plain rfl ?_
      have h17 : a.tmps.getD 17 undef = .pointer (some ⟨b, 0, none⟩) := ht 8 (he 8 (by kernel_rfl)) 17 rfl
      go_simp
      exact hK _ _ rfl (by simpa [slot_ne] using hr)
    · intro L a w4 Kx hl hsz hs ht hr he hK
      refine step_plain rfl ?_
      have h18 : a.tmps.getD 18 undef = .pointer (some ⟨b, 0, none⟩) := ht 9 (he 9 (by kernel_rfl)) 18 rfl
      go_simp
      exact hK _ _ rfl (by simpa [slot_ne] using hr)
    · intro L a w4 Kx hl hsz hs ht hr he hK
      refine step_plain rfl ?_
      have h19 : a.tmps.getD 19 undef = .pointer (some ⟨b, 8, none⟩) := ht 10 (he 10 (by kernel_rfl)) 19 rfl
      have hp := HP.out.below hr.1 hblt
      have c8 := hp.n_cell
      go_simp
      exact hK _ _ rfl (by simpa [slot_ne] using hr)
    · intro L a w4 Kx hl hsz hs ht hr he hK
      refine step_plain rfl ?_
      have h20 : a.tmps.getD 20 undef = .int .u64 (bvi (n)) := ht 11 (he 11 (by kernel_rfl)) 20 rfl
      go_simp
      refine (Pad_as n pd HPD.out _).mono ?_
      rintro e w5 ⟨rfl, hb5⟩
      exact hK _ _ rfl (by simpa [slot_ne] using (show Below w.heap.size w w5 ∧ (L 18 = true → ∃ g, slot a 3 = .pointer (some ⟨g, 0, none⟩) ∧ w.heap.size ≤ g ∧ RowAt w5 g (words (if L 19 = true then V else zero8)).toArray 27 (0, 0)) ∧ (L 19 = true → L 18 = true) from ⟨bthen hr.1 hb5, fun h => by obtain ⟨g, h3, hg, hrow⟩ := hr.2.1 h; exact ⟨g, h3, hg, hrow.below hb5 hrow.lt⟩, hr.2.2⟩))
    · intro L a w4 Kx hl hsz hs ht hr he hK
      refine step_plain rfl ?_
      have h16 : a.tmps.getD 16 undef = .string r := ht 7 (he 7 (by kernel_rfl)) 16 rfl
      have h21 : a.tmps.getD 21 undef = .string pd := ht 12 (he 12 (by kernel_rfl)) 21 rfl
      have hov2 : ¬ 9223372036854775807 < r.size + pd.size := by omega
      go_simp
      exact hK _ _ rfl (by simpa [slot_ne] using hr)
    · intro L a w4 Kx hl hsz hs ht hr he hK
      refine step_plain rfl ?_
      have h12 : a.tmps.getD 12 undef = .agg (words S).toArray := ht 3 (he 3 (by kernel_rfl)) 12 rfl
      have h22 : a.tmps.getD 22 undef = .string (r ++ pd) := ht 13 (he 13 (by kernel_rfl)) 22 rfl
      go_simp
      refine (mix_walk S HLS.out (r ++ pd) V HV.out r2 HR2.out _).mono ?_
      rintro e w5 ⟨rfl, hb5⟩
      exact hK _ _ rfl (by simpa [slot_ne] using (show Below w.heap.size w w5 ∧ (L 18 = true → ∃ g, slot a 3 = .pointer (some ⟨g, 0, none⟩) ∧ w.heap.size ≤ g ∧ RowAt w5 g (words (if L 19 = true then V else zero8)).toArray 27 (0, 0)) ∧ (L 19 = true → L 18 = true) from ⟨bthen hr.1 hb5, fun h => by obtain ⟨g, h3, hg, hrow⟩ := hr.2.1 h; exact ⟨g, h3, hg, hrow.below hb5 hrow.lt⟩, hr.2.2⟩))
    · intro L a w4 Kx hl hsz hs ht hr he hK
      refine step_plain rfl ?_
      have h23 : a.tmps.getD 23 undef = .tuple #[.agg (words V).toArray, .string r2] := ht 14 (he 14 (by kernel_rfl)) 23 rfl
      go_simp
      exact hK _ _ rfl (by simpa [slot_ne] using hr)
    · intro L a w4 Kx hl hsz hs ht hr he hK
      refine step_plain rfl ?_
      have h8 : a.tmps.getD 8 undef = .tuple #[.agg (words V).toArray, .string r2] := ht 15 (he 15 (by kernel_rfl)) 8 rfl
      go_simp
      exact hK _ _ rfl (by simpa [slot_ne] using hr)
    · intro L a w4 Kx hl hsz hs ht hr he hK
      refine step_plain rfl ?_
      have h8 : a.tmps.getD 8 undef = .tuple #[.agg (words V).toArray, .string r2] := ht 15 (he 15 (by kernel_rfl)) 8 rfl
      go_simp
      exact hK _ _ rfl (by simpa [slot_ne] using hr)
    · intro L a w4 Kx hl hsz hs ht hr he hK
      refine step_plain rfl ?_
      have hx : L 19 = false := by
        cases hy : L 19 with
        | false => rfl
        | true => have := hr.2.2 hy; rw [hl] at this; cases this
      go_simp
      refine hK _ _ trivial ⟨below_alloc' hr.1 _, fun _ => ⟨w4.heap.size, slot_out (by rw [hsz]; exact of_decide_eq_true (by kernel_rfl)), hr.1.size, ?_⟩, fun h => ?_⟩
      · show RowAt _ _ (words (if (L 19 || false) = true then _ else _)).toArray _ _
        rw [hx]
        exact RowAt.new w4 _ _ _
      · show (L 18 || true) = true
        rw [Bool.or_true]
    · intro L a w4 Kx hl hsz hs ht hr he hK
      refine step_plain rfl ?_
      have h24 : a.tmps.getD 24 undef = .agg (words V).toArray := ht 16 (he 16 (by kernel_rfl)) 24 rfl
      obtain ⟨g, h3, hg, hrow⟩ := hr.2.1 (he 18 (by kernel_rfl))
      rw [hl] at hrow
      refine wp_store_row 27 _ _ rfl g (words V).toArray h3 h24 27 _ hrow.out (w8_info _ HLV.out) (by rw [if_neg (by decide), words_size, words_size, HLV.out]; rfl) (wordsS_cells _) (hK _ _ trivial ⟨Go.Proofs.Ytdfgcjjaiggpkaa.Below.setRow hr.1 hg _, fun _ => ⟨g, h3, hg, ?_⟩, fun _ => ?_⟩)
      · show RowAt _ _ (words (if (L 19 || true) = true then _ else _)).toArray _ _
        rw [Bool.or_true, if_pos rfl]
        exact hrow.setRow _
      · show (L 18 || false) = true
        rw [he 18 (by kernel_rfl)]; rfl
    · intro L a w4 Kx hl hsz hs ht hr he hK
      refine step_plain rfl ?_
      have h25 : a.tmps.getD 25 undef = .string r2 := ht 17 (he 17 (by kernel_rfl)) 25 rfl
      go_simp
      exact hK _ _ rfl (by simpa [slot_ne] using hr)
  · intro f L w4 hf hall hr
    obtain ⟨g, h3, hg, hrow⟩ := hr.2.1 (hall 18 (by decide))
    rw [hall 19 (by decide), if_pos rfl] at hrow
    have P1 := Lib.hid hrow
    have P2 := Lib.hid hr.1
    simp only [List.foldl, Act.put, List.setIfInBounds_toArray, List.set_cons_zero, List.set_cons_succ]
    rw [h3]
    clear hf h3
    generalize f 9 = z9
    generalize f 10 = z10
    generalize f 11 = z11
    generalize f 12 = z12
    generalize f 13 = z13
    generalize f 14 = z14
    generalize f 15 = z15
    generalize f 16 = z16
    generalize f 17 = z17
    generalize f 18 = z18
    generalize f 19 = z19
    generalize f 20 = z20
    generalize f 21 = z21
    generalize f 22 = z22
    generalize f 23 = z23
    generalize f 8 = z8
    generalize f 24 = z24
    generalize f 25 = z25
    generalize f 4 = z4
    clear hall hr hrow
    go_wp2_with (with_reducible refine wpList_load_row rfl 27 (.tmp 3) rfl g ?h1 27 (words V).toArray (0, 0) _ (P1.out.alloc _).out Try.underlying27 rfl ?h2 ?_)
    case h1 => rfl
    case h2 => exact w8_info _ HLV.out
    have hO := Lib.hid (isBuilder_new 78 5 (w := w4) (Nat.le_refl w4.heap.size))
    have HBB := Lib.hid (below_alloc' P2.out (.cells #[.pointer none, .slice none 0 0] 78))
    have zz : w4.heap.size ≤ (w4.alloc (.cells #[.pointer none, .slice none 0 0] 78)).heap.size := by simp
    have zw := P2.out.size
    generalize w4.alloc (.cells #[.pointer none, .slice none 0 0] 78) = w5 at hO HBB zz ⊢
    generalize w4.heap.size = bb at hO zz zw ⊢
    clear P1 P2
    go_loopw [27] (fun i wz => ∃ k : Nat, k ≤ 8 ∧ i = .int .i64 k ∧ Lib.IsBuilderF 78 5 bb bb (cells (bytesS V k)) wz ∧ Below w.heap.size w wz ∧ bb ≤ wz.heap.size) (fun i _ => 8 - (intOf i).toNat)
    case atStart => exact ⟨0, Nat.zero_le _, rfl, hO.out, HBB.out, zz⟩
    case round =>
      obtain ⟨k, hk, rfl, r1, r4, zz⟩ := hrel
      have R1 := Lib.hid r1
      have R4 := Lib.hid r4
      have HOL := Lib.hid (bytesS_length V k)
      clear r1 r4
      rcases Nat.lt_or_ge k 8 with hlt | hge
      · have hix := fun wx => state_index V HLV.out k hlt wx
        have HBS := Lib.hid (bytesS_succ V k)
        generalize V.getD k 0 = x at hix HBS
        go_wp2_with fail
        clear hix
        obtain ⟨rl, hrl⟩ : ∃ rl, Is rl (highL (BitVec.setWidth 64 x) 4) := ⟨_, Is.of _⟩
        have hzl : rl.size = 4 := by rw [hrl.size, highL_length]
        have HRL := Lib.hid hrl
        have HZL := Lib.hid hzl
        clear hrl hzl
        refine (High_as _ 4 rl HRL.out _).mono ?_
        rintro e w6 ⟨rfl, hb6⟩
        have h1 := isBuilder_below R1.out hb6
        have HB6 := Lib.hid hb6
        clear hb6
        go_wp2_with fail
        refine (WriteString_k 78 liesBuilder bb bb _ rl _ h1 (by rw [cells_length, HOL.out, HZL.out]; omega) (Nat.le_trans zz HB6.out.size)).mono ?_
        rintro e w7 ⟨rfl, h6, hb7, _⟩
        go_wp2_with fail
        go_roundw
        case rel =>
          refine ⟨k + 1, by omega, by go_num, ?_, (bthen R4.out HB6.out).trans (hb7.mono zw), Nat.le_trans zz (Nat.le_trans HB6.out.size hb7.size)⟩
          rw [HBS.out, cells_append, ← strCells_cells HRL.out]
          exact .inr h6
        case measure => simp [intOf]; omega
      · obtain rfl : k = 8 := by omega
        go_wp2_with fail
        refine (String_any_k 78 bb bb _ _ R1.out zz).mono ?_
        rintro e w6 ⟨rfl, _, hb6, _⟩
        go_wp2_with fail
        go_ret
        exact ⟨ret_val (congrArg Value.string (HQ.out.eq).symm), R4.out.trans (hb6.mono zw)⟩

set_option maxRecDepth 100000 in
set_option maxHeartbeats 1000000 in
theorem ShaSum_walk (s : ByteArray) (hs : s.size ≤ 140737488351232) (q : ByteArray) (hq : Is q (shaL s.data.toList)) (w : World) :
    Calls Try.prog 16 #[.string s] w fun e w' => e = .returned (.string q) ∧ Below w.heap.size w w' := by
  have HQ := Lib.hid hq
  clear hq
  go_enter Try.func16, Try.ntmps16
  go_wp2_with fail
  refine (ShaNew_walk _).mono ?_
  rintro e w1 ⟨rfl, h1, hz1, hb1⟩
  obtain ⟨b, hb⟩ : ∃ b, b = w1.heap.size - 1 := ⟨_, rfl⟩
  have hwb : w.heap.size ≤ b := by omega
  rw [← hb] at h1 ⊢
  have H1 := Lib.hid h1
  have HB1 := Lib.hid hb1
  clear hb h1 hb1
  go_wp2_with fail
  refine (HAdd_walk b [] s hs _ H1.out).mono ?_
  rintro e w2 ⟨rfl, h2, ho2⟩
  have H2 := Lib.hid (show HashAt w2 b s.data.toList from h2)
  have HB2 := Lib.hid (HB1.out.trans (ho2.below hwb HB1.out.size))
  clear h2 ho2
  go_wp2_with fail
  refine (HSum_walk b s.data.toList q HQ.out _ H2.out).mono ?_
  rintro e w3 ⟨rfl, hb3⟩
  go_wp2_with fail
  go_ret
  exact ⟨rfl, bthen HB2.out hb3⟩
end Go.Proofs.Ytdfgcjjaiggpkaa
