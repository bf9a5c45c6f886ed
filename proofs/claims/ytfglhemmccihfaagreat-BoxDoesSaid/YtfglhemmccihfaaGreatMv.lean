/-
Layer 7's laws, walked: BoxDoes.
-/
import Derived.Test.YtfglhemmccihfaaGreatMr
import Derived.Test.YtfglhemmccihfaaGreatMt
namespace Go.Proofs.YtfglhemmccihfaaGreat
open Go.RowKit Go.Maps

/-- Two boxes that answer alike: the program's in block bb, the reference's in block rb; what turns lies in the blocks S; Pr m: behind m acts. -/
structure Boxes (bb rb : Nat) (S : List Nat) (Pr : Nat → World → Prop) : Prop where
  below : ∀ m w w', Pr m w → Below w.heap.size w w' → Pr m w'
  lt : ∀ m w, Pr m w → ∀ i ∈ S, i < w.heap.size
  more : ∀ m w, Pr m w → Pr (m + 1) w
  seals : ∀ m w (k n d t : ByteArray), m ≤ 1000 → k.size ≤ 100 → n.size ≤ 100 → d.size ≤ 500 → t.size ≤ 500 → Pr m w → ∃ (r : ByteArray) (c : Int) (Mid : World → Prop), r.size ≤ 20000 ∧
    (Calls Tryz.prog 10 #[.pointer (some ⟨bb, 0, none⟩), .string k, .string n, .string d, .string t] w fun e w' => e = .returned (.tuple #[.string r, .int .i64 c]) ∧ Mid w' ∧ Beside S w w') ∧
    ∀ w1, Mid w1 → Calls Tryz.prog 11 #[.pointer (some ⟨rb, 0, none⟩), .string k, .string n, .string d, .string t] w1 fun e w' => e = .returned (.tuple #[.string r, .int .i64 c]) ∧ Pr (m + 1) w' ∧ Beside S w1 w'
  opens : ∀ m w (k n d t : ByteArray), m ≤ 1000 → k.size ≤ 100 → n.size ≤ 100 → d.size ≤ 500 → t.size ≤ 20000 → Pr m w → ∃ (r : ByteArray) (c : Int) (Mid : World → Prop),
    (Calls Tryz.prog 12 #[.pointer (some ⟨bb, 0, none⟩), .string k, .string n, .string d, .string t] w fun e w' => e = .returned (.tuple #[.string r, .int .i64 c]) ∧ Mid w' ∧ Beside S w w') ∧
    ∀ w1, Mid w1 → Calls Tryz.prog 13 #[.pointer (some ⟨rb, 0, none⟩), .string k, .string n, .string d, .string t] w1 fun e w' => e = .returned (.tuple #[.string r, .int .i64 c]) ∧ Pr m w' ∧ Beside S w1 w'
  counts : ∀ m w, Pr m w → ∃ (x y : Nat) (ao : Option Addr) (cap : Nat) (dr : ByteArray), dr.size = y ∧ w.cell? ⟨rb, 1, none⟩ = some (.string dr) ∧ w.cell? ⟨rb, 2, none⟩ = some (.slice ao x cap) ∧
    (∀ w1, w1 = w → Calls Tryz.prog 14 #[.pointer (some ⟨bb, 0, none⟩)] w1 fun e w' => e = .returned (.int .i64 (x : Int)) ∧ w1 = w') ∧ (∀ w1, w1 = w → Calls Tryz.prog 15 #[.pointer (some ⟨bb, 0, none⟩)] w1 fun e w' => e = .returned (.int .i64 (y : Int)) ∧ w1 = w')
def PairI (bb mb rb : Nat) (m : Nat) (w : World) : Prop := ∃ st : BoxSt, st.tab.length ≤ m ∧ (∀ e ∈ st.tab, e.s.size ≤ 20000) ∧ BoxAt w bb mb st ∧ RBoxAt w rb st
theorem sealB_keeps {st : BoxSt} {k n d t r : ByteArray} {c : Int} {st' : BoxSt} (h : sealB st k n d t = (r, c, st')) (ht : t.size ≤ 500) (hs : ∀ e ∈ st.tab, e.s.size ≤ 20000) : r.size ≤ 20000 ∧ st'.tab.length ≤ st.tab.length + 1 ∧ ∀ e ∈ st'.tab, e.s.size ≤ 20000 := by
  have hnil : (⟨#[]⟩ : ByteArray).size ≤ 20000 := by decide
  have key : ∀ (x : ByteArray × Int × BoxSt), x = (r, c, st') → (x.1.size ≤ 20000 ∧ x.2.2.tab.length ≤ st.tab.length + 1 ∧ ∀ e ∈ x.2.2.tab, e.s.size ≤ 20000) → r.size ≤ 20000 ∧ st'.tab.length ≤ st.tab.length + 1 ∧ ∀ e ∈ st'.tab, e.s.size ≤ 20000 := by
    rintro x rfl h
    exact h
  refine key _ h ?_
  unfold sealB
  split
  · cases hf : findB st.tab k n with
    | some e =>
      simp only
      split
      · exact ⟨hs e (findB_some hf).1, Nat.le_succ _, hs⟩
      · exact ⟨hnil, Nat.le_succ _, hs⟩
    | none =>
      simp only
      split
      · exact ⟨hnil, Nat.le_succ _, hs⟩
      · have hz : (st.draws.extract 0 (t.size + 16)).size ≤ 20000 := by rw [ByteArray.size_extract]; omega
        refine ⟨hz, by simp, fun e he => ?_⟩
        rcases List.mem_append.1 he with he | he
        · exact hs e he
        · obtain rfl := List.mem_singleton.1 he
          exact hz
  · exact ⟨hnil, Nat.le_succ _, hs⟩
theorem boxes_ideal (bb mb rb : Nat) : Boxes bb rb [bb, mb, rb] (PairI bb mb rb) where
  below := by
    rintro m w w' ⟨st, h1, h2, h3, h4⟩ hb
    exact ⟨st, h1, h2, h3.below hb, h4.below hb⟩
  lt := by
    rintro m w ⟨st, h1, h2, h3, h4⟩ i hi
    have l1 := h3.1.lt
    have l2 := h3.2.lt
    have l3 := h4.lt
    simp at hi
    omega
  more := by
    rintro m w ⟨st, h1, h2, h3, h4⟩
    exact ⟨st, by omega, h2, h3, h4⟩
  seals := by
    rintro m w k n d t hm hk hn hd ht ⟨st, h1, h2, h3, h4⟩
    obtain ⟨r, c, st', hsl⟩ : ∃ r c st', sealB st k n d t = (r, c, st') := ⟨_, _, _, rfl⟩
    obtain ⟨z1, z2, z3⟩ := sealB_keeps hsl ht h2
    refine ⟨r, c, fun w1 => BoxAt w1 bb mb st' ∧ RBoxAt w1 rb st, z1, ?_, ?_⟩
    · refine (BSeal_walk bb mb st k n d t (Nat.le_trans hk (by decide)) (Nat.le_trans hn (by decide)) (by omega) w h3 (Nat.lt_of_le_of_lt h1 (Nat.lt_of_le_of_lt hm (by decide))) r c st' hsl).mono ?_
      rintro e w1 ⟨e1, e2, e3⟩
      exact ⟨e1, ⟨e2, h4.beside_box h3 e3⟩, e3.mono (by intro i hi; simp at hi ⊢; omega)⟩
    · rintro w1 ⟨g1, g2⟩
      refine (RBSeal_walk rb st k n d t w1 g2 (by omega) r c st' hsl).mono ?_
      rintro e w2 ⟨e1, e2, e3⟩
      exact ⟨e1, ⟨st', by omega, z3, g1.beside_ref g2 e3, e2⟩, e3.mono (by intro i hi; simp at hi ⊢; omega)⟩
  opens := by
    rintro m w k n d t hm hk hn hd ht ⟨st, h1, h2, h3, h4⟩
    obtain ⟨r, c, hol⟩ : ∃ r c, openB st k n d t = (r, c) := ⟨_, _, rfl⟩
    refine ⟨r, c, fun w1 => BoxAt w1 bb mb st ∧ RBoxAt w1 rb st, ?_, ?_⟩
    · refine (BOpen_walk bb mb st k n d t (Nat.le_trans hk (by decide)) (Nat.le_trans hn (by decide)) (by omega) w h3 r c hol).mono ?_
      rintro e w1 ⟨e1, e2⟩
      exact ⟨e1, ⟨h3.below e2, h4.below e2⟩, Beside.of_below e2⟩
    · rintro w1 ⟨g1, g2⟩
      refine (RBOpen_walk rb st k n d t w1 g2 (by omega) r c hol).mono ?_
      rintro e w2 ⟨e1, rfl⟩
      exact ⟨e1, ⟨st, h1, h2, g1, g2⟩, Beside.refl _ _⟩
  counts := by
    rintro m w ⟨st, h1, h2, h3, v, h4, h5⟩
    have hv : ∃ ao cap, v = .slice ao st.tab.length cap := by
      rcases owns_rows h5 with ⟨rfl, e2⟩ | ⟨g, cap, rfl, _⟩
      · exact ⟨none, 0, by rw [e2]; rfl⟩
      · exact ⟨_, cap, rfl⟩
    obtain ⟨ao, cap, rfl⟩ := hv
    exact ⟨st.tab.length, st.draws.size, ao, cap, st.draws, rfl, h4.cell (i := 1) rfl, h4.cell (i := 2) rfl, (by rintro w1 rfl; exact BLen_walk bb mb st _ h3), (by rintro w1 rfl; exact BLeft_walk bb mb st _ h3)⟩
def PairR (bb rb : Nat) (_m : Nat) (w : World) : Prop := RealAt w bb ∧ RRealAt w rb
theorem boxes_real (bb rb : Nat) : Boxes bb rb [bb, rb] (PairR bb rb) where
  below := fun m w w' h hb => ⟨RowAt.below h.1 hb (RowAt.lt h.1), RowAt.below h.2 hb (RowAt.lt h.2)⟩
  lt := by
    rintro m w ⟨h1, h2⟩ i hi
    have l1 := RowAt.lt h1
    have l2 := RowAt.lt h2
    simp at hi
    omega
  more := fun m w h => h
  seals := by
    rintro m w k n d t hm hk hn hd ht ⟨h1, h2⟩
    by_cases hsz : k.size = 32 ∧ n.size = 12
    · obtain ⟨q, hq⟩ : ∃ s, Is s (sealL k.data.toList n.data.toList d.data.toList t.data.toList) := ⟨_, Is.of _⟩
      refine ⟨q, 0, fun w1 => RealAt w1 bb ∧ RRealAt w1 rb, ?_, ?_, ?_⟩
      · rw [hq.size, sealL_length, Array.length_toList]
        show t.size + 16 ≤ 20000
        omega
      · refine (RealSeal_ok bb k n d t hsz.1 hsz.2 (by omega) (by omega) q hq w h1).mono ?_
        rintro e w1 ⟨e1, e2⟩
        exact ⟨e1, ⟨RowAt.below h1 e2 (RowAt.lt h1), RowAt.below h2 e2 (RowAt.lt h2)⟩, Beside.of_below e2⟩
      · rintro w1 ⟨g1, g2⟩
        refine (RRSeal_ok rb k n d t hsz.1 hsz.2 (by omega) (by omega) q hq w1 g2).mono ?_
        rintro e w2 ⟨e1, e2⟩
        exact ⟨e1, ⟨RowAt.below g1 e2 (RowAt.lt g1), RowAt.below g2 e2 (RowAt.lt g2)⟩, Beside.of_below e2⟩
    · refine ⟨⟨#[]⟩, 5, fun w1 => RealAt w1 bb ∧ RRealAt w1 rb, by decide, ?_, ?_⟩
      · refine (RealSeal_no bb k n d t (Or.inl hsz) w h1).mono ?_
        rintro e w1 ⟨e1, rfl⟩
        exact ⟨e1, ⟨h1, h2⟩, Beside.refl _ _⟩
      · rintro w1 ⟨g1, g2⟩
        refine (RRSeal_no rb k n d t (Or.inl hsz) w1 g2).mono ?_
        rintro e w2 ⟨e1, e2⟩
        exact ⟨e1, ⟨RowAt.below g1 e2 (RowAt.lt g1), RowAt.below g2 e2 (RowAt.lt g2)⟩, Beside.of_below e2⟩
  opens := by
    rintro m w k n d t hm hk hn hd ht ⟨h1, h2⟩
    obtain ⟨q, c, hq⟩ : ∃ q c, Is q (openA k.data.toList n.data.toList d.data.toList t.data.toList).1 ∧ c = (openA k.data.toList n.data.toList d.data.toList t.data.toList).2 := ⟨_, _, Is.of _, rfl⟩
    refine ⟨q, c, fun w1 => RealAt w1 bb ∧ RRealAt w1 rb, ?_, ?_⟩
    · refine (RealOpen_walk bb k n d t (by omega) q c hq w h1).mono ?_
      rintro e w1 ⟨e1, e2⟩
      exact ⟨e1, ⟨RowAt.below h1 e2 (RowAt.lt h1), RowAt.below h2 e2 (RowAt.lt h2)⟩, Beside.of_below e2⟩
    · rintro w1 ⟨g1, g2⟩
      refine (RROpen_walk rb k n d t (by omega) q c hq w1 g2).mono ?_
      rintro e w2 ⟨e1, e2⟩
      exact ⟨e1, ⟨RowAt.below g1 e2 (RowAt.lt g1), RowAt.below g2 e2 (RowAt.lt g2)⟩, Beside.of_below e2⟩
  counts := by
    rintro m w ⟨h1, h2⟩
    exact ⟨0, 0, none, 0, ⟨#[]⟩, rfl, RowAt.cell h2 (i := 1) rfl, RowAt.cell h2 (i := 2) rfl, (by rintro w1 rfl; exact LenR_walk bb _ h1), (by rintro w1 rfl; exact LeftR_walk bb _ h1)⟩
set_option maxRecDepth 100000 in
set_option maxHeartbeats 8000000 in
theorem BoxDoes_w (ideal : Bool) (draws : ByteArray) (ao : Option Addr) (cap : Nat) (l : List ActB) (w : World) (hat : ActsAt w ao l) (hok : ∀ a ∈ l, a.ok) :
    Calls Tryz.prog 3 #[.bool ideal, .string draws, .slice ao l.length cap] w fun e w' => e = .returned (.bool true) ∧ Below w.heap.size w w' := by
  have HAT := Lib.hid hat
  have HOK := Lib.hid hok
  clear hat hok
  by_cases h1 : 8192 < draws.size
  · have g1 : decide ((8192 : Int) < (draws.size : Int)) = true := decide_eq_true (by omega)
    clear h1
    go_enter Tryz.func3, Tryz.ntmps3
    go_wp2_with fail
    refine (awake07 _).mono ?_
    rintro e w1 ⟨rfl, hb1⟩
    have HB1 := Lib.hid hb1
    clear hb1
    go_wp2_with fail
    go_ret
    exact ⟨rfl, HB1.out⟩
  have g1 : decide ((8192 : Int) < (draws.size : Int)) = false := decide_eq_false (by omega)
  clear h1
  go_enter Tryz.func3, Tryz.ntmps3
  go_wp2_with fail
  refine (awake07 _).mono ?_
  rintro e w1 ⟨rfl, hb1⟩
  have HB1 := Lib.hid hb1
  clear hb1
  go_wp2_with fail
  refine (Real_walk _).mono ?_
  rintro e w2 ⟨rfl, hx2, hb2⟩
  have HB2 := Lib.hid (bthen HB1.out hb2)
  have HX2 := Lib.hid hx2
  have HZ1 := Lib.hid HB1.out.size
  clear hx2 hb2
  generalize w1.heap.size = b1 at HX2 HZ1 ⊢
  go_upto_if 28 with fail
  go_cut [7, 8] (fun bv rv wx => ∃ (bb rb : Nat) (S : List Nat) (Pr : Nat → World → Prop), bv = .pointer (some ⟨bb, 0, none⟩) ∧ rv = .pointer (some ⟨rb, 0, none⟩) ∧ Boxes bb rb S Pr ∧ Pr 0 wx ∧ (∀ i ∈ S, w.heap.size ≤ i) ∧ Below w.heap.size w wx)
  case first =>
    cases ideal with
    | false =>
      have HB3 := Lib.hid (below_alloc' HB2.out (.cells #[.bool false, .string ⟨#[]⟩, .slice none 0 0] 29))
      have HX3 : Hid (RealAt (w2.alloc (.cells #[.bool false, .string ⟨#[]⟩, .slice none 0 0] 29)) b1) := Lib.hid (RowAt.alloc HX2.out _)
      have hz2 := HB2.out.size
      go_wp2_with fail
      go_meet
      exact ⟨b1, w2.heap.size, [b1, w2.heap.size], PairR b1 w2.heap.size, rfl, rfl, boxes_real _ _, ⟨HX3.out, RowAt.new w2 _ _ _⟩, (by have := HZ1.out; simp; omega), HB3.out⟩
    | true =>
      have HB3 := Lib.hid (below_alloc' HB2.out (.cells #[.bool false, .string ⟨#[]⟩, .slice none 0 0] 29))
      go_wp2_with fail
      refine (Ideal_walk draws _).mono ?_
      rintro e w3 ⟨rfl, hx3, hb3⟩
      have HB4 := Lib.hid (bthen HB3.out hb3)
      have HZ3 := Lib.hid HB3.out.size
      clear hb3
      generalize (w2.alloc (.cells #[.bool false, .string ⟨#[]⟩, .slice none 0 0] 29)).heap.size = mb at hx3 HZ3 ⊢
      have HX3 := Lib.hid hx3
      have HB5 := Lib.hid (below_alloc' HB4.out (.cells #[.bool true, .string draws, .slice none 0 0] 29))
      have hz4 := HB4.out.size
      clear hx3
      go_wp2_with fail
      go_meet
      refine ⟨mb + 1, w3.heap.size, [mb + 1, mb, w3.heap.size], PairI (mb + 1) mb w3.heap.size, rfl, rfl, boxes_ideal _ _ _, ⟨⟨draws, []⟩, Nat.le_refl _, (fun e he => by cases he), ?_, ?_⟩, (by have := HZ3.out; simp; omega), HB5.out⟩
      · exact HX3.out.below ((Below.refl _ _).alloc (Nat.le_refl _) _)
      · exact ⟨_, RowAt.new w3 _ _ _, rfl, .inl ⟨rfl, rfl⟩⟩
  case rest =>
    obtain ⟨bb, rb, S, Pr, rfl, rfl, hbx, hpr, hS, hbc⟩ := hcut
    have HBX := Lib.hid hbx
    have HP0 := Lib.hid hpr
    have HSS := Lib.hid hS
    have HBC := Lib.hid hbc
    clear hbx hpr hS hbc HB1 HB2 HX2 HZ1
    go_wp2_with fail
    go_loopw [9, 10] (fun last i wr => ∃ k : Nat, k ≤ l.length ∧ k ≤ 40 ∧ i = .int .i64 k ∧ ∃ L : ByteArray, last = .string L ∧ L.size ≤ 20000 ∧ Hid (Pr k wr) ∧ Hid (Below w.heap.size w wr)) (fun _ i _ => 40 - (intOf i).toNat)
    case atStart => exact ⟨0, Nat.zero_le _, Nat.zero_le _, rfl, _, rfl, by decide, HP0.out, HBC.out⟩
    case round =>
      obtain ⟨k, hk1, hk2, rfl, LS, rfl, hlz, HP, HB⟩ := hrel
      rcases Nat.lt_or_ge k l.length with hlt | hge
      · have d1 : decide ((k : Int) < (l.length : Int)) = true := decide_eq_true (by omega)
        rcases Nat.lt_or_ge k 40 with hlt2 | hge2
        · have d2 : decide ((k : Int) < 40) = true := decide_eq_true (by omega)
          obtain ⟨ab, off, rfl, hal, a0, a1, a2, a3, a4⟩ := (HAT.out.below HB.out) k hlt
          have HQO := Lib.hid (HOK.out _ (List.getElem_mem hlt))
          have hfr := HB.out.size
          generalize l[k] = q at a0 a1 a2 a3 a4 HQO
          have h0 := Lib.hid a0
          have h1 := Lib.hid a1
          have h2 := Lib.hid a2
          have h3 := Lib.hid a3
          have h4 := Lib.hid a4
          go_wp2_with fail
          refine (large07 q _).mono ?_
          rintro e w2 ⟨rfl, hb2⟩
          have HB2 := Lib.hid (bthen HB.out hb2)
          have HP2 := Lib.hid (HBX.out.below _ _ _ HP.out hb2)
          have hal2 : ab < w2.heap.size := Nat.lt_of_lt_of_le hal hb2.size
          clear a0 a1 a2 a3 a4
          have a0 := (hb2.cell (p := ⟨ab, off + k * 5, none⟩) hal).trans h0.out
          have a1 := (hb2.cell (p := ⟨ab, off + k * 5 + 1, none⟩) hal).trans h1.out
          have a2 := (hb2.cell (p := ⟨ab, off + k * 5 + 2, none⟩) hal).trans h2.out
          have a3 := (hb2.cell (p := ⟨ab, off + k * 5 + 3, none⟩) hal).trans h3.out
          have a4 := (hb2.cell (p := ⟨ab, off + k * 5 + 4, none⟩) hal).trans h4.out
          clear hb2 HB HP hal
          rcases Bool.eq_false_or_eq_true (largeB q) with hL | hL
          · rw [hL]
            clear hL
            go_wp2_with fail
            go_ret
            exact ⟨rfl, HB2.out⟩
          have HL := Lib.hid hL
          rw [hL]
          clear hL
          go_wp2_with fail
          refine (fixed07 q HQO.out.1 HQO.out.2 HL.out _).mono ?_
          rintro e w3 ⟨rfl, hb3⟩
          have HB3 := Lib.hid (bthen HB2.out hb3)
          have HP3 := Lib.hid (HBX.out.below _ _ _ HP2.out hb3)
          obtain ⟨x, hx⟩ : ∃ x, x = fixedB q := ⟨_, rfl⟩
          obtain ⟨hz1, hz2, hz3, hz4⟩ := fixedB_sizes HL.out
          rw [← hx] at hz1 hz2 hz3 hz4 ⊢
          clear hb3 a0 a1 a2 a3 a4 hx HB2 HP2 hal2
          unfold actV
          have hz0 := RowAt.new w3 #[.int .i64 0, .string ⟨#[]⟩, .string ⟨#[]⟩, .string ⟨#[]⟩, .string ⟨#[]⟩] 33 (0, 0)
          go_upto_region 17 with (with_reducible refine wpList_store_rowTo rfl 33 (.tmp 11) (.tmp 53) rfl rfl w3.heap.size (actC x) ?h1 ?h2 33 #[.int .i64 0, .string ⟨#[]⟩, .string ⟨#[]⟩, .string ⟨#[]⟩, .string ⟨#[]⟩] ?h0 ?h3 ?h4 ?h5 ?_)
          case h0 => exact hz0.out
          case h1 => rfl
          case h2 => rfl
          case h3 => kernel_rfl
          case h4 => rfl
          case h5 => simp [actC, Value.oneCell']
          have hWA : Below w3.heap.size w3 ((w3.alloc (.cells #[.int .i64 0, .string ⟨#[]⟩, .string ⟨#[]⟩, .string ⟨#[]⟩, .string ⟨#[]⟩] 33)).setRow w3.heap.size (actC x)) := Below.setRow ((Below.refl _ _).alloc (Nat.le_refl _) _) (Nat.le_refl _) _
          have HAA := Lib.hid (RowAt.setRow hz0 (actC x))
          have HBA := Lib.hid (bthen HB3.out hWA)
          have HPA := Lib.hid (HBX.out.below _ _ _ HP3.out hWA)
          have HNE := Lib.hid (show w3.heap.size ∉ S from fun h => Nat.lt_irrefl _ (HBX.out.lt _ _ HP3.out _ h))
          have HLW := Lib.hid (show w.heap.size ≤ w3.heap.size from HB3.out.size)
          have HWA := Lib.hid hWA
          clear hWA hz0 HB3
          generalize (w3.alloc (.cells #[.int .i64 0, .string ⟨#[]⟩, .string ⟨#[]⟩, .string ⟨#[]⟩, .string ⟨#[]⟩] 33)).setRow w3.heap.size (actC x) = wa at HAA HBA HPA HWA ⊢
          obtain ⟨xb, hxb⟩ : ∃ xb, xb = w3.heap.size := ⟨_, rfl⟩
          rw [← hxb] at HAA HNE HLW HWA ⊢
          have HXB := Lib.hid hxb
          clear hxb
          unfold actC at HAA
          have a0 := HAA.out.cell (i := 0) rfl
          go_upto_block 2 with fail
          clear a0
          go_cut [9] (fun last wx => ∃ L : ByteArray, last = .string L ∧ L.size ≤ 20000 ∧ Hid (Pr (k + 1) wx) ∧ Hid (Below w.heap.size w wx))
          case first =>
            by_cases hk0 : x.kind = 0
            · have e0 : (x.kind == 0) = true := by rw [hk0]; rfl
              obtain ⟨r, c, Mid, hrz, hprog, href⟩ := HBX.out.seals k wa x.k x.n x.d x.t (by omega) hz1 hz2 hz3 hz4 HPA.out
              have HREF := Lib.hid href
              have HPROG := Lib.hid hprog
              clear href hprog hk0
              have a0 := HAA.out.cell (i := 0) rfl
              have a1 := HAA.out.cell (i := 1) rfl
              have a2 := HAA.out.cell (i := 2) rfl
              have a3 := HAA.out.cell (i := 3) rfl
              have a4 := HAA.out.cell (i := 4) rfl
              go_wp2_with fail
              refine HPROG.out.mono ?_
              rintro e wb ⟨rfl, hmid, hsb⟩
              have HMID := Lib.hid hmid
              have HBB := Lib.hid (HBA.out.trans (hsb.below HSS.out HBA.out.size))
              have HAB := Lib.hid (HAA.out.beside hsb HNE.out)
              clear hmid hsb
              clear a0 a1 a2 a3 a4
              have a0 := HAB.out.cell (i := 0) rfl
              have a1 := HAB.out.cell (i := 1) rfl
              have a2 := HAB.out.cell (i := 2) rfl
              have a3 := HAB.out.cell (i := 3) rfl
              have a4 := HAB.out.cell (i := 4) rfl
              go_wp2_with fail
              refine (HREF.out wb HMID.out).mono ?_
              rintro e wd ⟨rfl, hpd, hsd⟩
              have HPD := Lib.hid hpd
              have HBD := Lib.hid (HBB.out.trans (hsd.below HSS.out HBB.out.size))
              have HAD := Lib.hid (HAB.out.beside hsd HNE.out)
              have hqq := seq_self r
              have hcc : (c != c) = false := bne_self_eq_false c
              clear hpd hsd
              clear a0 a1 a2 a3 a4
              by_cases hc0 : c = 0
              · have e1 : (c == 0) = true := by rw [hc0]; rfl
                clear hc0
                go_wp2_with fail
                go_meet
                exact ⟨r, rfl, hrz, HPD.out, HBD.out⟩
              · have e1 : (c == 0) = false := beq_eq_false_iff_ne.2 hc0
                clear hc0
                go_wp2_with fail
                go_meet
                exact ⟨LS, rfl, hlz, HPD.out, HBD.out⟩
            have e0 : (x.kind == 0) = false := beq_eq_false_iff_ne.2 hk0
            by_cases hk1 : x.kind = 1
            · have e1 : (x.kind == 1) = true := by rw [hk1]; rfl
              have e2 : (x.kind == 2) = false := by rw [hk1]; rfl
              obtain ⟨r, c, Mid, hprog, href⟩ := HBX.out.opens k wa x.k x.n x.d x.t (by omega) hz1 hz2 hz3 (by omega) HPA.out
              have HREF := Lib.hid href
              have HPROG := Lib.hid hprog
              clear href hprog hk0 hk1
              have a0 := HAA.out.cell (i := 0) rfl
              have a1 := HAA.out.cell (i := 1) rfl
              have a2 := HAA.out.cell (i := 2) rfl
              have a3 := HAA.out.cell (i := 3) rfl
              have a4 := HAA.out.cell (i := 4) rfl
              go_wp2_with fail
              refine HPROG.out.mono ?_
              rintro e wb ⟨rfl, hmid, hsb⟩
              have HMID := Lib.hid hmid
              have HBB := Lib.hid (HBA.out.trans (hsb.below HSS.out HBA.out.size))
              have HAB := Lib.hid (HAA.out.beside hsb HNE.out)
              clear hmid hsb
              clear a0 a1 a2 a3 a4
              have a0 := HAB.out.cell (i := 0) rfl
              have a1 := HAB.out.cell (i := 1) rfl
              have a2 := HAB.out.cell (i := 2) rfl
              have a3 := HAB.out.cell (i := 3) rfl
              have a4 := HAB.out.cell (i := 4) rfl
              go_wp2_with fail
              refine (HREF.out wb HMID.out).mono ?_
              rintro e wd ⟨rfl, hpd, hsd⟩
              have HPD := Lib.hid hpd
              have HBD := Lib.hid (HBB.out.trans (hsd.below HSS.out HBB.out.size))
              have HAD := Lib.hid (HAB.out.beside hsd HNE.out)
              have hqq := seq_self r
              have hcc : (c != c) = false := bne_self_eq_false c
              clear hpd hsd
              clear a0 a1 a2 a3 a4
              go_wp2_with fail
              go_meet
              exact ⟨LS, rfl, hlz, HBX.out.more _ _ HPD.out, HBD.out⟩
            have e1 : (x.kind == 1) = false := beq_eq_false_iff_ne.2 hk1
            by_cases hk2 : x.kind = 2
            · have e2 : (x.kind == 2) = true := by rw [hk2]; rfl
              have HPW := Lib.hid (HBX.out.below _ _ _ HP3.out (show Below w3.heap.size w3 (wa.setCell ⟨xb, 4, none⟩ (.string LS)) by rw [← HXB.out]; exact HWA.out.setCell (p := ⟨xb, 4, none⟩) (Nat.le_refl _) _))
              have HBW := Lib.hid (HBA.out.setCell (p := ⟨xb, 4, none⟩) HLW.out (.string LS))
              have HAW := Lib.hid (HAA.out.store 4 (.string LS))
              have a0 := HAA.out.cell (i := 0) rfl
              have a1 := HAA.out.cell (i := 1) rfl
              have a2 := HAA.out.cell (i := 2) rfl
              have a3 := HAA.out.cell (i := 3) rfl
              have a4 := HAA.out.cell (i := 4) rfl
              have f4 := HAA.out.free (i := 4) (by simp)
              have hst : ∀ w9, w9 = wa.setCell ⟨xb, 4, none⟩ (.string LS) → ∃ (r : ByteArray) (c : Int) (Mid : World → Prop), Hid (Calls Tryz.prog 12 #[.pointer (some ⟨bb, 0, none⟩), .string x.k, .string x.n, .string x.d, .string LS] w9 fun e w' => e = .returned (.tuple #[.string r, .int .i64 c]) ∧ Mid w' ∧ Beside S w9 w') ∧ Hid (∀ w1, Mid w1 → Calls Tryz.prog 13 #[.pointer (some ⟨rb, 0, none⟩), .string x.k, .string x.n, .string x.d, .string LS] w1 fun e w' => e = .returned (.tuple #[.string r, .int .i64 c]) ∧ Pr k w' ∧ Beside S w1 w') := by
                rintro w9 rfl
                obtain ⟨r, c, Mid, h1, h2⟩ := HBX.out.opens k _ x.k x.n x.d LS (by omega) hz1 hz2 hz3 hlz HPW.out
                exact ⟨r, c, Mid, h1, h2⟩
              have HST := Lib.hid hst
              clear hst hk0 hk1 hk2
              go_upto_region 29 with fail
              clear a0 a1 a2 a3 a4 f4
              obtain ⟨r, c, Mid, HPROG, HREF⟩ := HST.out _ rfl
              generalize wa.setCell ⟨xb, 4, none⟩ (.string LS) = wz at HPW HBW HAW HPROG ⊢
              have a0 := HAW.out.cell (i := 0) rfl
              have a1 := HAW.out.cell (i := 1) rfl
              have a2 := HAW.out.cell (i := 2) rfl
              have a3 := HAW.out.cell (i := 3) rfl
              have a4 := HAW.out.cell (i := 4) rfl
              go_wp2_with fail
              refine HPROG.out.mono ?_
              rintro e wb ⟨rfl, hmid, hsb⟩
              have HMID := Lib.hid hmid
              have HBB := Lib.hid (HBW.out.trans (hsb.below HSS.out HBW.out.size))
              have HAB := Lib.hid (HAW.out.beside hsb HNE.out)
              clear hmid hsb
              clear a0 a1 a2 a3 a4
              have a0 := HAB.out.cell (i := 0) rfl
              have a1 := HAB.out.cell (i := 1) rfl
              have a2 := HAB.out.cell (i := 2) rfl
              have a3 := HAB.out.cell (i := 3) rfl
              have a4 := HAB.out.cell (i := 4) rfl
              go_wp2_with fail
              refine (HREF.out wb HMID.out).mono ?_
              rintro e wd ⟨rfl, hpd, hsd⟩
              have HPD := Lib.hid hpd
              have HBD := Lib.hid (HBB.out.trans (hsd.below HSS.out HBB.out.size))
              have HAD := Lib.hid (HAB.out.beside hsd HNE.out)
              have hqq := seq_self r
              have hcc : (c != c) = false := bne_self_eq_false c
              clear hpd hsd
              clear a0 a1 a2 a3 a4
              go_wp2_with fail
              go_meet
              exact ⟨LS, rfl, hlz, HBX.out.more _ _ HPD.out, HBD.out⟩
            have e2 : (x.kind == 2) = false := beq_eq_false_iff_ne.2 hk2
            clear hk0 hk1 hk2
            have a0 := HAA.out.cell (i := 0) rfl
            have a1 := HAA.out.cell (i := 1) rfl
            have a2 := HAA.out.cell (i := 2) rfl
            have a3 := HAA.out.cell (i := 3) rfl
            have a4 := HAA.out.cell (i := 4) rfl
            go_wp2_with fail
            go_meet
            exact ⟨LS, rfl, hlz, HBX.out.more _ _ HPA.out, HBA.out⟩
          case rest =>
            obtain ⟨L2, rfl, hlz2, HP5, HB5⟩ := hcut
            have HPC := Lib.hid HP5.out
            obtain ⟨x_n, _, ao, cap, dr, rfl, hc1, hc2, hlen, hleft⟩ := HBX.out.counts _ _ (HBX.out.below _ _ _ HP5.out ((Below.refl _ _).drew))
            have HLEN := Lib.hid hlen
            have HLEFT := Lib.hid hleft
            clear hlen hleft HP5
            go_wp2_with fail
            refine region_table (by kernel_rfl) [137, 138, 139, 140, 141, 142, 143, 144, 145, 146, 147, 148, 149, 150, 151, 152, 153, 154]
              (fun i x_ => match i with
                | 0 => x_ = .pointer (some ⟨bb, 0, none⟩)
                | 1 => x_ = .int .i64 ((x_n : Int))
                | 2 => x_ = .pointer (some ⟨rb, 0, none⟩)
                | 3 => x_ = .pointer (some ⟨rb, 0, none⟩)
                | 4 => x_ = .pointer (some ⟨rb, 2, none⟩)
                | 5 => x_ = .slice ao x_n cap
                | 6 => x_ = .int .i64 ((x_n : Int))
                | 7 => x_ = .bool (false)
                | 8 => x_ = .bool (false)
                | 9 => x_ = .pointer (some ⟨bb, 0, none⟩)
                | 10 => x_ = .int .i64 ((dr.size : Int))
                | 11 => x_ = .pointer (some ⟨rb, 0, none⟩)
                | 12 => x_ = .pointer (some ⟨rb, 0, none⟩)
                | 13 => x_ = .pointer (some ⟨rb, 1, none⟩)
                | 14 => x_ = .string dr
                | 15 => x_ = .int .i64 ((dr.size : Int))
                | 16 => x_ = .bool (false)
                | 17 => x_ = .bool (false)
                | _ => True) (fun _ _ w' => w' = wc.drew) (by kernel_rfl) (by kernel_rfl) rfl (by kernel_rfl) (rfl) ?_ ?_
            · refine StepsOk.cons ?_ (StepsOk.cons ?_ (StepsOk.cons ?_ (StepsOk.cons ?_ (StepsOk.cons ?_ (StepsOk.cons ?_ (StepsOk.cons ?_ (StepsOk.cons ?_ (StepsOk.cons ?_ (StepsOk.cons ?_ (StepsOk.cons ?_ (StepsOk.cons ?_ (StepsOk.cons ?_ (StepsOk.cons ?_ (StepsOk.cons ?_ (StepsOk.cons ?_ (StepsOk.cons ?_ (StepsOk.cons ?_ StepsOk.nil)))))))))))))))))
              · intro L a w4 Kx hl hsz hs ht hr he hK
                refine step_plain rfl ?_
                have h7 : a.tmps.getD 7 undef = .pointer (some ⟨bb, 0, none⟩) := (hs 7 (by decide)).trans rfl
                subst hr
                go_simp
                exact hK _ _ rfl rfl
              · intro L a w4 Kx hl hsz hs ht hr he hK
                refine step_plain rfl ?_
                have h137 : a.tmps.getD 137 undef = .pointer (some ⟨bb, 0, none⟩) := ht 0 (he 0 (by kernel_rfl)) 137 rfl
                subst hr
                go_simp
                refine (HLEN.out _ rfl).mono ?_
                rintro e w5 ⟨rfl, rfl⟩
                exact hK _ _ rfl rfl
              · intro L a w4 Kx hl hsz hs ht hr he hK
                refine step_plain rfl ?_
                have h8 : a.tmps.getD 8 undef = .pointer (some ⟨rb, 0, none⟩) := (hs 8 (by decide)).trans rfl
                subst hr
                go_simp
                exact hK _ _ rfl rfl
              · intro L a w4 Kx hl hsz hs ht hr he hK
                refine step_plain rfl ?_
                have h139 : a.tmps.getD 139 undef = .pointer (some ⟨rb, 0, none⟩) := ht 2 (he 2 (by kernel_rfl)) 139 rfl
                subst hr
                go_simp
                exact hK _ _ rfl rfl
              · intro L a w4 Kx hl hsz hs ht hr he hK
                refine step_plain rfl ?_
                have h140 : a.tmps.getD 140 undef = .pointer (some ⟨rb, 0, none⟩) := ht 3 (he 3 (by kernel_rfl)) 140 rfl
                subst hr
                go_simp
                exact hK _ _ rfl rfl
              · intro L a w4 Kx hl hsz hs ht hr he hK
                refine step_plain rfl ?_
                have h141 : a.tmps.getD 141 undef = .pointer (some ⟨rb, 2, none⟩) := ht 4 (he 4 (by kernel_rfl)) 141 rfl
                subst hr
                go_simp
                exact hK _ _ rfl rfl
              · intro L a w4 Kx hl hsz hs ht hr he hK
                refine step_plain rfl ?_
                have h142 : a.tmps.getD 142 undef = .slice ao x_n cap := ht 5 (he 5 (by kernel_rfl)) 142 rfl
                subst hr
                go_simp
                exact hK _ _ rfl rfl
              · intro L a w4 Kx hl hsz hs ht hr he hK
                refine step_plain rfl ?_
                have h138 : a.tmps.getD 138 undef = .int .i64 ((x_n : Int)) := ht 1 (he 1 (by kernel_rfl)) 138 rfl
                have h143 : a.tmps.getD 143 undef = .int .i64 ((x_n : Int)) := ht 6 (he 6 (by kernel_rfl)) 143 rfl
                subst hr
                go_simp
                exact hK _ _ (by simp) rfl
              · intro L a w4 Kx hl hsz hs ht hr he hK
                refine step_plain rfl ?_
                have h144 : a.tmps.getD 144 undef = .bool (false) := ht 7 (he 7 (by kernel_rfl)) 144 rfl
                subst hr
                go_simp
                exact hK _ _ rfl rfl
              · intro L a w4 Kx hl hsz hs ht hr he hK
                have h145 : a.tmps.getD 145 undef = .bool (false) := ht 8 (he 8 (by kernel_rfl)) 145 rfl
                refine step_guard 8 false (false) 145 rfl rfl (by rw [hsz]; exact of_decide_eq_true (by kernel_rfl)) h145 ?_
                rw [if_pos rfl]
                have h7 : a.tmps.getD 7 undef = .pointer (some ⟨bb, 0, none⟩) := (hs 7 (by decide)).trans rfl
                subst hr
                go_simp
                exact hK _ _ rfl rfl
              · intro L a w4 Kx hl hsz hs ht hr he hK
                have h145 : a.tmps.getD 145 undef = .bool (false) := ht 8 (he 8 (by kernel_rfl)) 145 rfl
                refine step_guard 8 false (false) 145 rfl rfl (by rw [hsz]; exact of_decide_eq_true (by kernel_rfl)) h145 ?_
                rw [if_pos rfl]
                have h146 : a.tmps.getD 146 undef = .pointer (some ⟨bb, 0, none⟩) := ht 9 (he 9 (by kernel_rfl)) 146 rfl
                subst hr
                go_simp
                refine (HLEFT.out _ rfl).mono ?_
                rintro e w5 ⟨rfl, rfl⟩
                exact hK _ _ rfl rfl
              · intro L a w4 Kx hl hsz hs ht hr he hK
                have h145 : a.tmps.getD 145 undef = .bool (false) := ht 8 (he 8 (by kernel_rfl)) 145 rfl
                refine step_guard 8 false (false) 145 rfl rfl (by rw [hsz]; exact of_decide_eq_true (by kernel_rfl)) h145 ?_
                rw [if_pos rfl]
                have h8 : a.tmps.getD 8 undef = .pointer (some ⟨rb, 0, none⟩) := (hs 8 (by decide)).trans rfl
                subst hr
                go_simp
                exact hK _ _ rfl rfl
              · intro L a w4 Kx hl hsz hs ht hr he hK
                have h145 : a.tmps.getD 145 undef = .bool (false) := ht 8 (he 8 (by kernel_rfl)) 145 rfl
                refine step_guard 8 false (false) 145 rfl rfl (by rw [hsz]; exact of_decide_eq_true (by kernel_rfl)) h145 ?_
                rw [if_pos rfl]
                have h148 : a.tmps.getD 148 undef = .pointer (some ⟨rb, 0, none⟩) := ht 11 (he 11 (by kernel_rfl)) 148 rfl
                subst hr
                go_simp
                exact hK _ _ rfl rfl
              · intro L a w4 Kx hl hsz hs ht hr he hK
                have h145 : a.tmps.getD 145 undef = .bool (false) := ht 8 (he 8 (by kernel_rfl)) 145 rfl
                refine step_guard 8 false (false) 145 rfl rfl (by rw [hsz]; exact of_decide_eq_true (by kernel_rfl)) h145 ?_
                rw [if_pos rfl]
                have h149 : a.tmps.getD 149 undef = .pointer (some ⟨rb, 0, none⟩) := ht 12 (he 12 (by kernel_rfl)) 149 rfl
                subst hr
                go_simp
                exact hK _ _ rfl rfl
              · intro L a w4 Kx hl hsz hs ht hr he hK
                have h145 : a.tmps.getD 145 undef = .bool (false) := ht 8 (he 8 (by kernel_rfl)) 145 rfl
                refine step_guard 8 false (false) 145 rfl rfl (by rw [hsz]; exact of_decide_eq_true (by kernel_rfl)) h145 ?_
                rw [if_pos rfl]
                have h150 : a.tmps.getD 150 undef = .pointer (some ⟨rb, 1, none⟩) := ht 13 (he 13 (by kernel_rfl)) 150 rfl
                subst hr
                go_simp
                exact hK _ _ rfl rfl
              · intro L a w4 Kx hl hsz hs ht hr he hK
                have h145 : a.tmps.getD 145 undef = .bool (false) := ht 8 (he 8 (by kernel_rfl)) 145 rfl
                refine step_guard 8 false (false) 145 rfl rfl (by rw [hsz]; exact of_decide_eq_true (by kernel_rfl)) h145 ?_
                rw [if_pos rfl]
                have h151 : a.tmps.getD 151 undef = .string dr := ht 14 (he 14 (by kernel_rfl)) 151 rfl
                subst hr
                go_simp
                exact hK _ _ rfl rfl
              · intro L a w4 Kx hl hsz hs ht hr he hK
                have h145 : a.tmps.getD 145 undef = .bool (false) := ht 8 (he 8 (by kernel_rfl)) 145 rfl
                refine step_guard 8 false (false) 145 rfl rfl (by rw [hsz]; exact of_decide_eq_true (by kernel_rfl)) h145 ?_
                rw [if_pos rfl]
                have h147 : a.tmps.getD 147 undef = .int .i64 ((dr.size : Int)) := ht 10 (he 10 (by kernel_rfl)) 147 rfl
                have h152 : a.tmps.getD 152 undef = .int .i64 ((dr.size : Int)) := ht 15 (he 15 (by kernel_rfl)) 152 rfl
                subst hr
                go_simp
                exact hK _ _ (by simp) rfl
              · intro L a w4 Kx hl hsz hs ht hr he hK
                refine step_plain rfl ?_
                have h145 : a.tmps.getD 145 undef = .bool (false) := ht 8 (he 8 (by kernel_rfl)) 145 rfl
                have h153 : a.tmps.getD 153 undef = .bool (false) := ht 16 (he 16 (by kernel_rfl)) 153 rfl
                subst hr
                go_simp
                exact hK _ _ rfl rfl
            · intro f L w4 hf hall hr
              have h154 : f 154 = .bool (false) := hf 17 (by decide) 154 rfl
              subst hr
              simp only [List.foldl, Act.put, List.setIfInBounds_toArray, List.set_cons_zero, List.set_cons_succ]
              rw [h154]
              clear hf h154
              generalize f 137 = z137
              generalize f 138 = z138
              generalize f 139 = z139
              generalize f 140 = z140
              generalize f 141 = z141
              generalize f 142 = z142
              generalize f 143 = z143
              generalize f 144 = z144
              generalize f 145 = z145
              generalize f 146 = z146
              generalize f 147 = z147
              generalize f 148 = z148
              generalize f 149 = z149
              generalize f 150 = z150
              generalize f 151 = z151
              generalize f 152 = z152
              generalize f 153 = z153
              go_wp2_with fail
              go_roundw
              case rel => exact ⟨k + 1, by omega, by omega, by go_num, L2, rfl, hlz2, HBX.out.below _ _ _ HPC.out ((Below.refl _ _).drew), HB5.out.drew⟩
              case measure => simp [intOf]; omega
        · have d2 : decide ((k : Int) < 40) = false := decide_eq_false (by omega)
          go_wp2_with fail
          go_ret
          exact ⟨rfl, HB.out⟩
      · have d1 : decide ((k : Int) < (l.length : Int)) = false := decide_eq_false (by omega)
        go_wp2_with fail
        go_ret
        exact ⟨rfl, HB.out⟩
end Go.Proofs.YtfglhemmccihfaaGreat
