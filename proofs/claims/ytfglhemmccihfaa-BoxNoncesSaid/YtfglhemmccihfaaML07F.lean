/-
Layer 7's laws, walked: BoxNonces.
-/
import Derived.Test.YtfglhemmccihfaaML07E
namespace Go.Proofs.Ytfglhemmccihfaa
open Go.RowKit Go.Maps

theorem useKeyedN : Keyed Try.prog 59 := Keyed.of_law (deep_law_laid (show laidOutB Try.prog = true by kernel_rfl) (m := 3) (by omega) (of_decide_eq_true (by kernel_rfl)) (by kernel_rfl) (by kernel_rfl))
theorem use_keyN (a b : ByteArray) (ha : a.size ≤ maxLen) (hb : b.size ≤ maxLen) : ∃ kl, keyOf Try.prog 59 (.agg #[.string a, .string b]) = some kl :=
  keyOf_strs Try.underlying9 (by kernel_rfl) Try.underlying59 (by kernel_rfl) [a, b] (by intro s hs; simp at hs; rcases hs with rfl | rfl <;> assumption) (by kernel_rfl) (by kernel_rfl) (by kernel_rfl) ⟨Try.prog.types.size - 1, by kernel_rfl⟩
theorem zeroWhat (w : World) : (zeroValue 57).run Try.prog w = .ok (.agg #[.string ⟨#[]⟩, .string ⟨#[]⟩, .string ⟨#[]⟩]) w := by kernel_rfl
theorem sealB_draws {st : BoxSt} {k n d t r : ByteArray} {c : Int} {st' : BoxSt} (h : sealB st k n d t = (r, c, st')) : st'.draws.size ≤ st.draws.size := by
  rcases seal_cases h with ⟨_, rfl, _⟩ | ⟨_, rfl, _⟩ | ⟨_, hf, hm, hz, hr, rfl⟩
  · exact Nat.le_refl _
  · exact Nat.le_refl _
  · show (st.draws.extract (t.size + 16) st.draws.size).size ≤ _
    rw [ByteArray.size_extract]; omega
/-- What was sealed by a key and a nonce: the same again, or a fault. -/
theorem seal_known {st : BoxSt} (hg : GoodB st) {k n d t : ByteArray} {e : Ent} (hf : findB st.tab k n = some e) (hd : d.size ≤ 4096) (ht : t.size ≤ 16384) : sealB st k n d t = if seq e.d d && seq e.t t then (e.s, 0, st) else (⟨#[]⟩, 11, st) := by
  obtain ⟨m1, m2, m3⟩ := findB_some hf
  have h1 : e.k.size = 32 ∧ e.n.size = 12 ∧ e.d.size ≤ 4096 ∧ (0 : Int) ≤ e.t.size ∧ (e.t.size : Int) ≤ 16384 := of_decide_eq_true (hg.may e m1).1
  have hm : mayB k n d t.size = true := decide_eq_true ⟨by rw [← m2]; exact h1.1, by rw [← m3]; exact h1.2.1, hd, by omega, by omega⟩
  unfold sealB
  rw [hm, if_pos rfl, hf]
set_option maxRecDepth 100000 in
set_option maxHeartbeats 8000000 in
theorem BoxNonces_w (draws : ByteArray) (ao : Option Addr) (cap : Nat) (l : List ActB) (w : World) (hat : ActsAt w ao l) (hok : ∀ a ∈ l, a.ok) :
    Calls Try.prog 12 #[.string draws, .slice ao l.length cap] w fun e w' => e = .returned (.bool true) ∧ Below w.heap.size w w' := by
  have HAT := Lib.hid hat
  have HOK := Lib.hid hok
  clear hat hok
  by_cases h1 : 8192 < draws.size
  · have g1 : decide ((8192 : Int) < (draws.size : Int)) = true := decide_eq_true (by omega)
    clear h1
    go_enter Try.func12, Try.ntmps12
    go_wp2_with fail
    refine (awake07 _).mono ?_
    rintro e w1 ⟨rfl, hb1⟩
    have HB1 := Lib.hid hb1
    clear hb1
    go_wp2_with fail
    go_ret
    exact ⟨rfl, HB1.out⟩
  have g1 : decide ((8192 : Int) < (draws.size : Int)) = false := decide_eq_false (by omega)
  have HDZ := Lib.hid (show draws.size ≤ 8192 by omega)
  clear h1
  go_enter Try.func12, Try.ntmps12
  go_wp2_with fail
  refine (awake07 _).mono ?_
  rintro e w1 ⟨rfl, hb1⟩
  have HB1 := Lib.hid hb1
  clear hb1
  go_wp2_with fail
  refine (Ideal_walk draws _).mono ?_
  rintro e w2 ⟨rfl, hx2, hb2⟩
  have HB2 := Lib.hid (bthen HB1.out hb2)
  have HZ1 := Lib.hid HB1.out.size
  have HZ2 := Lib.hid (show w1.heap.size + 1 < w2.heap.size from hx2.1.lt)
  clear hb2
  obtain ⟨mb, hmb⟩ : ∃ mb, mb = w1.heap.size := ⟨_, rfl⟩
  rw [← hmb] at hx2 HZ1 HZ2 ⊢
  have HX2 := Lib.hid hx2
  clear hx2 hmb
  have hmm := @run_makeMap Try.prog
  go_upto_region 8 with fail
  clear hmm
  have hbn : Below w2.heap.size w2 (w2.alloc (.map #[] 0)) := (Below.refl _ _).alloc (Nat.le_refl _) _
  have HT3 := Lib.hid (TabAt.made w2 Try.prog 59)
  have HX3 := Lib.hid (HX2.out.below hbn)
  have HB3 := Lib.hid (bthen HB2.out hbn)
  clear hbn HX2 HB2
  generalize w2.alloc (.map #[] 0) = w3 at HT3 HX3 HB3 ⊢
  generalize w2.heap.size = kb at HT3 HZ2 ⊢
  go_loopw [7] (fun i wr => ∃ k : Nat, k ≤ l.length ∧ k ≤ 40 ∧ i = .int .i64 k ∧ ∃ st : BoxSt, st.tab.length ≤ k ∧ st.draws.size ≤ 8192 ∧ GoodB st ∧ Hid (BoxAt wr (mb + 1) mb st) ∧ Hid (TabAt wr Try.prog 59 kb (st.tab.map entP)) ∧ Hid (Below w.heap.size w wr)) (fun i _ => 40 - (intOf i).toNat)
  case atStart => exact ⟨0, Nat.zero_le _, Nat.zero_le _, rfl, ⟨draws, []⟩, Nat.le_refl _, HDZ.out, ⟨List.Pairwise.nil, (fun e he => by cases he)⟩, HX3.out, HT3.out, HB3.out⟩
  case round =>
    obtain ⟨k, hk1, hk2, rfl, st, hst, hdr, hgood, HBX, HKN, HB⟩ := hrel
    have HG := Lib.hid hgood
    clear hgood
    have hfr := HB.out.size
    rcases Nat.lt_or_ge k l.length with hlt | hge
    · have d1 : decide ((k : Int) < (l.length : Int)) = true := decide_eq_true (by omega)
      rcases Nat.lt_or_ge k 40 with hlt2 | hge2
      · have d2 : decide ((k : Int) < 40) = true := decide_eq_true (by omega)
        obtain ⟨ab, off, rfl, hal, a0, a1, a2, a3, a4⟩ := (HAT.out.below HB.out) k hlt
        have HQO := Lib.hid (HOK.out _ (List.getElem_mem hlt))
        generalize l[k] = q at a0 a1 a2 a3 a4 HQO
        have h0 := Lib.hid a0
        have h1 := Lib.hid a1
        have h2 := Lib.hid a2
        have h3 := Lib.hid a3
        have h4 := Lib.hid a4
        go_wp2_with fail
        refine (large07 q _).mono ?_
        rintro e w2 ⟨rfl, hb2⟩
        have HB2 := Lib.hid (bthen HB.out hb2)
        have hal2 : ab < w2.heap.size := Nat.lt_of_lt_of_le hal hb2.size
        clear a0 a1 a2 a3 a4
        have a0 := (hb2.cell (p := ⟨ab, off + k * 5, none⟩) hal).trans h0.out
        have a1 := (hb2.cell (p := ⟨ab, off + k * 5 + 1, none⟩) hal).trans h1.out
        have a2 := (hb2.cell (p := ⟨ab, off + k * 5 + 2, none⟩) hal).trans h2.out
        have a3 := (hb2.cell (p := ⟨ab, off + k * 5 + 3, none⟩) hal).trans h3.out
        have a4 := (hb2.cell (p := ⟨ab, off + k * 5 + 4, none⟩) hal).trans h4.out
        have HW2 := Lib.hid hb2
        clear hb2 hal
        rcases Bool.eq_false_or_eq_true (largeB q) with hL | hL
        · rw [hL]
          clear hL
          go_wp2_with fail
          go_ret
          exact ⟨rfl, HB2.out⟩
        have HL := Lib.hid hL
        rw [hL]
        clear hL
        go_wp2_with fail
        refine (fixed07 q HQO.out.1 HQO.out.2 HL.out _).mono ?_
        rintro e w3 ⟨rfl, hb3⟩
        have HB3 := Lib.hid (bthen HB2.out hb3)
        have HW3 := Lib.hid (bthen HW2.out hb3)
        obtain ⟨x, hx⟩ : ∃ x, x = fixedB q := ⟨_, rfl⟩
        obtain ⟨hz1, hz2, hz3, hz4⟩ := fixedB_sizes HL.out
        rw [← hx] at hz1 hz2 hz3 hz4 ⊢
        clear hb3 a0 a1 a2 a3 a4 hx HB2 hal2 HW2
        unfold actV
        have hz0 := RowAt.new w3 #[.int .i64 0, .string ⟨#[]⟩, .string ⟨#[]⟩, .string ⟨#[]⟩, .string ⟨#[]⟩] 44 (0, 0)
        go_upto_region 13 with (with_reducible refine wpList_store_rowTo rfl 44 (.tmp 8) (.tmp 41) rfl rfl w3.heap.size (actC x) ?h1 ?h2 44 #[.int .i64 0, .string ⟨#[]⟩, .string ⟨#[]⟩, .string ⟨#[]⟩, .string ⟨#[]⟩] ?h0 ?h3 ?h4 ?h5 ?_)
        case h0 => exact hz0.out
        case h1 => rfl
        case h2 => rfl
        case h3 => kernel_rfl
        case h4 => rfl
        case h5 => simp [actC, Value.oneCell']
        have hWA : Below w3.heap.size w3 ((w3.alloc (.cells #[.int .i64 0, .string ⟨#[]⟩, .string ⟨#[]⟩, .string ⟨#[]⟩, .string ⟨#[]⟩] 44)).setRow w3.heap.size (actC x)) := Below.setRow ((Below.refl _ _).alloc (Nat.le_refl _) _) (Nat.le_refl _) _
        have HAA := Lib.hid (RowAt.setRow hz0 (actC x))
        have HBA := Lib.hid (bthen HB3.out hWA)
        have HWA := Lib.hid (bthen HW3.out hWA)
        have HXB := Lib.hid (show wr.heap.size ≤ w3.heap.size from HW3.out.size)
        clear hWA hz0 HB3 HW3
        generalize (w3.alloc (.cells #[.int .i64 0, .string ⟨#[]⟩, .string ⟨#[]⟩, .string ⟨#[]⟩, .string ⟨#[]⟩] 44)).setRow w3.heap.size (actC x) = wa at HAA HBA HWA ⊢
        generalize w3.heap.size = xb at HAA HXB ⊢
        unfold actC at HAA
        have HBXA := Lib.hid (HBX.out.below HWA.out)
        have HKNA := Lib.hid (HKN.out.below HWA.out HKN.out.lt)
        have HL1 := Lib.hid (show mb + 1 < wr.heap.size from HBX.out.1.lt)
        clear HBX HKN HB
        by_cases hk0 : x.kind = 0
        rotate_left
        · have e0 : (x.kind != 0) = true := bne_iff_ne.2 hk0
          clear hk0
          have a0 := HAA.out.cell (i := 0) rfl
          go_wp2_with fail
          clear a0
          go_roundw
          case rel => exact ⟨k + 1, by omega, by omega, by go_num, st, by omega, by omega, HG.out, HBXA.out, HKNA.out, HBA.out⟩
          case measure => simp [intOf]; omega
        have e0 : (x.kind != 0) = false := by rw [hk0]; rfl
        obtain ⟨r, c, st', hsl⟩ : ∃ r c st', sealB st x.k x.n x.d x.t = (r, c, st') := ⟨_, _, _, rfl⟩
        have HSL := Lib.hid hsl
        clear hk0 hsl
        have a0 := HAA.out.cell (i := 0) rfl
        have a1 := HAA.out.cell (i := 1) rfl
        have a2 := HAA.out.cell (i := 2) rfl
        have a3 := HAA.out.cell (i := 3) rfl
        have a4 := HAA.out.cell (i := 4) rfl
        go_wp2_with fail
        refine (BLeft_walk (mb + 1) mb st _ HBXA.out).mono ?_
        rintro e w9 ⟨rfl, rfl⟩
        go_wp2_with fail
        refine (BSeal_walk (mb + 1) mb st x.k x.n x.d x.t (maxLen_100 hz1) (maxLen_100 hz2) (by omega) _ HBXA.out (lt_maxLen (by omega)) r c st' HSL.out).mono ?_
        rintro e wb ⟨rfl, hxb, hsb⟩
        have HBB := Lib.hid (HBA.out.trans (hsb.below (show ∀ i ∈ [mb + 1, mb], w.heap.size ≤ i by have := HZ1.out; simp; omega) HBA.out.size))
        have HKB := Lib.hid (HKNA.out.beside hsb (show kb ∉ [mb + 1, mb] by have := HZ2.out; simp; omega))
        have HAB := Lib.hid (HAA.out.beside hsb (show xb ∉ [mb + 1, mb] by have := HL1.out; have := HXB.out; simp; omega))
        have HXC := Lib.hid hxb
        clear hxb hsb HBA HKNA HAA HBXA
        clear a0 a1 a2 a3 a4
        have a0 := HAB.out.cell (i := 0) rfl
        have a1 := HAB.out.cell (i := 1) rfl
        have a2 := HAB.out.cell (i := 2) rfl
        have a3 := HAB.out.cell (i := 3) rfl
        have a4 := HAB.out.cell (i := 4) rfl
        have HLX : xb < wb.heap.size := HAB.out.lt
        have HKEY := Lib.hid (use_keyN x.k x.n (maxLen_100 hz1) (maxLen_100 hz2))
        have hbw : Below wb.heap.size wb (wb.alloc (.cells #[.string ⟨#[]⟩, .string ⟨#[]⟩, .string ⟨#[]⟩] 57)) := (Below.refl _ _).alloc (Nat.le_refl _) _
        cases hf : findB st.tab x.k x.n with
        | some e =>
          have hk := seal_known HG.out (k := x.k) (n := x.n) (d := x.d) (t := x.t) hf (by omega) (by omega)
          rw [HSL.out] at hk
          have HIN := Lib.hid (found_in hf)
          have hbv : Below wb.heap.size wb (wb.alloc (.cells #[.string e.d, .string e.t, .string e.s] 57)) := (Below.refl _ _).alloc (Nat.le_refl _) _
          have HXD := Lib.hid (HXC.out.below hbv)
          have HKD := Lib.hid (HKB.out.below hbv HKB.out.lt)
          have HBD := Lib.hid (bthen HBB.out hbv)
          clear hbv hbw hf
          cases hd : seq e.d x.d with
          | false =>
            rw [hd] at hk
            injection hk with q1 q2
            injection q2 with q2 q3
            subst q1 q2 q3
            have hqq := seq_self ⟨#[]⟩
            go_wp2_with (at_lookup; refine wpList_look_in _ rfl _ _ 55 rfl 59 57 useKeyedN Try.underlying55 (zeroWhat _) kb _ rfl HKB.out _ _ rfl HIN.out ?_)
            refine (BLeft_walk (mb + 1) mb st' _ HXD.out).mono ?_
            rintro e w9 ⟨rfl, rfl⟩
            go_wp2_with fail
            go_roundw
            case rel => exact ⟨k + 1, by omega, by omega, by go_num, st', by omega, by omega, HG.out, HXD.out, HKD.out, HBD.out⟩
            case measure => simp [intOf]; omega
          | true =>
            cases htt : seq e.t x.t with
            | false =>
              rw [hd, htt] at hk
              injection hk with q1 q2
              injection q2 with q2 q3
              subst q1 q2 q3
              have hqq := seq_self ⟨#[]⟩
              go_wp2_with (at_lookup; refine wpList_look_in _ rfl _ _ 55 rfl 59 57 useKeyedN Try.underlying55 (zeroWhat _) kb _ rfl HKB.out _ _ rfl HIN.out ?_)
              refine (BLeft_walk (mb + 1) mb st' _ HXD.out).mono ?_
              rintro e w9 ⟨rfl, rfl⟩
              go_wp2_with fail
              go_roundw
              case rel => exact ⟨k + 1, by omega, by omega, by go_num, st', by omega, by omega, HG.out, HXD.out, HKD.out, HBD.out⟩
              case measure => simp [intOf]; omega
            | true =>
              rw [hd, htt] at hk
              injection hk with q1 q2
              injection q2 with q2 q3
              subst q1 q2 q3
              have hqq := seq_self e.s
              go_wp2_with (at_lookup; refine wpList_look_in _ rfl _ _ 55 rfl 59 57 useKeyedN Try.underlying55 (zeroWhat _) kb _ rfl HKB.out _ _ rfl HIN.out ?_)
              refine (BLeft_walk (mb + 1) mb st' _ HXD.out).mono ?_
              rintro e w9 ⟨rfl, rfl⟩
              go_wp2_with fail
              go_roundw
              case rel => exact ⟨k + 1, by omega, by omega, by go_num, st', by omega, by omega, HG.out, HXD.out, HKD.out, HBD.out⟩
              case measure => simp [intOf]; omega
        | none =>
          have HOUT := Lib.hid (found_out hf)
          have HXD := Lib.hid (HXC.out.below hbw)
          have HKD := Lib.hid (HKB.out.below hbw HKB.out.lt)
          have HAD := Lib.hid (HAB.out.below hbw HAB.out.lt)
          have HBD := Lib.hid (bthen HBB.out hbw)
          clear hbw
          rcases seal_cases HSL.out with ⟨hc, q1, _⟩ | ⟨_, _, hmem⟩ | ⟨q0, _, _, hz, hr, hst'⟩
          · have e1 : (c == 0) = false := beq_eq_false_iff_ne.2 hc
            clear hc hf
            subst q1
            go_wp2_with (at_lookup; refine wpList_look_out _ rfl _ _ 55 rfl 59 57 useKeyedN Try.underlying55 (zeroWhat _) kb _ rfl HKB.out _ rfl HKEY.out HOUT.out ?_)
            refine (BLeft_walk (mb + 1) mb st' _ HXD.out).mono ?_
            rintro e w9 ⟨rfl, rfl⟩
            go_wp2_with fail
            go_roundw
            case rel => exact ⟨k + 1, by omega, by omega, by go_num, st', by omega, by omega, HG.out, HXD.out, HKD.out, HBD.out⟩
            case measure => simp [intOf]; omega
          · exact absurd ⟨rfl, rfl⟩ (findB_none hf _ hmem)
          · subst q0
            have HG2 := Lib.hid (HG.out.seal HSL.out)
            have hrz : r.size = x.t.size + 16 := by rw [hr, ByteArray.size_extract]; omega
            have hdz : st'.draws.size + r.size = st.draws.size := by
              rw [hst', hrz]
              show (st.draws.extract (x.t.size + 16) st.draws.size).size + _ = _
              rw [ByteArray.size_extract]; omega
            have f1 : ((r.size : Int) != (x.t.size : Int) + 16) = false := by rw [bne_eq_false_iff_eq]; omega
            have f2 : ((st'.draws.size : Int) != (st.draws.size : Int) - (r.size : Int)) = false := by rw [bne_eq_false_iff_eq]; omega
            have HRZ := Lib.hid hrz
            have HDD := Lib.hid hdz
            have HLT := Lib.hid (show (st.tab.map entP).length < maxLen by rw [List.length_map]; exact lt_maxLen (by omega))
            have HLEN := Lib.hid (show st'.tab.length ≤ k + 1 by rw [hst']; simp; omega)
            have HMAP := Lib.hid (show st'.tab.map entP = st.tab.map entP ++ [(.agg #[.string x.k, .string x.n], .agg #[.string x.d, .string x.t, .string r])] by rw [hst', List.map_append]; rfl)
            have hlo : -9223372036854775808 ≤ (st.draws.size : Int) - (r.size : Int) := by omega
            have hhi : (st.draws.size : Int) - (r.size : Int) ≤ 9223372036854775807 := by omega
            clear hf hz hr hst' hrz hdz
            go_wp2_with (at_lookup; refine wpList_look_out _ rfl _ _ 55 rfl 59 57 useKeyedN Try.underlying55 (zeroWhat _) kb _ rfl HKB.out _ rfl HKEY.out HOUT.out ?_)
            refine (BLeft_walk (mb + 1) mb st' _ HXD.out).mono ?_
            rintro e w9 ⟨rfl, rfl⟩
            clear a0 a1 a2 a3 a4
            have a0 := HAD.out.cell (i := 0) rfl
            have a1 := HAD.out.cell (i := 1) rfl
            have a2 := HAD.out.cell (i := 2) rfl
            have a3 := HAD.out.cell (i := 3) rfl
            have a4 := HAD.out.cell (i := 4) rfl
            generalize wb.alloc (.cells #[.string ⟨#[]⟩, .string ⟨#[]⟩, .string ⟨#[]⟩] 57) = wd at HXD HKD HAD HBD a0 a1 a2 a3 a4 ⊢
            go_wp2_with (at_mapUpdate; refine wpList_put_new _ rfl _ _ _ 55 rfl 59 57 useKeyedN Try.underlying55 kb _ rfl HKD.out HLT.out (.agg #[.string x.k, .string x.n]) (.agg #[.string x.d, .string x.t, .string r]) rfl rfl HKEY.out HOUT.out ?_; intro wc htc htn)
            have HKC := Lib.hid htc
            have HSC := Lib.hid (Beside.turned (S := [kb]) (b := kb) (Beside.refl [kb] _) (by simp) htn)
            have HBC := Lib.hid (HBD.out.trans (HSC.out.below (show ∀ i ∈ [kb], w.heap.size ≤ i by have := HZ1.out; have := HZ2.out; simp; omega) HBD.out.size))
            have HXE := Lib.hid (HXD.out.beside HSC.out (show mb + 1 ∉ [kb] by have := HZ2.out; simp; omega) (show mb ∉ [kb] by have := HZ2.out; simp; omega))
            clear htc htn
            go_wp2_with fail
            go_roundw
            case rel => exact ⟨k + 1, by omega, by omega, by go_num, st', HLEN.out, (by have := HDD.out; omega), HG2.out, HXE.out, (by rw [HMAP.out]; exact HKC.out), HBC.out⟩
            case measure => simp [intOf]; omega
      · have d2 : decide ((k : Int) < 40) = false := decide_eq_false (by omega)
        have hlk := fun ty => run_len_tab HKN.out Try.underlying55 ty
        go_wp2_with fail
        refine (BLen_walk (mb + 1) mb st _ HBX.out).mono ?_
        rintro e w7 ⟨rfl, rfl⟩
        have hle : ((st.tab.length : Int) == ((st.tab.map entP).length : Int)) = true := by rw [List.length_map, beq_self_eq_true]
        go_wp2_with fail
        go_ret
        exact ⟨rfl, HB.out⟩
    · have d1 : decide ((k : Int) < (l.length : Int)) = false := decide_eq_false (by omega)
      have hlk := fun ty => run_len_tab HKN.out Try.underlying55 ty
      go_wp2_with fail
      refine (BLen_walk (mb + 1) mb st _ HBX.out).mono ?_
      rintro e w7 ⟨rfl, rfl⟩
      have hle : ((st.tab.length : Int) == ((st.tab.map entP).length : Int)) = true := by rw [List.length_map, beq_self_eq_true]
      go_wp2_with fail
      go_ret
      exact ⟨rfl, HB.out⟩
end Go.Proofs.Ytfglhemmccihfaa
