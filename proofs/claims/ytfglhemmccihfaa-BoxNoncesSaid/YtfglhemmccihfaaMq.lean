/-
The program's box: Key; an ideal box and a real one: Len, Left, Seal, Open.
An ideal box's Seal and Open; a real one's.
-/
import Derived.DeepKeys4
import Derived.Test.YtfglhemmccihfaaMa
import Derived.Test.YtfglhemmccihfaaMb
import Derived.Test.YtfglhemmccihfaaMm
import Derived.Test.YtfglhemmccihfaaMp
namespace Go.Proofs.Ytfglhemmccihfaa
open Go.RowKit Go.Maps

theorem BHigh_as (x : BitVec 64) (n : Int) (q : ByteArray) (hq : Is q (highL x (cut n))) (w : World) : Calls Try.prog 44 #[.int .u64 (bvi x), .int .i64 n] w fun e w' => e = .returned (.string q) ∧ Below w.heap.size w w' :=
  (High_walk x n w).mono fun e w' ⟨r, h1, h2, h3⟩ => ⟨by rw [h1, h2.inj hq], h3⟩
set_option maxRecDepth 100000 in
set_option maxHeartbeats 1000000 in
theorem Key_ok (master domain : ByteArray) (epoch : BitVec 64) (hm : master.size = 32) (hd : domain.size ≤ 255) (q : ByteArray) (hq : Is q (keyB master.data.toList domain.data.toList epoch)) (w : World) :
    Calls Try.prog 24 #[.string master, .string domain, .int .u64 (bvi epoch)] w fun e w' => e = .returned (.tuple #[.string q, .int .i64 0]) ∧ Below w.heap.size w w' := by
  have e1 : domain.data.toList.length = domain.size := by rw [Array.length_toList]; rfl
  obtain ⟨a, ha⟩ : ∃ a, Is a (highL (BitVec.ofNat 64 domain.size) (cut 2)) := ⟨_, Is.of _⟩
  obtain ⟨b, hb⟩ : ∃ b, Is b (highL epoch (cut 8)) := ⟨_, Is.of _⟩
  have za : a.size = 2 := by rw [ha.size, highL_length]; rfl
  have zb : b.size = 8 := by rw [hb.size, highL_length]; rfl
  obtain ⟨i, hi⟩ : ∃ i : ByteArray, i = a ++ domain ++ b := ⟨_, rfl⟩
  have hil : i.data.toList = infoL domain.data.toList epoch := by
    rw [hi]
    refine (((ha.append (Is.self domain)).append hb).out).trans ?_
    unfold infoL
    rw [e1]; rfl
  obtain ⟨S, hS⟩ : ∃ S : ByteArray, S = ⟨#[112, 111, 115, 116, 104, 111, 114, 110]⟩ := ⟨_, rfl⟩
  have HQ := Lib.hid (show Is q (expandL (macL S.data.toList master.data.toList) i.data.toList 32) by rw [hil, hS]; exact hq)
  have HIZ := Lib.hid (show i.size ≤ 140737488350000 by rw [hi, ByteArray.size_append, ByteArray.size_append, za, zb]; omega)
  have HSZ := Lib.hid (show S.size ≤ 140737488351000 by rw [hS]; decide)
  have HI := Lib.hid hi
  have HS := Lib.hid hS
  have HM := Lib.hid (show master.size ≤ 140737488351000 by omega)
  have hne : ((master.size : Int) != 32) = false := by rw [hm]; rfl
  have hle : decide ((255 : Int) < (domain.size : Int)) = false := decide_eq_false (by omega)
  have hov1 : ¬ 9223372036854775807 < a.size + domain.size := by omega
  have hov2 : ¬ 9223372036854775807 < a.size + domain.size + b.size := by omega
  have HA := Lib.hid ha
  have HB := Lib.hid hb
  clear hq hil hi hS ha hb e1 hm hd za zb
  go_enter Try.func24, Try.ntmps24
  go_wp2_with fail
  refine (BHigh_as _ 2 a HA.out _).mono ?_
  rintro e w1 ⟨rfl, hb1⟩
  have HB1 := Lib.hid hb1
  clear hb1
  go_wp2_with fail
  refine (BHigh_as epoch 8 b HB.out _).mono ?_
  rintro e w2 ⟨rfl, hb2⟩
  have HB2 := Lib.hid (bthen HB1.out hb2)
  clear hb2
  go_wp2_with fail
  rw [← HI.out, ← HS.out]
  refine (Derive_ok S master i 32 (by decide) HSZ.out HM.out HIZ.out q HQ.out _).mono ?_
  rintro e w3 ⟨rfl, hb3⟩
  have HB3 := Lib.hid (bthen HB2.out hb3)
  clear hb3
  go_wp2_with fail
  go_ret2
  exact ⟨rfl, HB3.out⟩
set_option maxHeartbeats 400000 in
theorem Key_no (master domain : ByteArray) (epoch : BitVec 64) (h : master.size ≠ 32 ∨ 255 < domain.size) (w : World) :
    Calls Try.prog 24 #[.string master, .string domain, .int .u64 (bvi epoch)] w fun e w' => e = .returned (.tuple #[.string ⟨#[]⟩, .int .i64 5]) ∧ w = w' := by
  by_cases hm : master.size = 32
  · have hne : ((master.size : Int) != 32) = false := by rw [hm]; rfl
    have hle : decide ((255 : Int) < (domain.size : Int)) = true := decide_eq_true (by omega)
    clear h hm
    go_enter Try.func24, Try.ntmps24
    go_wp2_with fail
    go_ret2
    exact ⟨rfl, rfl⟩
  · have hne : ((master.size : Int) != 32) = true := by simp; omega
    clear h hm
    go_enter Try.func24, Try.ntmps24
    go_wp2_with fail
    go_ret2
    exact ⟨rfl, rfl⟩
set_option maxHeartbeats 400000 in
theorem bmay_walk (k n d : ByteArray) (len : Int) (w : World) : Calls Try.prog 48 #[.string k, .string n, .string d, .int .i64 len] w fun e w' => e = .returned (.bool (mayB k n d len)) ∧ w = w' := by
  by_cases h1 : k.size = 32
  · have g1 : ((k.size : Int) == 32) = true := by rw [h1]; rfl
    by_cases h2 : n.size = 12
    · have g2 : ((n.size : Int) == 12) = true := by rw [h2]; rfl
      by_cases h3 : d.size ≤ 4096
      · have g3 : decide ((d.size : Int) ≤ 4096) = true := decide_eq_true (by omega)
        by_cases h4 : 0 ≤ len
        · have g4 : decide (0 ≤ len) = true := decide_eq_true h4
          by_cases h5 : len ≤ 16384
          · have g5 : decide (len ≤ 16384) = true := decide_eq_true h5
            have HR := Lib.hid (show mayB k n d len = true from decide_eq_true ⟨h1, h2, h3, h4, h5⟩)
            clear h1 h2 h3 h4 h5
            go_enter Try.func48, Try.ntmps48
            go_wp2_with fail
            go_ret
            exact ⟨by rw [HR.out]; rfl, rfl⟩
          · have g5 : decide (len ≤ 16384) = false := decide_eq_false h5
            have HR := Lib.hid (show mayB k n d len = false from decide_eq_false (fun hh => h5 hh.2.2.2.2))
            clear h1 h2 h3 h4 h5
            go_enter Try.func48, Try.ntmps48
            go_wp2_with fail
            go_ret
            exact ⟨by rw [HR.out]; rfl, rfl⟩
        · have g4 : decide (0 ≤ len) = false := decide_eq_false h4
          have HR := Lib.hid (show mayB k n d len = false from decide_eq_false (fun hh => h4 hh.2.2.2.1))
          clear h1 h2 h3 h4
          go_enter Try.func48, Try.ntmps48
          go_wp2_with fail
          go_ret
          exact ⟨by rw [HR.out]; rfl, rfl⟩
      · have g3 : decide ((d.size : Int) ≤ 4096) = false := decide_eq_false (by omega)
        have HR := Lib.hid (show mayB k n d len = false from decide_eq_false (fun hh => h3 hh.2.2.1))
        clear h1 h2 h3
        go_enter Try.func48, Try.ntmps48
        go_wp2_with fail
        go_ret
        exact ⟨by rw [HR.out]; rfl, rfl⟩
    · have g2 : ((n.size : Int) == 12) = false := by rw [beq_eq_false_iff_ne]; omega
      have HR := Lib.hid (show mayB k n d len = false from decide_eq_false (fun hh => h2 hh.2.1))
      clear h1 h2
      go_enter Try.func48, Try.ntmps48
      go_wp2_with fail
      go_ret
      exact ⟨by rw [HR.out]; rfl, rfl⟩
  · have g1 : ((k.size : Int) == 32) = false := by rw [beq_eq_false_iff_ne]; omega
    have HR := Lib.hid (show mayB k n d len = false from decide_eq_false (fun hh => h1 hh.1))
    clear h1
    go_enter Try.func48, Try.ntmps48
    go_wp2_with fail
    go_ret
    exact ⟨by rw [HR.out]; rfl, rfl⟩

/-! ### A box in the world -/
theorem useKeyed : Keyed Try.prog 78 := Keyed.of_law (deep_law_laid (show laidOutB Try.prog = true by kernel_rfl) (m := 3) (by omega) (of_decide_eq_true (by kernel_rfl)) (by kernel_rfl) (by kernel_rfl))
theorem use_key (a b : ByteArray) (ha : a.size ≤ maxLen) (hb : b.size ≤ maxLen) : ∃ kl, keyOf Try.prog 78 (.agg #[.string a, .string b]) = some kl :=
  keyOf_strs Try.underlying9 (by kernel_rfl) Try.underlying78 (by kernel_rfl) [a, b] (by intro s hs; simp at hs; rcases hs with rfl | rfl <;> assumption) (by kernel_rfl) (by kernel_rfl) (by kernel_rfl) ⟨Try.prog.types.size - 1, by kernel_rfl⟩
theorem zeroSealed (w : World) : (zeroValue 75).run Try.prog w = .ok (.agg #[.string ⟨#[]⟩, .string ⟨#[]⟩, .string ⟨#[]⟩]) w := by kernel_rfl
def entP (e : Ent) : Value × Value := (.agg #[.string e.k, .string e.n], .agg #[.string e.d, .string e.t, .string e.s])
/-- Block bb is an ideal box with these draws and these rows; its map lies in block mb. -/
def BoxAt (w : World) (bb mb : Nat) (st : BoxSt) : Prop := RowAt w bb #[.bool true, .string st.draws, .map (some mb)] 73 (0, 0) ∧ TabAt w Try.prog 78 mb (st.tab.map entP)
theorem BoxAt.beside {S : List Nat} {w w' : World} {bb mb : Nat} {st : BoxSt} (h : BoxAt w bb mb st) (hb : Beside S w w') (h1 : bb ∉ S) (h2 : mb ∉ S) : BoxAt w' bb mb st := ⟨h.1.beside hb h1, h.2.beside hb h2⟩
theorem BoxAt.below {w w' : World} {bb mb : Nat} {st : BoxSt} (h : BoxAt w bb mb st) (hb : Below w.heap.size w w') : BoxAt w' bb mb st := ⟨h.1.below hb h.1.lt, h.2.below hb h.2.lt⟩
theorem BoxAt.ne {w : World} {bb mb : Nat} {st : BoxSt} (h : BoxAt w bb mb st) : bb ≠ mb := h.2.ne_row h.1
/-- Block bb is a real box. -/
def RealAt (w : World) (bb : Nat) : Prop := RowAt w bb #[.bool false, .string ⟨#[]⟩, .map none] 73 (0, 0)
theorem found_in {tab : List Ent} {k n : ByteArray} {e : Ent} (h : findB tab k n = some e) : ((.agg #[.string k, .string n], .agg #[.string e.d, .string e.t, .string e.s]) : Value × Value) ∈ tab.map entP := by
  obtain ⟨h1, rfl, rfl⟩ := findB_some h
  exact List.mem_map.2 ⟨e, h1, rfl⟩
theorem found_out {tab : List Ent} {k n : ByteArray} (h : findB tab k n = none) : ∀ p ∈ tab.map entP, p.1 ≠ .agg #[.string k, .string n] := by
  intro p hp hh
  obtain ⟨e, he, rfl⟩ := List.mem_map.1 hp
  have h1 : (Value.agg #[.string e.k, .string e.n]) = .agg #[.string k, .string n] := hh
  injection h1 with h1
  have h2 : [Value.string e.k, Value.string e.n] = [Value.string k, Value.string n] := congrArg Array.toList h1
  injection h2 with h3 h4
  injection h4 with h4 _
  injection h3 with h3
  injection h4 with h4
  exact findB_none h e he ⟨h3, h4⟩
set_option maxHeartbeats 400000 in
theorem Real_walk (w : World) : Calls Try.prog 43 #[] w fun e w' => e = .returned (.pointer (some ⟨w.heap.size, 0, none⟩)) ∧ RealAt w' w.heap.size ∧ Below w.heap.size w w' := by
  go_enter Try.func43, Try.ntmps43
  go_wp2_with fail
  go_ret
  exact ⟨rfl, RowAt.new _ _ _ _, (Below.refl _ _).alloc (Nat.le_refl _) _⟩
set_option maxHeartbeats 400000 in
theorem Ideal_walk (draws : ByteArray) (w : World) : Calls Try.prog 26 #[.string draws] w fun e w' => e = .returned (.pointer (some ⟨w.heap.size + 1, 0, none⟩)) ∧ BoxAt w' (w.heap.size + 1) w.heap.size ⟨draws, []⟩ ∧ Below w.heap.size w w' := by
  have hmm := @run_makeMap Try.prog
  go_enter Try.func26, Try.ntmps26
  go_wp2_with fail
  go_ret
  refine ⟨by simp, ⟨?_, ?_⟩, ?_⟩
  · have := RowAt.new (w.alloc (.map #[] 0)) #[.bool true, .string draws, .map (some w.heap.size)] 73 (0, 0)
    simpa using this
  · exact (TabAt.made w Try.prog 78).below ((Below.refl _ _).alloc (Nat.le_refl _) _) (by simp)
  · exact ((Below.refl _ _).alloc (Nat.le_refl _) _).alloc (by simp) _
set_option maxHeartbeats 400000 in
theorem BLeft_walk (bb mb : Nat) (st : BoxSt) (w : World) (h : BoxAt w bb mb st) : Calls Try.prog 32 #[.pointer (some ⟨bb, 0, none⟩)] w fun e w' => e = .returned (.int .i64 (st.draws.size : Int)) ∧ w = w' := by
  have c1 := h.1.cell (i := 1) rfl
  clear h
  go_enter Try.func32, Try.ntmps32
  go_wp2_with fail
  go_ret
  exact ⟨rfl, rfl⟩
set_option maxHeartbeats 400000 in
theorem LeftR_walk (bb : Nat) (w : World) (h : RealAt w bb) : Calls Try.prog 32 #[.pointer (some ⟨bb, 0, none⟩)] w fun e w' => e = .returned (.int .i64 0) ∧ w = w' := by
  have c1 := RowAt.cell h (i := 1) rfl
  clear h
  go_enter Try.func32, Try.ntmps32
  go_wp2_with fail
  go_ret
  exact ⟨rfl, rfl⟩
set_option maxRecDepth 100000 in
set_option maxHeartbeats 400000 in
theorem BLen_walk (bb mb : Nat) (st : BoxSt) (w : World) (h : BoxAt w bb mb st) : Calls Try.prog 31 #[.pointer (some ⟨bb, 0, none⟩)] w fun e w' => e = .returned (.int .i64 (st.tab.length : Int)) ∧ w = w' := by
  have c2 := h.1.cell (i := 2) rfl
  have hl := fun ty => run_len_tab h.2 Try.underlying71 ty
  clear h
  go_enter Try.func31, Try.ntmps31
  go_wp2_with fail
  go_ret
  exact ⟨by simp, rfl⟩
set_option maxHeartbeats 400000 in
theorem LenR_walk (bb : Nat) (w : World) (h : RealAt w bb) : Calls Try.prog 31 #[.pointer (some ⟨bb, 0, none⟩)] w fun e w' => e = .returned (.int .i64 0) ∧ w = w' := by
  have c2 := RowAt.cell h (i := 2) rfl
  have hl := fun ty => Maps.len_nil (P := Try.prog) (w := w) Try.underlying71 ty
  clear h
  go_enter Try.func31, Try.ntmps31
  go_wp2_with fail
  go_ret
  exact ⟨rfl, rfl⟩
end Go.Proofs.Ytfglhemmccihfaa
namespace Go.Proofs.Ytfglhemmccihfaa
open Go.RowKit Go.Maps

set_option maxRecDepth 100000 in
set_option maxHeartbeats 2000000 in
theorem BSeal_may (bb mb : Nat) (st : BoxSt) (k n d t : ByteArray) (hk : k.size ≤ maxLen) (hn : n.size ≤ maxLen) (ht : t.size ≤ 140737488400000) (w : World) (h : BoxAt w bb mb st) (hm : mayB k n d t.size = false) :
    Calls Try.prog 29 #[.pointer (some ⟨bb, 0, none⟩), .string k, .string n, .string d, .string t] w fun e w' => e = .returned (.tuple #[.string ⟨#[]⟩, .int .i64 5]) ∧ Below w.heap.size w w' := by
  have HM := Lib.hid hm
  clear hm
  have hb0 := h.1
  have c0 := hb0.cell (i := 0) rfl
  have c2 := hb0.cell (i := 2) rfl
  have HB0 := Lib.hid hb0
  have HT := Lib.hid h.2
  have HKEY := Lib.hid (use_key k n hk hn)
  clear h hk hn hb0
  cases hf : findB st.tab k n with
  | some e =>
    have HIN := Lib.hid (found_in hf)
    clear hf
    go_enter Try.func29, Try.ntmps29
    go_wp2_with (at_lookup; refine wpList_look_in _ rfl _ _ 71 rfl 78 75 useKeyed Try.underlying71 (zeroSealed _) mb _ rfl HT.out _ _ rfl HIN.out ?_)
    refine (bmay_walk k n d _ _).mono ?_
    rintro e w1 ⟨rfl, hw⟩
    rw [HM.out]
    have HW1 := Lib.hid (show Below w.heap.size w w1 by rw [← hw]; (repeat' (first | (with_reducible exact Below.refl _ _) | (with_reducible assumption) | refine Below.setCell ?_ (by simp <;> omega) _ | refine below_alloc' ?_ _ | refine Below.alloc ?_ (by simp <;> omega) _ | refine below_drewN ?_ _ | refine Below.drew ?_)))
    clear hw
    go_wp2_with fail
    go_ret2
    exact ⟨rfl, HW1.out⟩
  | none =>
    have HOUT := Lib.hid (found_out hf)
    clear hf
    go_enter Try.func29, Try.ntmps29
    go_wp2_with (at_lookup; refine wpList_look_out _ rfl _ _ 71 rfl 78 75 useKeyed Try.underlying71 (zeroSealed _) mb _ rfl HT.out _ rfl HKEY.out HOUT.out ?_)
    refine (bmay_walk k n d _ _).mono ?_
    rintro e w1 ⟨rfl, hw⟩
    rw [HM.out]
    have HW1 := Lib.hid (show Below w.heap.size w w1 by rw [← hw]; (repeat' (first | (with_reducible exact Below.refl _ _) | (with_reducible assumption) | refine Below.setCell ?_ (by simp <;> omega) _ | refine below_alloc' ?_ _ | refine Below.alloc ?_ (by simp <;> omega) _ | refine below_drewN ?_ _ | refine Below.drew ?_)))
    clear hw
    go_wp2_with fail
    go_ret2
    exact ⟨rfl, HW1.out⟩
set_option maxRecDepth 100000 in
set_option maxHeartbeats 2000000 in
theorem BSeal_found (bb mb : Nat) (st : BoxSt) (k n d t : ByteArray) (hk : k.size ≤ maxLen) (hn : n.size ≤ maxLen) (ht : t.size ≤ 140737488400000) (w : World) (h : BoxAt w bb mb st) (hm : mayB k n d t.size = true) (e : Ent) (hf : findB st.tab k n = some e)
    (r : ByteArray) (c : Int) (hr : (if seq e.d d && seq e.t t then (e.s, 0) else (⟨#[]⟩, 11)) = (r, c)) :
    Calls Try.prog 29 #[.pointer (some ⟨bb, 0, none⟩), .string k, .string n, .string d, .string t] w fun e w' => e = .returned (.tuple #[.string r, .int .i64 c]) ∧ Below w.heap.size w w' := by
  have HM := Lib.hid hm
  have HIN := Lib.hid (found_in hf)
  clear hm hf
  have hb0 := h.1
  have c0 := hb0.cell (i := 0) rfl
  have c2 := hb0.cell (i := 2) rfl
  have HB0 := Lib.hid hb0
  have HT := Lib.hid h.2
  have HKEY := Lib.hid (use_key k n hk hn)
  clear h hk hn hb0
  cases hd : seq e.d d with
  | false =>
    rw [hd] at hr
    obtain ⟨rfl, rfl⟩ := Prod.mk.inj hr
    clear hr
    go_enter Try.func29, Try.ntmps29
    go_wp2_with (at_lookup; refine wpList_look_in _ rfl _ _ 71 rfl 78 75 useKeyed Try.underlying71 (zeroSealed _) mb _ rfl HT.out _ _ rfl HIN.out ?_)
    refine (bmay_walk k n d _ _).mono ?_
    rintro e w1 ⟨rfl, hw⟩
    rw [HM.out]
    have HW1 := Lib.hid (show Below w.heap.size w w1 by rw [← hw]; (repeat' (first | (with_reducible exact Below.refl _ _) | (with_reducible assumption) | refine Below.setCell ?_ (by simp <;> omega) _ | refine below_alloc' ?_ _ | refine Below.alloc ?_ (by simp <;> omega) _ | refine below_drewN ?_ _ | refine Below.drew ?_)))
    have hx : RowAt w1 w.heap.size #[.string e.d, .string e.t, .string e.s] 75 (0, 0) := by rw [← hw]; exact RowAt.new _ _ _ _
    clear hw
    have x0 := hx.cell (i := 0) rfl
    go_wp2_with fail
    go_ret2
    exact ⟨rfl, HW1.out⟩
  | true =>
    cases htt : seq e.t t with
    | false =>
      rw [hd, htt] at hr
      obtain ⟨rfl, rfl⟩ := Prod.mk.inj hr
      clear hr
      go_enter Try.func29, Try.ntmps29
      go_wp2_with (at_lookup; refine wpList_look_in _ rfl _ _ 71 rfl 78 75 useKeyed Try.underlying71 (zeroSealed _) mb _ rfl HT.out _ _ rfl HIN.out ?_)
      refine (bmay_walk k n d _ _).mono ?_
      rintro e w1 ⟨rfl, hw⟩
      rw [HM.out]
      have HW1 := Lib.hid (show Below w.heap.size w w1 by rw [← hw]; (repeat' (first | (with_reducible exact Below.refl _ _) | (with_reducible assumption) | refine Below.setCell ?_ (by simp <;> omega) _ | refine below_alloc' ?_ _ | refine Below.alloc ?_ (by simp <;> omega) _ | refine below_drewN ?_ _ | refine Below.drew ?_)))
      have hx : RowAt w1 w.heap.size #[.string e.d, .string e.t, .string e.s] 75 (0, 0) := by rw [← hw]; exact RowAt.new _ _ _ _
      clear hw
      have x0 := hx.cell (i := 0) rfl
      have x1 := hx.cell (i := 1) rfl
      go_wp2_with fail
      go_ret2
      exact ⟨rfl, HW1.out⟩
    | true =>
      rw [hd, htt] at hr
      obtain ⟨rfl, rfl⟩ := Prod.mk.inj hr
      clear hr
      go_enter Try.func29, Try.ntmps29
      go_wp2_with (at_lookup; refine wpList_look_in _ rfl _ _ 71 rfl 78 75 useKeyed Try.underlying71 (zeroSealed _) mb _ rfl HT.out _ _ rfl HIN.out ?_)
      refine (bmay_walk k n d _ _).mono ?_
      rintro e w1 ⟨rfl, hw⟩
      rw [HM.out]
      have HW1 := Lib.hid (show Below w.heap.size w w1 by rw [← hw]; (repeat' (first | (with_reducible exact Below.refl _ _) | (with_reducible assumption) | refine Below.setCell ?_ (by simp <;> omega) _ | refine below_alloc' ?_ _ | refine Below.alloc ?_ (by simp <;> omega) _ | refine below_drewN ?_ _ | refine Below.drew ?_)))
      have hx : RowAt w1 w.heap.size #[.string e.d, .string e.t, .string e.s] 75 (0, 0) := by rw [← hw]; exact RowAt.new _ _ _ _
      clear hw
      have x0 := hx.cell (i := 0) rfl
      have x1 := hx.cell (i := 1) rfl
      have x2 := hx.cell (i := 2) rfl
      go_wp2_with fail
      go_ret2
      exact ⟨rfl, HW1.out⟩
set_option maxRecDepth 100000 in
set_option maxHeartbeats 2000000 in
theorem BSeal_spent (bb mb : Nat) (st : BoxSt) (k n d t : ByteArray) (hk : k.size ≤ maxLen) (hn : n.size ≤ maxLen) (ht : t.size ≤ 140737488400000) (w : World) (h : BoxAt w bb mb st) (hm : mayB k n d t.size = true) (hf : findB st.tab k n = none) (hz : st.draws.size < t.size + 16) :
    Calls Try.prog 29 #[.pointer (some ⟨bb, 0, none⟩), .string k, .string n, .string d, .string t] w fun e w' => e = .returned (.tuple #[.string ⟨#[]⟩, .int .i64 21]) ∧ Below w.heap.size w w' := by
  have HM := Lib.hid hm
  have HOUT := Lib.hid (found_out hf)
  have hlt : decide ((st.draws.size : Int) < (t.size : Int) + 16) = true := decide_eq_true (by omega)
  clear hm hf hz
  have hb0 := h.1
  have c0 := hb0.cell (i := 0) rfl
  have c2 := hb0.cell (i := 2) rfl
  have HB0 := Lib.hid hb0
  have HT := Lib.hid h.2
  have HKEY := Lib.hid (use_key k n hk hn)
  clear h hk hn hb0
  go_enter Try.func29, Try.ntmps29
  go_wp2_with (at_lookup; refine wpList_look_out _ rfl _ _ 71 rfl 78 75 useKeyed Try.underlying71 (zeroSealed _) mb _ rfl HT.out _ rfl HKEY.out HOUT.out ?_)
  refine (bmay_walk k n d _ _).mono ?_
  rintro e w1 ⟨rfl, hw⟩
  rw [HM.out]
  have HW1 := Lib.hid (show Below w.heap.size w w1 by rw [← hw]; (repeat' (first | (with_reducible exact Below.refl _ _) | (with_reducible assumption) | refine Below.setCell ?_ (by simp <;> omega) _ | refine below_alloc' ?_ _ | refine Below.alloc ?_ (by simp <;> omega) _ | refine below_drewN ?_ _ | refine Below.drew ?_)))
  have hb1 := HB0.out.below HW1.out HB0.out.lt
  clear hw
  have c1 := hb1.cell (i := 1) rfl
  go_wp2_with fail
  go_ret2
  exact ⟨rfl, HW1.out⟩
theorem TabAt.setOther {w : World} {P : Program} {k : TypeId} {b : Nat} {tab : List (Value × Value)} (h : TabAt w P k b tab) {p : Addr} (hp : p.block ≠ b) (v : Value) : TabAt (w.setCell p v) P k b tab := h.of_block (Below.heap_setCell _ _ _ _ (Ne.symm hp))
set_option maxRecDepth 100000 in
set_option maxHeartbeats 2000000 in
theorem BSeal_new (bb mb : Nat) (st : BoxSt) (k n d t : ByteArray) (hk : k.size ≤ maxLen) (hn : n.size ≤ maxLen) (ht : t.size ≤ 140737488400000) (w : World) (h : BoxAt w bb mb st) (hm : mayB k n d t.size = true) (hf : findB st.tab k n = none) (hz : t.size + 16 ≤ st.draws.size) (hl : st.tab.length < maxLen)
    (s r : ByteArray) (hs : s = st.draws.extract 0 (t.size + 16)) (hr : r = st.draws.extract (t.size + 16) st.draws.size) :
    Calls Try.prog 29 #[.pointer (some ⟨bb, 0, none⟩), .string k, .string n, .string d, .string t] w fun e w' => e = .returned (.tuple #[.string s, .int .i64 0]) ∧ BoxAt w' bb mb ⟨r, st.tab ++ [⟨k, n, d, t, s⟩]⟩ ∧ Beside [bb, mb] w w' := by
  obtain ⟨m, hme⟩ : ∃ m, t.size + 16 = m := ⟨_, rfl⟩
  rw [hme] at hs hr
  have HM := Lib.hid hm
  have HOUT := Lib.hid (found_out hf)
  have hmi : (t.size : Int) + 16 = (m : Int) := by omega
  have hlt : decide ((st.draws.size : Int) < (m : Int)) = false := decide_eq_false (by omega)
  have hle : (m : Int) ≤ (st.draws.size : Int) := by omega
  have hge : decide ((m : Int) < 0) = false := decide_eq_false (by omega)
  have HS := Lib.hid hs
  have HR := Lib.hid hr
  have HL := Lib.hid (show (st.tab.map entP).length < maxLen by rw [List.length_map]; exact hl)
  have HNE := Lib.hid h.ne
  clear hm hf hz hme hs hr hl
  have hb0 := h.1
  have c0 := hb0.cell (i := 0) rfl
  have c2 := hb0.cell (i := 2) rfl
  have HB0 := Lib.hid hb0
  have HT := Lib.hid h.2
  have HKEY := Lib.hid (use_key k n hk hn)
  clear h hk hn hb0
  go_enter Try.func29, Try.ntmps29
  go_wp2_with (at_lookup; refine wpList_look_out _ rfl _ _ 71 rfl 78 75 useKeyed Try.underlying71 (zeroSealed _) mb _ rfl HT.out _ rfl HKEY.out HOUT.out ?_)
  refine (bmay_walk k n d _ _).mono ?_
  rintro e w1 ⟨rfl, hw⟩
  rw [HM.out]
  have HW1 := Lib.hid (show Below w.heap.size w w1 by rw [← hw]; (repeat' (first | (with_reducible exact Below.refl _ _) | (with_reducible assumption) | refine Below.setCell ?_ (by simp <;> omega) _ | refine below_alloc' ?_ _ | refine Below.alloc ?_ (by simp <;> omega) _ | refine below_drewN ?_ _ | refine Below.drew ?_)))
  have hb1 := HB0.out.below HW1.out HB0.out.lt
  have HT1 := Lib.hid (HT.out.below HW1.out HT.out.lt)
  clear hw c0 c2
  have c1 := hb1.cell (i := 1) rfl
  have c2 := hb1.cell (i := 2) rfl
  have f1 := hb1.free (i := 1) (by simp)
  have HB1 := Lib.hid hb1
  clear hb1
  go_wp2_with (at_mapUpdate; rw [← HS.out]; refine wpList_put_new _ rfl _ _ _ 71 rfl 78 75 useKeyed Try.underlying71 mb _ rfl (TabAt.setOther HT1.out HNE.out _) HL.out (.agg #[.string k, .string n]) (.agg #[.string d, .string t, .string s]) rfl rfl HKEY.out HOUT.out ?_; intro w3 ht3 hu3)
  go_ret2
  refine ⟨rfl, ⟨?_, ?_⟩, ?_⟩
  · have h9 := (HB1.out.store 1 (.string r)).beside (Beside.turned (S := [mb]) (b := mb) (Beside.refl [mb] _) (by simp) (by rw [HR.out]; exact hu3)) (by simpa using HNE.out)
    exact h9
  · rw [List.map_append]; exact ht3
  · exact ((Beside.of_below HW1.out).setCell (p := ⟨bb, 1, none⟩) (by simp) _).turned (by simp) hu3
set_option maxHeartbeats 1000000 in
theorem BOpen_may (bb mb : Nat) (st : BoxSt) (k n d s : ByteArray) (hk : k.size ≤ maxLen) (hn : n.size ≤ maxLen) (hs : s.size ≤ 140737488400000) (w : World) (h : BoxAt w bb mb st) (hm : mayB k n d ((s.size : Int) - 16) = false) :
    Calls Try.prog 30 #[.pointer (some ⟨bb, 0, none⟩), .string k, .string n, .string d, .string s] w fun e w' => e = .returned (.tuple #[.string ⟨#[]⟩, .int .i64 5]) ∧ Below w.heap.size w w' := by
  have HM := Lib.hid hm
  clear hm
  have hb0 := h.1
  have c0 := hb0.cell (i := 0) rfl
  have c2 := hb0.cell (i := 2) rfl
  have HT := Lib.hid h.2
  have HKEY := Lib.hid (use_key k n hk hn)
  clear h hk hn hb0
  go_enter Try.func30, Try.ntmps30
  go_wp2_with fail
  refine (bmay_walk k n d _ _).mono ?_
  rintro e w1 ⟨rfl, rfl⟩
  rw [HM.out]
  go_wp2_with fail
  go_ret2
  exact ⟨rfl, Below.refl _ _⟩
set_option maxRecDepth 100000 in
set_option maxHeartbeats 2000000 in
theorem BOpen_out (bb mb : Nat) (st : BoxSt) (k n d s : ByteArray) (hk : k.size ≤ maxLen) (hn : n.size ≤ maxLen) (hs : s.size ≤ 140737488400000) (w : World) (h : BoxAt w bb mb st) (hm : mayB k n d ((s.size : Int) - 16) = true) (hf : findB st.tab k n = none) :
    Calls Try.prog 30 #[.pointer (some ⟨bb, 0, none⟩), .string k, .string n, .string d, .string s] w fun e w' => e = .returned (.tuple #[.string ⟨#[]⟩, .int .i64 20]) ∧ Below w.heap.size w w' := by
  have HM := Lib.hid hm
  have HOUT := Lib.hid (found_out hf)
  clear hm hf
  have hb0 := h.1
  have c0 := hb0.cell (i := 0) rfl
  have c2 := hb0.cell (i := 2) rfl
  have HT := Lib.hid h.2
  have HKEY := Lib.hid (use_key k n hk hn)
  clear h hk hn hb0
  go_enter Try.func30, Try.ntmps30
  go_wp2_with fail
  refine (bmay_walk k n d _ _).mono ?_
  rintro e w1 ⟨rfl, rfl⟩
  rw [HM.out]
  go_wp2_with (at_lookup; refine wpList_look_out _ rfl _ _ 71 rfl 78 75 useKeyed Try.underlying71 (zeroSealed _) mb _ rfl HT.out _ rfl HKEY.out HOUT.out ?_)
  go_ret2
  exact ⟨rfl, by (repeat' (first | (with_reducible exact Below.refl _ _) | (with_reducible assumption) | refine Below.setCell ?_ (by simp <;> omega) _ | refine below_alloc' ?_ _ | refine Below.alloc ?_ (by simp <;> omega) _ | refine below_drewN ?_ _ | refine Below.drew ?_))⟩
set_option maxRecDepth 100000 in
set_option maxHeartbeats 2000000 in
theorem BOpen_in (bb mb : Nat) (st : BoxSt) (k n d s : ByteArray) (hk : k.size ≤ maxLen) (hn : n.size ≤ maxLen) (hs : s.size ≤ 140737488400000) (w : World) (h : BoxAt w bb mb st) (hm : mayB k n d ((s.size : Int) - 16) = true) (e : Ent) (hf : findB st.tab k n = some e)
    (r : ByteArray) (c : Int) (hr : (if seq e.d d && seq e.s s then (e.t, 0) else (⟨#[]⟩, 20)) = (r, c)) :
    Calls Try.prog 30 #[.pointer (some ⟨bb, 0, none⟩), .string k, .string n, .string d, .string s] w fun e w' => e = .returned (.tuple #[.string r, .int .i64 c]) ∧ Below w.heap.size w w' := by
  have HM := Lib.hid hm
  have HIN := Lib.hid (found_in hf)
  clear hm hf
  have hb0 := h.1
  have c0 := hb0.cell (i := 0) rfl
  have c2 := hb0.cell (i := 2) rfl
  have HT := Lib.hid h.2
  have HKEY := Lib.hid (use_key k n hk hn)
  clear h hk hn hb0
  cases hd : seq e.d d with
  | false =>
    rw [hd] at hr
    obtain ⟨rfl, rfl⟩ := Prod.mk.inj hr
    clear hr
    go_enter Try.func30, Try.ntmps30
    go_wp2_with fail
    refine (bmay_walk k n d _ _).mono ?_
    rintro e w1 ⟨rfl, rfl⟩
    rw [HM.out]
    go_wp2_with (at_lookup; refine wpList_look_in _ rfl _ _ 71 rfl 78 75 useKeyed Try.underlying71 (zeroSealed _) mb _ rfl HT.out _ _ rfl HIN.out ?_)
    go_ret2
    exact ⟨rfl, by (repeat' (first | (with_reducible exact Below.refl _ _) | (with_reducible assumption) | refine Below.setCell ?_ (by simp <;> omega) _ | refine below_alloc' ?_ _ | refine Below.alloc ?_ (by simp <;> omega) _ | refine below_drewN ?_ _ | refine Below.drew ?_))⟩
  | true =>
    cases hss : seq e.s s with
    | false =>
      rw [hd, hss] at hr
      obtain ⟨rfl, rfl⟩ := Prod.mk.inj hr
      clear hr
      go_enter Try.func30, Try.ntmps30
      go_wp2_with fail
      refine (bmay_walk k n d _ _).mono ?_
      rintro e w1 ⟨rfl, rfl⟩
      rw [HM.out]
      go_wp2_with (at_lookup; refine wpList_look_in _ rfl _ _ 71 rfl 78 75 useKeyed Try.underlying71 (zeroSealed _) mb _ rfl HT.out _ _ rfl HIN.out ?_)
      go_ret2
      exact ⟨rfl, by (repeat' (first | (with_reducible exact Below.refl _ _) | (with_reducible assumption) | refine Below.setCell ?_ (by simp <;> omega) _ | refine below_alloc' ?_ _ | refine Below.alloc ?_ (by simp <;> omega) _ | refine below_drewN ?_ _ | refine Below.drew ?_))⟩
    | true =>
      rw [hd, hss] at hr
      obtain ⟨rfl, rfl⟩ := Prod.mk.inj hr
      clear hr
      go_enter Try.func30, Try.ntmps30
      go_wp2_with fail
      refine (bmay_walk k n d _ _).mono ?_
      rintro e w1 ⟨rfl, rfl⟩
      rw [HM.out]
      go_wp2_with (at_lookup; refine wpList_look_in _ rfl _ _ 71 rfl 78 75 useKeyed Try.underlying71 (zeroSealed _) mb _ rfl HT.out _ _ rfl HIN.out ?_)
      go_ret2
      exact ⟨rfl, by (repeat' (first | (with_reducible exact Below.refl _ _) | (with_reducible assumption) | refine Below.setCell ?_ (by simp <;> omega) _ | refine below_alloc' ?_ _ | refine Below.alloc ?_ (by simp <;> omega) _ | refine below_drewN ?_ _ | refine Below.drew ?_))⟩
/-- An ideal box's Seal. -/
theorem BSeal_walk (bb mb : Nat) (st : BoxSt) (k n d t : ByteArray) (hk : k.size ≤ maxLen) (hn : n.size ≤ maxLen) (ht : t.size ≤ 140737488400000) (w : World) (h : BoxAt w bb mb st) (hl : st.tab.length < maxLen) (r : ByteArray) (c : Int) (st' : BoxSt) (hr : sealB st k n d t = (r, c, st')) :
    Calls Try.prog 29 #[.pointer (some ⟨bb, 0, none⟩), .string k, .string n, .string d, .string t] w fun e w' => e = .returned (.tuple #[.string r, .int .i64 c]) ∧ BoxAt w' bb mb st' ∧ Beside [bb, mb] w w' := by
  unfold sealB at hr
  cases hm : mayB k n d t.size with
  | false =>
    rw [hm, if_neg Bool.false_ne_true] at hr
    obtain ⟨h1, h2⟩ := Prod.mk.inj hr
    obtain ⟨h3, h4⟩ := Prod.mk.inj h2
    clear hr h2
    subst h1 h3 h4
    exact (BSeal_may bb mb st k n d t hk hn ht w h hm).mono fun e w' ⟨h1, h2⟩ => ⟨h1, h.below h2, Beside.of_below h2⟩
  | true =>
    rw [hm, if_pos rfl] at hr
    cases hf : findB st.tab k n with
    | some e =>
      rw [hf] at hr
      simp only at hr
      have hst : st = st' := by
        revert hr
        split <;> intro hr <;> exact (Prod.mk.inj (Prod.mk.inj hr).2).2
      subst hst
      refine (BSeal_found bb mb st k n d t hk hn ht w h hm e hf r c ?_).mono fun e w' ⟨h1, h2⟩ => ⟨h1, h.below h2, Beside.of_below h2⟩
      revert hr
      split <;> intro hr
      · obtain ⟨h1, h2⟩ := Prod.mk.inj hr
        obtain ⟨h3, h4⟩ := Prod.mk.inj h2
        rw [h1, h3]
      · obtain ⟨h1, h2⟩ := Prod.mk.inj hr
        obtain ⟨h3, h4⟩ := Prod.mk.inj h2
        rw [h1, h3]
    | none =>
      rw [hf] at hr
      simp only at hr
      by_cases hz : st.draws.size < t.size + 16
      · rw [if_pos hz] at hr
        obtain ⟨h1, h2⟩ := Prod.mk.inj hr
        obtain ⟨h3, h4⟩ := Prod.mk.inj h2
        clear hr h2
        subst h1 h3 h4
        exact (BSeal_spent bb mb st k n d t hk hn ht w h hm hf hz).mono fun e w' ⟨h1, h2⟩ => ⟨h1, h.below h2, Beside.of_below h2⟩
      · rw [if_neg hz] at hr
        obtain ⟨h1, h2⟩ := Prod.mk.inj hr
        obtain ⟨h3, h4⟩ := Prod.mk.inj h2
        clear hr h2
        subst h1 h3 h4
        exact BSeal_new bb mb st k n d t hk hn ht w h hm hf (by omega) hl _ _ rfl rfl
/-- An ideal box's Open. -/
theorem BOpen_walk (bb mb : Nat) (st : BoxSt) (k n d s : ByteArray) (hk : k.size ≤ maxLen) (hn : n.size ≤ maxLen) (hs : s.size ≤ 140737488400000) (w : World) (h : BoxAt w bb mb st) (r : ByteArray) (c : Int) (hr : openB st k n d s = (r, c)) :
    Calls Try.prog 30 #[.pointer (some ⟨bb, 0, none⟩), .string k, .string n, .string d, .string s] w fun e w' => e = .returned (.tuple #[.string r, .int .i64 c]) ∧ Below w.heap.size w w' := by
  unfold openB at hr
  cases hm : mayB k n d ((s.size : Int) - 16) with
  | false =>
    rw [hm, if_neg Bool.false_ne_true] at hr
    obtain ⟨rfl, rfl⟩ := Prod.mk.inj hr
    exact BOpen_may bb mb st k n d s hk hn hs w h hm
  | true =>
    rw [hm, if_pos rfl] at hr
    cases hf : findB st.tab k n with
    | some e =>
      rw [hf] at hr
      exact BOpen_in bb mb st k n d s hk hn hs w h hm e hf r c hr
    | none =>
      rw [hf] at hr
      obtain ⟨rfl, rfl⟩ := Prod.mk.inj hr
      exact BOpen_out bb mb st k n d s hk hn hs w h hm hf
set_option maxHeartbeats 1000000 in
theorem RealSeal_ok (bb : Nat) (k n d t : ByteArray) (hk : k.size = 32) (hn : n.size = 12) (hd : d.size ≤ 4096) (ht : t.size ≤ 16384) (q : ByteArray) (hq : Is q (sealL k.data.toList n.data.toList d.data.toList t.data.toList)) (w : World) (h : RealAt w bb) :
    Calls Try.prog 29 #[.pointer (some ⟨bb, 0, none⟩), .string k, .string n, .string d, .string t] w fun e w' => e = .returned (.tuple #[.string q, .int .i64 0]) ∧ Below w.heap.size w w' := by
  have c0 := RowAt.cell h (i := 0) rfl
  have HQ := Lib.hid hq
  have HK := Lib.hid hk
  have HN := Lib.hid hn
  have HD := Lib.hid hd
  have HT := Lib.hid ht
  clear h hq hk hn hd ht
  go_enter Try.func29, Try.ntmps29
  go_wp2_with fail
  refine (Seal_ok k n d t HK.out HN.out HD.out HT.out q HQ.out _).mono ?_
  rintro e w1 ⟨rfl, hb1⟩
  go_wp2_with fail
  go_ret2
  exact ⟨rfl, hb1⟩
set_option maxHeartbeats 1000000 in
theorem RealSeal_no (bb : Nat) (k n d t : ByteArray) (hh : ¬ (k.size = 32 ∧ n.size = 12) ∨ 4096 < d.size ∨ 16384 < t.size) (w : World) (h : RealAt w bb) :
    Calls Try.prog 29 #[.pointer (some ⟨bb, 0, none⟩), .string k, .string n, .string d, .string t] w fun e w' => e = .returned (.tuple #[.string ⟨#[]⟩, .int .i64 5]) ∧ w = w' := by
  have c0 := RowAt.cell h (i := 0) rfl
  have HQ := Lib.hid hh
  clear h hh
  go_enter Try.func29, Try.ntmps29
  go_wp2_with fail
  refine (Seal_no k n d t HQ.out _).mono ?_
  rintro e w1 ⟨rfl, rfl⟩
  go_wp2_with fail
  go_ret2
  exact ⟨rfl, rfl⟩
set_option maxHeartbeats 1000000 in
theorem RealOpen_walk (bb : Nat) (k n d s : ByteArray) (hs : s.size ≤ 140737488351232) (q : ByteArray) (c : Int) (hq : Is q (openA k.data.toList n.data.toList d.data.toList s.data.toList).1 ∧ c = (openA k.data.toList n.data.toList d.data.toList s.data.toList).2) (w : World) (h : RealAt w bb) :
    Calls Try.prog 30 #[.pointer (some ⟨bb, 0, none⟩), .string k, .string n, .string d, .string s] w fun e w' => e = .returned (.tuple #[.string q, .int .i64 c]) ∧ Below w.heap.size w w' := by
  have c0 := RowAt.cell h (i := 0) rfl
  have HQ := Lib.hid hq
  have HS := Lib.hid hs
  clear h hq hs
  go_enter Try.func30, Try.ntmps30
  go_wp2_with fail
  refine (Open_walk k n d s HS.out q c HQ.out _).mono ?_
  rintro e w1 ⟨rfl, hb1⟩
  go_wp2_with fail
  go_ret2
  exact ⟨rfl, hb1⟩
end Go.Proofs.Ytfglhemmccihfaa
