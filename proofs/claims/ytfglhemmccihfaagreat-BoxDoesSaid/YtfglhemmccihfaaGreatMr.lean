/-
Reference 07 (box): Key; an ideal box and a real one: Seal, Open.
-/
import Derived.Laws.AppendOwnNone
import Derived.Test.YtfglhemmccihfaaGreatMa
import Derived.Test.YtfglhemmccihfaaGreatMo
import Derived.Test.YtfglhemmccihfaaGreatMp
import Derived.Test.YtfglhemmccihfaaGreatMq
namespace Go.Proofs.YtfglhemmccihfaaGreat
open Go.RowKit Go.Maps

/-! ### The table as a slice of rows -/
def rowL (e : Ent) : List Value := [.string e.k, .string e.n, .string e.d, .string e.t, .string e.s]
def rowsL (tab : List Ent) : List Value := tab.flatMap rowL
theorem rowsL_length (tab : List Ent) : (rowsL tab).length = tab.length * 5 := by
  induction tab with
  | nil => rfl
  | cons e tab ih =>
    unfold rowsL at ih ⊢
    rw [List.flatMap_cons, List.length_append, ih, List.length_cons]
    show 5 + _ = _
    omega
theorem rowsL_append (a b : List Ent) : rowsL (a ++ b) = rowsL a ++ rowsL b := by unfold rowsL; rw [List.flatMap_append]
theorem rowsL_get (tab : List Ent) : ∀ (i : Nat) (h : i < tab.length) (j : Nat), j < 5 → (rowsL tab)[i * 5 + j]? = (rowL tab[i])[j]? := by
  induction tab with
  | nil => intro i h; cases h
  | cons e tab ih =>
    intro i h j hj
    unfold rowsL at ih ⊢
    rw [List.flatMap_cons]
    match i, h with
    | 0, _ =>
      rw [List.getElem?_append_left (by show 0 * 5 + j < 5; omega)]
      simp
    | i + 1, h =>
      rw [List.getElem?_append_right (by show 5 ≤ (i + 1) * 5 + j; omega)]
      show (tab.flatMap rowL)[(i + 1) * 5 + j - 5]? = _
      rw [show (i + 1) * 5 + j - 5 = i * 5 + j by omega, ih i (by simpa using h) j hj]
      rfl
theorem rowsL_one (tab : List Ent) : ∀ u ∈ rowsL tab, u.oneCell' = true := by
  intro u hu
  unfold rowsL at hu
  obtain ⟨e, _, h⟩ := List.mem_flatMap.1 hu
  simp [rowL] at h
  rcases h with rfl | rfl | rfl | rfl | rfl <;> rfl
/-- There lie the rows. -/
def RowsAt (w : World) (ao : Option Addr) (tab : List Ent) : Prop :=
  ∀ (i : Nat) (h : i < tab.length), ∃ b off, ao = some ⟨b, off, none⟩ ∧ b < w.heap.size ∧ w.cell? ⟨b, off + i * 5, none⟩ = some (.string tab[i].k) ∧ w.cell? ⟨b, off + i * 5 + 1, none⟩ = some (.string tab[i].n) ∧
    w.cell? ⟨b, off + i * 5 + 2, none⟩ = some (.string tab[i].d) ∧ w.cell? ⟨b, off + i * 5 + 3, none⟩ = some (.string tab[i].t) ∧ w.cell? ⟨b, off + i * 5 + 4, none⟩ = some (.string tab[i].s)
theorem owns_rows {w : World} {base : Nat} {v : Value} {tab : List Ent} (h : w.ownsRow base 54 5 v tab.length (rowsL tab)) :
    (v = .slice none 0 0 ∧ tab = []) ∨ ∃ g cap, v = .slice (some ⟨g, 0, none⟩) tab.length cap ∧ base ≤ g ∧ g < w.heap.size ∧ RowsAt w (some ⟨g, 0, none⟩) tab ∧ ∀ (j : Nat) (u : Value), (rowsL tab)[j]? = some u → w.cell? ((⟨g, 0, none⟩ : Addr).add j) = some u := by
  rcases h.2 with ⟨rfl, h2⟩ | ⟨g, cap, cur, rfl, h2, h3, _⟩
  · exact .inl ⟨rfl, List.eq_nil_of_length_eq_zero h2⟩
  · have hlt : g < w.heap.size := (Array.getElem?_eq_some_iff.1 h3).1
    have hat : ∀ (j : Nat), j < tab.length * 5 → w.cell? ⟨g, j, none⟩ = (rowsL tab)[j]? := fun j hj => h.cellAt j hj
    refine .inr ⟨g, cap, rfl, h2, hlt, ?_, ?_⟩
    · intro i hi
      have f : ∀ j, j < 5 → w.cell? ⟨g, 0 + i * 5 + j, none⟩ = (rowL tab[i])[j]? := by
        intro j hj
        rw [Nat.zero_add, hat _ (by omega), rowsL_get tab i hi j hj]
      exact ⟨g, 0, rfl, hlt, f 0 (by decide), f 1 (by decide), f 2 (by decide), f 3 (by decide), f 4 (by decide)⟩
    · intro j u hu
      have hj : j < (rowsL tab).length := (List.getElem?_eq_some_iff.1 hu).1
      rw [rowsL_length] at hj
      rw [show (⟨g, 0, none⟩ : Addr).add j = ⟨g, j, none⟩ by unfold Addr.add; simp; intro h; exact h.symm, hat j hj]
      exact hu
theorem owns_keep {w w' : World} {base : Nat} {e : TypeId} {size : Nat} {v : Value} {n : Nat} {xs : List Value} (h : w.ownsRow base e size v n xs) (hk : ∀ (g : Nat) (cur : Array Value), w.heap[g]? = some (Obj.cells cur e (0, 0)) → w'.heap[g]? = w.heap[g]?) : w'.ownsRow base e size v n xs := by
  refine ⟨h.1, ?_⟩
  rcases h.2 with h2 | ⟨g, cap, cur, h2, h3, h4, h5⟩
  · exact .inl h2
  · exact .inr ⟨g, cap, cur, h2, h3, (hk g cur h4).trans h4, h5⟩
theorem owns_mono {w : World} {base base' : Nat} {e : TypeId} {size : Nat} {v : Value} {n : Nat} {xs : List Value} (h : w.ownsRow base e size v n xs) (hb : base' ≤ base) : w.ownsRow base' e size v n xs := by
  refine ⟨h.1, ?_⟩
  rcases h.2 with h2 | ⟨g, cap, cur, h2, h3, h4⟩
  · exact .inl h2
  · exact .inr ⟨g, cap, cur, h2, Nat.le_trans hb h3, h4⟩
/-- Block rb is the reference's ideal box. -/
def RBoxAt (w : World) (rb : Nat) (st : BoxSt) : Prop := ∃ v, RowAt w rb #[.bool true, .string st.draws, v] 29 (0, 0) ∧ w.ownsRow 0 54 5 v st.tab.length (rowsL st.tab)
theorem RBoxAt.below {w w' : World} {rb : Nat} {st : BoxSt} (h : RBoxAt w rb st) (hb : Below w.heap.size w w') : RBoxAt w' rb st := by
  obtain ⟨v, h1, h2⟩ := h
  exact ⟨v, h1.below hb h1.lt, owns_keep h2 fun g cur hg => hb.block g (Array.getElem?_eq_some_iff.1 hg).1⟩
theorem RBoxAt.lt {w : World} {rb : Nat} {st : BoxSt} (h : RBoxAt w rb st) : rb < w.heap.size := by
  obtain ⟨v, h1, _⟩ := h
  exact h1.lt
/-- The program's box turns, the reference's stays. -/
theorem RBoxAt.beside_box {w w' : World} {rb bb mb : Nat} {st st' : BoxSt} (h : RBoxAt w rb st) (k : BoxAt w bb mb st') (hb : Beside [bb, mb] w w') : RBoxAt w' rb st := by
  obtain ⟨v, h1, h2⟩ := h
  have hother : ∀ (g : Nat) (cur : Array Value) (T : TypeId), T ≠ 45 → w.heap[g]? = some (.cells cur T (0, 0)) → g ∉ [bb, mb] := by
    intro g cur T hT hg hmem
    rcases List.mem_cons.1 hmem with rfl | hmem
    · have := k.1.out
      rw [hg] at this
      injection this with this
      injection this with _ this _
      exact hT this
    · obtain rfl := List.mem_singleton.1 hmem
      exact k.2.ne_row (show RowAt w g cur T (0, 0) from hg) rfl
  exact ⟨v, h1.beside hb (hother rb _ _ (by decide) h1.out), owns_keep h2 fun g cur hg => hb.block g (Array.getElem?_eq_some_iff.1 hg).1 (hother g cur _ (by decide) hg)⟩
/-- The reference's box turns, the program's stays. -/
theorem BoxAt.beside_ref {w w' : World} {rb bb mb : Nat} {st st' : BoxSt} (k : BoxAt w bb mb st') (h : RBoxAt w rb st) (hb : Beside [rb] w w') : BoxAt w' bb mb st' := by
  obtain ⟨v, h1, h2⟩ := h
  refine k.beside hb ?_ ?_
  · intro hmem
    obtain rfl := List.mem_singleton.1 hmem
    have := k.1.out
    rw [h1.out] at this
    injection this with this
    injection this with _ this _
    exact absurd this (by decide)
  · intro hmem
    obtain rfl := List.mem_singleton.1 hmem
    exact k.2.ne_row h1 rfl
theorem find_here {tab : List Ent} {k n : ByteArray} {j : Nat} (hj : j < tab.length) (hno : ∀ (i : Nat) (hi : i < j), (seq (tab[i]'(by omega)).k k && seq (tab[i]'(by omega)).n n) = false) (hy : (seq tab[j].k k && seq tab[j].n n) = true) : findB tab k n = some tab[j] := by
  unfold findB
  exact List.find?_eq_some_iff_getElem.2 ⟨hy, j, hj, rfl, fun i hi => by rw [hno i hi]; rfl⟩
theorem find_nowhere {tab : List Ent} {k n : ByteArray} (hno : ∀ (i : Nat) (hi : i < tab.length), (seq tab[i].k k && seq tab[i].n n) = false) : findB tab k n = none := by
  unfold findB
  refine List.find?_eq_none.2 fun e he => ?_
  obtain ⟨i, hi, rfl⟩ := List.getElem_of_mem he
  rw [hno i hi]
  exact Bool.false_ne_true
set_option maxRecDepth 100000 in
set_option maxHeartbeats 2000000 in
theorem RFind_walk (rb : Nat) (ao : Option Addr) (cap : Nat) (draws k n : ByteArray) (tab : List Ent) (w : World) (hr : RowAt w rb #[.bool true, .string draws, .slice ao tab.length cap] 29 (0, 0)) (hrows : RowsAt w ao tab) (hl : tab.length ≤ 1000000) :
    Calls Tryz.prog 20 #[.pointer (some ⟨rb, 0, none⟩), .string k, .string n] w fun e w' => ∃ r : Int, e = .returned (.int .i64 r) ∧ w = w' ∧ ((findB tab k n = none ∧ r = -1) ∨ ∃ (i : Nat) (hi : i < tab.length), r = (i : Int) ∧ findB tab k n = some tab[i]) := by
  have c2 := hr.cell (i := 2) rfl
  have HR := Lib.hid hrows
  clear hr hrows
  go_enter Tryz.func20, Tryz.ntmps20
  go_wp2_with fail
  go_loop [7] (fun i => ∃ j : Nat, j ≤ tab.length ∧ i = .int .i64 j ∧ Hid (∀ (i : Nat) (_ : i < j) (h : i < tab.length), (seq tab[i].k k && seq tab[i].n n) = false)) (fun i => tab.length - (intOf i).toNat)
  case atStart => exact ⟨0, Nat.zero_le _, rfl, fun i hi => absurd hi (by omega)⟩
  case round =>
    obtain ⟨j, hj, rfl, HN⟩ := hrel
    rcases Nat.lt_or_ge j tab.length with hlt | hge
    · obtain ⟨b, off, rfl, hbl, k0, k1, _, _, _⟩ := HR.out j hlt
      have hjl : decide ((j : Int) < (tab.length : Int)) = true := decide_eq_true (by omega)
      obtain ⟨x, hx⟩ : ∃ x, x = tab[j] := ⟨_, rfl⟩
      rw [← hx] at k0 k1
      have HX := Lib.hid hx
      clear hx
      cases h1 : seq x.k k with
      | false =>
        go_wp2_with fail
        go_round
        case rel =>
          refine ⟨j + 1, by omega, by go_num, fun i hi hil => ?_⟩
          rcases Nat.lt_or_ge i j with h | h
          · exact HN.out i h hil
          · obtain rfl : i = j := by omega
            rw [← HX.out, h1]; rfl
        case measure => simp [intOf]; omega
      | true =>
        cases h2 : seq x.n n with
        | false =>
          go_wp2_with fail
          go_round
          case rel =>
            refine ⟨j + 1, by omega, by go_num, fun i hi hil => ?_⟩
            rcases Nat.lt_or_ge i j with h | h
            · exact HN.out i h hil
            · obtain rfl : i = j := by omega
              rw [← HX.out, h1, h2]; rfl
          case measure => simp [intOf]; omega
        | true =>
          go_wp2_with fail
          go_ret
          have hff := find_here hlt (fun i hi => HN.out i hi (by omega)) (by rw [← HX.out, h1, h2]; rfl)
          refine ⟨_, rfl, rfl, .inr ⟨j, ?_⟩⟩
          first | exact ⟨hlt, rfl, hff⟩ | exact ⟨rfl, hlt, hff⟩
    · obtain rfl : j = tab.length := by omega
      have hjl : decide ((tab.length : Int) < (tab.length : Int)) = false := decide_eq_false (by omega)
      go_wp2_with fail
      go_ret
      exact ⟨_, rfl, rfl, .inl ⟨find_nowhere fun i hi => HN.out i hi hi, rfl⟩⟩
theorem not_may {k n d : ByteArray} {len : Int} (h : mayB k n d len = false) : k.size ≠ 32 ∨ n.size ≠ 12 ∨ 4096 < d.size ∨ len < 0 ∨ 16384 < len := by
  have := of_decide_eq_false h
  omega
theorem is_may {k n d : ByteArray} {len : Int} (h : mayB k n d len = true) : k.size = 32 ∧ n.size = 12 ∧ d.size ≤ 4096 ∧ 0 ≤ len ∧ len ≤ 16384 := of_decide_eq_true h
set_option maxRecDepth 100000 in
set_option maxHeartbeats 2000000 in
theorem RBSeal_may (rb : Nat) (st : BoxSt) (k n d t : ByteArray) (w : World) (h : RBoxAt w rb st) (hm : mayB k n d t.size = false) :
    Calls Tryz.prog 11 #[.pointer (some ⟨rb, 0, none⟩), .string k, .string n, .string d, .string t] w fun e w' => e = .returned (.tuple #[.string ⟨#[]⟩, .int .i64 5]) ∧ w = w' := by
  obtain ⟨v, hr, _⟩ := h
  have c0 := hr.cell (i := 0) rfl
  have hno := not_may hm
  clear hr hm
  by_cases x0 : k.size ≠ 32
  · have g0 : ((k.size : Int) != 32) = true := (by rw [bne_iff_ne]; omega)
    clear hno
    go_enter Tryz.func11, Tryz.ntmps11
    go_wp2_with fail
    go_ret2
    exact ⟨rfl, rfl⟩
  · have g0 : ((k.size : Int) != 32) = false := (by rw [bne_eq_false_iff_eq]; omega)
    by_cases x1 : n.size ≠ 12
    · have g1 : ((n.size : Int) != 12) = true := (by rw [bne_iff_ne]; omega)
      clear hno
      go_enter Tryz.func11, Tryz.ntmps11
      go_wp2_with fail
      go_ret2
      exact ⟨rfl, rfl⟩
    · have g1 : ((n.size : Int) != 12) = false := (by rw [bne_eq_false_iff_eq]; omega)
      by_cases x2 : 4096 < d.size
      · have g2 : decide ((4096 : Int) < (d.size : Int)) = true := decide_eq_true (by omega)
        clear hno
        go_enter Tryz.func11, Tryz.ntmps11
        go_wp2_with fail
        go_ret2
        exact ⟨rfl, rfl⟩
      · have g2 : decide ((4096 : Int) < (d.size : Int)) = false := decide_eq_false (by omega)
        have g3 : decide ((16384 : Int) < (t.size : Int)) = true := decide_eq_true (by omega)
        clear hno
        go_enter Tryz.func11, Tryz.ntmps11
        go_wp2_with fail
        go_ret2
        exact ⟨rfl, rfl⟩
set_option maxRecDepth 100000 in
set_option maxHeartbeats 2000000 in
theorem RBSeal_found (rb : Nat) (st : BoxSt) (k n d t : ByteArray) (w : World) (h : RBoxAt w rb st) (hl : st.tab.length ≤ 1000000) (hm : mayB k n d t.size = true) (e : Ent) (hf : findB st.tab k n = some e)
    (r : ByteArray) (c : Int) (hr : (if seq e.d d && seq e.t t then (e.s, 0) else (⟨#[]⟩, 11)) = (r, c)) :
    Calls Tryz.prog 11 #[.pointer (some ⟨rb, 0, none⟩), .string k, .string n, .string d, .string t] w fun e w' => e = .returned (.tuple #[.string r, .int .i64 c]) ∧ w = w' := by
  have HRR := Lib.hid hr
  have HF := Lib.hid hf
  clear hr hf
  obtain ⟨mk, mn, md, mt0, mt⟩ := is_may hm
  have g0 : ((k.size : Int) != 32) = false := (by rw [bne_eq_false_iff_eq]; omega)
  have g1 : ((n.size : Int) != 12) = false := (by rw [bne_eq_false_iff_eq]; omega)
  have g2 : decide ((4096 : Int) < (d.size : Int)) = false := decide_eq_false (by omega)
  have g3 : decide ((16384 : Int) < (t.size : Int)) = false := decide_eq_false (by omega)
  obtain ⟨v, hr, hown⟩ := h
  have c0 := hr.cell (i := 0) rfl
  have HRW := Lib.hid hr
  have HOWN := Lib.hid hown
  clear hm mk mn md mt0
  obtain ⟨ao, cap, rfl, hrows⟩ : ∃ ao cap, v = .slice ao st.tab.length cap ∧ RowsAt w ao st.tab := by
    rcases owns_rows HOWN.out with ⟨rfl, h2⟩ | ⟨g, cap, rfl, _, _, hrows, _⟩
    · exact ⟨none, 0, by rw [h2]; rfl, by rw [h2]; intro i hi; cases hi⟩
    · exact ⟨_, cap, rfl, hrows⟩
  have HROWS := Lib.hid hrows
  clear hown hrows hr HOWN
  have c2 := HRW.out.cell (i := 2) rfl
  go_enter Tryz.func11, Tryz.ntmps11
  go_wp2_with fail
  refine (RFind_walk rb ao cap st.draws k n st.tab _ HRW.out HROWS.out hl).mono ?_
  rintro e wf ⟨r, rfl, rfl, hfr⟩
  rcases hfr with ⟨hf2, _⟩ | ⟨i, hi, rfl, hf2⟩
  · rw [HF.out] at hf2; cases hf2
  · obtain ⟨b, off, rfl, hbl, k0, k1, k2, k3, k4⟩ := HROWS.out i hi
    have hee : st.tab[i] = e := by
      rw [HF.out] at hf2
      exact (Option.some.inj hf2).symm
    rw [hee] at k0 k1 k2 k3 k4
    have hil : (i : Int) < (st.tab.length : Int) := by omega
    have hge : decide ((0 : Int) ≤ (i : Int)) = true := decide_eq_true (by omega)
    clear hf2 hee
    have hrr := HRR.out
    cases hd : seq e.d d with
    | false =>
      rw [hd] at hrr
      obtain ⟨rfl, rfl⟩ := Prod.mk.inj hrr
      clear hrr
      go_wp2_with fail
      go_ret2
      exact ⟨rfl, rfl⟩
    | true =>
      cases ht : seq e.t t with
      | false =>
        rw [hd, ht] at hrr
        obtain ⟨rfl, rfl⟩ := Prod.mk.inj hrr
        clear hrr
        go_wp2_with fail
        go_ret2
        exact ⟨rfl, rfl⟩
      | true =>
        rw [hd, ht] at hrr
        obtain ⟨rfl, rfl⟩ := Prod.mk.inj hrr
        clear hrr
        go_wp2_with fail
        go_ret2
        exact ⟨rfl, rfl⟩
set_option maxRecDepth 100000 in
set_option maxHeartbeats 2000000 in
theorem RBSeal_spent (rb : Nat) (st : BoxSt) (k n d t : ByteArray) (w : World) (h : RBoxAt w rb st) (hl : st.tab.length ≤ 1000000) (hm : mayB k n d t.size = true) (hf : findB st.tab k n = none) (hz : st.draws.size < t.size + 16) :
    Calls Tryz.prog 11 #[.pointer (some ⟨rb, 0, none⟩), .string k, .string n, .string d, .string t] w fun e w' => e = .returned (.tuple #[.string ⟨#[]⟩, .int .i64 21]) ∧ w = w' := by
  have HF := Lib.hid hf
  have hlt : decide ((st.draws.size : Int) < (t.size : Int) + 16) = true := decide_eq_true (by omega)
  clear hf hz
  obtain ⟨mk, mn, md, mt0, mt⟩ := is_may hm
  have g0 : ((k.size : Int) != 32) = false := (by rw [bne_eq_false_iff_eq]; omega)
  have g1 : ((n.size : Int) != 12) = false := (by rw [bne_eq_false_iff_eq]; omega)
  have g2 : decide ((4096 : Int) < (d.size : Int)) = false := decide_eq_false (by omega)
  have g3 : decide ((16384 : Int) < (t.size : Int)) = false := decide_eq_false (by omega)
  obtain ⟨v, hr, hown⟩ := h
  have c0 := hr.cell (i := 0) rfl
  have HRW := Lib.hid hr
  have HOWN := Lib.hid hown
  clear hm mk mn md mt0
  have c1 := HRW.out.cell (i := 1) rfl
  obtain ⟨ao, cap, rfl, hrows⟩ : ∃ ao cap, v = .slice ao st.tab.length cap ∧ RowsAt w ao st.tab := by
    rcases owns_rows HOWN.out with ⟨rfl, h2⟩ | ⟨g, cap, rfl, _, _, hrows, _⟩
    · exact ⟨none, 0, by rw [h2]; rfl, by rw [h2]; intro i hi; cases hi⟩
    · exact ⟨_, cap, rfl, hrows⟩
  have HROWS := Lib.hid hrows
  clear hown hrows hr
  have c2 := HRW.out.cell (i := 2) rfl
  go_enter Tryz.func11, Tryz.ntmps11
  go_wp2_with fail
  refine (RFind_walk rb ao cap st.draws k n st.tab _ HRW.out HROWS.out hl).mono ?_
  rintro e wf ⟨r, rfl, rfl, hfr⟩
  rcases hfr with ⟨_, rfl⟩ | ⟨i, hi, rfl, hf2⟩
  · go_wp2_with fail
    go_ret2
    exact ⟨rfl, rfl⟩
  · rw [HF.out] at hf2; cases hf2
theorem infoRow : (Tryz.prog.info? 54).map (fun i => (i.zero, i.size, i.bytes)) = some (some (.agg #[.string ⟨#[]⟩, .string ⟨#[]⟩, .string ⟨#[]⟩, .string ⟨#[]⟩, .string ⟨#[]⟩]), 5, 80) := by kernel_rfl
theorem owns_zero5 (w : World) (e : TypeId) {base : Nat} (hb : base ≤ w.heap.size) : (w.alloc (.cells #[] e)).ownsRow base e 5 (.slice (some ⟨w.heap.size, 0, none⟩) 0 0) 0 [] :=
  ⟨rfl, .inr ⟨w.heap.size, 0, #[], rfl, hb, RowAt.new w #[] e (0, 0), Nat.le_refl _, by unfold maxLen; omega, rfl, rfl⟩⟩
theorem wpList_append_rows {P : Program} (w : World) {ops : Array Oper} {rest : List Oper} {o : Oper} {a : Act} {Q : Exit → Act → World → Prop} (hgd : o.guard = none) (s x : Operand) (t : TypeId)
    (ho : o.op = .call { callee := .builtin .append, args := #[s, x], argTypes := #[t, t] }) (base : Nat) (e : TypeId) (z : Value) (size bytes : Nat) (ht : P.underlying t = some (.slice e))
    (hi : (P.info? e).map (fun i => (i.zero, i.size, i.bytes)) = some (some z, size, bytes)) (hzs : z.cells.size = size) (hsz : 0 < size)
    (v : Value) (n : Nat) (xs : List Value) (hs : a.eval s = v) (hown : w.ownsRow base e size v n xs)
    (b0 : Nat) (src : Value) (m : Nat) (news : List Value) (hx : a.eval x = src) (hsrc : w.ownsRow b0 e size src m news) (h1 : ∀ u ∈ news, u.oneCell' = true)
    (h63 : n + m ≤ maxLen) (hbytes : (n + m) * bytes ≤ 140737488355328) (hbase : base ≤ w.heap.size)
    (h : ∀ v' w', w'.ownsRow base e size v' (n + m) (xs ++ news) → w.grownBy w' v.ownBlock → wpList P ops Q rest (a.put o.dst v') w') : wpList P ops Q (o :: rest) a w := by
  obtain ⟨i0, hi0, hz0, hz1, hz2⟩ := info_parts hi
  rcases hsrc.2 with ⟨rfl, rfl⟩ | ⟨g, cap, cur, rfl, _, hg, _, _, _, _⟩
  · have hn : news = [] := List.eq_nil_of_length_eq_zero (by rw [hsrc.1, Nat.zero_mul])
    subst hn
    refine wpList_append_own_none hgd s x t ho base e i0 size ht hi0 v n xs hs hown hx (h v w ?_ ⟨rfl, rfl, rfl, Nat.le_refl _, fun _ _ _ => rfl⟩)
    rw [List.append_nil]
    exact hown
  · refine wpList_append_own w hgd s x t ho base e i0 z size bytes ht hi0 hz0 hz1 hz2 hzs hsz v n xs hs hown ⟨g, 0, none⟩ m cap news hx hsrc.1 ?_ h1 h63 hbytes hbase fun v' w' h2 h3 _ => h v' w' h2 h3
    intro j u hu
    have hj : j < news.length := (List.getElem?_eq_some_iff.1 hu).1
    rw [hsrc.1] at hj
    rw [show (⟨g, 0, none⟩ : Addr).add j = ⟨g, j, none⟩ by unfold Addr.add; simp; intro h; exact h.symm, hsrc.cellAt j hj]
    exact hu
theorem owns_one5 (w : World) (e : TypeId) (x : Ent) : (w.alloc (.cells #[.string x.k, .string x.n, .string x.d, .string x.t, .string x.s] e)).ownsRow 0 e 5 (.slice (some ⟨w.heap.size, 0, none⟩) 1 1) 1 (rowL x) :=
  ⟨rfl, .inr ⟨w.heap.size, 1, #[.string x.k, .string x.n, .string x.d, .string x.t, .string x.s], rfl, Nat.zero_le _, RowAt.new w _ e (0, 0), Nat.le_refl _, by unfold maxLen; omega, rfl, rfl⟩⟩
theorem cells_new {w : World} {l : List Value} {e : TypeId} : ∀ (j : Nat) (u : Value), l[j]? = some u → (w.alloc (.cells l.toArray e)).cell? ((⟨w.heap.size, 0, none⟩ : Addr).add j) = some u := by
  intro j u hu
  rw [show (⟨w.heap.size, 0, none⟩ : Addr).add j = ⟨w.heap.size, j, none⟩ by unfold Addr.add; simp; intro h; exact h.symm]
  exact (RowAt.new w l.toArray e (0, 0)).cell (i := j) (by rw [List.getElem?_toArray]; exact hu)
set_option maxRecDepth 100000 in
set_option maxHeartbeats 4000000 in
theorem RBSeal_new (rb : Nat) (st : BoxSt) (k n d t : ByteArray) (w : World) (h : RBoxAt w rb st) (hl : st.tab.length ≤ 1000000) (hm : mayB k n d t.size = true) (hf : findB st.tab k n = none) (hz : t.size + 16 ≤ st.draws.size)
    (s r : ByteArray) (hs : s = st.draws.extract 0 (t.size + 16)) (hrr : r = st.draws.extract (t.size + 16) st.draws.size) :
    Calls Tryz.prog 11 #[.pointer (some ⟨rb, 0, none⟩), .string k, .string n, .string d, .string t] w fun e w' => e = .returned (.tuple #[.string s, .int .i64 0]) ∧ RBoxAt w' rb ⟨r, st.tab ++ [⟨k, n, d, t, s⟩]⟩ ∧ Beside [rb] w w' := by
  obtain ⟨m, hme⟩ : ∃ m, t.size + 16 = m := ⟨_, rfl⟩
  rw [hme] at hs hrr
  have HF := Lib.hid hf
  have hmi : (t.size : Int) + 16 = (m : Int) := by omega
  have hlt : decide ((st.draws.size : Int) < (m : Int)) = false := decide_eq_false (by omega)
  have hle : (m : Int) ≤ (st.draws.size : Int) := by omega
  have hge : decide ((m : Int) < 0) = false := decide_eq_false (by omega)
  have HS := Lib.hid hs
  have HRR := Lib.hid hrr
  clear hf hz hme hs hrr
  obtain ⟨mk, mn, md, mt0, mt⟩ := is_may hm
  have g0 : ((k.size : Int) != 32) = false := (by rw [bne_eq_false_iff_eq]; omega)
  have g1 : ((n.size : Int) != 12) = false := (by rw [bne_eq_false_iff_eq]; omega)
  have g2 : decide ((4096 : Int) < (d.size : Int)) = false := decide_eq_false (by omega)
  have g3 : decide ((16384 : Int) < (t.size : Int)) = false := decide_eq_false (by omega)
  obtain ⟨v, hr, hown⟩ := h
  have c0 := hr.cell (i := 0) rfl
  have HRW := Lib.hid hr
  have HOWN := Lib.hid hown
  clear hm mk mn md mt0
  have c1 := HRW.out.cell (i := 1) rfl
  have f1 := HRW.out.free (i := 1) (by simp)
  obtain ⟨ao, cap, rfl, hrows⟩ : ∃ ao cap, v = .slice ao st.tab.length cap ∧ RowsAt w ao st.tab := by
    rcases owns_rows HOWN.out with ⟨rfl, h2⟩ | ⟨g, cap, rfl, _, _, hrows, _⟩
    · exact ⟨none, 0, by rw [h2]; rfl, by rw [h2]; intro i hi; cases hi⟩
    · exact ⟨_, cap, rfl, hrows⟩
  have HROWS := Lib.hid hrows
  have HLT := Lib.hid hr.lt
  obtain ⟨i0, hi0, hz0, hz1, hz2⟩ := info_parts infoRow
  clear hown hrows hr
  have c2 := HRW.out.cell (i := 2) rfl
  go_enter Tryz.func11, Tryz.ntmps11
  go_wp2_with fail
  refine (RFind_walk rb ao cap st.draws k n st.tab _ HRW.out HROWS.out hl).mono ?_
  rintro e wf ⟨r, rfl, rfl, hfr⟩
  rcases hfr with ⟨_, rfl⟩ | ⟨i, hi, rfl, hf2⟩
  rotate_left
  · rw [HF.out] at hf2; cases hf2
  have HRS := Lib.hid ((HRW.out.store 1 (.string (st.draws.extract m st.draws.size))))
  have HOS := Lib.hid (show (w.setCell ⟨rb, 1, none⟩ (.string (st.draws.extract m st.draws.size))).ownsRow 0 54 5 (.slice ao st.tab.length cap) st.tab.length (rowsL st.tab) from owns_keep HOWN.out fun g cur hg => Below.heap_setCell _ _ _ _ (by
    rintro rfl
    have := HRW.out.out
    rw [hg] at this
    injection this with this
    injection this with _ this _
    exact absurd this (by decide)))
  have HWS := Lib.hid ((Beside.refl [rb] w).setCell (p := ⟨rb, 1, none⟩) (by simp) (.string (st.draws.extract m st.draws.size)))
  go_upto_region 15 with fail
  rw [← HRR.out] at HRS HOS HWS ⊢
  rw [← HS.out]
  generalize w.setCell ⟨rb, 1, none⟩ (.string r) = ws at HRS HOS HWS ⊢
  have c2 := HRS.out.cell (i := 2) rfl
  have HRS2 := Lib.hid (show RowAt ws rb #[.bool true, .string r, .slice ao st.tab.length cap] 29 (0, 0) from HRS.out)
  clear HRS c0 c1 f1
  have hlt0 : rb < ws.heap.size := HRS2.out.lt
  have HBX := Lib.hid (show RowAt ws rb #[.bool true, .string r, .slice ao st.tab.length cap] 29 (0, 0) from HRS2.out)
  go_wp2_with (at_builtin; refine wpList_append_rows _ rfl _ _ 27 rfl ws.heap.size 54 _ 5 80 Tryz.underlying27 infoRow rfl (by decide) _ 0 [] rfl (owns_zero5 ws _ (Nat.le_refl _)) 0 _ _ _ rfl (HOS.out.alloc _) (rowsL_one _) ?c1 ?c2 ?c3 ?_)
  case c1 => unfold maxLen; omega
  case c2 => omega
  case c3 => simp
  intro v1 w1 hown1 hg1
  have HB1 := Lib.hid (show Below ws.heap.size ws w1 from ((Below.refl _ ws).alloc (Nat.le_refl _) _).grown hg1 (by simp) (by intro k hk; injection hk with hk; subst hk; exact Nat.le_refl _))
  have HR1 := Lib.hid (HRS2.out.below HB1.out HRS2.out.lt)
  have HOW1 := Lib.hid hown1
  clear c2 hown1 hg1 HRS2
  go_wp2_with (at_builtin; refine wpList_append_rows _ rfl _ _ 27 rfl ws.heap.size 54 _ 5 80 Tryz.underlying27 infoRow rfl (by decide) v1 _ _ rfl (HOW1.out.alloc _) 0 (.slice (some ⟨w1.heap.size, 0, none⟩) 1 1) 1 (rowL ⟨k, n, d, t, s⟩) rfl (owns_one5 w1 _ ⟨k, n, d, t, s⟩) ?d0 ?c1 ?c2 ?c3 ?_)
  case d0 => intro u hu; exact rowsL_one [⟨k, n, d, t, s⟩] u (by simpa [rowsL] using hu)
  case c1 => unfold maxLen; omega
  case c2 => omega
  case c3 => have := HB1.out.size; simp; omega
  intro v2 w2 hown2 hg2
  have HB2 := Lib.hid (show Below ws.heap.size ws w2 from (HB1.out.alloc HB1.out.size _).grown hg2 (by have := HB1.out.size; simp; omega) (fun k hk => (HOW1.out.lt k hk).1))
  have HR2 := Lib.hid (HBX.out.below HB2.out HBX.out.lt)
  have HOW2 := Lib.hid (show w2.ownsRow 0 54 5 v2 (st.tab.length + 1) (rowsL (st.tab ++ [⟨k, n, d, t, s⟩])) by
    have h9 := owns_mono hown2 (Nat.zero_le _)
    rw [rowsL_append]
    simpa [rowsL] using h9)
  clear hown2 hg2 HB1 HR1 HOW1
  obtain ⟨g2, cap2, hv2⟩ : ∃ g cap, v2 = .slice (some ⟨g, 0, none⟩) (st.tab.length + 1) cap := by
    rcases HOW2.out.2 with ⟨_, h2⟩ | ⟨g, cap, _, h2, _⟩
    · exact absurd h2 (by omega)
    · exact ⟨g, cap, h2⟩
  subst hv2
  have c2 := HR2.out.cell (i := 2) rfl
  have f2 := HR2.out.free (i := 2) (by simp)
  go_wp2_with fail
  go_ret2
  refine ⟨rfl, ⟨_, HR2.out.store 2 (.slice (some ⟨g2, 0, none⟩) (st.tab.length + 1) cap2), ?_⟩, ?_⟩
  · have h7 : (st.tab ++ [(⟨k, n, d, t, s⟩ : Ent)]).length = st.tab.length + 1 := by simp
    show World.ownsRow _ 0 54 5 _ (st.tab ++ [(⟨k, n, d, t, s⟩ : Ent)]).length _
    rw [h7]
    refine owns_keep HOW2.out fun g cur hg => Below.heap_setCell _ _ _ _ ?_
    rintro rfl
    have := HR2.out.out
    rw [hg] at this
    injection this with this
    injection this with _ this _
    exact absurd this (by decide)
  exact (HWS.out.trans (Beside.of_below HB2.out)).setCell (p := ⟨rb, 2, none⟩) (by simp) _
set_option maxRecDepth 100000 in
set_option maxHeartbeats 2000000 in
theorem RBOpen_may (rb : Nat) (st : BoxSt) (k n d t : ByteArray) (w : World) (h : RBoxAt w rb st) (hm : mayB k n d ((t.size : Int) - 16) = false) :
    Calls Tryz.prog 13 #[.pointer (some ⟨rb, 0, none⟩), .string k, .string n, .string d, .string t] w fun e w' => e = .returned (.tuple #[.string ⟨#[]⟩, .int .i64 5]) ∧ w = w' := by
  obtain ⟨v, hr, _⟩ := h
  have c0 := hr.cell (i := 0) rfl
  have hno := not_may hm
  clear hr hm
  by_cases x0 : k.size ≠ 32
  · have g0 : ((k.size : Int) != 32) = true := (by rw [bne_iff_ne]; omega)
    clear hno
    go_enter Tryz.func13, Tryz.ntmps13
    go_wp2_with fail
    go_ret2
    exact ⟨rfl, rfl⟩
  · have g0 : ((k.size : Int) != 32) = false := (by rw [bne_eq_false_iff_eq]; omega)
    by_cases x1 : n.size ≠ 12
    · have g1 : ((n.size : Int) != 12) = true := (by rw [bne_iff_ne]; omega)
      clear hno
      go_enter Tryz.func13, Tryz.ntmps13
      go_wp2_with fail
      go_ret2
      exact ⟨rfl, rfl⟩
    · have g1 : ((n.size : Int) != 12) = false := (by rw [bne_eq_false_iff_eq]; omega)
      by_cases x2 : 4096 < d.size
      · have g2 : decide ((4096 : Int) < (d.size : Int)) = true := decide_eq_true (by omega)
        clear hno
        go_enter Tryz.func13, Tryz.ntmps13
        go_wp2_with fail
        go_ret2
        exact ⟨rfl, rfl⟩
      · have g2 : decide ((4096 : Int) < (d.size : Int)) = false := decide_eq_false (by omega)
        by_cases x3 : t.size < 16
        · have g3 : decide ((t.size : Int) < 16) = true := decide_eq_true (by omega)
          clear hno
          go_enter Tryz.func13, Tryz.ntmps13
          go_wp2_with fail
          go_ret2
          exact ⟨rfl, rfl⟩
        · have g3 : decide ((t.size : Int) < 16) = false := decide_eq_false (by omega)
          have g4 : decide ((16400 : Int) < (t.size : Int)) = true := decide_eq_true (by omega)
          clear hno
          go_enter Tryz.func13, Tryz.ntmps13
          go_wp2_with fail
          go_ret2
          exact ⟨rfl, rfl⟩
set_option maxRecDepth 100000 in
set_option maxHeartbeats 2000000 in
theorem RBOpen_out (rb : Nat) (st : BoxSt) (k n d t : ByteArray) (w : World) (h : RBoxAt w rb st) (hl : st.tab.length ≤ 1000000) (hm : mayB k n d ((t.size : Int) - 16) = true) (hf : findB st.tab k n = none) :
    Calls Tryz.prog 13 #[.pointer (some ⟨rb, 0, none⟩), .string k, .string n, .string d, .string t] w fun e w' => e = .returned (.tuple #[.string ⟨#[]⟩, .int .i64 20]) ∧ w = w' := by
  have HF := Lib.hid hf
  clear hf
  obtain ⟨mk, mn, md, mt0, mt⟩ := is_may hm
  have g0 : ((k.size : Int) != 32) = false := (by rw [bne_eq_false_iff_eq]; omega)
  have g1 : ((n.size : Int) != 12) = false := (by rw [bne_eq_false_iff_eq]; omega)
  have g2 : decide ((4096 : Int) < (d.size : Int)) = false := decide_eq_false (by omega)
  have g3 : decide ((t.size : Int) < 16) = false := decide_eq_false (by omega)
  have g4 : decide ((16400 : Int) < (t.size : Int)) = false := decide_eq_false (by omega)
  obtain ⟨v, hr, hown⟩ := h
  have c0 := hr.cell (i := 0) rfl
  have HRW := Lib.hid hr
  have HOWN := Lib.hid hown
  clear hm mk mn md mt0
  obtain ⟨ao, cap, rfl, hrows⟩ : ∃ ao cap, v = .slice ao st.tab.length cap ∧ RowsAt w ao st.tab := by
    rcases owns_rows HOWN.out with ⟨rfl, h2⟩ | ⟨g, cap, rfl, _, _, hrows, _⟩
    · exact ⟨none, 0, by rw [h2]; rfl, by rw [h2]; intro i hi; cases hi⟩
    · exact ⟨_, cap, rfl, hrows⟩
  have HROWS := Lib.hid hrows
  clear hown hrows hr HOWN
  have c2 := HRW.out.cell (i := 2) rfl
  go_enter Tryz.func13, Tryz.ntmps13
  go_wp2_with fail
  refine (RFind_walk rb ao cap st.draws k n st.tab _ HRW.out HROWS.out hl).mono ?_
  rintro e wf ⟨r, rfl, rfl, hfr⟩
  rcases hfr with ⟨_, rfl⟩ | ⟨i, hi, rfl, hf2⟩
  · go_wp2_with fail
    go_ret2
    exact ⟨rfl, rfl⟩
  · rw [HF.out] at hf2; cases hf2
set_option maxRecDepth 100000 in
set_option maxHeartbeats 2000000 in
theorem RBOpen_in (rb : Nat) (st : BoxSt) (k n d t : ByteArray) (w : World) (h : RBoxAt w rb st) (hl : st.tab.length ≤ 1000000) (hm : mayB k n d ((t.size : Int) - 16) = true) (e : Ent) (hf : findB st.tab k n = some e)
    (r : ByteArray) (c : Int) (hr : (if seq e.d d && seq e.s t then (e.t, 0) else (⟨#[]⟩, 20)) = (r, c)) :
    Calls Tryz.prog 13 #[.pointer (some ⟨rb, 0, none⟩), .string k, .string n, .string d, .string t] w fun e w' => e = .returned (.tuple #[.string r, .int .i64 c]) ∧ w = w' := by
  have HRR := Lib.hid hr
  have HF := Lib.hid hf
  clear hr hf
  obtain ⟨mk, mn, md, mt0, mt⟩ := is_may hm
  have g0 : ((k.size : Int) != 32) = false := (by rw [bne_eq_false_iff_eq]; omega)
  have g1 : ((n.size : Int) != 12) = false := (by rw [bne_eq_false_iff_eq]; omega)
  have g2 : decide ((4096 : Int) < (d.size : Int)) = false := decide_eq_false (by omega)
  have g3 : decide ((t.size : Int) < 16) = false := decide_eq_false (by omega)
  have g4 : decide ((16400 : Int) < (t.size : Int)) = false := decide_eq_false (by omega)
  obtain ⟨v, hr, hown⟩ := h
  have c0 := hr.cell (i := 0) rfl
  have HRW := Lib.hid hr
  have HOWN := Lib.hid hown
  clear hm mk mn md mt0
  obtain ⟨ao, cap, rfl, hrows⟩ : ∃ ao cap, v = .slice ao st.tab.length cap ∧ RowsAt w ao st.tab := by
    rcases owns_rows HOWN.out with ⟨rfl, h2⟩ | ⟨g, cap, rfl, _, _, hrows, _⟩
    · exact ⟨none, 0, by rw [h2]; rfl, by rw [h2]; intro i hi; cases hi⟩
    · exact ⟨_, cap, rfl, hrows⟩
  have HROWS := Lib.hid hrows
  clear hown hrows hr HOWN
  have c2 := HRW.out.cell (i := 2) rfl
  go_enter Tryz.func13, Tryz.ntmps13
  go_wp2_with fail
  refine (RFind_walk rb ao cap st.draws k n st.tab _ HRW.out HROWS.out hl).mono ?_
  rintro e wf ⟨r, rfl, rfl, hfr⟩
  rcases hfr with ⟨hf2, _⟩ | ⟨i, hi, rfl, hf2⟩
  · rw [HF.out] at hf2; cases hf2
  · obtain ⟨b, off, rfl, hbl, k0, k1, k2, k3, k4⟩ := HROWS.out i hi
    have hee : st.tab[i] = e := by
      rw [HF.out] at hf2
      exact (Option.some.inj hf2).symm
    rw [hee] at k0 k1 k2 k3 k4
    have hil : (i : Int) < (st.tab.length : Int) := by omega
    have hge : decide ((i : Int) < 0) = false := decide_eq_false (by omega)
    clear hf2 hee
    have hrr := HRR.out
    cases hd : seq e.d d with
    | false =>
      rw [hd] at hrr
      obtain ⟨rfl, rfl⟩ := Prod.mk.inj hrr
      clear hrr
      go_wp2_with fail
      go_ret2
      exact ⟨rfl, rfl⟩
    | true =>
      cases ht : seq e.s t with
      | false =>
        rw [hd, ht] at hrr
        obtain ⟨rfl, rfl⟩ := Prod.mk.inj hrr
        clear hrr
        go_wp2_with fail
        go_ret2
        exact ⟨rfl, rfl⟩
      | true =>
        rw [hd, ht] at hrr
        obtain ⟨rfl, rfl⟩ := Prod.mk.inj hrr
        clear hrr
        go_wp2_with fail
        go_ret2
        exact ⟨rfl, rfl⟩
theorem Beside.same {S : List Nat} {w w' : World} (h : w = w') : Beside S w w' := by subst h; exact Beside.refl _ _
/-- The reference's ideal box's Seal. -/
theorem RBSeal_walk (rb : Nat) (st : BoxSt) (k n d t : ByteArray) (w : World) (h : RBoxAt w rb st) (hl : st.tab.length ≤ 1000000) (r : ByteArray) (c : Int) (st' : BoxSt) (hr : sealB st k n d t = (r, c, st')) :
    Calls Tryz.prog 11 #[.pointer (some ⟨rb, 0, none⟩), .string k, .string n, .string d, .string t] w fun e w' => e = .returned (.tuple #[.string r, .int .i64 c]) ∧ RBoxAt w' rb st' ∧ Beside [rb] w w' := by
  unfold sealB at hr
  cases hm : mayB k n d t.size with
  | false =>
    rw [hm, if_neg Bool.false_ne_true] at hr
    obtain ⟨h1, h2⟩ := Prod.mk.inj hr
    obtain ⟨h3, h4⟩ := Prod.mk.inj h2
    clear hr h2
    subst h1 h3 h4
    exact (RBSeal_may rb st k n d t w h hm).mono fun e w' ⟨h1, h2⟩ => ⟨h1, h2 ▸ h, Beside.same h2⟩
  | true =>
    rw [hm, if_pos rfl] at hr
    cases hf : findB st.tab k n with
    | some e =>
      rw [hf] at hr
      simp only at hr
      have hst : st = st' := by
        revert hr
        split <;> intro hr <;> exact (Prod.mk.inj (Prod.mk.inj hr).2).2
      subst hst
      refine (RBSeal_found rb st k n d t w h hl hm e hf r c ?_).mono fun e w' ⟨h1, h2⟩ => ⟨h1, h2 ▸ h, Beside.same h2⟩
      revert hr
      split <;> intro hr
      · obtain ⟨h1, h2⟩ := Prod.mk.inj hr
        obtain ⟨h3, h4⟩ := Prod.mk.inj h2
        rw [h1, h3]
      · obtain ⟨h1, h2⟩ := Prod.mk.inj hr
        obtain ⟨h3, h4⟩ := Prod.mk.inj h2
        rw [h1, h3]
    | none =>
      rw [hf] at hr
      simp only at hr
      by_cases hz : st.draws.size < t.size + 16
      · rw [if_pos hz] at hr
        obtain ⟨h1, h2⟩ := Prod.mk.inj hr
        obtain ⟨h3, h4⟩ := Prod.mk.inj h2
        clear hr h2
        subst h1 h3 h4
        exact (RBSeal_spent rb st k n d t w h hl hm hf hz).mono fun e w' ⟨h1, h2⟩ => ⟨h1, h2 ▸ h, Beside.same h2⟩
      · rw [if_neg hz] at hr
        obtain ⟨h1, h2⟩ := Prod.mk.inj hr
        obtain ⟨h3, h4⟩ := Prod.mk.inj h2
        clear hr h2
        subst h1 h3 h4
        exact RBSeal_new rb st k n d t w h hl hm hf (by omega) _ _ rfl rfl
/-- The reference's ideal box's Open. -/
theorem RBOpen_walk (rb : Nat) (st : BoxSt) (k n d t : ByteArray) (w : World) (h : RBoxAt w rb st) (hl : st.tab.length ≤ 1000000) (r : ByteArray) (c : Int) (hr : openB st k n d t = (r, c)) :
    Calls Tryz.prog 13 #[.pointer (some ⟨rb, 0, none⟩), .string k, .string n, .string d, .string t] w fun e w' => e = .returned (.tuple #[.string r, .int .i64 c]) ∧ w = w' := by
  unfold openB at hr
  cases hm : mayB k n d ((t.size : Int) - 16) with
  | false =>
    rw [hm, if_neg Bool.false_ne_true] at hr
    obtain ⟨rfl, rfl⟩ := Prod.mk.inj hr
    exact RBOpen_may rb st k n d t w h hm
  | true =>
    rw [hm, if_pos rfl] at hr
    cases hf : findB st.tab k n with
    | some e =>
      rw [hf] at hr
      exact RBOpen_in rb st k n d t w h hl hm e hf r c hr
    | none =>
      rw [hf] at hr
      obtain ⟨rfl, rfl⟩ := Prod.mk.inj hr
      exact RBOpen_out rb st k n d t w h hl hm hf
/-- Block rb is the reference's real box. -/
def RRealAt (w : World) (rb : Nat) : Prop := RowAt w rb #[.bool false, .string ⟨#[]⟩, .slice none 0 0] 29 (0, 0)
set_option maxHeartbeats 1000000 in
theorem RRSeal_ok (rb : Nat) (k n d t : ByteArray) (hk : k.size = 32) (hn : n.size = 12) (hd : d.size ≤ 4096) (ht : t.size ≤ 16384) (q : ByteArray) (hq : Is q (sealL k.data.toList n.data.toList d.data.toList t.data.toList)) (w : World) (h : RRealAt w rb) :
    Calls Tryz.prog 11 #[.pointer (some ⟨rb, 0, none⟩), .string k, .string n, .string d, .string t] w fun e w' => e = .returned (.tuple #[.string q, .int .i64 0]) ∧ Below w.heap.size w w' := by
  have c0 := RowAt.cell h (i := 0) rfl
  have HQ := Lib.hid hq
  have HK := Lib.hid hk
  have HN := Lib.hid hn
  have HD := Lib.hid hd
  have HT := Lib.hid ht
  clear h hq hk hn hd ht
  go_enter Tryz.func11, Tryz.ntmps11
  go_wp2_with fail
  refine (RSeal_ok k n d t HK.out HN.out HD.out HT.out q HQ.out _).mono ?_
  rintro e w1 ⟨rfl, hb1⟩
  go_wp2_with fail
  go_ret2
  exact ⟨rfl, hb1⟩
set_option maxHeartbeats 1000000 in
theorem RRSeal_no (rb : Nat) (k n d t : ByteArray) (hh : ¬ (k.size = 32 ∧ n.size = 12) ∨ 4096 < d.size ∨ 16384 < t.size) (w : World) (h : RRealAt w rb) :
    Calls Tryz.prog 11 #[.pointer (some ⟨rb, 0, none⟩), .string k, .string n, .string d, .string t] w fun e w' => e = .returned (.tuple #[.string ⟨#[]⟩, .int .i64 5]) ∧ Below w.heap.size w w' := by
  have c0 := RowAt.cell h (i := 0) rfl
  have HQ := Lib.hid hh
  clear h hh
  go_enter Tryz.func11, Tryz.ntmps11
  go_wp2_with fail
  refine (RSeal_no k n d t HQ.out _).mono ?_
  rintro e w1 ⟨rfl, hb1⟩
  go_wp2_with fail
  go_ret2
  exact ⟨rfl, hb1⟩
set_option maxHeartbeats 1000000 in
theorem RROpen_walk (rb : Nat) (k n d t : ByteArray) (hs : t.size ≤ 140737488351232) (q : ByteArray) (c : Int) (hq : Is q (openA k.data.toList n.data.toList d.data.toList t.data.toList).1 ∧ c = (openA k.data.toList n.data.toList d.data.toList t.data.toList).2) (w : World) (h : RRealAt w rb) :
    Calls Tryz.prog 13 #[.pointer (some ⟨rb, 0, none⟩), .string k, .string n, .string d, .string t] w fun e w' => e = .returned (.tuple #[.string q, .int .i64 c]) ∧ Below w.heap.size w w' := by
  have c0 := RowAt.cell h (i := 0) rfl
  have HQ := Lib.hid hq
  have HS := Lib.hid hs
  clear h hq hs
  go_enter Tryz.func13, Tryz.ntmps13
  go_wp2_with fail
  refine (ROpen_walk k n d t HS.out q c HQ.out _).mono ?_
  rintro e w1 ⟨rfl, hb1⟩
  go_wp2_with fail
  go_ret2
  exact ⟨rfl, hb1⟩
end Go.Proofs.YtfglhemmccihfaaGreat
