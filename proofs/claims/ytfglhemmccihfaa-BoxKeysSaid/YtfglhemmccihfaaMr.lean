/-
Reference 07 (box): Key; an ideal box and a real one: Seal, Open.
-/
import Derived.Laws.AppendOwnNone
import Derived.Test.YtfglhemmccihfaaMa
import Derived.Test.YtfglhemmccihfaaMo
import Derived.Test.YtfglhemmccihfaaMp
import Derived.Test.YtfglhemmccihfaaMq
namespace Go.Proofs.Ytfglhemmccihfaa
open Go.RowKit Go.Maps

theorem RBHigh_as (x : BitVec 64) (n : Int) (q : ByteArray) (hq : Is q (highL x (cut n))) (w : World) : Calls Try.prog 47 #[.int .u64 (bvi x), .int .i64 n] w fun e w' => e = .returned (.string q) ∧ Below w.heap.size w w' :=
  (RHigh_walk x n w).mono fun e w' ⟨r, h1, h2, h3⟩ => ⟨by rw [h1, h2.inj hq], h3⟩
set_option maxRecDepth 100000 in
set_option maxHeartbeats 1000000 in
theorem RKey_ok (master domain : ByteArray) (epoch : BitVec 64) (hm : master.size = 32) (hd : domain.size ≤ 255) (q : ByteArray) (hq : Is q (keyB master.data.toList domain.data.toList epoch)) (w : World) :
    Calls Try.prog 25 #[.string master, .string domain, .int .u64 (bvi epoch)] w fun e w' => e = .returned (.tuple #[.string q, .int .i64 0]) ∧ Below w.heap.size w w' := by
  have e1 : domain.data.toList.length = domain.size := by rw [Array.length_toList]; rfl
  obtain ⟨a, ha⟩ : ∃ a, Is a (highL (BitVec.ofNat 64 domain.size) (cut 2)) := ⟨_, Is.of _⟩
  obtain ⟨b, hb⟩ : ∃ b, Is b (highL epoch (cut 8)) := ⟨_, Is.of _⟩
  have za : a.size = 2 := by rw [ha.size, highL_length]; rfl
  have zb : b.size = 8 := by rw [hb.size, highL_length]; rfl
  obtain ⟨i, hi⟩ : ∃ i : ByteArray, i = a ++ domain ++ b := ⟨_, rfl⟩
  have hil : i.data.toList = infoL domain.data.toList epoch := by
    rw [hi]
    refine (((ha.append (Is.self domain)).append hb).out).trans ?_
    unfold infoL
    rw [e1]; rfl
  obtain ⟨S, hS⟩ : ∃ S : ByteArray, S = ⟨#[112, 111, 115, 116, 104, 111, 114, 110]⟩ := ⟨_, rfl⟩
  have HQ := Lib.hid (show Is q (expandL (macL S.data.toList master.data.toList) i.data.toList 32) by rw [hil, hS]; exact hq)
  have HIZ := Lib.hid (show i.size ≤ 140737488350000 by rw [hi, ByteArray.size_append, ByteArray.size_append, za, zb]; omega)
  have HSZ := Lib.hid (show S.size ≤ 140737488351000 by rw [hS]; decide)
  have HI := Lib.hid hi
  have HS := Lib.hid hS
  have HM := Lib.hid (show master.size ≤ 140737488351000 by omega)
  have hne : ((master.size : Int) != 32) = false := by rw [hm]; rfl
  have hle : decide ((255 : Int) < (domain.size : Int)) = false := decide_eq_false (by omega)
  have hov1 : ¬ 9223372036854775807 < a.size + domain.size := by omega
  have hov2 : ¬ 9223372036854775807 < a.size + domain.size + b.size := by omega
  have HA := Lib.hid ha
  have HB := Lib.hid hb
  clear hq hil hi hS ha hb e1 hm hd za zb
  go_enter Try.func25, Try.ntmps25
  go_wp2_with fail
  refine (RBHigh_as _ 2 a HA.out _).mono ?_
  rintro e w1 ⟨rfl, hb1⟩
  have HB1 := Lib.hid hb1
  clear hb1
  go_wp2_with fail
  refine (RBHigh_as epoch 8 b HB.out _).mono ?_
  rintro e w2 ⟨rfl, hb2⟩
  have HB2 := Lib.hid (bthen HB1.out hb2)
  clear hb2
  go_wp2_with fail
  rw [← HI.out, ← HS.out]
  refine (RDerive_ok S master i 32 (by decide) HSZ.out HM.out HIZ.out q HQ.out _).mono ?_
  rintro e w3 ⟨rfl, hb3⟩
  have HB3 := Lib.hid (bthen HB2.out hb3)
  clear hb3
  go_wp2_with fail
  go_ret2
  exact ⟨rfl, HB3.out⟩
set_option maxHeartbeats 400000 in
theorem RKey_no (master domain : ByteArray) (epoch : BitVec 64) (h : master.size ≠ 32 ∨ 255 < domain.size) (w : World) :
    Calls Try.prog 25 #[.string master, .string domain, .int .u64 (bvi epoch)] w fun e w' => e = .returned (.tuple #[.string ⟨#[]⟩, .int .i64 5]) ∧ w = w' := by
  by_cases hm : master.size = 32
  · have hne : ((master.size : Int) != 32) = false := by rw [hm]; rfl
    have hle : decide ((255 : Int) < (domain.size : Int)) = true := decide_eq_true (by omega)
    clear h hm
    go_enter Try.func25, Try.ntmps25
    go_wp2_with fail
    go_ret2
    exact ⟨rfl, rfl⟩
  · have hne : ((master.size : Int) != 32) = true := by simp; omega
    clear h hm
    go_enter Try.func25, Try.ntmps25
    go_wp2_with fail
    go_ret2
    exact ⟨rfl, rfl⟩

/-! ### The table as a slice of rows -/
def rowL (e : Ent) : List Value := [.string e.k, .string e.n, .string e.d, .string e.t, .string e.s]
def rowsL (tab : List Ent) : List Value := tab.flatMap rowL
theorem rowsL_length (tab : List Ent) : (rowsL tab).length = tab.length * 5 := by
  induction tab with
  | nil => rfl
  | cons e tab ih =>
    unfold rowsL at ih ⊢
    rw [List.flatMap_cons, List.length_append, ih, List.length_cons]
    show 5 + _ = _
    omega
theorem rowsL_append (a b : List Ent) : rowsL (a ++ b) = rowsL a ++ rowsL b := by unfold rowsL; rw [List.flatMap_append]
theorem rowsL_get (tab : List Ent) : ∀ (i : Nat) (h : i < tab.length) (j : Nat), j < 5 → (rowsL tab)[i * 5 + j]? = (rowL tab[i])[j]? := by
  induction tab with
  | nil => intro i h; cases h
  | cons e tab ih =>
    intro i h j hj
    unfold rowsL at ih ⊢
    rw [List.flatMap_cons]
    match i, h with
    | 0, _ =>
      rw [List.getElem?_append_left (by show 0 * 5 + j < 5; omega)]
      simp
    | i + 1, h =>
      rw [List.getElem?_append_right (by show 5 ≤ (i + 1) * 5 + j; omega)]
      show (tab.flatMap rowL)[(i + 1) * 5 + j - 5]? = _
      rw [show (i + 1) * 5 + j - 5 = i * 5 + j by omega, ih i (by simpa using h) j hj]
      rfl
theorem rowsL_one (tab : List Ent) : ∀ u ∈ rowsL tab, u.oneCell' = true := by
  intro u hu
  unfold rowsL at hu
  obtain ⟨e, _, h⟩ := List.mem_flatMap.1 hu
  simp [rowL] at h
  rcases h with rfl | rfl | rfl | rfl | rfl <;> rfl
/-- There lie the rows. -/
def RowsAt (w : World) (ao : Option Addr) (tab : List Ent) : Prop :=
  ∀ (i : Nat) (h : i < tab.length), ∃ b off, ao = some ⟨b, off, none⟩ ∧ b < w.heap.size ∧ w.cell? ⟨b, off + i * 5, none⟩ = some (.string tab[i].k) ∧ w.cell? ⟨b, off + i * 5 + 1, none⟩ = some (.string tab[i].n) ∧
    w.cell? ⟨b, off + i * 5 + 2, none⟩ = some (.string tab[i].d) ∧ w.cell? ⟨b, off + i * 5 + 3, none⟩ = some (.string tab[i].t) ∧ w.cell? ⟨b, off + i * 5 + 4, none⟩ = some (.string tab[i].s)
theorem owns_keep {w w' : World} {base : Nat} {e : TypeId} {size : Nat} {v : Value} {n : Nat} {xs : List Value} (h : w.ownsRow base e size v n xs) (hk : ∀ (g : Nat) (cur : Array Value), w.heap[g]? = some (Obj.cells cur e (0, 0)) → w'.heap[g]? = w.heap[g]?) : w'.ownsRow base e size v n xs := by
  refine ⟨h.1, ?_⟩
  rcases h.2 with h2 | ⟨g, cap, cur, h2, h3, h4, h5⟩
  · exact .inl h2
  · exact .inr ⟨g, cap, cur, h2, h3, (hk g cur h4).trans h4, h5⟩
theorem owns_mono {w : World} {base base' : Nat} {e : TypeId} {size : Nat} {v : Value} {n : Nat} {xs : List Value} (h : w.ownsRow base e size v n xs) (hb : base' ≤ base) : w.ownsRow base' e size v n xs := by
  refine ⟨h.1, ?_⟩
  rcases h.2 with h2 | ⟨g, cap, cur, h2, h3, h4⟩
  · exact .inl h2
  · exact .inr ⟨g, cap, cur, h2, Nat.le_trans hb h3, h4⟩
theorem find_here {tab : List Ent} {k n : ByteArray} {j : Nat} (hj : j < tab.length) (hno : ∀ (i : Nat) (hi : i < j), (seq (tab[i]'(by omega)).k k && seq (tab[i]'(by omega)).n n) = false) (hy : (seq tab[j].k k && seq tab[j].n n) = true) : findB tab k n = some tab[j] := by
  unfold findB
  exact List.find?_eq_some_iff_getElem.2 ⟨hy, j, hj, rfl, fun i hi => by rw [hno i hi]; rfl⟩
theorem find_nowhere {tab : List Ent} {k n : ByteArray} (hno : ∀ (i : Nat) (hi : i < tab.length), (seq tab[i].k k && seq tab[i].n n) = false) : findB tab k n = none := by
  unfold findB
  refine List.find?_eq_none.2 fun e he => ?_
  obtain ⟨i, hi, rfl⟩ := List.getElem_of_mem he
  rw [hno i hi]
  exact Bool.false_ne_true
theorem not_may {k n d : ByteArray} {len : Int} (h : mayB k n d len = false) : k.size ≠ 32 ∨ n.size ≠ 12 ∨ 4096 < d.size ∨ len < 0 ∨ 16384 < len := by
  have := of_decide_eq_false h
  omega
theorem is_may {k n d : ByteArray} {len : Int} (h : mayB k n d len = true) : k.size = 32 ∧ n.size = 12 ∧ d.size ≤ 4096 ∧ 0 ≤ len ∧ len ≤ 16384 := of_decide_eq_true h
theorem owns_zero5 (w : World) (e : TypeId) {base : Nat} (hb : base ≤ w.heap.size) : (w.alloc (.cells #[] e)).ownsRow base e 5 (.slice (some ⟨w.heap.size, 0, none⟩) 0 0) 0 [] :=
  ⟨rfl, .inr ⟨w.heap.size, 0, #[], rfl, hb, RowAt.new w #[] e (0, 0), Nat.le_refl _, by unfold maxLen; omega, rfl, rfl⟩⟩
theorem wpList_append_rows {P : Program} (w : World) {ops : Array Oper} {rest : List Oper} {o : Oper} {a : Act} {Q : Exit → Act → World → Prop} (hgd : o.guard = none) (s x : Operand) (t : TypeId)
    (ho : o.op = .call { callee := .builtin .append, args := #[s, x], argTypes := #[t, t] }) (base : Nat) (e : TypeId) (z : Value) (size bytes : Nat) (ht : P.underlying t = some (.slice e))
    (hi : (P.info? e).map (fun i => (i.zero, i.size, i.bytes)) = some (some z, size, bytes)) (hzs : z.cells.size = size) (hsz : 0 < size)
    (v : Value) (n : Nat) (xs : List Value) (hs : a.eval s = v) (hown : w.ownsRow base e size v n xs)
    (b0 : Nat) (src : Value) (m : Nat) (news : List Value) (hx : a.eval x = src) (hsrc : w.ownsRow b0 e size src m news) (h1 : ∀ u ∈ news, u.oneCell' = true)
    (h63 : n + m ≤ maxLen) (hbytes : (n + m) * bytes ≤ 140737488355328) (hbase : base ≤ w.heap.size)
    (h : ∀ v' w', w'.ownsRow base e size v' (n + m) (xs ++ news) → w.grownBy w' v.ownBlock → wpList P ops Q rest (a.put o.dst v') w') : wpList P ops Q (o :: rest) a w := by
  obtain ⟨i0, hi0, hz0, hz1, hz2⟩ := info_parts hi
  rcases hsrc.2 with ⟨rfl, rfl⟩ | ⟨g, cap, cur, rfl, _, hg, _, _, _, _⟩
  · have hn : news = [] := List.eq_nil_of_length_eq_zero (by rw [hsrc.1, Nat.zero_mul])
    subst hn
    refine wpList_append_own_none hgd s x t ho base e i0 size ht hi0 v n xs hs hown hx (h v w ?_ ⟨rfl, rfl, rfl, Nat.le_refl _, fun _ _ _ => rfl⟩)
    rw [List.append_nil]
    exact hown
  · refine wpList_append_own w hgd s x t ho base e i0 z size bytes ht hi0 hz0 hz1 hz2 hzs hsz v n xs hs hown ⟨g, 0, none⟩ m cap news hx hsrc.1 ?_ h1 h63 hbytes hbase fun v' w' h2 h3 _ => h v' w' h2 h3
    intro j u hu
    have hj : j < news.length := (List.getElem?_eq_some_iff.1 hu).1
    rw [hsrc.1] at hj
    rw [show (⟨g, 0, none⟩ : Addr).add j = ⟨g, j, none⟩ by unfold Addr.add; simp; intro h; exact h.symm, hsrc.cellAt j hj]
    exact hu
theorem owns_one5 (w : World) (e : TypeId) (x : Ent) : (w.alloc (.cells #[.string x.k, .string x.n, .string x.d, .string x.t, .string x.s] e)).ownsRow 0 e 5 (.slice (some ⟨w.heap.size, 0, none⟩) 1 1) 1 (rowL x) :=
  ⟨rfl, .inr ⟨w.heap.size, 1, #[.string x.k, .string x.n, .string x.d, .string x.t, .string x.s], rfl, Nat.zero_le _, RowAt.new w _ e (0, 0), Nat.le_refl _, by unfold maxLen; omega, rfl, rfl⟩⟩
theorem cells_new {w : World} {l : List Value} {e : TypeId} : ∀ (j : Nat) (u : Value), l[j]? = some u → (w.alloc (.cells l.toArray e)).cell? ((⟨w.heap.size, 0, none⟩ : Addr).add j) = some u := by
  intro j u hu
  rw [show (⟨w.heap.size, 0, none⟩ : Addr).add j = ⟨w.heap.size, j, none⟩ by unfold Addr.add; simp; intro h; exact h.symm]
  exact (RowAt.new w l.toArray e (0, 0)).cell (i := j) (by rw [List.getElem?_toArray]; exact hu)
theorem Beside.same {S : List Nat} {w w' : World} (h : w = w') : Beside S w w' := by subst h; exact Beside.refl _ _
end Go.Proofs.Ytfglhemmccihfaa
