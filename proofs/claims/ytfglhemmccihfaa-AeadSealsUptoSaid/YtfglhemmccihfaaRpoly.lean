/-
  Layer 5, the reference's package posthornref05: digits, carried, digit, plus, times, high, low, some.
-/
import Derived.Test.YtfglhemmccihfaaPlainD
import Derived.Test.YtfglhemmccihfaaOnly
import Derived.Test.YtfglhemmccihfaaRegTab
import Derived.Test.YtfglhemmccihfaaRoct
import Derived.Deep.QuietTactic
import Derived.BigQuiet
import Derived.Outline
namespace Go.Proofs.Ytfglhemmccihfaa
open Go.RowKit

theorem infoInt : (Try.prog.info? 3).map (fun i => (i.zero, i.size, i.bytes)) = some (some (.int .i64 0), 1, 8) := by kernel_rfl
/-- Digits as cells. -/
def ints (l : List Nat) : List Value := l.map fun (d : Nat) => Value.int .i64 (d : Int)
theorem ints_length (l : List Nat) : (ints l).length = l.length := by simp [ints]
theorem ints_snoc (l : List Nat) (d : Nat) : ints (l ++ [d]) = ints l ++ [.int .i64 (d : Int)] := by simp [ints]
theorem ints_at (l : List Nat) (i : Nat) (h : i < l.length) : (ints l)[i]? = some (.int .i64 ((l.getD i 0 : Nat) : Int)) := by
  simp [ints, List.getD_eq_getElem?_getD, h]
/-- The slice v has the digits l. -/
def DigAt (w : World) (v : Value) (l : List Nat) : Prop :=
  ∃ ao cap, v = .slice ao l.length cap ∧ ∀ i, i < l.length → ∃ g off, ao = some ⟨g, off, none⟩ ∧ g < w.heap.size ∧ w.cell? ⟨g, off + i, none⟩ = some (.int .i64 ((l.getD i 0 : Nat) : Int))
theorem DigAt.below {w w' : World} {v : Value} {l : List Nat} (h : DigAt w v l) (hb : Below w.heap.size w w') : DigAt w' v l := by
  obtain ⟨ao, cap, hv, hc⟩ := h
  refine ⟨ao, cap, hv, fun i hi => ?_⟩
  obtain ⟨g, off, e, hg, hcell⟩ := hc i hi
  exact ⟨g, off, e, Nat.lt_of_lt_of_le hg hb.size, (hb.cell (p := ⟨g, off + i, none⟩) hg).trans hcell⟩
theorem dig_own {w : World} {B : Nat} {v : Value} {n : Nat} {l : List Nat} (h : w.ownsRow B 3 1 v n (ints l)) : DigAt w v l := by
  have hl : l.length = n := by have := h.1; rw [ints_length] at this; omega
  rcases h.2 with ⟨rfl, h0⟩ | ⟨g, cap, cur, rfl, hB, hg, hnc, _, hcs, ht⟩
  · have : l = [] := List.eq_nil_of_length_eq_zero (by omega)
    subst this
    exact ⟨none, 0, rfl, fun i hi => by simp at hi⟩
  · refine ⟨some ⟨g, 0, none⟩, cap, by rw [hl], fun i hi => ⟨g, 0, rfl, (Array.getElem?_eq_some_iff.1 hg).1, ?_⟩⟩
    have h1 : (cur.toList.take (n * 1))[i]? = (ints l)[i]? := by rw [ht]
    rw [List.getElem?_take, if_pos (by omega), ints_at l i hi] at h1
    simp only [World.cell?, hg, Nat.zero_add]
    simpa using h1
theorem dig_row {w : World} {g cap : Nat} {l : List Nat} (h : RowAt w g (ints l).toArray 3 (0, 0)) : DigAt w (.slice (some ⟨g, 0, none⟩) l.length cap) l :=
  ⟨_, cap, rfl, fun i hi => ⟨g, 0, rfl, h.lt, by rw [Nat.zero_add]; exact h.cell (by rw [List.getElem?_toArray]; exact ints_at l i hi)⟩⟩

set_option maxHeartbeats 1000000 in
theorem digits_walk (s : ByteArray) (hs : s.size ≤ 1000000) (w : World) :
    Calls Try.prog 54 #[.string s] w fun e w' => ∃ v, e = .returned v ∧ DigAt w' v (ofBytes s.data.toList) ∧ Below w.heap.size w w' := by
  go_enter Try.func54, Try.ntmps54
  go_wp2_with fail
  go_loopw [3, 4] (fun v i wr => ∃ k : Nat, k ≤ s.size ∧ i = .int .i64 k ∧ wr.ownsRow w.heap.size 3 1 v k (ints (ofBytes (s.data.toList.take k))) ∧ Below w.heap.size w wr) (fun _ i _ => s.size - (intOf i).toNat)
  case atStart => exact ⟨0, Nat.zero_le _, rfl, owns_zero w _ (Nat.le_refl _), (Below.refl _ _).alloc (Nat.le_refl _) _⟩
  case round =>
    obtain ⟨k, hk, rfl, hown, hbel⟩ := hrel
    rcases Nat.lt_or_ge k s.size with hlt | hge
    · go_wp2_with (at_builtin; refine append_one rfl _ _ 81 rfl wr w.heap.size 3 (.int .i64 0) 8 Try.underlying81 infoInt rfl hown rfl _ rfl rfl ?c1 ?c2 ?c3 ?_)
      case c1 => omega
      case c2 => omega
      case c3 => have := hbel.size; omega
      intro v' w1 hown' hb1 _ _
      clear hown
      go_wp2_with fail
      go_roundw
      case rel => exact ⟨k + 1, by omega, by go_num, by rw [take_step s k hlt]; unfold ofBytes; rw [List.map_append]; exact (ints_snoc _ _).symm ▸ hown', hbel.trans hb1⟩
      case measure => simp [intOf]; omega
    · obtain rfl : k = s.size := by omega
      rw [take_all] at hown
      have hd := dig_own hown
      clear hown
      go_wp2_with fail
      go_ret
      exact ⟨_, rfl, hd, hbel⟩

set_option maxHeartbeats 400000 in
theorem digit_walk (v : Value) (l : List Nat) (z : Int) (i : Nat) (hz : z = (i : Int)) (x : Nat) (hx : l.getD i 0 = x) (w : World) (h : DigAt w v l) :
    Calls Try.prog 58 #[v, .int .i64 z] w fun e w' => e = .returned (.int .i64 (x : Int)) ∧ w = w' := by
  subst hz
  subst hx
  obtain ⟨ao, cap, rfl, hc⟩ := h
  rcases Nat.lt_or_ge i l.length with hlt | hge
  · obtain ⟨g, off, rfl, hg, hcell⟩ := hc i hlt
    clear hc
    generalize l.getD i 0 = d at hcell ⊢
    go_enter Try.func58, Try.ntmps58
    go_wp2_with fail
    go_ret
    exact ⟨rfl, rfl⟩
  · have hd : l.getD i 0 = 0 := by rw [List.getD_eq_getElem?_getD, List.getElem?_eq_none hge]; rfl
    rw [hd]
    clear hc hd
    go_enter Try.func58, Try.ntmps58
    go_wp2_with fail
    go_ret
    exact ⟨rfl, rfl⟩

theorem dV_small (l : List Nat) (h : ∀ d ∈ l, d < 4194304) : dV l + 4194304 ≤ 256 ^ (l.length + 3) := by
  induction l with
  | nil => simp [dV]
  | cons d l ih =>
    have h1 := h d (by simp)
    have h2 := ih (fun x hx => h x (by simp [hx]))
    rw [List.length_cons, show l.length + 1 + 3 = (l.length + 3) + 1 by omega, Nat.pow_succ, dV]
    omega
theorem getD_small {l : List Nat} {B : Nat} (h : ∀ d ∈ l, d < B) (hB : 0 < B) (i : Nat) : l.getD i 0 < B := by
  rw [List.getD_eq_getElem?_getD]
  cases hl : l[i]? with
  | none => simpa using hB
  | some d => exact h d (List.mem_of_getElem? hl)

set_option maxHeartbeats 2000000 in
theorem carried_walk (v : Value) (l : List Nat) (hd : ∀ d ∈ l, d < 4194304) (hl : l.length ≤ 1000) (w : World) (h : DigAt w v l) :
    Calls Try.prog 82 #[v] w fun e w' => ∃ v' l', e = .returned v' ∧ DigAt w' v' l' ∧ Dig l' ∧ dV l' = dV l ∧ (∀ L, l.length ≤ L → dV l < 256 ^ L → l'.length ≤ L) ∧ Below w.heap.size w w' := by
  have hsm := dV_small l hd
  obtain ⟨ao, cap, rfl, hc⟩ := h
  have HC := Lib.hid hc
  have HD := Lib.hid hd
  have HSM := Lib.hid hsm
  clear hc hd hsm
  go_enter Try.func82, Try.ntmps82
  go_wp2_with fail
  go_loopw [3, 4, 5] (fun x c i wr => ∃ (o : List Nat) (cn : Nat), i = .int .i64 (o.length : Nat) ∧ c = .int .i64 (cn : Nat) ∧ cn < 4194304 ∧ wr.ownsRow w.heap.size 3 1 x o.length (ints o) ∧ Dig o ∧ Hid (dV o + 256 ^ o.length * (cn + dV (l.drop o.length)) = dV l) ∧ Hid (∀ L, l.length ≤ L → dV l < 256 ^ L → o.length ≤ L) ∧ Below w.heap.size w wr)
    (fun _ c i _ => (l.length - (intOf i).toNat) * 8388608 + (intOf c).toNat)
  case atStart => exact ⟨[], 0, rfl, rfl, by omega, owns_zero w _ (Nat.le_refl _), Dig.nil, by unfold Hid; simp [dV], fun L _ _ => Nat.zero_le _, (Below.refl _ _).alloc (Nat.le_refl _) _⟩
  case round =>
    obtain ⟨o, cn, rfl, rfl, hcn, hown, hdo, hval, hlen, hbel⟩ := hrel
    have hol : o.length ≤ l.length + 3 := hlen.out (l.length + 3) (by omega) (by have := HSM.out; omega)
    have HDO := Lib.hid hdo
    clear hdo
    rcases Nat.lt_or_ge o.length l.length with hlt | hge
    · obtain ⟨g, off, rfl, hg, hcell⟩ := HC.out o.length hlt
      have hcell2 := (hbel.cell (p := ⟨g, off + o.length, none⟩) hg).trans hcell
      have hdl := getD_small HD.out (by omega) o.length
      have HV := Lib.hid (carry_round l o cn hval.out hlt)
      generalize l.getD o.length 0 = dk at hcell2 hdl HV
      generalize hK : o.length = k at hown hol hlt hcell2 ⊢
      have HK := Lib.hid hK
      clear hcell hK hval
      go_wp2_with (at_builtin; refine append_one rfl _ _ 81 rfl wr w.heap.size 3 (.int .i64 0) 8 Try.underlying81 infoInt rfl hown rfl _ rfl rfl ?c1 ?c2 ?c3 ?_)
      case c1 => omega
      case c2 => omega
      case c3 => have := hbel.size; omega
      intro v' w1 hown' hb1 _ _
      clear hown hcell2
      go_wp2_with fail
      go_roundw
      case rel =>
        refine ⟨o ++ [(cn + dk) % 256], (cn + dk) / 256, by rw [List.length_append, HK.out]; go_num, by congr 1, by omega, ?_, HDO.out.snoc (by omega), by unfold Hid; rw [List.length_append]; exact HV.out, ?_, hbel.trans hb1⟩
        · rw [List.length_append, HK.out, ints_snoc]
          rw [show (((cn + dk) % 256 : Nat) : Int) = ((cn : Int) + (dk : Int)) % 256 by omega]
          exact hown'
        · intro L h1 h2
          rw [List.length_append, HK.out]
          show k + 1 ≤ L
          omega
      case measure => simp [intOf]; omega
    · rcases Nat.eq_zero_or_pos cn with h0 | hpos
      · subst h0
        have hd := dig_own hown
        have hfin : dV o = dV l := by have := hval.out; rw [List.drop_of_length_le hge] at this; simpa [dV] using this
        have HF := Lib.hid hfin
        clear hown hfin hval
        go_wp2_with fail
        go_ret
        exact ⟨_, o, rfl, hd, HDO.out, HF.out, hlen.out, hbel⟩
      · have HV := Lib.hid (carry_more l o cn hval.out hge)
        have HLN := Lib.hid (fun L => carry_len l o cn hval.out hpos L)
        generalize hK : o.length = k at hown hol hge ⊢
        have HK := Lib.hid hK
        clear hK hval
        go_wp2_with (at_builtin; refine append_one rfl _ _ 81 rfl wr w.heap.size 3 (.int .i64 0) 8 Try.underlying81 infoInt rfl hown rfl _ rfl rfl ?c1 ?c2 ?c3 ?_)
        case c1 => omega
        case c2 => omega
        case c3 => have := hbel.size; omega
        intro v' w1 hown' hb1 _ _
        clear hown
        go_wp2_with fail
        go_roundw
        case rel =>
          refine ⟨o ++ [cn % 256], cn / 256, by rw [List.length_append, HK.out]; go_num, by congr 1, by omega, ?_, HDO.out.snoc (by omega), by unfold Hid; rw [List.length_append]; exact HV.out, ?_, hbel.trans hb1⟩
          · rw [List.length_append, HK.out, ints_snoc]
            exact hown'
          · intro L h1 h2
            have := HLN.out L h2
            rw [List.length_append]
            exact this
        case measure => simp [intOf]; omega

set_option maxHeartbeats 2000000 in
theorem plus_ref (va vb : Value) (a b : List Nat) (ha : Dig a) (hb : Dig b) (hla : a.length ≤ 1000) (hlb : b.length ≤ 1000) (w : World) (hda : DigAt w va a) (hdb : DigAt w vb b) :
    Calls Try.prog 57 #[va, vb] w fun e w' => ∃ v' l', e = .returned v' ∧ DigAt w' v' l' ∧ Dig l' ∧ dV l' = dV a + dV b ∧ (∀ L, a.length ≤ L → b.length ≤ L → dV a + dV b < 256 ^ L → l'.length ≤ L) ∧ Below w.heap.size w w' := by
  have HDA := Lib.hid hda
  have HDB := Lib.hid hdb
  have HA := Lib.hid ha
  have HB := Lib.hid hb
  obtain ⟨ao, ca, rfl, _⟩ := hda
  obtain ⟨bo, cb, rfl, _⟩ := hdb
  clear ha hb
  go_enter Try.func57, Try.ntmps57
  go_wp2_with fail
  go_loopw [5, 6] (fun x i wr => ∃ k : Nat, k ≤ max a.length b.length ∧ i = .int .i64 k ∧ wr.ownsRow w.heap.size 3 1 x k (ints (sumD a b k)) ∧ Below w.heap.size w wr) (fun _ i _ => max a.length b.length - (intOf i).toNat)
  case atStart => exact ⟨0, Nat.zero_le _, rfl, owns_zero w _ (Nat.le_refl _), (Below.refl _ _).alloc (Nat.le_refl _) _⟩
  case round =>
    obtain ⟨k, hk, rfl, hown, hbel⟩ := hrel
    have hbw : Below w.heap.size w wr := hbel
    have hx := HA.out.get k
    have hy := HB.out.get k
    have HSD := Lib.hid (sumD_succ a b k)
    generalize hxe : a.getD k 0 = x at hx HSD
    generalize hye : b.getD k 0 = y at hy HSD
    have HXE := Lib.hid hxe
    have HYE := Lib.hid hye
    clear hxe hye
    rcases Nat.lt_or_ge k (max a.length b.length) with hlt | hge
    · have HDA2 := Lib.hid (HDA.out.below hbel)
      have HDB2 := Lib.hid (HDB.out.below hbel)
      rcases Nat.lt_or_ge k a.length with hka | hka
      all_goals
        go_wp2_with fail
        refine (digit_walk _ a k k rfl x HXE.out _ HDA2.out).mono ?_
        rintro e w2 ⟨rfl, rfl⟩
        go_wp2_with fail
        refine (digit_walk _ b k k rfl y HYE.out _ HDB2.out).mono ?_
        rintro e w2 ⟨rfl, rfl⟩
        go_wp2_with (at_builtin; refine append_one rfl _ _ 81 rfl wr w.heap.size 3 (.int .i64 0) 8 Try.underlying81 infoInt rfl hown rfl _ rfl rfl (by omega) (by omega) (by have := hbw.size; omega) ?_)
        intro v' w1 hown' hb1 _ _
        clear hown
        go_wp2_with fail
        go_roundw
        case rel => exact ⟨k + 1, by omega, by go_num, by rw [HSD.out, ints_snoc]; exact hown', hbel.trans hb1⟩
        case measure => simp [intOf]; omega
    · obtain rfl : k = max a.length b.length := by omega
      have g1 : ¬ ((max a.length b.length : Nat) : Int) < (a.length : Int) := by omega
      have g2 : ¬ ((max a.length b.length : Nat) : Int) < (b.length : Int) := by omega
      have hd := dig_own hown
      have HSF := Lib.hid (sumD_full a b)
      have HSL := Lib.hid (sumD_length a b (max a.length b.length))
      have HSB := Lib.hid (sumD_bound a b HA.out HB.out (max a.length b.length))
      have hml : max a.length b.length ≤ 1000 := by omega
      clear hown hx hy HSD HXE HYE
      generalize hSS : sumD a b (max a.length b.length) = S at hd HSF HSL HSB
      clear hSS
      have HD := Lib.hid hd
      clear hd
      generalize hM : max a.length b.length = M at *
      have HM := Lib.hid hM
      clear hM
      go_wp2_with fail
      refine (carried_walk _ S (fun d hd => by have := HSB.out d hd; omega) (by rw [HSL.out]; omega) _ HD.out).mono ?_
      rintro e w2 ⟨v2, l2, rfl, h1, h2, h3, h4, h5⟩
      go_wp2_with fail
      go_ret
      refine ⟨v2, l2, rfl, h1, h2, by rw [h3, HSF.out], fun L k1 k2 k3 => h4 L (by rw [HSL.out, ← HM.out]; omega) (by rw [HSF.out]; exact k3), bthen hbel h5⟩

theorem getD_bound {l : List Nat} {B : Nat} (h : ∀ j, l.getD j 0 ≤ B) : ∀ d ∈ l, d ≤ B := by
  intro d hd
  obtain ⟨i, hi, rfl⟩ := List.getElem_of_mem hd
  have := h i
  rwa [List.getD_eq_getElem?_getD, List.getElem?_eq_getElem hi] at this
theorem ints_set (l : List Nat) (i d : Nat) : (ints l).toArray.setIfInBounds i (.int .i64 (d : Int)) = (ints (l.set i d)).toArray := by
  rw [List.setIfInBounds_toArray]
  simp [ints, List.map_set]
theorem made_ints (n : Nat) : madeCells #[Value.int .i64 0] n = (ints (List.replicate n 0)).toArray := by
  rw [madeCells_one]
  simp [ints]

set_option maxRecDepth 100000 in
set_option maxHeartbeats 4000000 in
theorem times_ref (va vb : Value) (la b : List Nat) (ha : Dig la) (hb : Dig b) (hla : la.length ≤ 64) (hlb : b.length ≤ 64) (w : World) (hda : DigAt w va la) (hdb : DigAt w vb b) :
    Calls Try.prog 56 #[va, vb] w fun e w' => ∃ v' l', e = .returned v' ∧ DigAt w' v' l' ∧ Dig l' ∧ dV l' = dV la * dV b ∧ (∀ L, la.length + b.length ≤ L → l'.length ≤ L) ∧ Below w.heap.size w w' := by
  have HDA := Lib.hid hda
  have HDB := Lib.hid hdb
  have HA := Lib.hid ha
  have HB := Lib.hid hb
  obtain ⟨ao, ca, rfl, hca⟩ := hda
  obtain ⟨bo, cb, rfl, hcb⟩ := hdb
  have HCA := Lib.hid hca
  have HCB := Lib.hid hcb
  clear ha hb hca hcb
  obtain ⟨i0, hi, hz0, hz1, hz2⟩ := info_parts infoInt
  have hmk := run_make (P := Try.prog) w 81 3 i0 (.int .i64 0) Try.underlying81 hi hz0 .i64 .i64 ((la.length : Int) + b.length) ((la.length : Int) + b.length) (by omega) (by omega) (by rw [hz2]; omega) (by omega)
  rw [hz1, Nat.mul_one, show ((la.length : Int) + b.length).toNat = la.length + b.length by omega] at hmk
  rw [show (Value.int IntKind.i64 0).cells = #[Value.int .i64 0] from rfl, made_ints] at hmk
  clear hi hz0 hz1 hz2
  go_enter Try.func56, Try.ntmps56
  go_wp2_with fail
  clear hmk
  go_loopw [6] (fun i wr => ∃ k : Nat, k ≤ la.length ∧ i = .int .i64 k ∧ RowAt wr w.heap.size (ints (mulRow la b k)).toArray 3 (0, 0) ∧ Below w.heap.size w wr) (fun i _ => la.length - (intOf i).toNat)
  case atStart => exact ⟨0, Nat.zero_le _, rfl, RowAt.new w _ _ _, (Below.refl _ _).alloc (Nat.le_refl _) _⟩
  case round =>
    obtain ⟨k, hk, rfl, hrow, hbel⟩ := hrel
    have HR := Lib.hid hrow
    have HBL := Lib.hid hbel
    clear hrow hbel
    rcases Nat.lt_or_ge k la.length with hlt | hge
    · have hrb := mulRow_bound la b HA.out HB.out k
      have HRB := Lib.hid hrb
      have HML := Lib.hid (mulRow_length la b k)
      have HNX := Lib.hid (show mulRow la b (k + 1) = mulIn la b k (mulRow la b k) b.length from rfl)
      generalize mulRow la b k = G at HR HRB HML HNX
      clear hrb
      go_wp2_with fail
      obtain ⟨wo, hwo⟩ : ∃ wo : World, wo = wr := ⟨_, rfl⟩
      subst hwo
      go_loopw [7] (fun i wx => ∃ j : Nat, j ≤ b.length ∧ i = .int .i64 j ∧ RowAt wx w.heap.size (ints (mulIn la b k G j)).toArray 3 (0, 0) ∧ Below w.heap.size w wx) (fun i _ => b.length - (intOf i).toNat)
      case atStart => exact ⟨0, Nat.zero_le _, rfl, HR.out, HBL.out⟩
      case round =>
        obtain ⟨j, hj, rfl, hrow, hbel⟩ := hrel
        have HR2 := Lib.hid hrow
        have HB2 := Lib.hid hbel
        clear hrow hbel
        rcases Nat.lt_or_ge j b.length with hlj | hgj
        · obtain ⟨ga, oa, rfl, hga, hcella⟩ := HCA.out k hlt
          obtain ⟨gb, ob, rfl, hgb, hcellb⟩ := HCB.out j hlj
          have c1 := (HB2.out.cell (p := ⟨ga, oa + k, none⟩) hga).trans hcella
          have c2 := (HB2.out.cell (p := ⟨gb, ob + j, none⟩) hgb).trans hcellb
          have hlen : (mulIn la b k G j).length = la.length + b.length := (mulIn_length la b k G j).trans HML.out
          have hkj : k + j < la.length + b.length := by omega
          have c3 := HR2.out.cell (i := k + j) (by rw [List.getElem?_toArray]; exact ints_at _ _ (by rw [hlen]; exact hkj))
          have f3 := HR2.out.free (i := k + j) (by simp)
          have hx := HA.out.get k
          have hy := HB.out.get j
          have hzb := mulIn_bound la b HA.out HB.out k G (k * 65025) HRB.out j (k + j)
          have HSET := Lib.hid (show mulIn la b k G (j + 1) = (mulIn la b k G j).set (k + j) ((mulIn la b k G j).getD (k + j) 0 + la.getD k 0 * b.getD j 0) from rfl)
          generalize (mulIn la b k G j).getD (k + j) 0 = z at c3 hzb HSET
          generalize la.getD k 0 = x at c1 hx HSET
          generalize b.getD j 0 = y at c2 hy HSET
          have hk64 : k * 65025 ≤ 64 * 65025 := Nat.mul_le_mul_right _ (by omega)
          have hxy : x * y ≤ 255 * 255 := Nat.mul_le_mul (by omega) (by omega)
          --REGION
          have q1 : (0 : Int) ≤ (k : Int) + j := by omega
          have q3 : (k : Int) + j < (la.length : Int) + b.length := by omega
          have q4 : k + j < la.length + b.length := hkj
          clear hcella hcellb hlen
          go_wp2_with fail
          refine region_table (by kernel_rfl) [26, 27, 28, 29, 30, 31, 32, 33, 34, 35, 36, 37, 38, 39, 40, 41, 42]
            (fun i x_ => match i with
              | 0 => x_ = .slice (some ⟨w.heap.size, 0, none⟩) (la.length + b.length) (la.length + b.length)
              | 1 => x_ = .int .i64 ((k : Int))
              | 2 => x_ = .int .i64 ((j : Int))
              | 3 => x_ = .int .i64 ((k : Int) + j)
              | 4 => x_ = .pointer (some ⟨w.heap.size, k + j, none⟩)
              | 5 => x_ = .int .i64 ((z : Int))
              | 6 => x_ = .slice (some ⟨ga, oa, none⟩) la.length ca
              | 7 => x_ = .int .i64 ((k : Int))
              | 8 => x_ = .pointer (some ⟨ga, oa + k, none⟩)
              | 9 => x_ = .int .i64 ((x : Int))
              | 10 => x_ = .slice (some ⟨gb, ob, none⟩) b.length cb
              | 11 => x_ = .int .i64 ((j : Int))
              | 12 => x_ = .pointer (some ⟨gb, ob + j, none⟩)
              | 13 => x_ = .int .i64 ((y : Int))
              | 14 => x_ = .int .i64 (((x * y : Nat) : Int))
              | 15 => x_ = .int .i64 (((z + x * y : Nat) : Int))
              | 16 => x_ = .pointer (some ⟨w.heap.size, k + j, none⟩)
              | _ => True) (fun L _ w' => (L 17 = false → w' = wr.drew) ∧ (L 17 = true → w' = wr.drew.setCell ⟨w.heap.size, k + j, none⟩ (.int .i64 ((z + x * y : Nat) : Int))) ∧ (L 17 = true → L 5 = true ∧ L 9 = true ∧ L 13 = true)) (by kernel_rfl) (by kernel_rfl) rfl (by kernel_rfl) (⟨fun _ => rfl, (fun h => by cases h), (fun h => by cases h)⟩) ?_ ?_
          · refine StepsOk.cons ?_ (StepsOk.cons ?_ (StepsOk.cons ?_ (StepsOk.cons ?_ (StepsOk.cons ?_ (StepsOk.cons ?_ (StepsOk.cons ?_ (StepsOk.cons ?_ (StepsOk.cons ?_ (StepsOk.cons ?_ (StepsOk.cons ?_ (StepsOk.cons ?_ (StepsOk.cons ?_ (StepsOk.cons ?_ (StepsOk.cons ?_ (StepsOk.cons ?_ (StepsOk.cons ?_ (StepsOk.cons ?_ StepsOk.nil)))))))))))))))))
            · intro L a w4 Kx hl hsz hs ht hr he hK
              refine step_plain rfl ?_
              have h5 : a.tmps.getD 5 undef = .slice (some ⟨w.heap.size, 0, none⟩) (la.length + b.length) (la.length + b.length) := (hs 5 (by decide)).trans rfl
              go_simp
              exact hK _ _ rfl (by simpa using hr)
            · intro L a w4 Kx hl hsz hs ht hr he hK
              refine step_plain rfl ?_
              have h6 : a.tmps.getD 6 undef = .int .i64 ((k : Int)) := (hs 6 (by decide)).trans rfl
              go_simp
              exact hK _ _ rfl (by simpa using hr)
            · intro L a w4 Kx hl hsz hs ht hr he hK
              refine step_plain rfl ?_
              have h7 : a.tmps.getD 7 undef = .int .i64 ((j : Int)) := (hs 7 (by decide)).trans rfl
              go_simp
              exact hK _ _ rfl (by simpa using hr)
            · intro L a w4 Kx hl hsz hs ht hr he hK
              refine step_plain rfl ?_
              have h27 : a.tmps.getD 27 undef = .int .i64 ((k : Int)) := ht 1 (he 1 (by kernel_rfl)) 27 rfl
              have h28 : a.tmps.getD 28 undef = .int .i64 ((j : Int)) := ht 2 (he 2 (by kernel_rfl)) 28 rfl
              have hwr : IntKind.i64.wrap ((k : Int) + j) = (k : Int) + j := IntWalk.i64_in _ (by omega)
              go_simp
              exact hK _ _ rfl (by simpa using hr)
            · intro L a w4 Kx hl hsz hs ht hr he hK
              refine step_plain rfl ?_
              have h26 : a.tmps.getD 26 undef = .slice (some ⟨w.heap.size, 0, none⟩) (la.length + b.length) (la.length + b.length) := ht 0 (he 0 (by kernel_rfl)) 26 rfl
              have h29 : a.tmps.getD 29 undef = .int .i64 ((k : Int) + j) := ht 3 (he 3 (by kernel_rfl)) 29 rfl
              go_simp
              exact hK _ _ rfl (by simpa using hr)
            · intro L a w4 Kx hl hsz hs ht hr he hK
              refine step_plain rfl ?_
              have h30 : a.tmps.getD 30 undef = .pointer (some ⟨w.heap.size, k + j, none⟩) := ht 4 (he 4 (by kernel_rfl)) 30 rfl
              have hx17 : L 17 = false := by
                cases hy : L 17 with
                | false => rfl
                | true => have := (hr.2.2 hy).1; rw [hl] at this; cases this
              have hw4 := hr.1 hx17
              subst hw4
              go_simp
              refine hK _ _ rfl ⟨fun _ => rfl, fun h => ?_, fun h => ?_⟩
              all_goals
                have h' : (L 17 || false) = true := h
                rw [hx17] at h'
                cases h'
            · intro L a w4 Kx hl hsz hs ht hr he hK
              refine step_plain rfl ?_
              have h0 : a.tmps.getD 0 undef = .slice (some ⟨ga, oa, none⟩) la.length ca := (hs 0 (by decide)).trans rfl
              go_simp
              exact hK _ _ rfl (by simpa using hr)
            · intro L a w4 Kx hl hsz hs ht hr he hK
              refine step_plain rfl ?_
              have h6 : a.tmps.getD 6 undef = .int .i64 ((k : Int)) := (hs 6 (by decide)).trans rfl
              go_simp
              exact hK _ _ rfl (by simpa using hr)
            · intro L a w4 Kx hl hsz hs ht hr he hK
              refine step_plain rfl ?_
              have h32 : a.tmps.getD 32 undef = .slice (some ⟨ga, oa, none⟩) la.length ca := ht 6 (he 6 (by kernel_rfl)) 32 rfl
              have h33 : a.tmps.getD 33 undef = .int .i64 ((k : Int)) := ht 7 (he 7 (by kernel_rfl)) 33 rfl
              go_simp
              exact hK _ _ rfl (by simpa using hr)
            · intro L a w4 Kx hl hsz hs ht hr he hK
              refine step_plain rfl ?_
              have h34 : a.tmps.getD 34 undef = .pointer (some ⟨ga, oa + k, none⟩) := ht 8 (he 8 (by kernel_rfl)) 34 rfl
              have hx17 : L 17 = false := by
                cases hy : L 17 with
                | false => rfl
                | true => have := (hr.2.2 hy).2.1; rw [hl] at this; cases this
              have hw4 := hr.1 hx17
              subst hw4
              go_simp
              refine hK _ _ rfl ⟨fun _ => rfl, fun h => ?_, fun h => ?_⟩
              all_goals
                have h' : (L 17 || false) = true := h
                rw [hx17] at h'
                cases h'
            · intro L a w4 Kx hl hsz hs ht hr he hK
              refine step_plain rfl ?_
              have h1 : a.tmps.getD 1 undef = .slice (some ⟨gb, ob, none⟩) b.length cb := (hs 1 (by decide)).trans rfl
              go_simp
              exact hK _ _ rfl (by simpa using hr)
            · intro L a w4 Kx hl hsz hs ht hr he hK
              refine step_plain rfl ?_
              have h7 : a.tmps.getD 7 undef = .int .i64 ((j : Int)) := (hs 7 (by decide)).trans rfl
              go_simp
              exact hK _ _ rfl (by simpa using hr)
            · intro L a w4 Kx hl hsz hs ht hr he hK
              refine step_plain rfl ?_
              have h36 : a.tmps.getD 36 undef = .slice (some ⟨gb, ob, none⟩) b.length cb := ht 10 (he 10 (by kernel_rfl)) 36 rfl
              have h37 : a.tmps.getD 37 undef = .int .i64 ((j : Int)) := ht 11 (he 11 (by kernel_rfl)) 37 rfl
              go_simp
              exact hK _ _ rfl (by simpa using hr)
            · intro L a w4 Kx hl hsz hs ht hr he hK
              refine step_plain rfl ?_
              have h38 : a.tmps.getD 38 undef = .pointer (some ⟨gb, ob + j, none⟩) := ht 12 (he 12 (by kernel_rfl)) 38 rfl
              have hx17 : L 17 = false := by
                cases hy : L 17 with
                | false => rfl
                | true => have := (hr.2.2 hy).2.2; rw [hl] at this; cases this
              have hw4 := hr.1 hx17
              subst hw4
              go_simp
              refine hK _ _ rfl ⟨fun _ => rfl, fun h => ?_, fun h => ?_⟩
              all_goals
                have h' : (L 17 || false) = true := h
                rw [hx17] at h'
                cases h'
            · intro L a w4 Kx hl hsz hs ht hr he hK
              refine step_plain rfl ?_
              have h35 : a.tmps.getD 35 undef = .int .i64 ((x : Int)) := ht 9 (he 9 (by kernel_rfl)) 35 rfl
              have h39 : a.tmps.getD 39 undef = .int .i64 ((y : Int)) := ht 13 (he 13 (by kernel_rfl)) 39 rfl
              have hwr : IntKind.i64.wrap ((x : Int) * y) = ((x * y : Nat) : Int) := by rw [Int.natCast_mul]; exact IntWalk.i64_in _ (by rw [← Int.natCast_mul]; omega)
              have hwq : wrap64 ((x : Int) * y) = ((x * y : Nat) : Int) := by rw [Int.natCast_mul]; exact IntWalk.wrap64_in _ (by rw [← Int.natCast_mul]; omega)
              go_simp
              exact hK _ _ rfl (by simpa using hr)
            · intro L a w4 Kx hl hsz hs ht hr he hK
              refine step_plain rfl ?_
              have h31 : a.tmps.getD 31 undef = .int .i64 ((z : Int)) := ht 5 (he 5 (by kernel_rfl)) 31 rfl
              have h40 : a.tmps.getD 40 undef = .int .i64 (((x * y : Nat) : Int)) := ht 14 (he 14 (by kernel_rfl)) 40 rfl
              have hwr : IntKind.i64.wrap ((z : Int) + (x : Int) * (y : Int)) = ((z + x * y : Nat) : Int) := by
                rw [show (z : Int) + (x : Int) * (y : Int) = ((z + x * y : Nat) : Int) by simp]
                exact IntWalk.i64_in _ (by omega)
              go_simp
              exact hK _ _ rfl (by simpa using hr)
            · intro L a w4 Kx hl hsz hs ht hr he hK
              refine step_plain rfl ?_
              have h26 : a.tmps.getD 26 undef = .slice (some ⟨w.heap.size, 0, none⟩) (la.length + b.length) (la.length + b.length) := ht 0 (he 0 (by kernel_rfl)) 26 rfl
              have h29 : a.tmps.getD 29 undef = .int .i64 ((k : Int) + j) := ht 3 (he 3 (by kernel_rfl)) 29 rfl
              go_simp
              exact hK _ _ rfl (by simpa using hr)
            · intro L a w4 Kx hl hsz hs ht hr he hK
              refine step_plain rfl ?_
              have h42 : a.tmps.getD 42 undef = .pointer (some ⟨w.heap.size, k + j, none⟩) := ht 16 (he 16 (by kernel_rfl)) 42 rfl
              have h41 : a.tmps.getD 41 undef = .int .i64 (((z + x * y : Nat) : Int)) := ht 15 (he 15 (by kernel_rfl)) 41 rfl
              have hw4 := hr.1 hl
              subst hw4
              go_simp
              refine hK undef _ trivial ⟨fun h => ?_, fun _ => rfl, fun _ => ?_⟩
              · have h' : (L 17 || true) = false := h
                rw [Bool.or_true] at h'
                cases h'
              · exact ⟨by show (L 5 || false) = true; rw [he 5 (by kernel_rfl)]; rfl, by show (L 9 || false) = true; rw [he 9 (by kernel_rfl)]; rfl, by show (L 13 || false) = true; rw [he 13 (by kernel_rfl)]; rfl⟩
          · intro f L w4 hf hall hr
            have hw4 := hr.2.1 (hall 17 (by decide))
            subst hw4
            clear hf hall hr
            simp only [List.foldl, Act.put, List.setIfInBounds_toArray, List.set_cons_zero, List.set_cons_succ]
            generalize f 26 = z26
            generalize f 27 = z27
            generalize f 28 = z28
            generalize f 29 = z29
            generalize f 30 = z30
            generalize f 31 = z31
            generalize f 32 = z32
            generalize f 33 = z33
            generalize f 34 = z34
            generalize f 35 = z35
            generalize f 36 = z36
            generalize f 37 = z37
            generalize f 38 = z38
            generalize f 39 = z39
            generalize f 40 = z40
            generalize f 41 = z41
            generalize f 42 = z42
            go_wp2_with fail
            go_roundw
            case rel =>
              refine ⟨j + 1, by omega, by go_num, ?_, (HB2.out.drew).setCell (Nat.le_refl _) _⟩
              rw [HSET.out, ← ints_set]
              exact HR2.out.drew.store (k + j) _
            case measure => simp [intOf]; omega
        · obtain rfl : j = b.length := by omega
          go_wp2_with fail
          go_roundw
          case rel => exact ⟨k + 1, by omega, by go_num, by rw [HNX.out]; exact HR2.out, HB2.out⟩
          case measure => simp [intOf]; omega
    · obtain rfl : k = la.length := by omega
      have hd := dig_row (cap := la.length + b.length) HR.out
      rw [mulRow_length] at hd
      have HD := Lib.hid hd
      have HRB := Lib.hid (getD_bound (mulRow_bound la b HA.out HB.out la.length))
      have HV := Lib.hid (mulRow_full la b)
      have HML := Lib.hid (mulRow_length la b la.length)
      generalize mulRow la b la.length = S at HD HRB HV HML
      have ha64 : la.length * 65025 ≤ 64 * 65025 := Nat.mul_le_mul_right _ hla
      clear hd
      go_wp2_with fail
      refine (carried_walk _ S (fun d hd => by have := HRB.out d hd; omega) (by rw [HML.out]; omega) _ HD.out).mono ?_
      rintro e w2 ⟨v2, l2, rfl, h1, h2, h3, h4, h5⟩
      go_wp2_with fail
      go_ret
      refine ⟨v2, l2, rfl, h1, h2, by rw [h3, HV.out], fun L k1 => ?_, bthen HBL.out h5⟩
      refine h4 L (by rw [HML.out]; exact k1) ?_
      rw [HV.out]
      have e1 := dV_lt HA.out
      have e2 := dV_lt HB.out
      refine Nat.lt_of_lt_of_le (Nat.mul_lt_mul'' e1 e2) ?_
      rw [← Nat.pow_add]
      exact Nat.pow_le_pow_right (by omega) k1
end Go.Proofs.Ytfglhemmccihfaa
