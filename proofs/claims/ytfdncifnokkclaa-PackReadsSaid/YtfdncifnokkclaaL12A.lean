/-
  Layer 12's laws: 'awake' is true.
-/
import Derived.Test.YtfdncifnokkclaaPackL
import Derived.Test.YtfdncifnokkclaaFrame
namespace Go.Proofs.Ytfdncifnokkclaa
open Go.RowKit

deriving instance DecidableEq for Rd
theorem bytesOf_one {ss : List ByteArray} {l : List UInt8} (h : bytesOf ss = [l]) : ∃ s, ss = [s] ∧ Is s l := by
  match ss, h with
  | [s], h => exact ⟨s, rfl, by simpa [bytesOf, Is] using h⟩

/-- A number taken, where all is known. -/
theorem num_lit (b : Nat) (r r' : Rd) (m n : BitVec 64) (mi ni : Int) (w : World) (h : InAt w b r) (hl : r.l.length ≤ 140737488351000) (hr : numR r m = (n, r')) (hm : bvi m = mi) (hn : bvi n = ni) :
    Calls Try.prog 27 #[.pointer (some ⟨b, 0, none⟩), .int .u64 mi] w fun e w' => e = .returned (.int .u64 ni) ∧ InAt w' b r' ∧ Only b w w' := by
  subst hm hn
  refine (NumIn_walk b _ m w h hl).mono ?_
  rw [hr]
  rintro e w7 ⟨rfl, h7, ho7⟩
  exact ⟨rfl, h7, ho7⟩
/-- A list of one, taken. -/
theorem list_lit (b : Nat) (r r' : Rd) (w : World) (l : List UInt8) (h : InAt w b r) (hl : r.l.length ≤ 1000000) (hr : listR r 1 1 = (some [l], r')) :
    Calls Try.prog 33 #[.pointer (some ⟨b, 0, none⟩), .int .i64 1, .int .i64 1] w fun e w' =>
      ∃ g o cap s, e = .returned (.slice (some ⟨g, o, none⟩) 1 cap) ∧ Is s l ∧ w'.cell? ⟨g, o, none⟩ = some (.string s) ∧ w.heap.size ≤ g ∧ g < w'.heap.size ∧ (∃ cs fz, w'.heap[g]? = some (.cells cs 9 fz)) ∧ InAt w' b r' ∧ Only b w w' := by
  refine (ListIn_walk b _ 1 1 (by decide) w h hl).mono ?_
  rw [hr]
  rintro e w' ⟨ao, cap, ss, rfl, hss, hst, hlo, h10, ho10⟩
  obtain ⟨s, rfl, hs⟩ := bytesOf_one hss
  obtain ⟨g, o, rfl, hlt, c⟩ := hst 0 (by simp)
  exact ⟨g, o, cap, s, rfl, hs, c, (hlo g o rfl).1, hlt, (hlo g o rfl).2, h10, ho10⟩

set_option maxRecDepth 100000 in
set_option maxHeartbeats 4000000 in
theorem awake12 (w : World) : Calls Try.prog 15 #[] w fun e w' => e = .returned (.bool true) ∧ Below w.heap.size w w' := by
  have hO0 := Lib.hid (show OutAt w.heap.size w.heap.size [] (w.alloc (.cells #[.pointer none, .slice none 0 0] 31)) from isBuilder_new _ _ (Nat.le_refl _))
  have hB0 := Lib.hid ((Below.refl w.heap.size w).alloc (Nat.le_refl _) (.cells #[.pointer none, .slice none 0 0] 31))
  go_enter Try.func15, Try.ntmps15
  go_wp2_with fail
  refine (ONum_walk w.heap.size w.heap.size [] 258#64 _ hO0.out (by decide) (by simp)).mono ?_
  rintro e w1 ⟨rfl, h1, hb1, hk1⟩
  have H1 := Lib.hid h1
  have HB1 := Lib.hid hb1
  clear h1 hb1 hk1
  have hsz1 : w.heap.size < w1.heap.size := isBuilder_lt H1.out
  go_wp2_with fail
  refine (OText_walk w.heap.size w.heap.size _ ⟨#[97, 98]⟩ _ H1.out (by decide) (by decide) (by omega)).mono ?_
  rintro e w2 ⟨rfl, h2, hb2, hk2⟩
  have H2 := Lib.hid h2
  have HB2 := Lib.hid hb2
  clear h2 hb2 hk2
  have hsz2 : w.heap.size < w2.heap.size := isBuilder_lt H2.out
  go_wp2_with fail
  refine (ONum_walk w.heap.size w.heap.size _ 0#64 _ H2.out (by decide) (by omega)).mono ?_
  rintro e w3 ⟨rfl, h3, hb3, hk3⟩
  have hsz3 : w.heap.size < w3.heap.size := isBuilder_lt h3
  have H3 := Lib.hid (isBuilder_below h3 ((Below.refl w3.heap.size w3).alloc (Nat.le_refl _) (.cells #[.string ⟨#[120]⟩] 9)))
  have HB3 := Lib.hid hb3
  have HR3 := Lib.hid (RowAt.new w3 #[.string ⟨#[120]⟩] 9 (0, 0))
  clear h3 hb3 hk3
  go_wp2_with fail
  refine (OList_walk w.heap.size w.heap.size _ _ 1 [⟨#[120]⟩] _ H3.out (by
    intro i hi
    obtain rfl : i = 0 := by simp at hi; omega
    exact ⟨_, 0, rfl, HR3.out.lt, HR3.out.cell (i := 0) rfl⟩) (by
    intro _ k off e
    injection e with e
    injection e with e1 _
    subst e1
    exact .inr ⟨by omega, _, _, HR3.out⟩) (by decide +kernel) (by decide) (by decide) (by simp; omega)).mono ?_
  rintro e w4 ⟨rfl, h4, hb4, hk4⟩
  have hsz4 : w.heap.size < w4.heap.size := isBuilder_lt h4
  have H4 := Lib.hid h4
  have HB4 := Lib.hid hb4
  clear h4 hb4 hk4
  go_wp2_with fail
  refine (OString_walk w.heap.size w.heap.size _ _ H4.out (by omega)).mono ?_
  rintro e w5 ⟨r5, rfl, hr5, h5, hb5, _⟩
  have hsz5 : w.heap.size < w5.heap.size := isBuilder_lt h5
  have H5 := Lib.hid h5
  have HB5 := Lib.hid hb5
  have hr5' : Is r5 [2, 1, 2, 1, 2, 97, 98, 0, 1, 1, 1, 1, 120] := by
    have e : ([] ++ numL 258#64 ++ textL [97, 98] ++ numL 0#64 ++ listL (bytesOf [⟨#[120]⟩])) = [2, 1, 2, 1, 2, 97, 98, 0, 1, 1, 1, 1, 120] := by decide +kernel
    rw [← e]
    exact hr5
  have q5 : seq r5 ⟨#[2, 1, 2, 1, 2, 97, 98, 0, 1, 1, 1, 1, 120]⟩ = true := by rw [seq_eq hr5' (Is.self _)]; rfl
  have HR5 := Lib.hid hr5'
  clear h5 hb5 hr5 hr5'
  go_wp2_with fail
  refine (From_walk r5 _).mono ?_
  rintro e w6 ⟨rfl, rfl⟩
  have hsz6 : w.heap.size < (w5.alloc (.cells #[.string r5, .bool false] 47)).heap.size := by simp; omega
  have hI6 : InAt (w5.alloc (.cells #[.string r5, .bool false] 47)) w5.heap.size ⟨[2, 1, 2, 1, 2, 97, 98, 0, 1, 1, 1, 1, 120], false⟩ := ⟨r5, HR5.out, RowAt.new w5 _ _ _⟩
  have HI6 := Lib.hid hI6
  generalize hw6 : w5.alloc (.cells #[.string r5, .bool false] 47) = w6 at HI6 hsz6 ⊢
  have HW6 := Lib.hid hw6
  clear hI6 hw6
  go_wp2_with fail
  have N1 := Lib.hid (show numR ⟨[2, 1, 2, 1, 2, 97, 98, 0, 1, 1, 1, 1, 120], false⟩ 300#64 = (258#64, ⟨[1, 2, 97, 98, 0, 1, 1, 1, 1, 120], false⟩) by decide +kernel)
  have N2 := Lib.hid (show textR ⟨[1, 2, 97, 98, 0, 1, 1, 1, 1, 120], false⟩ 2 = ([97, 98], ⟨[0, 1, 1, 1, 1, 120], false⟩) by decide +kernel)
  have N3 := Lib.hid (show numR ⟨[0, 1, 1, 1, 1, 120], false⟩ 0#64 = (0#64, ⟨[1, 1, 1, 1, 120], false⟩) by decide +kernel)
  have N4 := Lib.hid (show listR ⟨[1, 1, 1, 1, 120], false⟩ 1 1 = (some [[120]], ⟨[], false⟩) by decide +kernel)
  have C1 := Lib.hid (fun (wx : World) (h : InAt wx w5.heap.size ⟨[2, 1, 2, 1, 2, 97, 98, 0, 1, 1, 1, 1, 120], false⟩) => num_lit w5.heap.size _ _ 300#64 258#64 300 258 wx h (by decide) N1.out rfl rfl)
  have C3 := Lib.hid (fun (wx : World) (h : InAt wx w5.heap.size ⟨[0, 1, 1, 1, 1, 120], false⟩) => num_lit w5.heap.size _ _ 0#64 0#64 0 0 wx h (by decide) N3.out rfl rfl)
  have C4 := Lib.hid (fun (wx : World) (h : InAt wx w5.heap.size ⟨[1, 1, 1, 1, 120], false⟩) => list_lit w5.heap.size _ _ wx _ h (by decide) N4.out)
  go_region_with (first
    | (go_at_call 27; refine (C3.out _ HI8.out).mono ?_; rintro e w9 ⟨rfl, h9, ho9⟩; have HI9 := Lib.hid h9; have HO9 := Lib.hid ho9; have hz9 := ho9.size; clear h9 ho9)
    | (go_at_call 27; refine (C1.out w6.drew HI6.out).mono ?_; rintro e w7 ⟨rfl, h7, ho7⟩; have HI7 := Lib.hid h7; have HO7 := Lib.hid ho7; have hz7 := ho7.size; clear h7 ho7)
    | (go_at_call 30; refine (TextIn_walk w5.heap.size _ 2 (by decide) _ HI7.out (by decide)).mono ?_; rw [N2.out]; rintro e w8 ⟨s8, rfl, hs8, h8, ho8⟩; have q8 : seq s8 ⟨#[97, 98]⟩ = true := (by rw [seq_eq hs8 (Is.self _)]; rfl); have HI8 := Lib.hid h8; have HO8 := Lib.hid ho8; have hz8 := ho8.size; clear hs8 h8 ho8)
    | (go_at_call 33; refine (C4.out _ HI9.out).mono ?_; rintro e w10 ⟨g10, o10, cap10, s10, rfl, hs10, c10, hlo10, hlt10, ⟨cs10, fz10, hk10⟩, h10, ho10⟩; have HI10 := Lib.hid h10; have HO10 := Lib.hid ho10; have hz10 := ho10.size; have q10 : seq s10 ⟨#[120]⟩ = true := (by rw [seq_eq hs10 (Is.self _)]; rfl); clear h10 ho10 hs10))
  have z56 : w5.heap.size < w6.heap.size := by rw [← HW6.out]; simp
  have z67 : w6.heap.size ≤ w7.heap.size := hz7
  have HL6 : Below w5.heap.size w5 w6 := by rw [← HW6.out]; exact (Below.refl _ _).alloc (Nat.le_refl _) _
  have HL10 : Below w5.heap.size w5 w10 := (((HL6.drew.trans (HO7.out.below (Nat.le_refl _) (Nat.le_of_lt z56))).trans (HO8.out.below (Nat.le_refl _) (by omega))).trans (HO9.out.below (Nat.le_refl _) (by omega))).trans (HO10.out.below (Nat.le_refl _) (by omega))
  have H10 := Lib.hid (show OutAt w.heap.size w.heap.size _ w10 from isBuilder_below H5.out HL10)
  have HB10 := Lib.hid ((HB5.out.trans (HL10.mono (by omega))))
  clear HL6 HL10 hz7 C1 C3 C4 HI6 HI7 HI8 HI9 HO7 HO8 HO9 HO10 N1 N2 N3 N4 HW6
  go_wp2_with fail
  refine (Done_walk w5.heap.size _ _ HI10.out).mono ?_
  rintro e w11 ⟨rfl, rfl⟩
  rw [show doneR ⟨[], false⟩ = 0 from rfl]
  go_wp2_with fail
  refine (From_walk ⟨#[2, 0, 1]⟩ _).mono ?_
  rintro e w12 ⟨rfl, rfl⟩
  have hb12 : Below w10.heap.size w10 (w10.alloc (.cells #[.string ⟨#[2, 0, 1]⟩, .bool false] 47)) := (Below.refl _ _).alloc (Nat.le_refl _) _
  have hI12 : InAt (w10.alloc (.cells #[.string ⟨#[2, 0, 1]⟩, .bool false] 47)) w10.heap.size ⟨[2, 0, 1], false⟩ := ⟨_, Is.of [2, 0, 1], RowAt.new w10 _ _ _⟩
  generalize w10.alloc (.cells #[.string ⟨#[2, 0, 1]⟩, .bool false] 47) = w12 at hb12 hI12 ⊢
  have HI12 := Lib.hid hI12
  have HB12 := Lib.hid hb12
  have z12 : w10.heap.size < w12.heap.size := hI12.lt
  have N5 := Lib.hid (show numR ⟨[2, 0, 1], false⟩ 9#64 = (0#64, Rd.broken) by decide +kernel)
  clear hI12 hb12
  go_wp2_with fail
  refine (num_lit w10.heap.size _ _ 9#64 0#64 9 0 _ HI12.out (by decide) N5.out rfl rfl).mono ?_
  rintro e w13 ⟨rfl, h13, ho13⟩
  have HI13 := Lib.hid h13
  have HB13 := Lib.hid (HB12.out.trans (ho13.below (Nat.le_refl _) (Nat.le_of_lt z12)))
  have z13 : w12.heap.size ≤ w13.heap.size := ho13.size
  clear h13 ho13 HI12 HB12 N5
  have hk13 : w13.heap[g10]? = some (.cells cs10 9 fz10) := (HB13.out.block g10 hlt10).trans hk10
  have c13 : w13.cell? ⟨g10, o10, none⟩ = some (.string s10) := by rw [World.cell?_of_block (HB13.out.block g10 hlt10)]; exact c10
  have H13 := Lib.hid (show OutAt w.heap.size w.heap.size _ w13 from isBuilder_below H10.out HB13.out)
  go_wp2_with fail
  refine (OString_walk w.heap.size w.heap.size _ _ H13.out (by omega)).mono ?_
  rintro e w14 ⟨r14, rfl, hr14, _, hb14, hok14⟩
  have q14 : seq r14 ⟨#[2, 1, 2, 1, 2, 97, 98, 0, 1, 1, 1, 1, 120]⟩ = true := by
    have e : ([] ++ numL 258#64 ++ textL [97, 98] ++ numL 0#64 ++ listL (bytesOf [⟨#[120]⟩])) = [2, 1, 2, 1, 2, 97, 98, 0, 1, 1, 1, 1, 120] := by decide +kernel
    rw [e] at hr14
    rw [seq_eq hr14 (Is.self _)]; rfl
  have z14 : w13.heap.size ≤ w14.heap.size := hb14.size
  have c14 : w14.cell? ⟨g10, o10, none⟩ = some (.string s10) := by
    rw [World.cell?_of_block ((hok14 g10 _ hk13 (by simp; omega) (by intro c f e; cases e)).trans hk13.symm)]; exact c13
  have hI14 : InAt w14 w10.heap.size Rd.broken := by
    obtain ⟨s, hs, hr⟩ := HI13.out
    exact ⟨s, hs, hok14 _ _ hr (by simp; omega) (by intro c f e; cases e)⟩
  have HI14 := Lib.hid hI14
  have HB14 := Lib.hid (((HB10.out.trans (HB13.out.mono (by omega))).trans hb14))
  clear hr14 hb14 hok14 hI14 hk10 hk13 c13 c10 HI13
  go_wp2_with fail
  refine (Done_walk w10.heap.size _ _ HI14.out).mono ?_
  rintro e w15 ⟨rfl, rfl⟩
  rw [show doneR Rd.broken = 2 from rfl]
  go_wp2_with fail
  refine (From_walk ⟨#[120]⟩ _).mono ?_
  rintro e w16 ⟨rfl, rfl⟩
  have hb16 : Below w14.heap.size w14 (w14.alloc (.cells #[.string ⟨#[120]⟩, .bool false] 47)) := (Below.refl _ _).alloc (Nat.le_refl _) _
  have hI16 : InAt (w14.alloc (.cells #[.string ⟨#[120]⟩, .bool false] 47)) w14.heap.size ⟨[120], false⟩ := ⟨_, Is.of [120], RowAt.new w14 _ _ _⟩
  generalize w14.alloc (.cells #[.string ⟨#[120]⟩, .bool false] 47) = w16 at hb16 hI16 ⊢
  have HI16 := Lib.hid hI16
  have HB16 := Lib.hid (HB14.out.trans (hb16.mono (by omega)))
  have z16 : w14.heap.size ≤ w16.heap.size := hb16.size
  clear hI16 hb16
  go_wp2_with fail
  refine (Done_walk w14.heap.size _ _ HI16.out).mono ?_
  rintro e w17 ⟨rfl, rfl⟩
  rw [show doneR ⟨[120], false⟩ = 5 from rfl]
  go_wp2_with fail
  refine (PNum_walk 0#64 _).mono ?_
  rintro e w18 ⟨r18, rfl, hr18, hb18⟩
  have q18 : seq r18 ⟨#[0]⟩ = true := by rw [seq_eq hr18 (Is.self _)]; decide +kernel
  have HB18 := Lib.hid (HB16.out.trans (hb18.mono (by omega)))
  have z18 : w16.heap.size ≤ w18.heap.size := hb18.size
  clear hr18 hb18
  go_wp2_with fail
  refine (PText_walk ⟨#[]⟩ (by decide) _).mono ?_
  rintro e w19 ⟨r19, rfl, hr19, _, hb19⟩
  have q19 : seq r19 ⟨#[0]⟩ = true := by rw [seq_eq hr19 (Is.self _)]; decide +kernel
  have HB19 := Lib.hid (HB18.out.trans (hb19.mono (by omega)))
  clear hr19 hb19
  go_wp2_with fail
  go_ret
  exact ⟨rfl, ((((hB0.out.trans HB1.out).trans HB2.out).trans HB3.out).alloc (by omega) _ |>.trans HB4.out).trans HB19.out⟩
end Go.Proofs.Ytfdncifnokkclaa
