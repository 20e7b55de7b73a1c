/-
  The walk of the statement GateKnown.
-/
import Derived.Test.YtgppbdcnpailaaaGNone
namespace Go.Proofs.Ytgppbdcnpailaaa
open Go.RowKit Go.Maps
set_option linter.unusedVariables false

def l72 : List (Int × Int) := [(7, 2), (0, 0)]
def d72 : MD := putAll (.map []) l72
theorem l72_ok : SomeOk l72 := ⟨by simp [l72], by simp [l72], fun t ht => by simp [l72] at ht; rcases ht with rfl | rfl <;> decide⟩
theorem d72_new : newD l72 = some d72 := newD_ok l72_ok
theorem d72_has (x : Int) : Maps.has d72 (kx x) = hasNum l72 x := by rw [d72, putAll_has _ _ nil_map, has_nil, Bool.false_or]
theorem d72_at : d72.atKey (kx 7) z0 = .lit (.int .i64 ((2 : Nat) : Int)) := putAll_at l72 (.map []) nil_map l72_ok.once (7, 2) (by simp [l72])
def dL : MD := delAll d72 [7, 3]
theorem dL_told : Told dL [(0, 0)] := by
  have h0 : Maps.has dL (kx 0) = true := delAll_has [7, 3] d72 0 (by rw [d72_has]; rfl) (by simp)
  refine ⟨List.pairwise_singleton _ _, fun t ht => ?_, fun x hx hh => ?_⟩
  · rw [List.mem_singleton.1 ht]
    refine ⟨by kernel_rfl, by kernel_rfl, h0, ?_⟩
    rw [show dL = delAll d72 [7, 3] from rfl, (delAll_inn [7, 3] d72 0 h0).2.1]
    exact putAll_at l72 (.map []) nil_map l72_ok.once (0, 0) (by simp [l72])
  · obtain ⟨h1, _, h3⟩ := delAll_inn [7, 3] d72 x hh
    rw [d72_has, hasNum_iff] at h1
    obtain ⟨t, ht, rfl⟩ := h1
    simp [l72] at ht
    rcases ht with rfl | rfl
    · simp at h3
    · exact ⟨0, by simp⟩
theorem dL_no : ¬ WithinP d72 dL := fun h => by
  have h1 := (h 7 (by kernel_rfl) (by rw [d72_has]; rfl)).1
  exact absurd (delAll_inn [7, 3] d72 7 h1).2.2 (by simp)
def knownXs : List Int := puts 256 252 (bytes4 4) (puts 256 24 (bytes4 3) (puts 256 20 (bytes4 2) (puts 256 16 (bytes4 1) zeros256 4) 4) 4) 4
theorem known_words : wordsAt 256 knownXs 12 2 = [1, 2] ∧ wordsAt 256 knownXs 4294967288 2 = [4, 0] ∧ wordAt 256 254 (puts 256 255 [9] (puts 256 254 [1, 2, 3, 4] knownXs 4) 1) 4 = 67307777 := by decide +kernel
theorem twice_no : newD [(7, 2), (7, 2)] = none := by
  unfold newD
  rw [if_neg (by simp), newFrom, show badG (.map []) 7 2 = false from rfl]
  simp only [Bool.false_eq_true, if_false]
  rw [newFrom, show badG (putG (.map []) 7 2) 7 2 = true by unfold badG; rw [putG_has _ nil_map]; simp]
  rfl
theorem big_no : newD [(2147483648, 0)] = none := by
  unfold newD
  rw [if_neg (by simp), newFrom, show badG (.map []) 2147483648 0 = true by unfold badG; rw [has_nil]; decide]
  rfl
def kws (a b : Nat) : Nat → Wr := fun j => if j = 0 then ⟨254, some ⟨a, 0, none⟩, 4, 4⟩ else ⟨255, some ⟨b, 0, none⟩, 1, 1⟩
def kzs : Nat → List Int := fun j => if j = 0 then [1, 2, 3, 4] else [9]
theorem kws_fit (a b : Nat) : fitsN 2 (kws a b) 2 = true := rfl
theorem kws_apply (a b : Nat) (xs : List Int) : applyW 256 (kws a b) kzs xs 2 = puts 256 255 [9] (puts 256 254 [1, 2, 3, 4] xs 4) 1 := rfl
theorem Laid.below {W W' : World} {g d N c B : Nat} {xs : List Int} (h : Laid W W' g d N c xs) (hB : B ≤ W.heap.size) (hd : B ≤ d) : Below B W W' := (Below.refl _ _).grown h.2 hB (fun j hj => by cases hj; exact hd)
theorem row2_cells {w : World} {B : Nat} {A : Option Addr} {c : Nat} {x y : Int} (h : w.ownsRow B 23 1 (.slice A 2 c) 2 (u32s [x, y])) : ∃ g, A = some ⟨g, 0, none⟩ ∧ g < w.heap.size ∧ w.cell? ⟨g, 0, none⟩ = some (.int .u32 x) ∧ w.cell? ⟨g, 1, none⟩ = some (.int .u32 y) := by
  obtain ⟨g, c', hv⟩ := ownsRow_some h (by omega)
  injection hv with hv _ _
  subst hv
  refine ⟨g, rfl, (h.lt g rfl).2, ?_, ?_⟩
  · have := h.cells (g := g) rfl 0 (.int .u32 x) rfl
    simpa [Addr.add] using this
  · have := h.cells (g := g) rfl 1 (.int .u32 y) rfl
    simpa [Addr.add] using this
theorem greads_new (w : World) (l : List (Int × Int)) (cs : Array Value) (hc : cs = (gCells l).toArray) (n : Nat) (hn : n = l.length) : GReads (w.alloc (.cells cs 95)) (w.alloc (.cells cs 95)).heap.size (some ⟨w.heap.size, 0, none⟩) n l := by
  subst hn hc
  have := GReads.of_reads (l := l) (reads_new w 95 2 l.length (gCells l) (by rw [gCells_len]))
  rw [World.size_alloc]
  exact this
theorem nil_wreads (w : World) (B : Nat) (A : Option Addr) (ws : Nat → Wr) : WReads w B A 0 ws := fun h => absurd h (by omega)
set_option maxRecDepth 100000 in
set_option maxHeartbeats 4000000 in
theorem GateKnown_walk (w : World) : Calls Try.prog 18 #[] w fun e w' => e = .returned (.bool true) ∧ Below w.heap.size w w' := by
  obtain ⟨kw1, kw2, kw3⟩ := known_words
  have KW1 := hide_ kw1
  have KW2 := hide_ kw2
  have KW3 := hide_ kw3
  clear kw1 kw2 kw3
  have hnew := New_gany (some ⟨w.heap.size, 0, none⟩) 2 2 l72 _ (w.alloc (.cells #[.int .u32 7, .int .i64 2, .int .u32 0, .int .i64 0] 95)) (greads_new w l72 _ rfl 2 rfl) (Nat.le_refl _) (fun t ht => by simp [l72] at ht; rcases ht with rfl | rfl <;> exact ⟨by kernel_rfl, by kernel_rfl⟩)
  rw [d72_new] at hnew
  have HNEW := hide_ hnew
  have hge := gptr_eq
  have hgn := gptr_neq
  have hme := ptr_eq
  clear hnew
  go_enter Try.func18, Try.ntmps18
  go_wp2_with fail
  refine HNEW.out.mono ?_
  rintro e w2 ⟨hor, hb2⟩
  rcases hor with ⟨D, q, hD, rfl, hg2, _⟩ | ⟨hD, _⟩
  · injection hD with hD
    subst hD
    have HN8 := hide_ (New_any (W := w2) (B := w2.heap.size) (ex := []) 8 (by omega) (by omega) (show 256 = 2 ^ 8 from rfl) (Owns.nil_) (Nat.le_refl _))
    have HB2 := hide_ (((Below.refl w.heap.size w).alloc (Nat.le_refl _) _).trans (hb2.mono (by simp)))
    have HG2 := hide_ hg2
    clear hb2 hg2 HNEW
    go_wp2_with fail
    refine HN8.out.mono ?_
    rintro e w3 ⟨g, d, c3, rfl, hO3, hb3⟩
    have hS3 : Seg w3 w2.heap.size g d 256 c3 zeros256 [] := ⟨⟨_, hO3⟩, hb3.size, ⟨8, by omega, by omega, rfl⟩, by simp [zeros256], fun x hx => by rw [List.eq_of_mem_replicate hx]; omega⟩
    have hd : w2.heap.size ≤ d := (hO3.base (i := 1) rfl).1
    have HM3 := hide_ (MemAt.of_seg hS3)
    have HB3 := hide_ hb3
    have HS : Hid (∀ w', Below w2.heap.size w2 w' → GateAt w' q d72 ∧ Below w.heap.size w w') := hide_ fun w' h => ⟨HG2.out.below h, HB2.out.trans (h.mono HB2.out.size)⟩
    clear hO3 hb3 hS3 HN8 HB2 HG2
    -- the stores
    have h1 := hide_ (Store4_s 16 1 HM3.out (by omega) (by omega))
    go_wp2_with fail
    refine h1.out.mono ?_
    rintro e w4 ⟨rfl, hL4⟩
    have HM4 := hide_ hL4.1
    have HB4 := hide_ (HB3.out.trans (hL4.below HB3.out.size hd))
    have h2 := hide_ (Store4_s 20 2 HM4.out (by omega) (by omega))
    clear hL4 h1 HM3 HB3
    go_wp2_with fail
    refine h2.out.mono ?_
    rintro e w5 ⟨rfl, hL5⟩
    have HM5 := hide_ hL5.1
    have HB5 := hide_ (HB4.out.trans (hL5.below HB4.out.size hd))
    have h3 := hide_ (Store4_s 24 3 HM5.out (by omega) (by omega))
    clear hL5 h2 HM4 HB4
    go_wp2_with fail
    refine h3.out.mono ?_
    rintro e w6 ⟨rfl, hL6⟩
    have HM6 := hide_ hL6.1
    have HB6 := hide_ (HB5.out.trans (hL6.below HB5.out.size hd))
    have h4 := hide_ (Store4_s 252 4 HM6.out (by omega) (by omega))
    clear hL6 h3 HM5 HB5
    go_wp2_with fail
    refine h4.out.mono ?_
    rintro e w7 ⟨rfl, hL7⟩
    have hm7 : MemAt w7 g d 256 c3 knownXs := hL7.1
    have HM7 := hide_ hm7
    have HB7 := hide_ (HB6.out.trans (hL7.below HB6.out.size hd))
    -- the words
    have h5 := Words_s q d72 12 7 2 (HS.out _ HB7.out).1 (by kernel_rfl) (by rw [d72_has]; rfl) d72_at (by omega) hm7 (by omega) (by omega)
    rw [KW1.out] at h5
    have H5 := hide_ h5
    clear hL7 h4 HM6 HB6 hm7 h5
    go_wp2_with fail
    refine H5.out.mono ?_
    rintro e w8 ⟨A8, c8, rfl, hown8, hb8⟩
    obtain ⟨g8, rfl, l8, y0, y1⟩ := row2_cells hown8
    have hm8 := HM7.out.below hb8
    have HM8 := hide_ hm8
    have HB8 := hide_ (HB7.out.trans (hb8.mono HB7.out.size))
    have h6 := Words_s q d72 4294967288 7 2 (HS.out _ HB8.out).1 (by kernel_rfl) (by rw [d72_has]; rfl) d72_at (by omega) hm8 (by omega) (by omega)
    rw [KW2.out] at h6
    have H6 := hide_ h6
    clear hown8 hb8 hm8 h6 HM7 HB7 H5
    go_wp2_with fail
    refine H6.out.mono ?_
    rintro e w9 ⟨A9, c9, rfl, hown9, hb9⟩
    obtain ⟨g9, rfl, l9, z0', z1⟩ := row2_cells hown9
    have HM9 := hide_ (HM8.out.below hb9)
    have HB9 := hide_ (HB8.out.trans (hb9.mono HB8.out.size))
    clear hown9 hb9 HM8 HB8 H6 y0 y1 l8
    -- the events
    have hbx : Below w9.heap.size w9 (w9.alloc (.cells #[.int .u32 1, .int .u32 2] 23)) := (Below.refl _ _).alloc (Nat.le_refl _) _
    have HB10 := hide_ (HB9.out.trans (hbx.mono HB9.out.size))
    have HM10 := hide_ (HM9.out.below hbx)
    have h7 := hide_ (Event_ok q d72 3 7 9 (some ⟨w9.heap.size, 0, none⟩) none 2 2 0 0 [1, 2] (fun _ => ⟨0, none, 0, 0⟩) (HS.out _ HB10.out).1 (by kernel_rfl) (by rw [d72_has]; rfl) d72_at
      (by rw [World.size_alloc]; exact reads_new w9 23 1 2 [.int .u32 1, .int .u32 2] rfl) (by omega) (nil_wreads _ _ _ _) (by unfold maxLen; omega) rfl)
    clear hbx HM9 HB9
    go_wp2_with fail
    refine h7.out.mono ?_
    rintro e w11 ⟨A11, c11, rfl, _, hb11⟩
    unfold evCells
    have HB11 := hide_ (HB10.out.trans (hb11.mono HB10.out.size))
    have HM11 := hide_ (HM10.out.below hb11)
    obtain ⟨w12, hw12⟩ : ∃ w12, w12 = (w11.alloc (.cells #[.int .u32 3, .int .u32 7, .slice A11 2 c11, .int .u32 9] 108)).alloc (.cells #[.int .u32 1] 23) := ⟨_, rfl⟩
    have hb12 : Below w11.heap.size w11 w12 := by rw [hw12]; exact ((Below.refl _ _).alloc (Nat.le_refl _) _).alloc (by simp) _
    have HB12 := hide_ (HB11.out.trans (hb12.mono HB11.out.size))
    have HM12 := hide_ (HM11.out.below hb12)
    have h8 := Event_no q d72 3 7 9 (some ⟨w11.heap.size + 1, 0, none⟩) none 1 1 0 0 (fun _ => ⟨0, none, 0, 0⟩) (HS.out _ HB12.out).1 (by kernel_rfl) 2 (fun _ => d72_at) (nil_wreads _ _ _ _) (by unfold maxLen; omega) (fun h => absurd h.2.1 (by decide))
    rw [d72_has] at h8
    have H8 := hide_ h8
    have HW12 := hide_ hw12
    clear hb11 HM10 HB10 hb12 h8 hw12 HM11 HB11 h7
    go_wp2_with fail
    rw [← HW12.out]
    clear HW12
    refine H8.out.mono ?_
    rintro e w13 ⟨rfl, hb13⟩
    have HB13 := hide_ (HB12.out.trans (hb13.mono HB12.out.size))
    have HM13 := hide_ (HM12.out.below hb13)
    clear hb13 HM12 HB12 H8
    -- Apply
    obtain ⟨w14, hw14⟩ : ∃ w14, w14 = ((w13.alloc (.cells #[.int .u8 1, .int .u8 2, .int .u8 3, .int .u8 4] 5)).alloc (.cells #[.int .u8 9] 5)).alloc (.cells #[.int .u32 254, .slice (some ⟨w13.heap.size, 0, none⟩) 4 4, .int .u32 255, .slice (some ⟨w13.heap.size + 1, 0, none⟩) 1 1] 53) := ⟨_, rfl⟩
    have hb14 : Below w13.heap.size w13 w14 := by rw [hw14]; exact (((Below.refl _ _).alloc (Nat.le_refl _) _).alloc (by simp) _).alloc (by simp; omega) _
    have a0 : Blk w14 w13.heap.size 5 #[.int .u8 1, .int .u8 2, .int .u8 3, .int .u8 4] := by rw [hw14]; exact ((Blk.new w13 _ _).alloc _).alloc _
    have a1 : Blk w14 (w13.heap.size + 1) 5 #[.int .u8 9] := by
      rw [hw14]
      have := (Blk.new (w13.alloc (.cells #[.int .u8 1, .int .u8 2, .int .u8 3, .int .u8 4] 5)) 5 #[.int .u8 9]).alloc (.cells #[.int .u32 254, .slice (some ⟨w13.heap.size, 0, none⟩) 4 4, .int .u32 255, .slice (some ⟨w13.heap.size + 1, 0, none⟩) 1 1] 53)
      rw [World.size_alloc] at this
      exact this
    have a2 : Blk w14 (w13.heap.size + 2) 53 #[.int .u32 254, .slice (some ⟨w13.heap.size, 0, none⟩) 4 4, .int .u32 255, .slice (some ⟨w13.heap.size + 1, 0, none⟩) 1 1] := by
      rw [hw14]
      have := Blk.new ((w13.alloc (.cells #[.int .u8 1, .int .u8 2, .int .u8 3, .int .u8 4] 5)).alloc (.cells #[.int .u8 9] 5)) 53 #[.int .u32 254, .slice (some ⟨w13.heap.size, 0, none⟩) 4 4, .int .u32 255, .slice (some ⟨w13.heap.size + 1, 0, none⟩) 1 1]
      rw [World.size_alloc, World.size_alloc] at this
      exact this
    have hdl : d < w13.heap.size := HM13.out.dl
    have hrep : ReplyAt w14 d (some ⟨w13.heap.size + 2, 0, none⟩) 2 (kws w13.heap.size (w13.heap.size + 1)) kzs := by
      refine ⟨fun _ => ⟨_, rfl, a2.lt, fun j hj => ?_⟩, fun ad e => by injection e with e; subst e; show w13.heap.size + 2 ≠ d; omega, fun j hj => ?_⟩
      · match j, hj with
        | 0, _ => exact ⟨(a2.cell 0).trans rfl, (a2.cell 1).trans rfl⟩
        | 1, _ => exact ⟨(a2.cell 2).trans rfl, (a2.cell 3).trans rfl⟩
      · match j, hj with
        | 0, _ => exact ⟨show (0 : Int) ≤ 254 ∧ (254 : Int) < 4294967296 by decide, ⟨rfl, fun _ => ⟨_, rfl, a0.lt, fun i u hu => by
            have e1 : (⟨w13.heap.size, 0, none⟩ : Addr).add i = ⟨w13.heap.size, i, none⟩ := by unfold Addr.add; split <;> simp_all
            rw [e1, a0.cell i, ← hu, ← Array.getElem?_toList]
            rfl⟩⟩, fun x hx => by simp [kzs] at hx; omega, fun ad e => by injection e with e; subst e; show w13.heap.size ≠ d; omega⟩
        | 1, _ => exact ⟨show (0 : Int) ≤ 255 ∧ (255 : Int) < 4294967296 by decide, ⟨rfl, fun _ => ⟨_, rfl, a1.lt, fun i u hu => by
            have e1 : (⟨w13.heap.size + 1, 0, none⟩ : Addr).add i = ⟨w13.heap.size + 1, i, none⟩ := by unfold Addr.add; split <;> simp_all
            rw [e1, a1.cell i, ← hu, ← Array.getElem?_toList]
            rfl⟩⟩, fun x hx => by simp [kzs] at hx; omega, fun ad e => by injection e with e; subst e; show w13.heap.size + 1 ≠ d; omega⟩
    have HB14 := hide_ (HB13.out.trans (hb14.mono HB13.out.size))
    have HM14 := hide_ (HM13.out.below hb14)
    have h9 := hide_ (Apply_s q d72 0 (some ⟨w13.heap.size + 2, 0, none⟩) 2 2 _ kzs (HS.out _ HB14.out).1 HM14.out hrep (by unfold maxLen; omega) (kws_fit _ _))
    have HW14 := hide_ hw14
    clear hb14 a0 a1 a2 hrep hw14 HM13 HB13 hdl
    go_wp2_with fail
    rw [← HW14.out]
    clear HW14
    refine h9.out.mono ?_
    rintro e w15 ⟨rfl, hL15⟩
    rw [kws_apply] at hL15
    have HB15 := hide_ (HB14.out.trans (hL15.below HB14.out.size hd))
    have h10 := Load4_s 254 hL15.1
    rw [KW3.out] at h10
    have H10 := hide_ h10
    clear hL15 h10 h9 HM14 HB14
    go_wp2_with fail
    refine H10.out.mono ?_
    rintro e w16 ⟨rfl, hb16⟩
    have HB16 := hide_ (HB15.out.trans (hb16.mono HB15.out.size))
    clear hb16 H10 HB15
    -- New of grants that may not be
    have h11 := New_gany (some ⟨w16.heap.size, 0, none⟩) 2 2 [(7, 2), (7, 2)] _ (w16.alloc (.cells #[.int .u32 7, .int .i64 2, .int .u32 7, .int .i64 2] 95)) (greads_new w16 [(7, 2), (7, 2)] _ rfl 2 rfl) (Nat.le_refl _) (fun t ht => by simp at ht; subst ht; exact ⟨by kernel_rfl, by kernel_rfl⟩)
    rw [twice_no] at h11
    have H11 := hide_ h11
    clear h11
    go_wp2_with fail
    refine H11.out.mono ?_
    rintro e w17 ⟨hor, hb17⟩
    rcases hor with ⟨D, _, hD, _⟩ | ⟨_, rfl⟩
    · cases hD
    · have HB17 := hide_ ((HB16.out.alloc HB16.out.size _).trans (hb17.mono (by have := HB16.out.size; simp; omega)))
      have h12 := New_gany (some ⟨w17.heap.size, 0, none⟩) 1 1 [(2147483648, 0)] _ (w17.alloc (.cells #[.int .u32 2147483648, .int .i64 0] 95)) (greads_new w17 [(2147483648, 0)] _ rfl 1 rfl) (Nat.le_refl _) (fun t ht => by simp at ht; subst ht; exact ⟨by kernel_rfl, by kernel_rfl⟩)
      rw [big_no] at h12
      have H12 := hide_ h12
      clear h12 hb17 HB16 H11
      go_wp2_with fail
      refine H12.out.mono ?_
      rintro e w18 ⟨hor, hb18⟩
      rcases hor with ⟨D, _, hD, _⟩ | ⟨_, rfl⟩
      · cases hD
      · have HB18 := hide_ ((HB17.out.alloc HB17.out.size _).trans (hb18.mono (by have := HB17.out.size; simp; omega)))
        clear hb18 HB17 H12
        -- Less
        have HB19 := hide_ (HB18.out.alloc HB18.out.size (.cells #[.int .u32 7, .int .u32 3] 23))
        have h13 := hide_ (Less_any q d72 (some ⟨w18.heap.size, 0, none⟩) 2 2 [7, 3] (w18.alloc (.cells #[.int .u32 7, .int .u32 3] 23)) (HS.out _ HB19.out).1
          (by rw [World.size_alloc]; exact reads_new w18 23 1 2 [.int .u32 7, .int .u32 3] rfl) (fun x hx => by simp at hx; rcases hx with rfl | rfl <;> kernel_rfl) (by omega))
        clear HB18
        go_wp2_with fail
        refine h13.out.mono ?_
        rintro e w20 ⟨q2, rfl, hg20, hb20⟩
        have HB20 := hide_ (HB19.out.trans (hb20.mono HB19.out.size))
        have HG20 := hide_ hg20
        have h14 := hide_ (Within_any q2 q dL d72 w20 hg20 (HS.out _ HB20.out).1)
        clear hg20 hb20 h13 HB19
        go_wp2_with fail
        refine h14.out.mono ?_
        rintro e w21 ⟨b, rfl, hbb, hb21⟩
        obtain rfl : b = true := hbb.2 (WithinP.less _ _)
        have HB21 := hide_ (HB20.out.trans (hb21.mono HB20.out.size))
        have HG21 := hide_ (HG20.out.below hb21)
        have h15 := hide_ (Within_any q q2 d72 dL w21 (HS.out _ HB21.out).1 HG21.out)
        clear hbb hb21 h14 HB20 HG20
        go_wp2_with fail
        refine h15.out.mono ?_
        rintro e w22 ⟨b, rfl, hbb, hb22⟩
        obtain rfl : b = false := by
          cases b with
          | false => rfl
          | true => exact absurd (hbb.1 rfl) dL_no
        have HB22 := hide_ (HB21.out.trans (hb22.mono HB21.out.size))
        have HG22 := hide_ (HG21.out.below hb22)
        have h16 := hide_ (Grants_any q2 dL w22 HG22.out)
        clear hbb hb22 h15 HB21 HG21
        go_wp2_with fail
        refine h16.out.mono ?_
        rintro e w23 ⟨A23, l23, c23, rfl, ht23, _, hb23, _⟩
        have hl23 : l23 = [(0, 0)] := ht23.eq_of dL_told (WithinP.refl _) (WithinP.refl _)
        subst hl23
        have HE := hide_ (HS.out _ (HB22.out.trans (hb23.mono HB22.out.size))).2
        clear ht23 hb23 h16 HB22 HG22
        go_wp2
        go_ret
        exact ⟨by simp, HE.out⟩
  · cases hD
end Go.Proofs.Ytgppbdcnpailaaa
