/-
  The walk of the statement GateNone.
-/
import Derived.Test.YtgppbdcnpailaaaGApply
import Derived.Test.YtgppbdcnpailaaaGrants
import Derived.Test.YtgppbdcnpailaaaLessP
import Derived.Test.YtgppbdcnpailaaaFitsLaw
namespace Go.Proofs.Ytgppbdcnpailaaa
open Go.RowKit Go.Maps
set_option linter.unusedVariables false

def d51 : MD := putG (.map []) 5 1
theorem d51_new : newD [(5, 1)] = some d51 := by
  have h : SomeOk [(5, 1)] := ⟨by simp, List.pairwise_singleton _ _, fun t ht => by rw [List.mem_singleton.1 ht]; decide⟩
  exact newD_ok h
theorem d51_has : Maps.has d51 (kx 5) = true := by rw [d51, putG_has _ nil_map]; simp
theorem d51_at : d51.atKey (kx 5) z0 = .lit (.int .i64 ((1 : Nat) : Int)) := putAll_at [(5, 1)] (.map []) nil_map (List.pairwise_singleton _ _) (5, 1) (by simp)
theorem zero_word : wordsAt 256 zeros256 0 1 = [0] := by decide +kernel
theorem gptr_eq (a : Option Addr) (w : World) : (binOp .eql 37 (.pointer a) (.pointer none)).run Try.prog w = .ok (.bool a.isNone) w := by cases a <;> kernel_rfl
theorem gptr_neq (a : Option Addr) (w : World) : (binOp .neq 37 (.pointer a) (.pointer none)).run Try.prog w = .ok (.bool (!a.isNone)) w := by cases a <;> kernel_rfl
set_option maxRecDepth 100000 in
set_option maxHeartbeats 1000000 in
theorem GateNone_walk (vg : Value) (x : Int) (A : Option Addr) (n c : Nat) (v : Int) (A2 : Option Addr) (n2 c2 : Nat) (w : World) (hx : (Lit.int .u32 x).wf = true) :
    Calls Try.prog 17 #[vg, .int .u32 x, .slice A n c, .agg #[.int .u32 v, .slice A2 n2 c2]] w fun e w' => e = .returned (.bool true) ∧ Below w.heap.size w w' := by
  obtain ⟨W1, hW1⟩ : ∃ W1, W1 = (((w.alloc (.cells #[.int .u32 v, .slice A2 n2 c2] 29)).alloc (.cells #[.map none] 103)).alloc (.cells #[.slice none 0 0, .bool false, .slice none 0 0] 83)) := ⟨_, rfl⟩
  have hb1 : Below w.heap.size w W1 := by rw [hW1]; exact (((Below.refl _ _).alloc (Nat.le_refl _) _).alloc (by simp) _).alloc (by simp; omega) _
  have k0 : Blk W1 w.heap.size 29 #[.int .u32 v, .slice A2 n2 c2] := by rw [hW1]; exact ((Blk.new w _ _).alloc _).alloc _
  have k1 : Blk W1 (w.heap.size + 1) 103 #[.map none] := by
    rw [hW1]
    have := (Blk.new (w.alloc (.cells #[.int .u32 v, .slice A2 n2 c2] 29)) 103 #[.map none]).alloc (.cells #[.slice none 0 0, .bool false, .slice none 0 0] 83)
    rw [World.size_alloc] at this
    exact this
  have k2 : Blk W1 (w.heap.size + 2) 83 #[.slice none 0 0, .bool false, .slice none 0 0] := by
    rw [hW1]
    have := Blk.new ((w.alloc (.cells #[.int .u32 v, .slice A2 n2 c2] 29)).alloc (.cells #[.map none] 103)) 83 #[.slice none 0 0, .bool false, .slice none 0 0]
    rw [World.size_alloc, World.size_alloc] at this
    exact this
  have HB1 := hide_ hb1
  have HK1 := hide_ (show Blk W1 w.heap.size 29 #[.int .u32 v, .slice A2 n2 c2] ∧ Blk W1 (w.heap.size + 1) 103 #[.map none] ∧ Blk W1 (w.heap.size + 2) 83 #[.slice none 0 0, .bool false, .slice none 0 0] from ⟨k0, k1, k2⟩)
  have HW1 := hide_ hW1
  have HSZ := hide_ (show w.heap.size + 1 + 1 + 1 = W1.heap.size by rw [hW1]; simp)
  have l2 := k2.lt
  have hgr : GReads (W1.alloc (.cells #[.int .u32 5, .int .i64 1] 95)) (W1.alloc (.cells #[.int .u32 5, .int .i64 1] 95)).heap.size (some ⟨W1.heap.size, 0, none⟩) 1 [(5, 1)] := by
    have := GReads.of_reads (l := [(5, 1)]) (reads_new W1 95 2 1 [.int .u32 5, .int .i64 1] rfl)
    rw [World.size_alloc]
    exact this
  have hnew := New_gany (some ⟨W1.heap.size, 0, none⟩) 1 1 [(5, 1)] (W1.alloc (.cells #[.int .u32 5, .int .i64 1] 95)).heap.size (W1.alloc (.cells #[.int .u32 5, .int .i64 1] 95)) hgr (Nat.le_refl _) (fun t ht => by rw [List.mem_singleton.1 ht]; exact ⟨by kernel_rfl, by kernel_rfl⟩)
  rw [d51_new] at hnew
  have HNEW := hide_ hnew
  clear hb1 k0 k1 k2 hgr hnew hW1
  have hge := gptr_eq
  have hgn := gptr_neq
  have hme := ptr_eq
  go_enter Try.func17, Try.ntmps17
  go_wp2_with fail
  rw [← HW1.out, HSZ.out]
  refine HNEW.out.mono ?_
  rintro e w2 ⟨hor, hb2⟩
  rcases hor with ⟨D, q, hD, rfl, hg2, _⟩ | ⟨hD, _⟩
  · injection hD with hD
    subst hD
    have hb12 : Below W1.heap.size W1 w2 := ((Below.refl _ _).alloc (Nat.le_refl _) _).trans (hb2.mono (by simp))
    have HN8 := hide_ (New_any (W := w2) (B := w2.heap.size) (ex := []) 8 (by omega) (by omega) (show 256 = 2 ^ 8 from rfl) (Owns.nil_) (Nat.le_refl _))
    have HB2 := hide_ (HB1.out.trans (hb12.mono HB1.out.size))
    have HK2 := hide_ (show Blk w2 w.heap.size 29 #[.int .u32 v, .slice A2 n2 c2] ∧ Blk w2 (w.heap.size + 1) 103 #[.map none] ∧ Blk w2 (w.heap.size + 2) 83 #[.slice none 0 0, .bool false, .slice none 0 0] from ⟨HK1.out.1.below hb12 HK1.out.1.lt, HK1.out.2.1.below hb12 HK1.out.2.1.lt, HK1.out.2.2.below hb12 HK1.out.2.2.lt⟩)
    have HG2 := hide_ hg2
    clear hb2 hb12 hg2 HNEW HB1 HK1 HW1
    go_wp2_with fail
    refine HN8.out.mono ?_
    rintro e w3 ⟨g, d, c3, rfl, hO3, hb3⟩
    have hS3 : Seg w3 w2.heap.size g d 256 c3 zeros256 [] := ⟨⟨_, hO3⟩, hb3.size, ⟨8, by omega, by omega, rfl⟩, by simp [zeros256], fun x hx => by rw [List.eq_of_mem_replicate hx]; omega⟩
    have hm3 := MemAt.of_seg hS3
    obtain ⟨w4, hw4⟩ : ∃ w4, w4 = w3.alloc (.cells #[.pointer none, .pointer (some ⟨w.heap.size + 1, 0, none⟩)] 37) := ⟨_, rfl⟩
    have hb4 : Below w3.heap.size w3 w4 := by rw [hw4]; exact (Below.refl _ _).alloc (Nat.le_refl _) _
    have hk4 : Blk w4 w3.heap.size 37 #[.pointer none, .pointer (some ⟨w.heap.size + 1, 0, none⟩)] := by rw [hw4]; exact Blk.new w3 _ _
    have hb34 := hb3.trans (hb4.mono hb3.size)
    -- what stands from here on
    have HS : Hid (∀ w', Below w4.heap.size w4 w' → (Blk w' w.heap.size 29 #[.int .u32 v, .slice A2 n2 c2] ∧ NotGate w' (some ⟨w.heap.size + 1, 0, none⟩) ∧ NotMade w' (some ⟨w.heap.size + 2, 0, none⟩)) ∧ GateAt w' q d51 ∧ MemAt w' g d 256 c3 zeros256 ∧ Blk w' w3.heap.size 37 #[.pointer none, .pointer (some ⟨w.heap.size + 1, 0, none⟩)] ∧ Below w.heap.size w w') := hide_ fun w' hb => by
      have h24 : Below w2.heap.size w2 w' := hb34.trans (hb.mono hb34.size)
      have a0 := HK2.out.1.below h24 HK2.out.1.lt
      have a1 := HK2.out.2.1.below h24 HK2.out.2.1.lt
      have a2 := HK2.out.2.2.below h24 HK2.out.2.2.lt
      exact ⟨⟨a0, .inr ⟨_, rfl, a1.cell 0, a1.lt⟩, .inr ⟨_, rfl, a2.cell 0, a2.lt⟩⟩, HG2.out.below h24, (hm3.below hb4).below hb, hk4.below hb hk4.lt, HB2.out.trans (h24.mono HB2.out.size)⟩
    have HW4 := hide_ hw4
    obtain ⟨nb, hnb⟩ : ∃ nb, nb = w3.heap.size := ⟨_, rfl⟩
    rw [← hnb] at HS
    have HNB := hide_ hnb
    clear hO3 hb3 hS3 hm3 hb4 hk4 hb34 HN8 HB2 HK2 HG2 hw4 hnb
    go_wp2
    rw [← HW4.out, ← HNB.out]
    clear HW4 HNB
    go_loopw [16] (fun i wr => ∃ k : Nat, k ≤ 2 ∧ i = .int .i64 k ∧ Below w4.heap.size w4 wr) (fun i _ => 2 - (intOf i).toNat)
    case atStart => exact ⟨0, by omega, rfl, Below.refl _ _⟩
    case round =>
      obtain ⟨k, hk, rfl, hb⟩ := hrel
      by_cases hlt : k < 2
      · obtain ⟨⟨a0, a1, a2⟩, ag, am, ak, abw⟩ := HS.out wr hb
        obtain ⟨P, hP, hcP⟩ : ∃ P, NotGate wr P ∧ wr.cell? ⟨nb, k, none⟩ = some (.pointer P) := by
          match k, hlt with
          | 0, _ => exact ⟨none, .inl rfl, ak.cell 0⟩
          | 1, _ => exact ⟨_, a1, ak.cell 1⟩
        have nbl := ak.lt
        have h1 := hide_ (Granted_not x hP)
        have h2 := hide_ (Words_not (some ⟨g, 0, none⟩) x x hP)
        have h3 := hide_ (Event_not x x v A A2 n c n2 c2 hP)
        have r0 := a0.cell 0
        have r1 := a0.cell 1
        have rl := a0.lt
        have HPN := hide_ hP
        have HBW := hide_ hb
        have k0 : (0 : Int) ≤ (k : Int) := by omega
        have k2 : (k : Int) < 2 := by omega
        clear hP ag am ak abw a0 a1 a2 hb
        go_wp2_with fail
        refine h1.out.mono ?_
        rintro e w' ⟨rfl, hw⟩
        subst w'
        go_wp2_with fail
        refine h2.out.mono ?_
        rintro e w' ⟨rfl, hw⟩
        subst w'
        go_wp2_with fail
        refine h3.out.mono ?_
        rintro e w5 ⟨rfl, hb5⟩
        obtain ⟨w6, hw6⟩ : ∃ w6, w6 = w5.alloc (.cells #[.int .u32 0, .int .u32 0, .slice none 0 0, .int .u32 0] 108) := ⟨_, rfl⟩
        have hb6 : Below w5.heap.size w5 w6 := by rw [hw6]; exact (Below.refl _ _).alloc (Nat.le_refl _) _
        have hb56 := hb5.trans (hb6.mono hb5.size)
        have HB6 := hide_ (HBW.out.trans (hb56.mono HBW.out.size))
        have hk6 : Blk w6 w5.heap.size 108 evZero := by rw [hw6]; exact Blk.new w5 _ _
        have HP6 := hide_ (HPN.out.below hb56)
        have h4 := hide_ (Less_not A n c HP6.out)
        have h5 := hide_ (Grants_not HP6.out)
        have e0 := hk6.cell 0
        have e1 := hk6.cell 1
        have e2 := hk6.cell 2
        have e3 := hk6.cell 3
        have el := hk6.lt
        simp [evZero] at e0 e1 e2 e3
        have HS6 := hide_ (SameEvent_eq 0 0 0 none none 0 0 0 [] w6 (Reads.none_) (Reads.none_) (by omega))
        have HW6 := hide_ hw6
        clear hb5 hb6 hb56 hk6 hw6 h1 h2 h3 HPN HBW
        go_wp2_with fail
        rw [← HW6.out]
        clear HW6
        refine h4.out.mono ?_
        rintro e w' ⟨rfl, hw⟩
        subst w'
        go_wp2_with fail
        refine h5.out.mono ?_
        rintro e w' ⟨rfl, hw⟩
        subst w'
        go_wp2_with fail
        refine HS6.out.mono ?_
        rintro e w7 ⟨rfl, hb7⟩
        have HB7 := hide_ (HB6.out.trans (hb7.mono HB6.out.size))
        have HP7 := hide_ (HP6.out.below hb7)
        obtain ⟨⟨a0, _, _⟩, ag, _, _, _⟩ := HS.out w7 HB7.out
        have h6 := hide_ (Apply_not (some ⟨g, 0, none⟩) A2 v n2 c2 HP7.out)
        have r0 := a0.cell 0
        have r1 := a0.cell 1
        have rl := a0.lt
        clear hb7 HS6 h4 h5 HB6 HP6 a0 ag e0 e1 e2 e3 el
        go_wp2_with fail
        refine h6.out.mono ?_
        rintro e w8 ⟨rfl, hb8⟩
        have HB8 := hide_ (HB7.out.trans (hb8.mono HB7.out.size))
        have HP8 := hide_ (HP7.out.below hb8)
        obtain ⟨_, ag, _, _, _⟩ := HS.out w8 HB8.out
        have h7 := hide_ (Within_not (some ⟨q, 0, none⟩) HP8.out)
        have h8 := hide_ (Within_not2 q d51 ag HP8.out)
        have h9 := hide_ (Within_not P HP8.out)
        clear hb8 h6 HB7 HP7 ag r0 r1 rl
        go_wp2_with fail
        refine h7.out.mono ?_
        rintro e w' ⟨rfl, hw⟩
        subst w'
        go_wp2_with fail
        refine h8.out.mono ?_
        rintro e w' ⟨rfl, hw⟩
        subst w'
        go_wp2_with fail
        refine h9.out.mono ?_
        rintro e w' ⟨rfl, hw⟩
        subst w'
        go_wp2
        go_roundw
        case rel => exact ⟨k + 1, by omega, by go_num, HB8.out⟩
        case measure => simp [intOf]; omega
      · obtain rfl : k = 2 := by omega
        obtain ⟨w9, hw9⟩ : ∃ w9, w9 = wr.alloc (.cells #[.pointer none, .pointer (some ⟨w.heap.size + 2, 0, none⟩)] 48) := ⟨_, rfl⟩
        have hb9 : Below wr.heap.size wr w9 := by rw [hw9]; exact (Below.refl _ _).alloc (Nat.le_refl _) _
        have hk9 : Blk w9 wr.heap.size 48 #[.pointer none, .pointer (some ⟨w.heap.size + 2, 0, none⟩)] := by rw [hw9]; exact Blk.new wr _ _
        obtain ⟨mb, hmb⟩ : ∃ mb, mb = wr.heap.size := ⟨_, rfl⟩
        rw [← hmb] at hk9
        have hmbl := hk9.lt
        have HS9 : Hid (∀ w', Below w9.heap.size w9 w' → (Blk w' w.heap.size 29 #[.int .u32 v, .slice A2 n2 c2] ∧ NotMade w' (some ⟨w.heap.size + 2, 0, none⟩)) ∧ GateAt w' q d51 ∧ MemAt w' g d 256 c3 zeros256 ∧ Blk w' mb 48 #[.pointer none, .pointer (some ⟨w.heap.size + 2, 0, none⟩)] ∧ Below w.heap.size w w') := hide_ fun w' h => by
          have h94 := hb.trans ((hb9.trans (h.mono hb9.size)).mono hb.size)
          obtain ⟨⟨a0, _, a2⟩, ag, am, _, abw⟩ := HS.out w' h94
          exact ⟨⟨a0, a2⟩, ag, am, hk9.below h hmbl, abw⟩
        have HW9 := hide_ (show w9 = wr.alloc (.cells #[.pointer none, .pointer (some ⟨w.heap.size + 1 + 1, 0, none⟩)] 48) from hw9)
        have HMB := hide_ hmb
        clear hw9 hb9 hk9 hmb HS hb
        go_wp2
        rw [← HW9.out, ← HMB.out]
        clear HW9 HMB
        go_loopw [27] (fun i wr => ∃ k : Nat, k ≤ 2 ∧ i = .int .i64 k ∧ Below w9.heap.size w9 wr) (fun i _ => 2 - (intOf i).toNat)
        case atStart => exact ⟨0, by omega, rfl, Below.refl _ _⟩
        case round =>
          obtain ⟨k, hk, rfl, hb⟩ := hrel
          by_cases hlt : k < 2
          · obtain ⟨⟨a0, a2⟩, ag, am, ak, abw⟩ := HS9.out _ hb
            have hPx : ∃ P, NotMade wr P ∧ wr.cell? ⟨mb, k, none⟩ = some (.pointer P) := by
              match k, hlt with
              | 0, _ => exact ⟨none, .inl rfl, ak.cell 0⟩
              | 1, _ => exact ⟨_, a2, ak.cell 1⟩
            obtain ⟨P, hP, hcP⟩ := hPx
            have mbl := ak.lt
            have h1 := hide_ (Words_mno q d51 P x 5 ag (by kernel_rfl) hP)
            have HPN := hide_ hP
            have HBW := hide_ hb
            have k0 : (0 : Int) ≤ (k : Int) := by omega
            have k2 : (k : Int) < 2 := by omega
            have HCP := hide_ (show wr.cell? ⟨mb, k, none⟩ = some (.pointer P) from hcP)
            clear hP ag am ak abw a0 a2 hb
            go_wp2_with fail
            refine h1.out.mono ?_
            rintro e w10 ⟨rfl, hb10⟩
            have hbx := HBW.out.trans (hb10.mono HBW.out.size)
            obtain ⟨⟨a0, _⟩, ag, _, ak, _⟩ := HS9.out _ hbx
            have hP10 := HPN.out.below hb10
            have h2 := hide_ (fun (W' : World) (hW' : Below w10.heap.size w10 W') => Apply_mno (W := W') q d51 P v A2 n2 c2 (ag.below hW') (hP10.below hW'))
            have r0 := a0.cell 0
            have r1 := a0.cell 1
            have rl := a0.lt
            have hcP2 : w10.cell? ⟨mb, k, none⟩ = some (.pointer P) := (hb10.cell (p := ⟨mb, k, none⟩) mbl).trans HCP.out
            have mbl2 := ak.lt
            have HBX := hide_ hbx
            have i0 : ((0 : Int) != 0) = false := by simp
            have HKP : Hid (∀ w11, Below w10.heap.size w10 w11 → w11.cell? ⟨mb, k, none⟩ = some (.pointer P) ∧ w11.cell? ⟨w.heap.size, 0, none⟩ = some (.int .u32 v) ∧ w11.cell? ⟨w.heap.size, 1, none⟩ = some (.slice A2 n2 c2) ∧ Below w10.heap.size w10 w11) := hide_ fun w11 h =>
              ⟨(h.cell (p := ⟨mb, k, none⟩) mbl2).trans hcP2, (h.cell (p := ⟨w.heap.size, 0, none⟩) rl).trans r0, (h.cell (p := ⟨w.heap.size, 1, none⟩) rl).trans r1, h⟩
            clear hb10 hbx a0 ag ak HPN HBW h1 HCP hcP mbl hP10
            go_wp2
            go_region_held3 (fun W' => W'.cell? ⟨mb, k, none⟩ = some (.pointer P) ∧ W'.cell? ⟨w.heap.size, 0, none⟩ = some (.int .u32 v) ∧ W'.cell? ⟨w.heap.size, 1, none⟩ = some (.slice A2 n2 c2) ∧ Below w10.heap.size w10 W')
              (first | exact HKP.out _ (Below.refl _ _).drew | exact HKP.out _ HB11.out)
              ((go_at_call 31; go_split_ands; refine (h2.out _ (by assumption)).mono ?_; rintro e w11 ⟨rfl, hb11⟩; have HB11 := hide_ (below_size_trans (by assumption) hb11); clear hb11))
            go_wp2
            go_roundw
            case rel => (repeat apply Exists.intro); exact ⟨⟨k + 1, by omega, by go_num, HBX.out.trans (HB11.out.mono HBX.out.size)⟩, rfl⟩
            case measure => simp [intOf]; omega
          · obtain rfl : k = 2 := by omega
            obtain ⟨_, ag, am, _, abw⟩ := HS9.out _ hb
            have h1 := Words_s q d51 0 5 1 ag (by kernel_rfl) d51_has d51_at (by omega) am (by omega) (by omega)
            rw [zero_word] at h1
            have H1 := hide_ h1
            have HG := hide_ ag
            have HBW := hide_ abw
            clear hb ag am abw h1 HS9
            go_wp2_with fail
            refine H1.out.mono ?_
            rintro e w10 ⟨A5, c5, rfl, hown, hb10⟩
            obtain ⟨g5, c5', hv⟩ := ownsRow_some hown (by omega)
            injection hv with hv _ _
            subst hv
            have y0 : w10.cell? ⟨g5, 0, none⟩ = some (.int .u32 0) := by
              have := hown.cells (g := g5) rfl 0 (.int .u32 0) rfl
              simpa [Addr.add] using this
            have yl : g5 < w10.heap.size := (hown.lt g5 rfl).2
            have h2 := hide_ (Within_any q q d51 d51 w10 (HG.out.below hb10) (HG.out.below hb10))
            have HB10 := hide_ (HBW.out.trans (hb10.mono HBW.out.size))
            clear hown hb10 HG HBW H1
            go_wp2_with fail
            refine h2.out.mono ?_
            rintro e w11 ⟨b, rfl, hbb, hb11⟩
            obtain rfl : b = true := hbb.2 (WithinP.refl _)
            have HB11 := hide_ (HB10.out.trans (hb11.mono HB10.out.size))
            clear hbb hb11
            go_wp2
            go_ret
            exact ⟨rfl, HB11.out⟩
  · cases hD
set_option maxRecDepth 100000 in
theorem GateNone_raw {H : Type} {enc : TypeId × Value → H} {base : Nat} (vg : Value) (x : Int) (A : Option Addr) (n c : Nat) (zs : List Int) (vr : Value) (w : World)
    (_hvg : Value.okWide Try.prog w .any base 38 vg) (_hg : Seen enc Try.prog w true 38 vg.cells.toList) (hx : (Lit.int .u32 x).wf = true) (_h1 : Reads w w.heap.size 1 A n (zs.map (Value.int .u32))) (_h2 : ∀ z ∈ zs, (Lit.int .u32 z).wf = true) (_h3 : n ≤ c) (_h4 : c * 4 ≤ 140737488351232)
    (hv : Value.okWide Try.prog w .any base 29 vr) (h : Seen enc Try.prog w true 29 vr.cells.toList) :
    Calls Try.prog 17 #[vg, .int .u32 x, .slice A n c, vr] w fun e w' => e = .returned (.bool true) ∧ Below w.heap.size w w' := by
  obtain ⟨v, A2, n2, c2, ws, zs2, rfl, _⟩ := seen_reply hv h
  exact GateNone_walk vg x A n c v A2 n2 c2 w hx
end Go.Proofs.Ytgppbdcnpailaaa
