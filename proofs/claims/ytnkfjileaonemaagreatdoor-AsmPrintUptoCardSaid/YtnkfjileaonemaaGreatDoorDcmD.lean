/-
  Numbers as text: the document's decimal.
-/
import Derived.Test.YtnkfjileaonemaaGreatDoorDcm
namespace Go.Proofs.YtnkfjileaonemaaGreatDoor
open Go.RowKit Go.PlainAid Go.BigFrame
set_option linter.unusedSimpArgs false
set_option linter.unusedVariables false
theorem d0_len (v : Nat) : (d0 v).length ≤ v := by
  induction v using Nat.strongRecOn with
  | _ v ih =>
    by_cases h : v = 0
    · subst h; simp [d0]
    · rw [d0_pos h, List.length_append]
      have := ih (v / 10) (by omega)
      simp
      omega
theorem d0_dcm {v : Nat} (h : v ≠ 0) : strOfNums (d0 v) = ⟨(Lib.decDigits v).toArray⟩ := by
  unfold d0
  rw [if_neg h]
  exact dcm_str_eq v
def sLen : Value → Nat
  | .slice _ n _ => n
  | _ => 0
theorem info_u8q : (Tryz.prog.info? 5).map (fun i => (i.zero, i.size, i.bytes)) = some (some (.int .u8 0), 1, 1) := by kernel_rfl
theorem info_u32q : (Tryz.prog.info? 24).map (fun i => (i.zero, i.size, i.bytes)) = some (some (.int .u32 0), 1, 4) := by kernel_rfl
/-- the inner loop: the one digit to the base 2^32, divided -/
def InD (w1 : World) (x : Nat) (rest next i : Value) (wr2 : World) : Prop :=
  (rest = .int .u64 0 ∧ next = .slice none 0 0 ∧ i = .int .i64 0 ∧ wr2 = w1) ∨
  (rest = .int .u64 ((x % 10 : Nat) : Int) ∧ i = .int .i64 (-1) ∧ (∃ A1 c1, next = .slice A1 1 c1 ∧ 1 ≤ c1 ∧ Reads wr2 wr2.heap.size 1 A1 1 [.int .u32 ((x / 10 : Nat) : Int)]) ∧ Below w1.heap.size w1 wr2)
/-- the outer loop's relation -/
def OutD (w : World) (v : Nat) (a out : Value) (wr : World) : Prop :=
  ∃ x : Nat, x ≤ v ∧ (∃ A1 c1, a = .slice A1 (natN x) c1 ∧ Reads wr wr.heap.size 1 A1 (natN x) (natL x)) ∧
    (∃ A2 c2 l, out = .slice A2 l.length c2 ∧ Reads wr wr.heap.size 1 A2 l.length (u8q l) ∧ d0 x ++ l = d0 v) ∧ Below w.heap.size w wr
theorem after_app {wo wr w1 : World} {A3 A4 : Option Addr} {c4 v x : Nat} {l : List Int} {r : Int} (hb3 : Below wo.heap.size wo wr) (h3 : Reads wr wr.heap.size 1 A3 1 [.int .u32 ((x / 10 : Nat) : Int)])
    (hown : w1.ownsRow wr.heap.size 5 1 (.slice A4 (1 + l.length) c4) (1 + l.length) ([.int .u8 (48 + r)] ++ u8q l)) (hgr : (wr.alloc (.cells #[.int .u8 (48 + r)] 5)).grownBy w1 (Value.slice (some ⟨wr.heap.size, 0, none⟩) 1 1).ownBlock)
    (hl : d0 x ++ l = d0 v) (hd : d0 x = d0 (x / 10) ++ [48 + ((x % 10 : Nat) : Int)]) (hr : r = ((x % 10 : Nat) : Int)) :
    Hid (Below wr.heap.size wr w1 ∧ Reads w1 w1.heap.size 1 A4 (1 + l.length) (u8q ((48 + r) :: l)) ∧ Reads w1 w1.heap.size 1 A3 1 [.int .u32 ((x / 10 : Nat) : Int)] ∧ d0 (x / 10) ++ ((48 + r) :: l) = d0 v) := by
  have hb : Below wr.heap.size wr w1 := ((Below.refl _ _).alloc (Nat.le_refl _) _).grown hgr (by simp) (fun j ej => by simp [Value.ownBlock] at ej; omega)
  refine hide_ ⟨hb, Reads.of_own hown, (h3.below hb).more hb.size, ?_⟩
  rw [← hl, hd, hr, List.append_assoc]
  rfl
set_option maxHeartbeats 4000000 in
theorem decimal_any (A : Option Addr) (c v : Nat) (hv : v < 4294967296) (w : World) (hr : Reads w w.heap.size 1 A (natN v) (natL v)) :
    Calls Tryz.prog 79 #[.slice A (natN v) c] w fun e w' => e = .returned (.string ⟨(Lib.decDigits v).toArray⟩) ∧ Below w.heap.size w w' := by
  obtain ⟨i0, hi0, hz0, hz1, hz2⟩ := info_parts info_u8q
  obtain ⟨i1, hi1, hy0, hy1, hy2⟩ := info_parts info_u32q
  have H0 := hide_ (show OutD w v (.slice A (natN v) c) (.slice none 0 0) w from ⟨v, Nat.le_refl _, ⟨A, c, rfl, hr⟩, ⟨none, 0, [], rfl, Reads.none_, List.append_nil _⟩, Below.refl _ _⟩)
  clear hr
  go_enter Tryz.func79, Tryz.ntmps79
  go_wp2
  go_loopw [0, 3] (fun a out wr => OutD w v a out wr) (fun _ out _ => v + 1 - sLen out)
  case atStart => exact H0.out
  case round =>
    clear H0
    obtain ⟨x, hx, ⟨A1, c1, rfl, h1⟩, ⟨A2, c2, l, rfl, h2, hl⟩, hb⟩ := hrel
    have hll : l.length ≤ v := by
      have := congrArg List.length hl
      rw [List.length_append] at this
      have := d0_len v
      omega
    obtain ⟨wo, rfl⟩ : ∃ wo : World, wo = wr := ⟨_, rfl⟩
    by_cases h0 : x = 0
    · subst h0
      have hl' : l = d0 v := hl
      subst hl'
      rw [show natN 0 = 0 from rfl]
      by_cases hv0 : v = 0
      · subst hv0
        rw [show (d0 0).length = 0 from rfl]
        have HB := hide_ hb
        clear hb hl h1 h2 hll
        go_wp2
        go_ret
        exact ⟨by rw [show Lib.decDigits 0 = [48] from Lib.decDigits_one (by omega)]; rfl, HB.out⟩
      · have hcv := dcm_str wo wo.heap.size 23 5 Tryz.underlying23 Tryz.underlying5 A2 _ c2 _ h2 9 Tryz.underlying9
        have hne : decide ((d0 v).length = 0) = false := by
          rw [d0_pos hv0]
          simp
        rw [d0_dcm hv0] at hcv
        have hne2 : (((d0 v).length : Int) == 0) = false := by
          rw [d0_pos hv0]
          simp
          omega
        obtain ⟨L, hL⟩ : ∃ L, L = (d0 v).length := ⟨_, rfl⟩
        rw [← hL] at hcv hne hne2 ⊢
        have HB := hide_ hb
        clear hb hl h1 h2 hll hL
        go_wp2
        go_ret
        exact ⟨rfl, HB.out⟩
    · have hN : natN x = 1 := if_neg h0
      have hL : natL x = [.int .u32 x] := if_neg h0
      have hD := d0_pos h0
      rw [hN, hL] at h1
      rw [hN]
      obtain ⟨ad, rfl, hbk, hc⟩ := h1.2 (by omega)
      have hc0 := hc 0 _ rfl
      rw [show ad.add 0 = ad from by simp [Addr.add]] at hc0
      have hx0 : (0 : Int) ≤ x := by omega
      have hx1 : (x : Int) < 4294967296 := by omega
      obtain ⟨xi, hxi⟩ : ∃ xi : Int, xi = (x : Int) := ⟨_, rfl⟩
      rw [← hxi] at hc0 hx0 hx1
      have HX := hide_ hxi
      have HB := hide_ hb
      have H2 := hide_ h2
      have HL := hide_ hl
      have HD := hide_ hD
      have HLL := hide_ hll
      clear hb h2 hl hD hll hN hL hc h1 hxi h0
      go_wp2
      go_loopw [4, 5, 6] (fun rest next i wr => InD wo x rest next i wr) (fun _ _ i _ => (intOf i + 1).toNat)
      case atStart => exact .inl ⟨rfl, rfl, rfl, rfl⟩
      case round =>
        rcases hrel with ⟨rfl, rfl, rfl, rfl⟩ | ⟨rfl, rfl, ⟨A3, c3, rfl, hc3, h3⟩, hb3⟩
        · go_wp2
          go_roundw
          case rel => exact .inr ⟨by rw [HX.out]; exact congrArg (Value.int .u64) (by omega), rfl, ⟨_, _, rfl, Nat.le_refl _, by rw [HX.out, show ((x : Int) / 10) = ((x / 10 : Nat) : Int) by omega]; exact (reads_new _ 24 1 1 [.int .u32 ((x / 10 : Nat) : Int)] rfl).more (by simp)⟩, (Below.refl _ _).alloc (Nat.le_refl _) _⟩
          case measure => simp [intOf]
        · have hg1 : ((((x % 10 : Nat) : Int) + 48) % 256 : Int) = 48 + ((x % 10 : Nat) : Int) := by omega
          have hg2 : ((48 + ((x % 10 : Nat) : Int)) % 256 : Int) = 48 + ((x % 10 : Nat) : Int) := by omega
          obtain ⟨r, hr⟩ : ∃ r : Int, r = ((x % 10 : Nat) : Int) := ⟨_, rfl⟩
          have hr0 : 0 ≤ r ∧ r < 10 := by omega
          obtain ⟨hr0, hr1⟩ := hr0
          rw [← hr] at hg1 hg2 ⊢
          have HR := hide_ hr
          have H3 := hide_ h3
          have HB3 := hide_ hb3
          have HC3 := hide_ hc3
          clear hr h3 hb3 hg1 hc0 hbk hc3
          have HBW0 := HB3
          go_wp2_with (at_builtin; go_must (refine wpList_append_any _ rfl (.tmp 37) (.tmp 38) 23 rfl wr.heap.size 5 i0 _ 1 1 Tryz.underlying23 hi0 hz0 hz1 hz2 rfl (by omega) (.slice (some ⟨wr.heap.size, 0, none⟩) 1 1) 1 [.int .u8 (48 + r)] rfl (blk_own (cs := #[.int .u8 (48 + r)]) (Blk.new wr 5 #[.int .u8 (48 + r)]) (Nat.le_refl _) (by simp [maxLen])) wo.heap.size A2 l.length c2 (u8q l) rfl ((H2.out.below HB3.out).alloc HB3.out.size _) (by intro u hu; obtain ⟨z, _, rfl⟩ := List.mem_map.1 hu; rfl) (by have := HLL.out; simp only [maxLen]; omega) (by have := HLL.out; omega) (by simp) ?_); intro v' w1 hown hgr _; obtain ⟨A4, c4, rfl, _, _⟩ := ownsRow_slice hown; have HAF := after_app HB3.out H3.out hown hgr HL.out HD.out HR.out; clear hown hgr)
          obtain ⟨hbw, hout, hnx, hdd⟩ := HAF.out
          obtain ⟨ad3, rfl, hbk3, hc4⟩ := hnx.2 (by omega)
          have hc5 := hc4 0 _ rfl
          rw [show ad3.add 0 = ad3 from by simp [Addr.add]] at hc5
          have hc3' := HC3.out
          obtain ⟨y, hy⟩ : ∃ y : Nat, y = x / 10 := ⟨_, rfl⟩
          have hyv : y ≤ v := by omega
          rw [← hy] at hc5 hnx hdd
          have HOUT := hide_ hout
          have HNX := hide_ hnx
          have HDD := hide_ hdd
          have HBW := hide_ (HB.out.trans ((HBW0.out.trans (hbw.mono HBW0.out.size)).mono HB.out.size))
          clear hbw hout hnx hdd hc4 HAF hy hx
          by_cases hy0 : y = 0
          · subst hy0
            go_loop [7] (fun n => ∃ k : Nat, k ≤ 1 ∧ n = .int .i64 k) (fun n => (intOf n).toNat)
            case atStart => exact ⟨1, by omega, rfl⟩
            case round =>
              obtain ⟨k, hk, rfl⟩ := hrel
              rcases (show k = 0 ∨ k = 1 by omega) with rfl | rfl
              · go_wp2
                go_roundw
                case rel => exact ⟨0, by omega, ⟨_, c3, rfl, rfl, fun h => absurd h (by simp [natN])⟩, ⟨A4, c4, (48 + r) :: l, by simp [Nat.add_comm], by rw [show ((48 + r) :: l).length = 1 + l.length by simp [Nat.add_comm]]; exact HOUT.out, HDD.out⟩, HBW.out⟩
                case measure => have := HLL.out; simp [sLen]; omega
              · go_wp2
                go_round
                case rel => exact ⟨0, by omega, rfl⟩
                case measure => simp [intOf]
          · have hyb : (((y : Nat) : Int) == 0) = false := by simpa using hy0
            have hNy : natN y = 1 := if_neg hy0
            have hLy : natL y = [.int .u32 y] := if_neg hy0
            have HNL := hide_ (show natN y = 1 ∧ natL y = [.int .u32 y] from ⟨hNy, hLy⟩)
            clear hNy hLy hy0
            go_loop [7] (fun n => n = .int .i64 1) (fun n => (intOf n).toNat)
            case atStart => exact rfl
            case round =>
              subst hrel
              go_wp2
              go_roundw
              case rel => exact ⟨y, hyv, ⟨_, c3, by rw [HNL.out.1], by rw [HNL.out.1, HNL.out.2]; exact HNX.out⟩, ⟨A4, c4, (48 + r) :: l, by simp [Nat.add_comm], by rw [show ((48 + r) :: l).length = 1 + l.length by simp [Nat.add_comm]]; exact HOUT.out, HDD.out⟩, HBW.out⟩
              case measure => have := HLL.out; simp [sLen]; omega
end Go.Proofs.YtnkfjileaonemaaGreatDoor
