/-
  The kit's lists of texts and of tokens: markTexts, LentTexts, KeptTexts, SameTokens; sameTokens.
-/
import Derived.Test.YtnkfjileaonemaaGreatDoorANam
import Derived.Test.YtnkfjileaonemaaGreatDoorShow
import Derived.Test.YtnkfjileaonemaaGreatDoorSeeS
import Derived.Deep.RegionHeld3
import Derived.Laws.StructEq
import Derived.Test.YtnkfjileaonemaaGreatDoorBuilder
namespace Go.Proofs.YtnkfjileaonemaaGreatDoor
open Go.RowKit Go.PlainAid Go.BigFrame
set_option linter.unusedVariables false
set_option maxRecDepth 100000

theorem token_eq (w : World) (k a : Int) (T : ByteArray) : (binOp .neq 91 (.agg #[.int .u8 k, .int .i64 a, .string T]) (.agg #[.int .u8 k, .int .i64 a, .string T])).run Tryz.prog w = .ok (.bool false) w := by
  rw [run_neq_struct, run_equalIn_agg _ _ _ _ _ (by kernel_rfl) (by kernel_rfl)]
  have h := @Tryz.underlying91
  simp only [go_sem, h]
  simp
  go_simp
/-- the mark of place i of list k -/
def mkS (k i : Int) : ByteArray := strOfNums [35, k % 256, k / 256 % 256, i % 256, i / 256 % 256]
theorem markTexts_any (k i : Int) (w : World) : Calls Tryz.prog 44 #[.int .i64 k, .int .i64 i] w fun e w' => e = .returned (.string (mkS k i)) ∧ Below w.heap.size w w' := by
  have hcv := run_str_of_reads (P := Tryz.prog) (w.alloc (.cells #[.int .u8 35, .int .u8 (k % 256), .int .u8 (k / 256 % 256), .int .u8 (i % 256), .int .u8 (i / 256 % 256)] 5)) (w.heap.size + 1) 23 5 Tryz.underlying23 Tryz.underlying5 (some ⟨w.heap.size, 0, none⟩) 5 5 [35, k % 256, k / 256 % 256, i % 256, i / 256 % 256] (reads_new w 5 1 5 _ rfl) 9 Tryz.underlying9
  go_enter Tryz.func44, Tryz.ntmps44
  go_wp2
  go_ret
  exact ⟨rfl, (Below.refl _ w).alloc (Nat.le_refl _) _⟩
def marksS (n : Nat) : List ByteArray := (List.range n).map fun i => mkS 0 (i : Nat)
theorem marksS_succ (n : Nat) : marksS (n + 1) = marksS n ++ [mkS 0 (n : Nat)] := by simp [marksS, List.range_succ]
theorem marksS_len (n : Nat) : (marksS n).length = n := by simp [marksS]
def strV (l : List ByteArray) : List Value := l.map Value.string
theorem strV_app (a b : List ByteArray) : strV (a ++ b) = strV a ++ strV b := by simp [strV]
theorem str_info : (Tryz.prog.info? 9).map (fun i => (i.zero, i.size, i.bytes)) = some (some (.string ⟨#[]⟩), 1, 16) := by kernel_rfl
theorem strV_take (sg : List ByteArray) (m : Nat) (g : ByteArray) (h : sg[m]? = some g) : strV (sg.take (m + 1)) = strV (sg.take m) ++ [.string g] := by
  rw [List.take_add_one, h, strV_app]
  rfl
set_option maxHeartbeats 2000000 in
theorem LentTexts_any (A : Option Addr) (n c B : Nat) (sg : List ByteArray) (w : World) (hn : n * 16 + 1024 ≤ 140737488355328) (hr : Reads w B 1 A n (strV sg)) (hB : B ≤ w.heap.size) :
    Calls Tryz.prog 14 #[.slice A n c] w fun e w' => ∃ v, e = .returned v ∧ w'.ownsRow w.heap.size 9 1 v (n + 64) (strV (sg ++ marksS 64)) ∧ Below w.heap.size w w' := by
  obtain ⟨i0, hi0, hz0, hz1, hz2⟩ := info_parts str_info
  have hlen : sg.length = n := by have := hr.1; simpa [strV] using this
  have HR := hide_ hr
  have HLEN := hide_ hlen
  have HBB := hide_ hB
  clear hr hlen hB
  go_enter Tryz.func14, Tryz.ntmps14
  go_wp2
  go_loopw [3, 4] (fun v i wr => ∃ k : Nat, k ≤ n ∧ i = .int .i64 k ∧ wr.ownsRow w.heap.size 9 1 v k (strV (sg.take k)) ∧ Below w.heap.size w wr) (fun _ i _ => n - (intOf i).toNat)
  case atStart => exact ⟨0, Nat.zero_le _, rfl, World.ownsRow_nil _ _ _ _, Below.refl _ _⟩
  case round =>
    obtain ⟨k, hk, rfl, hown, hb⟩ := hrel
    obtain ⟨A0, c0, rfl, hc0, hc1⟩ := ownsRow_slice hown
    have HO := hide_ (one_row (r := ⟨9, 1, .slice A0 k c0, k, strV (sg.take k)⟩) hown)
    have HB := hide_ hb
    by_cases hlt : k < n
    · obtain ⟨g, hg⟩ : ∃ g, sg[k]? = some g := ⟨_, List.getElem?_eq_getElem (by have := HLEN.out; omega)⟩
      obtain ⟨b, o, rfl, hbk, hcl⟩ := reads_strs (HR.out.below (hb.mono HBB.out)) (by omega)
      have hcm := hcl k g hg
      have hbs : b < wr.heap.size := by have := HBB.out; have := hb.size; omega
      have HG := hide_ (strV_take sg k g hg)
      clear hcl hg hown hb
      go_wp2_with (at_builtin; refine wpList_append_owns _ rfl (.tmp 12) (.tmp 17) 27 rfl w.heap.size _ 0 9 1 (.slice A0 k c0) k (strV (sg.take k)) rfl (HO.out.alloc _) (by have := HB.out.size; simp; omega) i0 _ 16 Tryz.underlying27 hi0 hz0 hz1 hz2 rfl (by omega) rfl _ _ 1 1 [.string g] rfl (reads_new wr 9 1 1 [.string g] rfl) (by simp [Value.oneCell']) (by simp only [maxLen]; omega) (by omega) ?_)
      intro v1 w1 hO1 hb1 hsz1
      have HB1 := hide_ ((HB.out.alloc HB.out.size _).trans hb1)
      have HO1 := hide_ (hO1.at_ (i := 0) rfl)
      clear hO1 hb1 hsz1
      go_wp2
      go_roundw
      case rel => exact ⟨k + 1, by omega, by go_num, by rw [HG.out]; exact HO1.out, HB1.out⟩
      case measure => simp [intOf]; omega
    · obtain rfl : k = n := by omega
      have HO2 := hide_ (show wr.ownsRow w.heap.size 9 1 (.slice A0 k c0) (k + 0) (strV (sg ++ marksS 0)) by
        have h9 := hown
        rw [List.take_of_length_le (by have := HLEN.out; omega)] at h9
        simpa [marksS] using h9)
      clear HO hown hb
      go_wp2
      go_loopw [3, 5] (fun v i wr => ∃ j : Nat, j ≤ 64 ∧ i = .int .i64 j ∧ wr.ownsRow w.heap.size 9 1 v (k + j) (strV (sg ++ marksS j)) ∧ Below w.heap.size w wr) (fun _ i _ => 64 - (intOf i).toNat)
      case atStart => exact ⟨0, by omega, rfl, HO2.out, HB.out⟩
      case round =>
        clear HO2 HB
        obtain ⟨j, hj, rfl, hown, hb⟩ := hrel
        obtain ⟨A1, c1, rfl, hc2, hc3⟩ := ownsRow_slice hown
        have HOWN := hide_ hown
        have HB := hide_ hb
        have HSZ := hide_ hb.size
        clear hown hb
        by_cases hlt2 : j < 64
        · have HMK := hide_ (fun W => markTexts_any 0 (j : Int) W)
          have HMS := hide_ (show strV (sg ++ marksS (j + 1)) = strV (sg ++ marksS j) ++ [.string (mkS 0 (j : Nat))] by rw [marksS_succ, ← List.append_assoc, strV_app]; rfl)
          obtain ⟨M, hM⟩ : ∃ M, M = mkS 0 (j : Int) := ⟨_, rfl⟩
          rw [← hM] at HMK
          have HMM := hide_ hM
          clear hM
          go_wp2_with fail
          refine (HMK.out _).mono ?_
          rintro e w2 ⟨rfl, hb2⟩
          have HO := hide_ ((one_row (r := ⟨9, 1, .slice A1 (k + j) c1, k + j, strV (sg ++ marksS j)⟩) HOWN.out).below hb2)
          have HB2 := hide_ (HB.out.trans (hb2.mono HSZ.out))
          clear hb2
          go_wp2_with (at_builtin; refine wpList_append_owns _ rfl (.tmp 23) (.tmp 26) 27 rfl w.heap.size _ 0 9 1 (.slice A1 (k + j) c1) (k + j) (strV (sg ++ marksS j)) rfl (HO.out.alloc _) (by have := HB2.out.size; simp; omega) i0 _ 16 Tryz.underlying27 hi0 hz0 hz1 hz2 rfl (by omega) rfl _ _ 1 1 [.string M] rfl (reads_new w2 9 1 1 [.string M] rfl) (by simp [Value.oneCell']) (by simp only [maxLen]; omega) (by omega) ?_)
          intro v1 w3 hO1 hb1 hsz1
          have HB3 := hide_ ((HB2.out.alloc HB2.out.size _).trans hb1)
          have HO1 := hide_ (hO1.at_ (i := 0) rfl)
          clear hO1 hb1 hsz1
          go_wp2
          go_roundw
          case rel => exact ⟨j + 1, by omega, by go_num, by rw [HMS.out, ← HMM.out]; exact HO1.out, HB3.out⟩
          case measure => simp [intOf]; omega
        · obtain rfl : j = 64 := by omega
          go_wp2
          go_ret
          exact ⟨_, rfl, HOWN.out, HB.out⟩
set_option maxHeartbeats 2000000 in
theorem KeptTexts_any (A A' : Option Addr) (n c c' B : Nat) (ys : List ByteArray) (w : World) (hn : n ≤ 140737488351232) (ha : Reads w B 1 A (n + 64) (strV (ys ++ marksS 64))) (hb : Reads w B 1 A' n (strV ys)) (hB : B ≤ w.heap.size) :
    Calls Tryz.prog 26 #[.slice A (n + 64) c, .slice A' n c'] w fun e w' => e = .returned (.bool true) ∧ Below w.heap.size w w' := by
  have hlen : ys.length = n := by have := hb.1; simpa [strV] using this
  have h0 : (((n : Int) + 64) != ((n : Int) + 64)) = false := by simp
  obtain ⟨b, o, rfl, hbk, hcl⟩ := reads_strs ha (by omega)
  have HR := hide_ hb
  have HCL := hide_ hcl
  have HLEN := hide_ hlen
  have HBB := hide_ hB
  clear ha hb hlen hB hcl
  go_enter Tryz.func26, Tryz.ntmps26
  go_wp2
  go_loopw [5] (fun i wr => ∃ k : Nat, k ≤ n ∧ i = .int .i64 k ∧ Drew w wr) (fun i _ => n - (intOf i).toNat)
  case atStart => exact ⟨0, Nat.zero_le _, rfl, Drew.refl w⟩
  case round =>
    obtain ⟨k, hk, rfl, hd⟩ := hrel
    have HD := hide_ hd
    by_cases hlt : k < n
    · obtain ⟨g, hg⟩ : ∃ g, ys[k]? = some g := ⟨_, List.getElem?_eq_getElem (by have := HLEN.out; omega)⟩
      obtain ⟨b', o', rfl, hbk', hcl'⟩ := reads_strs HR.out (by omega)
      have hc1 : wr.cell? ⟨b', o' + k, none⟩ = some (.string g) := (hd.cell _).trans (hcl' k g hg)
      have hc2 : wr.cell? ⟨b, o + k, none⟩ = some (.string g) := (hd.cell _).trans (HCL.out k g (by rw [List.getElem?_append_left (by have := HLEN.out; omega)]; exact hg))
      have hb1 : b < wr.heap.size := by rw [hd.size]; have := HBB.out; omega
      have hb2 : b' < wr.heap.size := by rw [hd.size]; have := HBB.out; omega
      clear hcl' hg hd
      go_upto_region 6 with (fail)
      go_big_quiet (fail)
      go_wp2
      go_roundw
      case rel => exact ⟨k + 1, by omega, by go_num, HD.out.more _⟩
      case measure => simp [intOf]; omega
    · obtain rfl : k = n := by omega
      clear hd
      go_wp2
      go_loopw [6] (fun i wr => ∃ j : Nat, j ≤ 64 ∧ i = .int .i64 j ∧ Below w.heap.size w wr) (fun i _ => 64 - (intOf i).toNat)
      case atStart => exact ⟨0, by omega, rfl, HD.out.below _⟩
      case round =>
        obtain ⟨j, hj, rfl, hbw⟩ := hrel
        have HBW := hide_ hbw
        by_cases hlt : j < 64
        · have hcx : wr.cell? ⟨b, o + (k + j), none⟩ = some (.string (mkS 0 (j : Nat))) := (hbw.cell (p := ⟨b, o + (k + j), none⟩) (by have := HBB.out; simp only; omega)).trans (HCL.out (k + j) _ (by
            rw [List.getElem?_append_right (by have := HLEN.out; omega), show k + j - ys.length = j by have := HLEN.out; omega]
            simp [marksS, hlt]))
          have hbs : b < wr.heap.size := by have := HBB.out; have := hbw.size; omega
          have HMK := hide_ (fun W => markTexts_any 0 (j : Int) W)
          obtain ⟨M, hM⟩ : ∃ M, M = mkS 0 (j : Int) := ⟨_, rfl⟩
          rw [← hM] at HMK
          rw [show mkS 0 ((j : Nat) : Int) = M from hM.symm] at hcx
          have s1 : IntKind.i64.wrap ((k : Int) + (j : Int)) = (k : Int) + (j : Int) := IntWalk.i64_in _ (by omega)
          have s2 : (0 : Int) ≤ (k : Int) + (j : Int) := by omega
          have s3 : ((k : Int) + (j : Int)).toNat = k + j := by omega
          have s4 : (k : Int) + (j : Int) < (k : Int) + 64 := by omega
          have HSW := hide_ hbw.size
          clear hM hbw
          go_upto_region 11 with (fail)
          go_region_held3 (fun W => W.cell? ⟨b, o + (k + j), none⟩ = some (.string M))
            (first | exact hcx | exact (hb7.cell (p := ⟨b, o + (k + j), none⟩) hbs).trans hcx | go_keep)
            ((go_at_call 44; refine (HMK.out _).mono ?_; rintro e w7 ⟨rfl, hb7⟩))
          all_goals
            have HB7 := hide_ (HBW.out.trans ((show Below wr.heap.size wr w7 by first | exact hb7 | exact (Below.refl _ wr).drew.trans hb7).mono HSW.out))
            clear hb7
            go_wp2
            go_roundw
            case rel => exact ⟨j + 1, by omega, by go_num, by first | exact HB7.out | exact HB7.out.drew⟩
            case measure => simp [intOf]; omega
        · obtain rfl : j = 64 := by omega
          clear hbw
          go_wp2
          go_ret
          exact ⟨rfl, HBW.out⟩
end Go.Proofs.YtnkfjileaonemaaGreatDoor
/-
  Objects of the assembler, as they are read; asm.bounded, asm.length, the document's length.
-/
namespace Go.Proofs.YtnkfjileaonemaaGreatDoor
set_option maxRecDepth 100000
open Go.RowKit Go.PlainAid Go.BigFrame
set_option linter.unusedSimpArgs false
set_option linter.unusedVariables false
/-- a label: name, section, place, is it open -/
structure LabV where
  name : ByteArray
  sec : Int
  at_ : Int
  opn : Bool
deriving DecidableEq
/-- a fix: section, place, name, what is added -/
structure FixV where
  sec : Int
  at_ : Int
  name : ByteArray
  add : Int
deriving DecidableEq
structure EntV where
  name : ByteArray
  lab : ByteArray
deriving DecidableEq
structure ObjV where
  code : List (Int × Int)
  data : List Int
  zero : Int
  stack : Int
  labels : List LabV
  fixes : List FixV
  targets : List ByteArray
  entries : List EntV
def cE (t : Int × Int) : List Value := [.int .u8 t.1, .int .u32 t.2]
def lE (t : LabV) : List Value := [.string t.name, .int .u8 t.sec, .int .u32 t.at_, .bool t.opn]
def fE (t : FixV) : List Value := [.int .u8 t.sec, .int .u32 t.at_, .string t.name, .int .u32 t.add]
def eE (t : EntV) : List Value := [.string t.name, .string t.lab]
section
variable {α : Type} {enc : α → List Value} {K : Nat}
theorem enc_len (hK : ∀ a, (enc a).length = K) (l : List α) : (l.flatMap enc).length = l.length * K := by
  induction l with
  | nil => simp
  | cons a l ih => rw [List.flatMap_cons, List.length_append, ih, hK, List.length_cons, Nat.succ_mul, Nat.add_comm]
theorem enc_get (hK : ∀ a, (enc a).length = K) : ∀ (l : List α) (k : Nat) (a : α), l[k]? = some a → ∀ j u, (enc a)[j]? = some u → (l.flatMap enc)[k * K + j]? = some u
  | [], _, _, h, _, _, _ => by simp at h
  | b :: l, 0, a, h, j, u, hu => by
    have e : b = a := by simpa using h
    subst e
    rw [List.flatMap_cons, Nat.zero_mul, Nat.zero_add, List.getElem?_append_left (List.getElem?_eq_some_iff.1 hu).1]
    exact hu
  | b :: l, k + 1, a, h, j, u, hu => by
    have e : (k + 1) * K + j - (enc b).length = k * K + j := by rw [hK, Nat.succ_mul]; omega
    rw [List.flatMap_cons, List.getElem?_append_right (by rw [hK, Nat.succ_mul]; omega), e]
    exact enc_get hK l k a (by simpa using h) j u hu
/-- the cells of an element -/
theorem el_cells (hK : ∀ a, (enc a).length = K) {W : World} {B n : Nat} {A : Option Addr} {l : List α} (hr : Reads W B K A n (l.flatMap enc)) (hp : 0 < K) {k : Nat} {a : α} (h : l[k]? = some a) :
    k < n ∧ ∃ ad, A = some ad ∧ (ad.add (k * K)).block < B ∧ (∀ u, (enc a)[0]? = some u → W.cell? (ad.add (k * K)) = some u) ∧ ∀ j u, 0 < j → (enc a)[j]? = some u → W.cell? ⟨(ad.add (k * K)).block, (ad.add (k * K)).off + j, none⟩ = some u := by
  have hk : k < l.length := (List.getElem?_eq_some_iff.1 h).1
  have hn : l.length = n := by
    have := hr.1
    rw [enc_len hK] at this
    exact Nat.eq_of_mul_eq_mul_right hp this
  obtain ⟨ad, e, hb, hc⟩ := hr.2 (by omega)
  refine ⟨by omega, ad, e, by rw [block_of_add]; exact hb, fun u hu => ?_, fun j u hj hu => ?_⟩
  · have := hc _ u (enc_get hK l k a h 0 u hu)
    simpa using this
  · have := hc _ u (enc_get hK l k a h j u hu)
    rw [← add_of_add] at this
    have key : (ad.add (k * K)).add j = ⟨(ad.add (k * K)).block, (ad.add (k * K)).off + j, none⟩ := by
      generalize ad.add (k * K) = p
      unfold Addr.add
      rw [if_neg (by omega)]
    rw [key] at this
    exact this
end
/-- a slice's array and room -/
structure SL where
  A : Option Addr
  c : Nat
structure ObjS where
  c : SL
  d : SL
  l : SL
  f : SL
  t : SL
  e : SL
def objV (x : ObjV) (s : ObjS) : Array Value := #[.slice s.c.A x.code.length s.c.c, .slice s.d.A x.data.length s.d.c, .int .u32 x.zero, .int .u32 x.stack, .slice s.l.A x.labels.length s.l.c, .slice s.f.A x.fixes.length s.f.c, .slice s.t.A x.targets.length s.t.c, .slice s.e.A x.entries.length s.e.c]
structure ObjR (W : World) (B : Nat) (x : ObjV) (s : ObjS) : Prop where
  rc : Reads W B 2 s.c.A x.code.length (x.code.flatMap cE)
  rd : Reads W B 1 s.d.A x.data.length (u8s x.data)
  rl : Reads W B 4 s.l.A x.labels.length (x.labels.flatMap lE)
  rf : Reads W B 4 s.f.A x.fixes.length (x.fixes.flatMap fE)
  rt : Reads W B 1 s.t.A x.targets.length (strV x.targets)
  re : Reads W B 2 s.e.A x.entries.length (x.entries.flatMap eE)
  caps : x.code.length ≤ s.c.c ∧ x.data.length ≤ s.d.c ∧ x.labels.length ≤ s.l.c ∧ x.fixes.length ≤ s.f.c ∧ x.targets.length ≤ s.t.c ∧ x.entries.length ≤ s.e.c
/-- numbers and sizes as the types and the reach have them -/
structure ObjOk (x : ObjV) : Prop where
  code : ∀ t ∈ x.code, (0 ≤ t.1 ∧ t.1 ≤ 255) ∧ 0 ≤ t.2 ∧ t.2 < 4294967296
  data : ∀ b ∈ x.data, 0 ≤ b ∧ b ≤ 255
  zero : 0 ≤ x.zero ∧ x.zero < 4294967296
  stack : 0 ≤ x.stack ∧ x.stack < 4294967296
  labels : ∀ t ∈ x.labels, t.name.size ≤ 140737488351232 ∧ (0 ≤ t.sec ∧ t.sec ≤ 255) ∧ 0 ≤ t.at_ ∧ t.at_ < 4294967296
  fixes : ∀ t ∈ x.fixes, t.name.size ≤ 140737488351232 ∧ (0 ≤ t.sec ∧ t.sec ≤ 255) ∧ (0 ≤ t.at_ ∧ t.at_ < 4294967296) ∧ 0 ≤ t.add ∧ t.add < 4294967296
  targets : ∀ t ∈ x.targets, t.size ≤ 140737488351232
  entries : ∀ t ∈ x.entries, t.name.size ≤ 140737488351232 ∧ t.lab.size ≤ 140737488351232
  lens : x.code.length ≤ 140737488351232 ∧ x.data.length ≤ 140737488351232 ∧ x.labels.length ≤ 140737488351232 ∧ x.fixes.length ≤ 140737488351232 ∧ x.targets.length ≤ 140737488351232 ∧ x.entries.length ≤ 140737488351232
section
variable {W W' : World} {B B' : Nat} {x : ObjV} {s : ObjS}
theorem ObjR.below (h : ObjR W B x s) (hb : Below B W W') : ObjR W' B x s := ⟨h.rc.below hb, h.rd.below hb, h.rl.below hb, h.rf.below hb, h.rt.below hb, h.re.below hb, h.caps⟩
theorem ObjR.more (h : ObjR W B x s) (hB : B ≤ B') : ObjR W B' x s := ⟨h.rc.more hB, h.rd.more hB, h.rl.more hB, h.rf.more hB, h.rt.more hB, h.re.more hB, h.caps⟩
end
/-- an object's bounds -/
def boundB (x : ObjV) : Bool := decide (x.code.length ≤ 16384 ∧ x.data.length ≤ 65536 ∧ x.zero ≤ 65536 ∧ x.labels.length ≤ 4096 ∧ x.fixes.length ≤ 16384 ∧ x.entries.length ≤ 64)
set_option maxHeartbeats 2000000 in
theorem bounded_any (x : ObjV) (s : ObjS) (w : World) (hx : ObjOk x) : Calls Tryz.prog 15 #[.agg (objV x s)] w fun e w' => e = .returned (.bool (boundB x)) ∧ Below w.heap.size w w' := by
  obtain ⟨l1, l2, l3, l4, l5, l6⟩ := hx.lens
  obtain ⟨z0, z1⟩ := hx.zero
  unfold boundB objV
  generalize x.code.length = n1 at *
  generalize x.data.length = n2 at *
  generalize x.labels.length = n3 at *
  generalize x.fixes.length = n4 at *
  generalize x.targets.length = n5 at *
  generalize x.entries.length = n6 at *
  generalize x.zero = z at *
  clear hx
  by_cases h1 : n1 ≤ 16384
  · by_cases h2 : n2 ≤ 65536
    · by_cases h3 : z ≤ 65536
      · by_cases h4 : n3 ≤ 4096
        · by_cases h5 : n4 ≤ 16384
          · by_cases h6 : n6 ≤ 64
            · go_enter Tryz.func15, Tryz.ntmps15
              go_wp2
              go_ret
              exact ⟨by simp [h1, h2, h3, h4, h5, h6]; omega, (Below.refl _ _).alloc (Nat.le_refl _) _⟩
            · go_enter Tryz.func15, Tryz.ntmps15
              go_wp2
              go_ret
              exact ⟨by simp [h6]; omega, (Below.refl _ _).alloc (Nat.le_refl _) _⟩
          · go_enter Tryz.func15, Tryz.ntmps15
            go_wp2
            go_ret
            exact ⟨by simp [h5], (Below.refl _ _).alloc (Nat.le_refl _) _⟩
        · go_enter Tryz.func15, Tryz.ntmps15
          go_wp2
          go_ret
          exact ⟨by simp [h4], (Below.refl _ _).alloc (Nat.le_refl _) _⟩
      · go_enter Tryz.func15, Tryz.ntmps15
        go_wp2
        go_ret
        exact ⟨by simp; omega, (Below.refl _ _).alloc (Nat.le_refl _) _⟩
    · go_enter Tryz.func15, Tryz.ntmps15
      go_wp2
      go_ret
      exact ⟨by simp [h2], (Below.refl _ _).alloc (Nat.le_refl _) _⟩
  · go_enter Tryz.func15, Tryz.ntmps15
    go_wp2
    go_ret
    exact ⟨by simp [h1], (Below.refl _ _).alloc (Nat.le_refl _) _⟩
theorem boundB_iff {x : ObjV} : boundB x = true ↔ x.code.length ≤ 16384 ∧ x.data.length ≤ 65536 ∧ x.zero ≤ 65536 ∧ x.labels.length ≤ 4096 ∧ x.fixes.length ≤ 16384 ∧ x.entries.length ≤ 64 := by unfold boundB; rw [decide_eq_true_eq]
/-- how much of a section an object has -/
def lenOf (x : ObjV) (sec : Int) : Int := if sec = 1 then x.code.length else if sec = 2 then x.data.length else x.zero
set_option maxHeartbeats 2000000 in
theorem length_any (x : ObjV) (s : ObjS) (sec : Int) (w : World) (hx : ObjOk x) (hB : boundB x = true) : Calls Tryz.prog 46 #[.agg (objV x s), .int .u8 sec] w fun e w' => e = .returned (.int .u32 (lenOf x sec)) ∧ Below w.heap.size w w' := by
  obtain ⟨l1, l2, l3, l4, l5, l6⟩ := boundB_iff.1 hB
  obtain ⟨z0, z1⟩ := hx.zero
  unfold lenOf objV
  generalize x.code.length = n1 at *
  generalize x.data.length = n2 at *
  generalize x.labels.length = n3 at *
  generalize x.fixes.length = n4 at *
  generalize x.targets.length = n5 at *
  generalize x.entries.length = n6 at *
  generalize x.zero = z at *
  clear hx hB
  by_cases h1 : sec = 1
  · subst h1
    go_enter Tryz.func46, Tryz.ntmps46
    go_wp2
    go_ret
    exact ⟨by simp, (Below.refl _ _).alloc (Nat.le_refl _) _⟩
  · have h1b : (sec == 1) = false := by simpa using h1
    by_cases h2 : sec = 2
    · subst h2
      go_enter Tryz.func46, Tryz.ntmps46
      go_wp2
      go_ret
      exact ⟨by simp, (Below.refl _ _).alloc (Nat.le_refl _) _⟩
    · have h2b : (sec == 2) = false := by simpa using h2
      rw [if_neg h1, if_neg h2]
      clear h1 h2
      go_enter Tryz.func46, Tryz.ntmps46
      go_wp2
      go_ret
      exact ⟨rfl, (Below.refl _ _).alloc (Nat.le_refl _) _⟩
set_option maxHeartbeats 2000000 in
theorem rlength_any (x : ObjV) (s : ObjS) (sec : Int) (w : World) (hx : ObjOk x) : Calls Tryz.prog 51 #[.agg (objV x s), .int .u8 sec] w fun e w' => e = .returned (.int .u64 (lenOf x sec)) ∧ Below w.heap.size w w' := by
  obtain ⟨l1, l2, l3, l4, l5, l6⟩ := hx.lens
  obtain ⟨z0, z1⟩ := hx.zero
  unfold lenOf objV
  generalize x.code.length = n1 at *
  generalize x.data.length = n2 at *
  generalize x.labels.length = n3 at *
  generalize x.fixes.length = n4 at *
  generalize x.targets.length = n5 at *
  generalize x.entries.length = n6 at *
  generalize x.zero = z at *
  clear hx
  by_cases h1 : sec = 1
  · subst h1
    go_enter Tryz.func51, Tryz.ntmps51
    go_wp2
    go_ret
    exact ⟨by simp, (Below.refl _ _).alloc (Nat.le_refl _) _⟩
  · have h1b : (sec == 1) = false := by simpa using h1
    by_cases h2 : sec = 2
    · subst h2
      go_enter Tryz.func51, Tryz.ntmps51
      go_wp2
      go_ret
      exact ⟨by simp, (Below.refl _ _).alloc (Nat.le_refl _) _⟩
    · have h2b : (sec == 2) = false := by simpa using h2
      rw [if_neg h1, if_neg h2]
      clear h1 h2
      go_enter Tryz.func51, Tryz.ntmps51
      go_wp2
      go_ret
      exact ⟨rfl, (Below.refl _ _).alloc (Nat.le_refl _) _⟩
end Go.Proofs.YtnkfjileaonemaaGreatDoor
/-
  The kit's lists of instructions: markCode, LentCode, KeptCode, SameCode.
-/
namespace Go.Proofs.YtnkfjileaonemaaGreatDoor
open Go.RowKit Go.PlainAid Go.BigFrame
set_option linter.unusedSimpArgs false
set_option linter.unusedVariables false
set_option maxRecDepth 100000
theorem cE_len (t : Int × Int) : (cE t).length = 2 := rfl
theorem lE_len (t : LabV) : (lE t).length = 4 := rfl
theorem fE_len (t : FixV) : (fE t).length = 4 := rfl
theorem eE_len (t : EntV) : (eE t).length = 2 := rfl
theorem enc_snoc {α : Type} (enc : α → List Value) (l : List α) (a : α) : (l ++ [a]).flatMap enc = l.flatMap enc ++ enc a := by simp
theorem enc_take {α : Type} (enc : α → List Value) (l : List α) {k : Nat} {a : α} (h : l[k]? = some a) : (l.take (k + 1)).flatMap enc = (l.take k).flatMap enc ++ enc a := by
  rw [List.take_add_one, h, ← enc_snoc]; rfl
theorem instr_info : (Tryz.prog.info? 52).map (fun i => (i.zero, i.size, i.bytes)) = some (some (.agg #[.int .u8 0, .int .u32 0]), 2, 8) := by kernel_rfl
theorem instr_eq (w : World) (a b : Int) : (binOp .neq 52 (.agg #[.int .u8 a, .int .u32 b]) (.agg #[.int .u8 a, .int .u32 b])).run Tryz.prog w = .ok (.bool false) w := by
  rw [run_neq_struct, run_equalIn_agg _ _ _ _ _ (by kernel_rfl) (by kernel_rfl)]
  have h := @Tryz.underlying52
  simp only [go_sem, h]
  simp
  go_simp
/-- the marks behind a list of instructions -/
def mkC (i : Nat) : Int × Int := (200, 1000003 + (i : Int))
def marksC (n : Nat) : List (Int × Int) := (List.range n).map mkC
theorem marksC_succ (n : Nat) : marksC (n + 1) = marksC n ++ [mkC n] := by simp [marksC, List.range_succ]
theorem marksC_get {n i : Nat} (h : i < n) : (marksC n)[i]? = some (mkC i) := by simp [marksC, h]
set_option maxHeartbeats 1000000 in
theorem markC_any (i : Nat) (hi : i < 64) (w : World) : Calls Tryz.prog 42 #[.int .i64 0, .int .i64 i] w fun e w' => e = .returned (.agg #[.int .u8 200, .int .u32 (1000003 + (i : Int))]) ∧ Below w.heap.size w w' := by
  go_enter Tryz.func42, Tryz.ntmps42
  go_wp2
  exact bodyPost_ret (v := .agg #[.int .u8 200, .int .u32 (1000003 + (i : Int))]) (by simp [results, Tryz.results42, go_sem]) rfl ⟨rfl, (Below.refl _ w).alloc (Nat.le_refl _) _⟩
theorem ownsR {w : World} {B : Nat} {e : TypeId} {size n : Nat} {v : Value} {xs : List Value} (h : w.ownsRow B e size v n xs) : Owns w B [⟨e, size, v, n, xs⟩] := ⟨fun q hq => by rw [List.mem_singleton.1 hq]; exact h, List.pairwise_singleton _ _⟩
set_option maxHeartbeats 4000000 in
theorem LentCode_any (A : Option Addr) (n c B : Nat) (l : List (Int × Int)) (w : World) (hn : n * 8 ≤ 140737488351232) (hl : l.length = n) (hr : Reads w B 2 A n (l.flatMap cE)) (hB : B ≤ w.heap.size) :
    Calls Tryz.prog 12 #[.slice A n c] w fun e w' => ∃ v, e = .returned v ∧ w'.ownsRow w.heap.size 52 2 v (n + 64) ((l ++ marksC 64).flatMap cE) ∧ Below w.heap.size w w' := by
  obtain ⟨i0, hi0, hz0, hz1, hz2⟩ := info_parts instr_info
  have hn2 : n ≤ 17592186043904 := by omega
  have HR := hide_ hr
  have HLEN := hide_ hl
  have HBB := hide_ hB
  clear hr hl hB
  go_enter Tryz.func12, Tryz.ntmps12
  go_wp2
  go_loopw [3, 4] (fun v i wr => ∃ k : Nat, k ≤ n ∧ i = .int .i64 k ∧ wr.ownsRow w.heap.size 52 2 v k ((l.take k).flatMap cE) ∧ Below w.heap.size w wr) (fun _ i _ => n - (intOf i).toNat)
  case atStart => exact ⟨0, Nat.zero_le _, rfl, World.ownsRow_nil _ _ _ _, Below.refl _ _⟩
  case round =>
    obtain ⟨k, hk, rfl, hown, hb⟩ := hrel
    obtain ⟨A0, c0, rfl, hc0, hc1⟩ := ownsRow_slice hown
    have HO := hide_ (ownsR (v := .slice A0 k c0) hown)
    have HB := hide_ hb
    by_cases hlt : k < n
    · obtain ⟨⟨op, arg⟩, ht⟩ : ∃ t, l[k]? = some t := ⟨_, List.getElem?_eq_getElem (by have := HLEN.out; omega)⟩
      obtain ⟨_, ad, rfl, hbk, p0, p1⟩ := el_cells cE_len (HR.out.below (hb.mono HBB.out)) (by omega) ht
      have q0 := p0 _ rfl
      have q1 := p1 1 _ (by omega) rfl
      have hbs : (ad.add (k * 2)).block < wr.heap.size := by have := HBB.out; have := hb.size; omega
      have HG := hide_ (enc_take cE l ht)
      rw [show cE (op, arg) = [.int .u8 op, .int .u32 arg] from rfl] at HG
      clear hown hb hc0 hc1 p0 p1 ht
      go_wp2_with (at_builtin; refine wpList_append_owns _ rfl (.tmp 12) (.tmp 17) 22 rfl w.heap.size _ 0 52 2 (.slice A0 k c0) k ((l.take k).flatMap cE) rfl (HO.out.alloc _) (by have := HB.out.size; simp; omega) i0 _ 8 Tryz.underlying22 hi0 hz0 hz1 hz2 rfl (by omega) rfl _ _ 1 1 [.int .u8 op, .int .u32 arg] rfl (reads_new wr 52 2 1 [.int .u8 op, .int .u32 arg] rfl) (by simp [Value.oneCell']) (by simp only [maxLen]; omega) (by omega) ?_)
      intro v1 w1 hO1 hb1 hsz1
      have HB1 := hide_ ((HB.out.alloc HB.out.size _).trans hb1)
      have HO1 := hide_ (hO1.at_ (i := 0) rfl)
      clear hO1 hb1 hsz1
      go_wp2
      go_roundw
      case rel => exact ⟨k + 1, by omega, by go_num, by rw [HG.out]; exact HO1.out, HB1.out⟩
      case measure => simp [intOf]; omega
    · obtain rfl : k = n := by omega
      have HO2 := hide_ (show wr.ownsRow w.heap.size 52 2 (.slice A0 k c0) (k + 0) ((l ++ marksC 0).flatMap cE) by
        have h9 := hown
        rw [List.take_of_length_le (by have := HLEN.out; omega)] at h9
        rw [show marksC 0 = [] from rfl, List.append_nil]
        exact h9)
      clear HO hown hb
      go_wp2
      go_loopw [3, 5] (fun v i wr => ∃ j : Nat, j ≤ 64 ∧ i = .int .i64 j ∧ wr.ownsRow w.heap.size 52 2 v (k + j) ((l ++ marksC j).flatMap cE) ∧ Below w.heap.size w wr) (fun _ i _ => 64 - (intOf i).toNat)
      case atStart => exact ⟨0, by omega, rfl, HO2.out, HB.out⟩
      case round =>
        clear HO2 HB
        obtain ⟨j, hj, rfl, hown, hb⟩ := hrel
        obtain ⟨A1, c1, rfl, hc2, hc3⟩ := ownsRow_slice hown
        have HOWN := hide_ hown
        have HB := hide_ hb
        have HSZ := hide_ hb.size
        clear hown hb
        by_cases hlt2 : j < 64
        · have HMK := hide_ (fun W => markC_any j hlt2 W)
          have HMS := hide_ (show (l ++ marksC (j + 1)).flatMap cE = (l ++ marksC j).flatMap cE ++ [.int .u8 200, .int .u32 (1000003 + (j : Int))] by rw [marksC_succ, ← List.append_assoc, enc_snoc]; rfl)
          obtain ⟨M, hM⟩ : ∃ M, M = 1000003 + (j : Int) := ⟨_, rfl⟩
          rw [← hM] at HMK HMS
          clear hM
          go_wp2_with fail
          refine (HMK.out _).mono ?_
          rintro e w2 ⟨rfl, hb2⟩
          have HO := hide_ ((ownsR (v := .slice A1 (k + j) c1) HOWN.out).below hb2)
          have HB2 := hide_ (HB.out.trans (hb2.mono HSZ.out))
          clear hb2
          go_wp2_with (at_builtin; refine wpList_append_owns _ rfl (.tmp 23) (.tmp 26) 22 rfl w.heap.size _ 0 52 2 (.slice A1 (k + j) c1) (k + j) ((l ++ marksC j).flatMap cE) rfl (HO.out.alloc _) (by have := HB2.out.size; simp; omega) i0 _ 8 Tryz.underlying22 hi0 hz0 hz1 hz2 rfl (by omega) rfl _ _ 1 1 [.int .u8 200, .int .u32 M] rfl (reads_new w2 52 2 1 [.int .u8 200, .int .u32 M] rfl) (by simp [Value.oneCell']) (by simp only [maxLen]; omega) (by omega) ?_)
          intro v1 w3 hO1 hb1 hsz1
          have HB3 := hide_ ((HB2.out.alloc HB2.out.size _).trans hb1)
          have HO1 := hide_ (hO1.at_ (i := 0) rfl)
          clear hO1 hb1 hsz1
          go_wp2
          go_roundw
          case rel => exact ⟨j + 1, by omega, by go_num, by rw [HMS.out, List.flatMap_append, List.append_assoc]; exact HO1.out, HB3.out⟩
          case measure => simp [intOf]; omega
        · obtain rfl : j = 64 := by omega
          go_wp2
          go_ret
          exact ⟨_, rfl, HOWN.out, HB.out⟩
set_option maxHeartbeats 4000000 in
theorem SameCode_any (A A' : Option Addr) (n c c' B : Nat) (l : List (Int × Int)) (w : World) (hn : n ≤ 140737488351232) (hl : l.length = n) (ha : Reads w B 2 A n (l.flatMap cE)) (hb : Reads w B 2 A' n (l.flatMap cE)) (hB : B ≤ w.heap.size) :
    Calls Tryz.prog 54 #[.slice A n c, .slice A' n c'] w fun e w' => e = .returned (.bool true) ∧ Below w.heap.size w w' := by
  have h0 : ((n : Int) != (n : Int)) = false := by simp
  have HA := hide_ ha
  have HR := hide_ hb
  have HLEN := hide_ hl
  have HBB := hide_ hB
  clear ha hb hl hB
  go_enter Tryz.func54, Tryz.ntmps54
  go_wp2
  go_loopw [5] (fun i wr => ∃ k : Nat, k ≤ n ∧ i = .int .i64 k ∧ Drew w wr) (fun i _ => n - (intOf i).toNat)
  case atStart => exact ⟨0, Nat.zero_le _, rfl, Drew.refl w⟩
  case round =>
    obtain ⟨k, hk, rfl, hd⟩ := hrel
    have HD := hide_ hd
    by_cases hlt : k < n
    · obtain ⟨⟨op, arg⟩, ht⟩ : ∃ t, l[k]? = some t := ⟨_, List.getElem?_eq_getElem (by have := HLEN.out; omega)⟩
      obtain ⟨_, ad, rfl, hbk, p0, p1⟩ := el_cells cE_len HA.out (by omega) ht
      obtain ⟨_, ad', rfl, hbk', r0, r1⟩ := el_cells cE_len HR.out (by omega) ht
      have x0 := (hd.cell _).trans (p0 _ rfl)
      have x1 := (hd.cell _).trans (p1 1 _ (by omega) rfl)
      have y0 := (hd.cell _).trans (r0 _ rfl)
      have y1 := (hd.cell _).trans (r1 1 _ (by omega) rfl)
      have hb1 : (ad.add (k * 2)).block < wr.heap.size := by rw [hd.size]; have := HBB.out; omega
      have hb2 : (ad'.add (k * 2)).block < wr.heap.size := by rw [hd.size]; have := HBB.out; omega
      have hq := fun w => instr_eq w op arg
      clear p0 p1 r0 r1 hd hbk hbk' ht
      go_wp2
      go_big_quiet (fail)
      go_wp2
      go_roundw
      case rel => exact ⟨k + 1, by omega, by go_num, HD.out.more _⟩
      case measure => simp [intOf]; omega
    · obtain rfl : k = n := by omega
      clear hd
      go_wp2
      go_ret
      exact ⟨rfl, HD.out.below _⟩
set_option maxHeartbeats 4000000 in
theorem KeptCode_any (A A' : Option Addr) (n c c' B : Nat) (l : List (Int × Int)) (w : World) (hn : n ≤ 140737488351232) (hl : l.length = n) (ha : Reads w B 2 A (n + 64) ((l ++ marksC 64).flatMap cE)) (hb : Reads w B 2 A' n (l.flatMap cE)) (hB : B ≤ w.heap.size) :
    Calls Tryz.prog 24 #[.slice A (n + 64) c, .slice A' n c'] w fun e w' => e = .returned (.bool true) ∧ Below w.heap.size w w' := by
  have h0 : (((n : Int) + 64) != ((n : Int) + 64)) = false := by simp
  have HA := hide_ ha
  have HR := hide_ hb
  have HLEN := hide_ hl
  have HBB := hide_ hB
  clear ha hb hl hB
  go_enter Tryz.func24, Tryz.ntmps24
  go_wp2
  go_loopw [5] (fun i wr => ∃ k : Nat, k ≤ n ∧ i = .int .i64 k ∧ Drew w wr) (fun i _ => n - (intOf i).toNat)
  case atStart => exact ⟨0, Nat.zero_le _, rfl, Drew.refl w⟩
  case round =>
    obtain ⟨k, hk, rfl, hd⟩ := hrel
    have HD := hide_ hd
    by_cases hlt : k < n
    · obtain ⟨⟨op, arg⟩, ht⟩ : ∃ t, l[k]? = some t := ⟨_, List.getElem?_eq_getElem (by have := HLEN.out; omega)⟩
      have ht2 : (l ++ marksC 64)[k]? = some (op, arg) := by rw [List.getElem?_append_left (by have := HLEN.out; omega)]; exact ht
      obtain ⟨_, ad, rfl, hbk, p0, p1⟩ := el_cells cE_len HA.out (by omega) ht2
      obtain ⟨_, ad', rfl, hbk', r0, r1⟩ := el_cells cE_len HR.out (by omega) ht
      have x0 := (hd.cell _).trans (p0 _ rfl)
      have x1 := (hd.cell _).trans (p1 1 _ (by omega) rfl)
      have y0 := (hd.cell _).trans (r0 _ rfl)
      have y1 := (hd.cell _).trans (r1 1 _ (by omega) rfl)
      have hb1 : (ad.add (k * 2)).block < wr.heap.size := by rw [hd.size]; have := HBB.out; omega
      have hb2 : (ad'.add (k * 2)).block < wr.heap.size := by rw [hd.size]; have := HBB.out; omega
      have hq := fun w => instr_eq w op arg
      clear p0 p1 r0 r1 hd hbk hbk' ht ht2
      go_wp2
      go_big_quiet (fail)
      go_wp2
      go_roundw
      case rel => exact ⟨k + 1, by omega, by go_num, HD.out.more _⟩
      case measure => simp [intOf]; omega
    · obtain rfl : k = n := by omega
      clear hd
      go_wp2
      go_loopw [6] (fun i wr => ∃ j : Nat, j ≤ 64 ∧ i = .int .i64 j ∧ Below w.heap.size w wr) (fun i _ => 64 - (intOf i).toNat)
      case atStart => exact ⟨0, by omega, rfl, HD.out.below _⟩
      case round =>
        obtain ⟨j, hj, rfl, hbw⟩ := hrel
        have HBW := hide_ hbw
        by_cases hlt : j < 64
        · have ht2 : (l ++ marksC 64)[k + j]? = some (200, 1000003 + (j : Int)) := by
            rw [List.getElem?_append_right (by have := HLEN.out; omega), show k + j - l.length = j by have := HLEN.out; omega, marksC_get hlt]
            rfl
          obtain ⟨_, ad, rfl, hbk, p0, p1⟩ := el_cells cE_len HA.out (by omega) ht2
          have q0 := p0 _ rfl
          have q1 := p1 1 _ (by omega) rfl
          have hbs0 : (ad.add ((k + j) * 2)).block < w.heap.size := by have := HBB.out; omega
          have hbs : (ad.add ((k + j) * 2)).block < wr.heap.size := by have := HBB.out; have := hbw.size; omega
          have hcx := (hbw.cell (p := ad.add ((k + j) * 2)) hbs0).trans q0
          have hcy := (hbw.cell (p := ⟨(ad.add ((k + j) * 2)).block, (ad.add ((k + j) * 2)).off + 1, none⟩) hbs0).trans q1
          have HMK := hide_ (fun W => markC_any j hlt W)
          obtain ⟨M, hM⟩ : ∃ M, M = 1000003 + (j : Int) := ⟨_, rfl⟩
          rw [← hM] at HMK hcy
          have s1 : IntKind.i64.wrap ((k : Int) + (j : Int)) = (k : Int) + (j : Int) := IntWalk.i64_in _ (by omega)
          have s2 : (0 : Int) ≤ (k : Int) + (j : Int) := by omega
          have s3 : ((k : Int) + (j : Int)).toNat = k + j := by omega
          have s4 : (k : Int) + (j : Int) < (k : Int) + 64 := by omega
          have hq := fun w => instr_eq w 200 M
          have HSW := hide_ hbw.size
          clear hM hbw q0 q1 hbs0 p0 p1 ht2 hbk
          go_upto_region 11 with (fail)
          go_region_held3 (fun W => W.cell? (ad.add ((k + j) * 2)) = some (.int .u8 200) ∧ W.cell? ⟨(ad.add ((k + j) * 2)).block, (ad.add ((k + j) * 2)).off + 1, none⟩ = some (.int .u32 M))
            (first | exact ⟨hcx, hcy⟩ | exact ⟨(hb7.cell (p := ad.add ((k + j) * 2)) hbs).trans hcx, (hb7.cell (p := ⟨(ad.add ((k + j) * 2)).block, (ad.add ((k + j) * 2)).off + 1, none⟩) hbs).trans hcy⟩ | go_keep)
            ((go_at_call 42; refine (HMK.out _).mono ?_; rintro e w7 ⟨rfl, hb7⟩))
          all_goals
            have HB7 := hide_ (HBW.out.trans ((show Below wr.heap.size wr w7 by first | exact hb7 | exact (Below.refl _ wr).drew.trans hb7).mono HSW.out))
            clear hb7
            go_wp2
            go_roundw
            case rel => exact ⟨j + 1, by omega, by go_num, by first | exact HB7.out | exact HB7.out.drew⟩
            case measure => simp [intOf]; omega
        · obtain rfl : j = 64 := by omega
          clear hbw
          go_wp2
          go_ret
          exact ⟨rfl, HBW.out⟩
end Go.Proofs.YtnkfjileaonemaaGreatDoor
/-
  The kit's comparing of objects: two objects that hold the same are the same.
-/
namespace Go.Proofs.YtnkfjileaonemaaGreatDoor
open Go.RowKit Go.PlainAid Go.BigFrame
set_option linter.unusedSimpArgs false
set_option linter.unusedVariables false
set_option maxRecDepth 100000
set_option maxHeartbeats 4000000 in
theorem SameTexts_any (A A' : Option Addr) (n c c' B : Nat) (ys : List ByteArray) (w : World) (hn : n ≤ 140737488351232) (ha : Reads w B 1 A n (strV ys)) (hb : Reads w B 1 A' n (strV ys)) (hB : B ≤ w.heap.size) :
    Calls Tryz.prog 56 #[.slice A n c, .slice A' n c'] w fun e w' => e = .returned (.bool true) ∧ Drew w w' := by
  have hlen : ys.length = n := by have := hb.1; simpa [strV] using this
  have h0 : ((n : Int) != (n : Int)) = false := by simp
  have HA := hide_ ha
  have HR := hide_ hb
  have HLEN := hide_ hlen
  have HBB := hide_ hB
  clear ha hb hlen hB
  go_enter Tryz.func56, Tryz.ntmps56
  go_wp2
  go_loopw [5] (fun i wr => ∃ k : Nat, k ≤ n ∧ i = .int .i64 k ∧ Drew w wr) (fun i _ => n - (intOf i).toNat)
  case atStart => exact ⟨0, Nat.zero_le _, rfl, Drew.refl w⟩
  case round =>
    obtain ⟨k, hk, rfl, hd⟩ := hrel
    have HD := hide_ hd
    by_cases hlt : k < n
    · obtain ⟨g, hg⟩ : ∃ g, ys[k]? = some g := ⟨_, List.getElem?_eq_getElem (by have := HLEN.out; omega)⟩
      obtain ⟨b, o, rfl, hbk, hcl⟩ := reads_strs HA.out (by omega)
      obtain ⟨b', o', rfl, hbk', hcl'⟩ := reads_strs HR.out (by omega)
      have hc1 : wr.cell? ⟨b, o + k, none⟩ = some (.string g) := (hd.cell _).trans (hcl k g hg)
      have hc2 : wr.cell? ⟨b', o' + k, none⟩ = some (.string g) := (hd.cell _).trans (hcl' k g hg)
      have hb1 : b < wr.heap.size := by rw [hd.size]; have := HBB.out; omega
      have hb2 : b' < wr.heap.size := by rw [hd.size]; have := HBB.out; omega
      clear hcl hcl' hg hd
      go_upto_region 6 with (fail)
      go_big_quiet (fail)
      go_wp2
      go_roundw
      case rel => exact ⟨k + 1, by omega, by go_num, HD.out.more _⟩
      case measure => simp [intOf]; omega
    · obtain rfl : k = n := by omega
      clear hd
      go_wp2
      go_ret
      exact ⟨rfl, HD.out⟩
theorem lab_eq (w : World) (s : ByteArray) (a b : Int) (o : Bool) : (binOp .neq 45 (.agg #[.string s, .int .u8 a, .int .u32 b, .bool o]) (.agg #[.string s, .int .u8 a, .int .u32 b, .bool o])).run Tryz.prog w = .ok (.bool false) w := by
  rw [run_neq_struct, run_equalIn_agg _ _ _ _ _ (by kernel_rfl) (by kernel_rfl)]
  have h := @Tryz.underlying45
  simp only [go_sem, h]
  simp
  go_simp
theorem fix_eq (w : World) (s : ByteArray) (a b c : Int) : (binOp .neq 47 (.agg #[.int .u8 a, .int .u32 b, .string s, .int .u32 c]) (.agg #[.int .u8 a, .int .u32 b, .string s, .int .u32 c])).run Tryz.prog w = .ok (.bool false) w := by
  rw [run_neq_struct, run_equalIn_agg _ _ _ _ _ (by kernel_rfl) (by kernel_rfl)]
  have h := @Tryz.underlying47
  simp only [go_sem, h]
  simp
  go_simp
theorem ent_eq (w : World) (s r : ByteArray) : (binOp .neq 49 (.agg #[.string s, .string r]) (.agg #[.string s, .string r])).run Tryz.prog w = .ok (.bool false) w := by
  rw [run_neq_struct, run_equalIn_agg _ _ _ _ _ (by kernel_rfl) (by kernel_rfl)]
  have h := @Tryz.underlying49
  simp only [go_sem, h]
  simp
  go_simp
set_option maxHeartbeats 8000000 in
theorem SameObject_any (x : ObjV) (s s' : ObjS) (B : Nat) (w : World) (hx : ObjOk x) (ha : ObjR w B x s) (hb : ObjR w B x s') (hB : B ≤ w.heap.size) : Calls Tryz.prog 27 #[.agg (objV x s), .agg (objV x s')] w fun e w' => e = .returned (.bool true) ∧ Below w.heap.size w w' := by
  obtain ⟨⟨aC, a0⟩, ⟨aD, a1⟩, ⟨aL, a2⟩, ⟨aF, a3⟩, ⟨aT, a4⟩, ⟨aE, a5⟩⟩ := s
  obtain ⟨⟨bC, b0⟩, ⟨bD, b1⟩, ⟨bL, b2⟩, ⟨bF, b3⟩, ⟨bT, b4⟩, ⟨bE, b5⟩⟩ := s'
  obtain ⟨l1, l2, l3, l4, l5, l6⟩ := hx.lens
  have HC := hide_ (And.intro ha.rc hb.rc)
  have HDD := hide_ (And.intro ha.rd hb.rd)
  have HLA := hide_ ha.rl
  have HLB := hide_ hb.rl
  have HFA := hide_ ha.rf
  have HFB := hide_ hb.rf
  have HT := hide_ (And.intro ha.rt hb.rt)
  have HEA := hide_ ha.re
  have HEB := hide_ hb.re
  dsimp only [objV] at HC HDD HLA HLB HFA HFB HT HEA HEB ⊢
  obtain ⟨n, hn⟩ : ∃ n, n = x.code.length := ⟨_, rfl⟩
  obtain ⟨nd, hnd⟩ : ∃ n, n = x.data.length := ⟨_, rfl⟩
  obtain ⟨nl, hnl⟩ : ∃ n, n = x.labels.length := ⟨_, rfl⟩
  obtain ⟨nf, hnf⟩ : ∃ n, n = x.fixes.length := ⟨_, rfl⟩
  obtain ⟨nt, hnt⟩ : ∃ n, n = x.targets.length := ⟨_, rfl⟩
  obtain ⟨ne, hne⟩ : ∃ n, n = x.entries.length := ⟨_, rfl⟩
  obtain ⟨z, hz⟩ : ∃ z, z = x.zero := ⟨_, rfl⟩
  obtain ⟨sk, hsk⟩ : ∃ z, z = x.stack := ⟨_, rfl⟩
  rw [← hn, ← hnd, ← hnl, ← hnf, ← hnt, ← hne, ← hz, ← hsk]
  rw [← hn] at HC l1
  rw [← hnd] at HDD l2
  rw [← hnl] at HLA HLB l3
  rw [← hnf] at HFA HFB l4
  rw [← hnt] at HT l5
  rw [← hne] at HEA HEB l6
  have HSC := hide_ (fun W (hw : Below w.heap.size w W) => SameCode_any aC bC n a0 b0 B x.code W l1 hn.symm (HC.out.1.below (hw.mono hB)) (HC.out.2.below (hw.mono hB)) (Nat.le_trans hB hw.size))
  have HSD := hide_ (fun W (hw : Below w.heap.size w W) => SameBytes_any aD bD nd a1 nd b1 x.data x.data B W (HDD.out.1.below (hw.mono hB)) (HDD.out.2.below (hw.mono hB)) (by unfold maxLen; omega) (by unfold maxLen; omega) |>.mono (fun e w' h => show e = .returned (.bool true) ∧ ∃ nq, w' = W.drewN nq by simpa using h))
  have HST := hide_ (fun W (hw : Below w.heap.size w W) => SameTexts_any aT bT nt a4 b4 B x.targets W l5 (HT.out.1.below (hw.mono hB)) (HT.out.2.below (hw.mono hB)) (Nat.le_trans hB hw.size))
  have HNL := hide_ hnl.symm
  have HNF := hide_ hnf.symm
  have HNE := hide_ hne.symm
  have HBB := hide_ hB
  clear ha hb hx hn hnd hnl hnf hnt hne hz hsk HC HDD HT hB
  obtain ⟨W1, hW1⟩ : ∃ W, W = ((w.alloc (.cells #[.slice aC n a0, .slice aD nd a1, .int .u32 z, .int .u32 sk, .slice aL nl a2, .slice aF nf a3, .slice aT nt a4, .slice aE ne a5] 30)).alloc (.cells #[.slice bC n b0, .slice bD nd b1, .int .u32 z, .int .u32 sk, .slice bL nl b2, .slice bF nf b3, .slice bT nt b4, .slice bE ne b5] 30)) := ⟨_, rfl⟩
  have f0 : W1.cell? ⟨w.heap.size, 0, none⟩ = some (.slice aC n a0) := by rw [hW1]; go_simp
  have f1 : W1.cell? ⟨w.heap.size, 1, none⟩ = some (.slice aD nd a1) := by rw [hW1]; go_simp
  have f2 : W1.cell? ⟨w.heap.size, 2, none⟩ = some (.int .u32 z) := by rw [hW1]; go_simp
  have f3 : W1.cell? ⟨w.heap.size, 3, none⟩ = some (.int .u32 sk) := by rw [hW1]; go_simp
  have f4 : W1.cell? ⟨w.heap.size, 4, none⟩ = some (.slice aL nl a2) := by rw [hW1]; go_simp
  have f5 : W1.cell? ⟨w.heap.size, 5, none⟩ = some (.slice aF nf a3) := by rw [hW1]; go_simp
  have f6 : W1.cell? ⟨w.heap.size, 6, none⟩ = some (.slice aT nt a4) := by rw [hW1]; go_simp
  have f7 : W1.cell? ⟨w.heap.size, 7, none⟩ = some (.slice aE ne a5) := by rw [hW1]; go_simp
  have g0 : W1.cell? ⟨w.heap.size + 1, 0, none⟩ = some (.slice bC n b0) := by rw [hW1]; go_simp
  have g1 : W1.cell? ⟨w.heap.size + 1, 1, none⟩ = some (.slice bD nd b1) := by rw [hW1]; go_simp
  have g2 : W1.cell? ⟨w.heap.size + 1, 2, none⟩ = some (.int .u32 z) := by rw [hW1]; go_simp
  have g3 : W1.cell? ⟨w.heap.size + 1, 3, none⟩ = some (.int .u32 sk) := by rw [hW1]; go_simp
  have g4 : W1.cell? ⟨w.heap.size + 1, 4, none⟩ = some (.slice bL nl b2) := by rw [hW1]; go_simp
  have g5 : W1.cell? ⟨w.heap.size + 1, 5, none⟩ = some (.slice bF nf b3) := by rw [hW1]; go_simp
  have g6 : W1.cell? ⟨w.heap.size + 1, 6, none⟩ = some (.slice bT nt b4) := by rw [hW1]; go_simp
  have g7 : W1.cell? ⟨w.heap.size + 1, 7, none⟩ = some (.slice bE ne b5) := by rw [hW1]; go_simp
  have HB1 := hide_ (show Below w.heap.size w W1 by rw [hW1]; exact (((Below.refl _ _).alloc (Nat.le_refl _) _).alloc (by simp) _))
  have hlt0 : w.heap.size < W1.heap.size := by rw [hW1]; simp; omega
  have hlt1 : w.heap.size + 1 < W1.heap.size := by rw [hW1]; simp
  go_enter Tryz.func27, Tryz.ntmps27
  go_upto_region 1 with (fail)
  rw [← hW1]
  clear hW1
  go_wp2_with fail
  refine (HSC.out _ HB1.out).mono ?_
  rintro e W2 ⟨rfl, hb2⟩
  have f0 := (hb2.cell (p := ⟨w.heap.size, 0, none⟩) hlt0).trans f0
  have f1 := (hb2.cell (p := ⟨w.heap.size, 1, none⟩) hlt0).trans f1
  have f2 := (hb2.cell (p := ⟨w.heap.size, 2, none⟩) hlt0).trans f2
  have f3 := (hb2.cell (p := ⟨w.heap.size, 3, none⟩) hlt0).trans f3
  have f4 := (hb2.cell (p := ⟨w.heap.size, 4, none⟩) hlt0).trans f4
  have f5 := (hb2.cell (p := ⟨w.heap.size, 5, none⟩) hlt0).trans f5
  have f6 := (hb2.cell (p := ⟨w.heap.size, 6, none⟩) hlt0).trans f6
  have f7 := (hb2.cell (p := ⟨w.heap.size, 7, none⟩) hlt0).trans f7
  have g0 := (hb2.cell (p := ⟨w.heap.size + 1, 0, none⟩) hlt1).trans g0
  have g1 := (hb2.cell (p := ⟨w.heap.size + 1, 1, none⟩) hlt1).trans g1
  have g2 := (hb2.cell (p := ⟨w.heap.size + 1, 2, none⟩) hlt1).trans g2
  have g3 := (hb2.cell (p := ⟨w.heap.size + 1, 3, none⟩) hlt1).trans g3
  have g4 := (hb2.cell (p := ⟨w.heap.size + 1, 4, none⟩) hlt1).trans g4
  have g5 := (hb2.cell (p := ⟨w.heap.size + 1, 5, none⟩) hlt1).trans g5
  have g6 := (hb2.cell (p := ⟨w.heap.size + 1, 6, none⟩) hlt1).trans g6
  have g7 := (hb2.cell (p := ⟨w.heap.size + 1, 7, none⟩) hlt1).trans g7
  have hlt0 := Nat.lt_of_lt_of_le hlt0 hb2.size
  have hlt1 := Nat.lt_of_lt_of_le hlt1 hb2.size
  have HB2 := hide_ (HB1.out.trans (hb2.mono HB1.out.size))
  clear hb2 HB1
  go_wp2_with fail
  refine (HSD.out _ HB2.out).mono ?_
  rintro e W3 ⟨rfl, nq, hw3⟩
  have hb3 : Below W2.heap.size W2 W3 := by rw [hw3]; exact below_drewN _ (Below.refl _ _)
  clear hw3
  have f0 := (hb3.cell (p := ⟨w.heap.size, 0, none⟩) hlt0).trans f0
  have f1 := (hb3.cell (p := ⟨w.heap.size, 1, none⟩) hlt0).trans f1
  have f2 := (hb3.cell (p := ⟨w.heap.size, 2, none⟩) hlt0).trans f2
  have f3 := (hb3.cell (p := ⟨w.heap.size, 3, none⟩) hlt0).trans f3
  have f4 := (hb3.cell (p := ⟨w.heap.size, 4, none⟩) hlt0).trans f4
  have f5 := (hb3.cell (p := ⟨w.heap.size, 5, none⟩) hlt0).trans f5
  have f6 := (hb3.cell (p := ⟨w.heap.size, 6, none⟩) hlt0).trans f6
  have f7 := (hb3.cell (p := ⟨w.heap.size, 7, none⟩) hlt0).trans f7
  have g0 := (hb3.cell (p := ⟨w.heap.size + 1, 0, none⟩) hlt1).trans g0
  have g1 := (hb3.cell (p := ⟨w.heap.size + 1, 1, none⟩) hlt1).trans g1
  have g2 := (hb3.cell (p := ⟨w.heap.size + 1, 2, none⟩) hlt1).trans g2
  have g3 := (hb3.cell (p := ⟨w.heap.size + 1, 3, none⟩) hlt1).trans g3
  have g4 := (hb3.cell (p := ⟨w.heap.size + 1, 4, none⟩) hlt1).trans g4
  have g5 := (hb3.cell (p := ⟨w.heap.size + 1, 5, none⟩) hlt1).trans g5
  have g6 := (hb3.cell (p := ⟨w.heap.size + 1, 6, none⟩) hlt1).trans g6
  have g7 := (hb3.cell (p := ⟨w.heap.size + 1, 7, none⟩) hlt1).trans g7
  have hlt0 := Nat.lt_of_lt_of_le hlt0 hb3.size
  have hlt1 := Nat.lt_of_lt_of_le hlt1 hb3.size
  have HB3 := hide_ (HB2.out.trans (hb3.mono HB2.out.size))
  clear hb3 HB2
  go_wp2_with fail
  refine (HST.out _ HB3.out).mono ?_
  rintro e W4 ⟨rfl, hd4⟩
  have hb4 : Below W3.heap.size W3 W4 := hd4.below _
  have f0 := (hb4.cell (p := ⟨w.heap.size, 0, none⟩) hlt0).trans f0
  have f1 := (hb4.cell (p := ⟨w.heap.size, 1, none⟩) hlt0).trans f1
  have f2 := (hb4.cell (p := ⟨w.heap.size, 2, none⟩) hlt0).trans f2
  have f3 := (hb4.cell (p := ⟨w.heap.size, 3, none⟩) hlt0).trans f3
  have f4 := (hb4.cell (p := ⟨w.heap.size, 4, none⟩) hlt0).trans f4
  have f5 := (hb4.cell (p := ⟨w.heap.size, 5, none⟩) hlt0).trans f5
  have f6 := (hb4.cell (p := ⟨w.heap.size, 6, none⟩) hlt0).trans f6
  have f7 := (hb4.cell (p := ⟨w.heap.size, 7, none⟩) hlt0).trans f7
  have g0 := (hb4.cell (p := ⟨w.heap.size + 1, 0, none⟩) hlt1).trans g0
  have g1 := (hb4.cell (p := ⟨w.heap.size + 1, 1, none⟩) hlt1).trans g1
  have g2 := (hb4.cell (p := ⟨w.heap.size + 1, 2, none⟩) hlt1).trans g2
  have g3 := (hb4.cell (p := ⟨w.heap.size + 1, 3, none⟩) hlt1).trans g3
  have g4 := (hb4.cell (p := ⟨w.heap.size + 1, 4, none⟩) hlt1).trans g4
  have g5 := (hb4.cell (p := ⟨w.heap.size + 1, 5, none⟩) hlt1).trans g5
  have g6 := (hb4.cell (p := ⟨w.heap.size + 1, 6, none⟩) hlt1).trans g6
  have g7 := (hb4.cell (p := ⟨w.heap.size + 1, 7, none⟩) hlt1).trans g7
  have hlt0 := Nat.lt_of_lt_of_le hlt0 hb4.size
  have hlt1 := Nat.lt_of_lt_of_le hlt1 hb4.size
  have HB4 := hide_ (HB3.out.trans (hb4.mono HB3.out.size))
  clear hb4 hd4 HB3 f0 f1 f2 f3 f6 g0 g1 g2 g3 g6
  go_wp2
  have HW4 := hide_ (And.intro hlt0 hlt1)
  go_loopw [5] (fun i wr => ∃ k : Nat, k ≤ nl ∧ i = .int .i64 k ∧ Drew W4 wr) (fun i _ => nl - (intOf i).toNat)
  case atStart => exact ⟨0, Nat.zero_le _, rfl, Drew.refl W4⟩
  case round =>
    obtain ⟨k, hk, rfl, hd⟩ := hrel
    have HD := hide_ hd
    have f4 := (hd.cell _).trans f4
    have f5 := (hd.cell _).trans f5
    have f7 := (hd.cell _).trans f7
    have g4 := (hd.cell _).trans g4
    have g5 := (hd.cell _).trans g5
    have g7 := (hd.cell _).trans g7
    have hlt0 : w.heap.size < wr.heap.size := by rw [hd.size]; exact HW4.out.1
    have hlt1 : w.heap.size + 1 < wr.heap.size := by rw [hd.size]; exact HW4.out.2
    by_cases hlt : k < nl
    · obtain ⟨⟨nm, sc, pl, op⟩, ht⟩ : ∃ t, x.labels[k]? = some t := ⟨_, List.getElem?_eq_getElem (by have := HNL.out; omega)⟩
      obtain ⟨_, ad, rfl, hbk, p0, p1⟩ := el_cells lE_len (HLA.out.below (HB4.out.mono HBB.out)) (by omega) ht
      obtain ⟨_, ad', rfl, hbk', r0, r1⟩ := el_cells lE_len (HLB.out.below (HB4.out.mono HBB.out)) (by omega) ht
      have x0 := (hd.cell _).trans (p0 _ rfl)
      have x1 := (hd.cell _).trans (p1 1 _ (by omega) rfl)
      have x2 := (hd.cell _).trans (p1 2 _ (by omega) rfl)
      have x3 := (hd.cell _).trans (p1 3 _ (by omega) rfl)
      have y0 := (hd.cell _).trans (r0 _ rfl)
      have y1 := (hd.cell _).trans (r1 1 _ (by omega) rfl)
      have y2 := (hd.cell _).trans (r1 2 _ (by omega) rfl)
      have y3 := (hd.cell _).trans (r1 3 _ (by omega) rfl)
      simp only at x0 y0 x1 y1 x2 y2 x3 y3
      have hb1 : (ad.add (k * 4)).block < wr.heap.size := by rw [hd.size]; have := HBB.out; have := HB4.out.size; omega
      have hb2 : (ad'.add (k * 4)).block < wr.heap.size := by rw [hd.size]; have := HBB.out; have := HB4.out.size; omega
      have hq := fun w => lab_eq w nm sc pl op
      clear p0 p1 r0 r1 hd hbk hbk' ht
      go_wp2
      go_big_quiet (fail)
      go_wp2
      go_roundw
      case rel => exact ⟨k + 1, by omega, by go_num, HD.out.more _⟩
      case measure => simp [intOf]; omega
    · obtain rfl : nl = k := by omega
      have HB4 := hide_ (HB4.out.trans (hd.below _))
      clear hd HD HW4
      obtain ⟨W4, hW5⟩ : ∃ W, W = wr := ⟨_, rfl⟩
      rw [← hW5] at HB4 hlt0 hlt1 f4 g4 f5 g5 f7 g7 ⊢
      clear hW5
      go_wp2
      have HW4 := hide_ (And.intro hlt0 hlt1)
      go_loopw [6] (fun i wr => ∃ k : Nat, k ≤ nf ∧ i = .int .i64 k ∧ Drew W4 wr) (fun i _ => nf - (intOf i).toNat)
      case atStart => exact ⟨0, Nat.zero_le _, rfl, Drew.refl W4⟩
      case round =>
        obtain ⟨k, hk, rfl, hd⟩ := hrel
        have HD := hide_ hd
        have f4 := (hd.cell _).trans f4
        have f5 := (hd.cell _).trans f5
        have f7 := (hd.cell _).trans f7
        have g4 := (hd.cell _).trans g4
        have g5 := (hd.cell _).trans g5
        have g7 := (hd.cell _).trans g7
        have hlt0 : w.heap.size < wr.heap.size := by rw [hd.size]; exact HW4.out.1
        have hlt1 : w.heap.size + 1 < wr.heap.size := by rw [hd.size]; exact HW4.out.2
        by_cases hlt : k < nf
        · obtain ⟨⟨sc, pl, nm, av⟩, ht⟩ : ∃ t, x.fixes[k]? = some t := ⟨_, List.getElem?_eq_getElem (by have := HNF.out; omega)⟩
          obtain ⟨_, ad, rfl, hbk, p0, p1⟩ := el_cells fE_len (HFA.out.below (HB4.out.mono HBB.out)) (by omega) ht
          obtain ⟨_, ad', rfl, hbk', r0, r1⟩ := el_cells fE_len (HFB.out.below (HB4.out.mono HBB.out)) (by omega) ht
          have x0 := (hd.cell _).trans (p0 _ rfl)
          have x1 := (hd.cell _).trans (p1 1 _ (by omega) rfl)
          have x2 := (hd.cell _).trans (p1 2 _ (by omega) rfl)
          have x3 := (hd.cell _).trans (p1 3 _ (by omega) rfl)
          have y0 := (hd.cell _).trans (r0 _ rfl)
          have y1 := (hd.cell _).trans (r1 1 _ (by omega) rfl)
          have y2 := (hd.cell _).trans (r1 2 _ (by omega) rfl)
          have y3 := (hd.cell _).trans (r1 3 _ (by omega) rfl)
          simp only at x0 y0 x1 y1 x2 y2 x3 y3
          have hb1 : (ad.add (k * 4)).block < wr.heap.size := by rw [hd.size]; have := HBB.out; have := HB4.out.size; omega
          have hb2 : (ad'.add (k * 4)).block < wr.heap.size := by rw [hd.size]; have := HBB.out; have := HB4.out.size; omega
          have hq := fun w => fix_eq w nm sc pl av
          clear p0 p1 r0 r1 hd hbk hbk' ht
          go_wp2
          go_big_quiet (fail)
          go_wp2
          go_roundw
          case rel => exact ⟨k + 1, by omega, by go_num, HD.out.more _⟩
          case measure => simp [intOf]; omega
        · obtain rfl : nf = k := by omega
          have HB4 := hide_ (HB4.out.trans (hd.below _))
          clear hd HD HW4
          obtain ⟨W4, hW5⟩ : ∃ W, W = wr := ⟨_, rfl⟩
          rw [← hW5] at HB4 hlt0 hlt1 f4 g4 f5 g5 f7 g7 ⊢
          clear hW5
          go_wp2
          have HW4 := hide_ (And.intro hlt0 hlt1)
          go_loopw [7] (fun i wr => ∃ k : Nat, k ≤ ne ∧ i = .int .i64 k ∧ Drew W4 wr) (fun i _ => ne - (intOf i).toNat)
          case atStart => exact ⟨0, Nat.zero_le _, rfl, Drew.refl W4⟩
          case round =>
            obtain ⟨k, hk, rfl, hd⟩ := hrel
            have HD := hide_ hd
            have f4 := (hd.cell _).trans f4
            have f5 := (hd.cell _).trans f5
            have f7 := (hd.cell _).trans f7
            have g4 := (hd.cell _).trans g4
            have g5 := (hd.cell _).trans g5
            have g7 := (hd.cell _).trans g7
            have hlt0 : w.heap.size < wr.heap.size := by rw [hd.size]; exact HW4.out.1
            have hlt1 : w.heap.size + 1 < wr.heap.size := by rw [hd.size]; exact HW4.out.2
            by_cases hlt : k < ne
            · obtain ⟨⟨nm, lb⟩, ht⟩ : ∃ t, x.entries[k]? = some t := ⟨_, List.getElem?_eq_getElem (by have := HNE.out; omega)⟩
              obtain ⟨_, ad, rfl, hbk, p0, p1⟩ := el_cells eE_len (HEA.out.below (HB4.out.mono HBB.out)) (by omega) ht
              obtain ⟨_, ad', rfl, hbk', r0, r1⟩ := el_cells eE_len (HEB.out.below (HB4.out.mono HBB.out)) (by omega) ht
              have x0 := (hd.cell _).trans (p0 _ rfl)
              have x1 := (hd.cell _).trans (p1 1 _ (by omega) rfl)
              have y0 := (hd.cell _).trans (r0 _ rfl)
              have y1 := (hd.cell _).trans (r1 1 _ (by omega) rfl)
              simp only at x0 y0 x1 y1
              have hb1 : (ad.add (k * 2)).block < wr.heap.size := by rw [hd.size]; have := HBB.out; have := HB4.out.size; omega
              have hb2 : (ad'.add (k * 2)).block < wr.heap.size := by rw [hd.size]; have := HBB.out; have := HB4.out.size; omega
              have hq := fun w => ent_eq w nm lb
              clear p0 p1 r0 r1 hd hbk hbk' ht
              go_wp2
              go_big_quiet (fail)
              go_wp2
              go_roundw
              case rel => exact ⟨k + 1, by omega, by go_num, HD.out.more _⟩
              case measure => simp [intOf]; omega
            · obtain rfl : ne = k := by omega
              have HB4 := hide_ (HB4.out.trans (hd.below _))
              clear hd HD HW4
              obtain ⟨W4, hW5⟩ : ∃ W, W = wr := ⟨_, rfl⟩
              rw [← hW5] at HB4 hlt0 hlt1 f4 g4 f5 g5 f7 g7 ⊢
              clear hW5
              go_wp2
              go_ret
              exact ⟨rfl, HB4.out⟩
end Go.Proofs.YtnkfjileaonemaaGreatDoor
