/-
  Rows in any order; lent lists as rows; what From refuses.
-/
import Derived.Test.YtgppbdcnpailaaaGen
namespace Go.Proofs.Ytgppbdcnpailaaa
open Go.RowKit
set_option linter.unusedVariables false

theorem Owns.pick {w : World} {B : Nat} {l m : List Ro} (h : Owns w B l) (d : List Ro)
    (hc : ∀ (cnt : List Ro → Nat) (one : Ro → Nat), (∀ x y, cnt (x ++ y) = cnt x + cnt y) → (∀ x l, cnt (x :: l) = one x + cnt l) → cnt [] = 0 → cnt l = cnt d + cnt m) : Owns w B m := by
  classical
  have hp : l.Perm (d ++ m) := List.perm_iff_count.2 fun a => by
    rw [List.count_append]
    exact hc (fun l => List.count a l) (fun x => if x == a then 1 else 0) (fun x y => List.count_append) (fun x l => by rw [List.count_cons]; omega) rfl
  exact (h.swap hp).sub (List.sublist_append_right _ _)
theorem Owns.perm {w : World} {B : Nat} {l m : List Ro} (h : Owns w B l)
    (hc : ∀ (cnt : List Ro → Nat) (one : Ro → Nat), (∀ x y, cnt (x ++ y) = cnt x + cnt y) → (∀ x l, cnt (x :: l) = one x + cnt l) → cnt [] = 0 → cnt l = cnt m) : Owns w B m :=
  h.pick [] fun cnt one h1 h2 h3 => by rw [h3, hc cnt one h1 h2 h3]; omega
/-- a list that is lent -/
noncomputable def lentR (f n cf : Nat) (zs : List Int) : Ro := byteR (some ⟨f, 0, none⟩) (n + 64) cf (zs ++ marks8 0 0 64)
section
variable {W : World} {B : Nat} {ex : List Ro}
theorem lent_rows (A : Option Addr) (n c Bz : Nat) (zs : List Int) (hO : Owns W B ex) (hB : B ≤ W.heap.size) (hr : Reads W Bz 1 A n (u8s zs)) (hBz : Bz ≤ W.heap.size) (hn : n ≤ 140737488351232) :
    Calls Try.prog 70 #[.slice A n c] W fun e W' => ∃ f cf, e = .returned (.slice (some ⟨f, 0, none⟩) (n + 64) cf) ∧ n + 64 ≤ cf ∧ Owns W' B (lentR f n cf zs :: ex) ∧ Below W.heap.size W W' := by
  refine (LentBytes_any A n c zs Bz W hr hBz hn).mono ?_
  rintro e W' ⟨v, rfl, hown, hb⟩
  obtain ⟨f, cf, rfl⟩ := ownsRow_some hown (by omega)
  obtain ⟨_, _, hv, h1, _⟩ := ownsRow_slice hown
  injection hv with _ _ hv
  subst hv
  refine ⟨f, cf, rfl, h1, ?_, hb⟩
  have h2 : Owns W' B (ex ++ [lentR f n cf zs]) := hO.push hb (r := lentR f n cf zs) hown hB
  exact h2.perm fun cnt one e1 e2 e3 => by simp only [e1, e2, e3]; omega
theorem lent_reads {f n cf : Nat} {zs : List Int} (hz : zs.length = n) (h : Owns W B ex) (hm : lentR f n cf zs ∈ ex) : Reads W W.heap.size 1 (some ⟨f, 0, none⟩) n (u8s zs) := by
  have hr : Reads W W.heap.size 1 (some ⟨f, 0, none⟩) (n + 64) (u8s (zs ++ marks8 0 0 64)) := Reads.of_own (h.1 _ hm)
  refine ⟨by simp [hz], fun hn => ?_⟩
  obtain ⟨ad, e, hlt, hj⟩ := hr.2 (by omega)
  refine ⟨ad, e, hlt, fun j u hu => hj j u ?_⟩
  rw [u8s_app, List.getElem?_append_left]
  · exact hu
  · exact (List.getElem?_eq_some_iff.1 hu).1
theorem over_rows {f m cf : Nat} {ys : List Int} (hO : Owns W B (byteR (some ⟨f, 0, none⟩) m cf ys :: ex)) (hB : B ≤ W.heap.size) (hm : m ≤ maxLen) :
    Calls Try.prog 119 #[.slice (some ⟨f, 0, none⟩) m cf] W fun e W' => e = .returned (.tuple #[]) ∧ Owns W' B ex ∧ Below B W W' := by
  refine (OverBytes_any f m cf ys B W (hO.at_ (i := 0) rfl) hm).mono ?_
  rintro e W' ⟨rfl, hown, hg, _⟩
  refine ⟨rfl, ?_, (Below.refl B W).grown hg hB (fun j hj => ?_)⟩
  · have h := hO.turn (i := 0) (r := byteR (some ⟨f, 0, none⟩) m cf ys) (r' := byteR (some ⟨f, 0, none⟩) m cf (marks8 (-1) 0 m)) rfl hg hown (.inl rfl)
    exact h.sub (.cons _ (.refl _))
  · injection hj with hj
    subst hj
    exact (hO.base (i := 0) rfl).1
theorem i64_and_small (a b : Nat) (ha : a < 4294967296) (hb : b < 4294967296) : bits .and .i64 (a : Int) (b : Int) = ((a &&& b : Nat) : Int) := by
  have hx : a &&& b < 2 ^ 32 := Nat.and_lt_two_pow _ (by omega)
  have e1 : ∀ x : Nat, x < 4294967296 → (BitVec.ofInt 64 (x : Int)).toNat = x := fun x hx => by
    rw [BitVec.ofInt_natCast, BitVec.toNat_ofNat]; exact Nat.mod_eq_of_lt (by omega)
  show IntKind.i64.wrap ((BitVec.ofInt 64 (a : Int) &&& BitVec.ofInt 64 (b : Int)).toNat : Int) = _
  rw [BitVec.toNat_and, e1 a ha, e1 b hb]
  exact IntWalk.i64_in _ (by omega)
theorem mFrom_bad (A : Option Addr) (n c : Nat) (h : ¬ IsSeg n) (W : World) :
    Calls Try.prog 30 #[.slice A n c] W fun e W' => e = .returned (.tuple #[.pointer none, .int .i64 91]) ∧ W' = W := by
  by_cases h8 : n < 256
  · have d1 : decide ((n : Int) < 256) = true := by simp; omega
    clear h h8
    go_enter Try.func30, Try.ntmps30
    go_wp2
    go_ret2
    exact ⟨rfl, rfl⟩
  · have d1 : decide ((n : Int) < 256) = false := by simp; omega
    by_cases h16 : 65536 < n
    · have d2 : decide ((65536 : Int) < (n : Int)) = true := by simp; omega
      clear h h8 h16
      go_enter Try.func30, Try.ntmps30
      go_wp2
      go_ret2
      exact ⟨rfl, rfl⟩
    · have d2 : decide ((65536 : Int) < (n : Int)) = false := by simp; omega
      have s1 : IntKind.i64.wrap ((n : Int) - 1) = (n : Int) - 1 := IntWalk.i64_in _ (by omega)
      have hand : bits .and .i64 (n : Int) ((n : Int) - 1) = ((n &&& (n - 1) : Nat) : Int) := by
        rw [show ((n : Int) - 1) = ((n - 1 : Nat) : Int) by omega]
        exact i64_and_small _ _ (by omega) (by omega)
      have hne : n &&& (n - 1) ≠ 0 := fun e => h (isSeg_of_and (by omega) (by omega) e)
      obtain ⟨z, hz⟩ : ∃ z, z = n &&& (n - 1) := ⟨_, rfl⟩
      rw [← hz] at hand hne
      have d3 : ((z : Int) != 0) = true := by simp; omega
      clear h h8 h16 hz hne
      go_enter Try.func30, Try.ntmps30
      go_wp2
      go_ret2
      exact ⟨rfl, rfl⟩
end
end Go.Proofs.Ytgppbdcnpailaaa
