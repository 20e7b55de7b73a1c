/-
  The walk of the document's Code: the text of a number's code.
-/
import Derived.Test.YtmbofpeedjlfhaaDoorText
namespace Go.Proofs.YtmbofpeedjlfhaaDoor
open Go.RowKit Go.PlainAid

theorem conv_new (w : World) (l : List Nat) (c : Nat) :
    (convert 51 9 (.slice (some ⟨w.heap.size, 0, none⟩) l.length c)).run Tryd.prog (w.alloc (.cells (n8s l).toArray 5)) = .ok (.string (textOf l)) (w.alloc (.cells (n8s l).toArray 5)) :=
  run_text_of_reads (P := Tryd.prog) _ (w.heap.size + 1) 51 5 Tryd.underlying51 Tryd.underlying5 _ _ c l (reads_new w 5 1 l.length (n8s l) (by simp)) 9 Tryd.underlying9

theorem Code_no (x : Int) (w : World) (h : x < 0 ∨ 1114111 < x ∨ (55296 ≤ x ∧ x ≤ 57343)) :
    Calls Tryd.prog 110 #[.int .i32 x] w fun e w' => e = .returned (.tuple #[.string ⟨#[]⟩, .bool false]) ∧ w = w' := by
  rcases h with h | h | ⟨h, h'⟩
  all_goals
    go_enter Tryd.func110, Tryd.ntmps110
    go_wp2
    go_ret2
    exact ⟨rfl, rfl⟩
set_option maxRecDepth 100000 in
set_option maxHeartbeats 1000000 in
theorem Code_any (v : Nat) (w : World) (hr : isRune v) :
    Calls Tryd.prog 110 #[.int .i32 v] w fun e w' => e = .returned (.tuple #[.string (textOf (codeL v)), .bool true]) ∧ Below w.heap.size w w' := by
  obtain ⟨hr1, hr2⟩ := hr
  rcases (show v < 128 ∨ (128 ≤ v ∧ v < 2048) ∨ ((2048 ≤ v ∧ v < 55296) ∨ (57343 < v ∧ v < 65536)) ∨ 65536 ≤ v by omega) with a | ⟨a, b⟩ | a | a
  · have e1 : codeL v = [v] := by unfold codeL; rw [if_pos a]
    rw [e1]
    obtain ⟨x, hx⟩ : ∃ x : Int, x = (v : Int) := ⟨_, rfl⟩
    have hcv : (convert 51 9 (.slice (some ⟨w.heap.size, 0, none⟩) 1 1)).run Tryd.prog (w.alloc (.cells #[.int .u8 (v : Int)] 5)) = .ok (.string (textOf [v])) (w.alloc (.cells #[.int .u8 (v : Int)] 5)) := conv_new w [v] 1
    rw [← hx] at hcv ⊢
    have p1 : x % 256 = x := by omega
    have c1 : 0 ≤ x := by omega
    have c2 : x < 128 := by omega
    clear hx hr1 hr2 a
    go_enter Tryd.func110, Tryd.ntmps110
    go_wp2
    go_ret2
    exact ⟨rfl, (Below.refl _ w).alloc (Nat.le_refl _) _⟩
  · have e1 : codeL v = [192 + v / 64, 128 + v % 64] := by unfold codeL; rw [if_neg (by omega), if_pos b]
    rw [e1]
    obtain ⟨x, hx⟩ : ∃ x : Int, x = (v : Int) := ⟨_, rfl⟩
    have hcv : (convert 51 9 (.slice (some ⟨w.heap.size, 0, none⟩) 2 2)).run Tryd.prog (w.alloc (.cells #[.int .u8 (192 + (v : Int) / 64), .int .u8 (128 + (v : Int) % 64)] 5)) = .ok (.string (textOf [192 + v / 64, 128 + v % 64])) (w.alloc (.cells #[.int .u8 (192 + (v : Int) / 64), .int .u8 (128 + (v : Int) % 64)] 5)) := conv_new w [192 + v / 64, 128 + v % 64] 2
    rw [← hx] at hcv ⊢
    have p1 : (192 + x / 64) % 256 = 192 + x / 64 := by omega
    have p2 : (128 + x % 64) % 256 = 128 + x % 64 := by omega
    have c1 : 128 ≤ x := by omega
    have c2 : x < 2048 := by omega
    clear hx hr1 hr2 a b
    go_enter Tryd.func110, Tryd.ntmps110
    go_wp2
    go_ret2
    exact ⟨rfl, (Below.refl _ w).alloc (Nat.le_refl _) _⟩
  · have e1 : codeL v = [224 + v / 4096, 128 + v / 64 % 64, 128 + v % 64] := by unfold codeL; rw [if_neg (by omega), if_neg (by omega), if_pos (by omega)]
    rw [e1]
    obtain ⟨x, hx⟩ : ∃ x : Int, x = (v : Int) := ⟨_, rfl⟩
    have hcv : (convert 51 9 (.slice (some ⟨w.heap.size, 0, none⟩) 3 3)).run Tryd.prog (w.alloc (.cells #[.int .u8 (224 + (v : Int) / 4096), .int .u8 (128 + (v : Int) / 64 % 64), .int .u8 (128 + (v : Int) % 64)] 5)) = .ok (.string (textOf [224 + v / 4096, 128 + v / 64 % 64, 128 + v % 64])) (w.alloc (.cells #[.int .u8 (224 + (v : Int) / 4096), .int .u8 (128 + (v : Int) / 64 % 64), .int .u8 (128 + (v : Int) % 64)] 5)) := conv_new w [224 + v / 4096, 128 + v / 64 % 64, 128 + v % 64] 3
    rw [← hx] at hcv ⊢
    have p1 : (224 + x / 4096) % 256 = 224 + x / 4096 := by omega
    have p2 : (128 + x / 64 % 64) % 256 = 128 + x / 64 % 64 := by omega
    have p3 : (128 + x % 64) % 256 = 128 + x % 64 := by omega
    have c0 : (2048 ≤ x ∧ x < 55296) ∨ (57343 < x ∧ x < 65536) := by omega
    clear hx hr1 hr2 a
    rcases c0 with ⟨c1, c2⟩ | ⟨c1, c2⟩
    all_goals
      go_enter Tryd.func110, Tryd.ntmps110
      go_wp2
      go_ret2
      exact ⟨rfl, (Below.refl _ w).alloc (Nat.le_refl _) _⟩
  · have e1 : codeL v = [240 + v / 262144, 128 + v / 4096 % 64, 128 + v / 64 % 64, 128 + v % 64] := by unfold codeL; rw [if_neg (by omega), if_neg (by omega), if_neg (by omega)]
    rw [e1]
    obtain ⟨x, hx⟩ : ∃ x : Int, x = (v : Int) := ⟨_, rfl⟩
    have hcv : (convert 51 9 (.slice (some ⟨w.heap.size, 0, none⟩) 4 4)).run Tryd.prog (w.alloc (.cells #[.int .u8 (240 + (v : Int) / 262144), .int .u8 (128 + (v : Int) / 4096 % 64), .int .u8 (128 + (v : Int) / 64 % 64), .int .u8 (128 + (v : Int) % 64)] 5)) = .ok (.string (textOf [240 + v / 262144, 128 + v / 4096 % 64, 128 + v / 64 % 64, 128 + v % 64])) (w.alloc (.cells #[.int .u8 (240 + (v : Int) / 262144), .int .u8 (128 + (v : Int) / 4096 % 64), .int .u8 (128 + (v : Int) / 64 % 64), .int .u8 (128 + (v : Int) % 64)] 5)) := conv_new w [240 + v / 262144, 128 + v / 4096 % 64, 128 + v / 64 % 64, 128 + v % 64] 4
    rw [← hx] at hcv ⊢
    have p1 : (240 + x / 262144) % 256 = 240 + x / 262144 := by omega
    have p2 : (128 + x / 64 % 64) % 256 = 128 + x / 64 % 64 := by omega
    have p3 : (128 + x % 64) % 256 = 128 + x % 64 := by omega
    have p4 : (128 + x / 4096 % 64) % 256 = 128 + x / 4096 % 64 := by omega
    have c1 : 65536 ≤ x := by omega
    have c2 : x ≤ 1114111 := by omega
    clear hx hr1 hr2 a
    go_enter Tryd.func110, Tryd.ntmps110
    go_wp2
    go_ret2
    exact ⟨rfl, (Below.refl _ w).alloc (Nat.le_refl _) _⟩
end Go.Proofs.YtmbofpeedjlfhaaDoor
