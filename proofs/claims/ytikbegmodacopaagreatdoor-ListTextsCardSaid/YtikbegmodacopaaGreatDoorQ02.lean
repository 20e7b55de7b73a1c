/-
  Joined and packed by program.
-/
import Derived.Test.YtikbegmodacopaaGreatDoorProg
import Derived.Test.YtikbegmodacopaaGreatDoorQ01
import Derived.WalkSpells
import Derived.WalkLawsBesides
import Derived.RangeFuncNested
import Derived.RangeFuncBound
import Derived.RangeFuncCalls
import Derived.RangeFuncLeaves
import Derived.Shelf.Abstract
import Derived.Shelf.RegionOpen
import Derived.WalkKit
import Derived.OwnWalkIn
import Derived.TacticsInMore
import Derived.LoopNIn
import Derived.LoopIn
import Derived.Lib.OthersKept
import Derived.Lib.Strings
import Derived.Laws.EntriesVeiled
namespace Go.Proofs.YtikbegmodacopaaGreatDoor
open Go.RowKit Go.PlainAid
set_option linter.unusedVariables false
def RaIs (s:ByteArray) (i:Nat) (r n:Int) (w:World):Prop :=
 Calls Tryz.prog 192 #[.string s,.int .i64 i] w fun e w'=>e=.returned (.tuple #[.int .i32 r,.int .i64 n])∧w=w'
set_option maxRecDepth 100000 in
set_option maxHeartbeats 1000000 in
theorem ra_ascii (s:ByteArray) (i:Nat) (w:World) (hz:s.size≤9223372036854775800) (hi:i<s.size) (h1:bt s i<128):RaIs s i (bt s i) 1 w:=by
 have hb:=get_bt s
 have l0:=bt_nonneg s i
 have u0:=bt_le s i
 have l1:=bt_nonneg s (i+1)
 have u1:=bt_le s (i+1)
 have l2:=bt_nonneg s (i+2)
 have u2:=bt_le s (i+2)
 have l3:=bt_nonneg s (i+3)
 have u3:=bt_le s (i+3)
 unfold RaIs
 go_enter Tryz.func192,Tryz.ntmps192
 go_wp2
 go_ret2
 exact ⟨rfl,rfl⟩
set_option maxRecDepth 100000 in
set_option maxHeartbeats 1000000 in
theorem ra_cont (s:ByteArray) (i:Nat) (w:World) (hz:s.size≤9223372036854775800) (hi:i<s.size) (h1:128≤bt s i) (h2:bt s i<192):RaIs s i 0 0 w:=by
 have hb:=get_bt s
 have l0:=bt_nonneg s i
 have u0:=bt_le s i
 have l1:=bt_nonneg s (i+1)
 have u1:=bt_le s (i+1)
 have l2:=bt_nonneg s (i+2)
 have u2:=bt_le s (i+2)
 have l3:=bt_nonneg s (i+3)
 have u3:=bt_le s (i+3)
 unfold RaIs
 go_enter Tryz.func192,Tryz.ntmps192
 go_wp2
 go_ret2
 exact ⟨rfl,rfl⟩
set_option maxRecDepth 100000 in
set_option maxHeartbeats 1000000 in
theorem ra_high (s:ByteArray) (i:Nat) (w:World) (hz:s.size≤9223372036854775800) (hi:i<s.size) (h1:248≤bt s i):RaIs s i 0 0 w:=by
 have hb:=get_bt s
 have l0:=bt_nonneg s i
 have u0:=bt_le s i
 have l1:=bt_nonneg s (i+1)
 have u1:=bt_le s (i+1)
 have l2:=bt_nonneg s (i+2)
 have u2:=bt_le s (i+2)
 have l3:=bt_nonneg s (i+3)
 have u3:=bt_le s (i+3)
 unfold RaIs
 go_enter Tryz.func192,Tryz.ntmps192
 go_wp2
 go_ret2
 exact ⟨rfl,rfl⟩
set_option maxRecDepth 100000 in
set_option maxHeartbeats 1000000 in
theorem ra2_short (s:ByteArray) (i:Nat) (w:World) (hz:s.size≤9223372036854775800) (hi:i<s.size) (h1:192≤bt s i) (h2:bt s i<224) (h3:s.size<i+2):RaIs s i 0 0 w:=by
 have hb:=get_bt s
 have l0:=bt_nonneg s i
 have u0:=bt_le s i
 have l1:=bt_nonneg s (i+1)
 have u1:=bt_le s (i+1)
 have l2:=bt_nonneg s (i+2)
 have u2:=bt_le s (i+2)
 have l3:=bt_nonneg s (i+3)
 have u3:=bt_le s (i+3)
 unfold RaIs
 go_enter Tryz.func192,Tryz.ntmps192
 go_wp2
 go_ret2
 exact ⟨rfl,rfl⟩
set_option maxRecDepth 100000 in
set_option maxHeartbeats 1000000 in
theorem ra2_lo1 (s:ByteArray) (i:Nat) (w:World) (hz:s.size≤9223372036854775800) (hi:i<s.size) (h1:192≤bt s i) (h2:bt s i<224) (h3:i+2≤s.size) (b1:bt s (i+1)<128):RaIs s i 0 0 w:=by
 have hb:=get_bt s
 have l0:=bt_nonneg s i
 have u0:=bt_le s i
 have l1:=bt_nonneg s (i+1)
 have u1:=bt_le s (i+1)
 have l2:=bt_nonneg s (i+2)
 have u2:=bt_le s (i+2)
 have l3:=bt_nonneg s (i+3)
 have u3:=bt_le s (i+3)
 unfold RaIs
 go_enter Tryz.func192,Tryz.ntmps192
 go_wp2
 refine wp_loop_rounds 1 ?_
 rw [rounds_succ]
 go_wp2
 go_ret2
 exact ⟨rfl,rfl⟩
set_option maxRecDepth 100000 in
set_option maxHeartbeats 1000000 in
theorem ra2_hi1 (s:ByteArray) (i:Nat) (w:World) (hz:s.size≤9223372036854775800) (hi:i<s.size) (h1:192≤bt s i) (h2:bt s i<224) (h3:i+2≤s.size) (b1:191<bt s (i+1)):RaIs s i 0 0 w:=by
 have hb:=get_bt s
 have l0:=bt_nonneg s i
 have u0:=bt_le s i
 have l1:=bt_nonneg s (i+1)
 have u1:=bt_le s (i+1)
 have l2:=bt_nonneg s (i+2)
 have u2:=bt_le s (i+2)
 have l3:=bt_nonneg s (i+3)
 have u3:=bt_le s (i+3)
 unfold RaIs
 go_enter Tryz.func192,Tryz.ntmps192
 go_wp2
 refine wp_loop_rounds 1 ?_
 rw [rounds_succ]
 go_wp2
 go_ret2
 exact ⟨rfl,rfl⟩
set_option maxRecDepth 100000 in
set_option maxHeartbeats 1000000 in
theorem ra2_least (s:ByteArray) (i:Nat) (w:World) (hz:s.size≤9223372036854775800) (hi:i<s.size) (h1:192≤bt s i) (h2:bt s i<224) (h3:i+2≤s.size) (c1:128≤bt s (i+1)) (d1:bt s (i+1)≤191) (e1:((bt s i - 192) * 64+bt s (i+1) - 128)<128):RaIs s i 0 0 w:=by
 have hb:=get_bt s
 have l0:=bt_nonneg s i
 have u0:=bt_le s i
 have l1:=bt_nonneg s (i+1)
 have u1:=bt_le s (i+1)
 have l2:=bt_nonneg s (i+2)
 have u2:=bt_le s (i+2)
 have l3:=bt_nonneg s (i+3)
 have u3:=bt_le s (i+3)
 unfold RaIs
 go_enter Tryz.func192,Tryz.ntmps192
 go_wp2
 refine wp_loop_rounds 2 ?_
 rw [rounds_succ]
 go_wp2
 rw [rounds_succ]
 go_wp2
 go_ret2
 exact ⟨rfl,rfl⟩
set_option maxRecDepth 100000 in
set_option maxHeartbeats 1000000 in
theorem ra2_ok (s:ByteArray) (i:Nat) (w:World) (hz:s.size≤9223372036854775800) (hi:i<s.size) (h1:192≤bt s i) (h2:bt s i<224) (h3:i+2≤s.size) (c1:128≤bt s (i+1)) (d1:bt s (i+1)≤191) (e1:128≤((bt s i - 192) * 64+bt s (i+1) - 128)):RaIs s i ((bt s i - 192) * 64+bt s (i+1) - 128) 2 w:=by
 have hb:=get_bt s
 have l0:=bt_nonneg s i
 have u0:=bt_le s i
 have l1:=bt_nonneg s (i+1)
 have u1:=bt_le s (i+1)
 have l2:=bt_nonneg s (i+2)
 have u2:=bt_le s (i+2)
 have l3:=bt_nonneg s (i+3)
 have u3:=bt_le s (i+3)
 unfold RaIs
 go_enter Tryz.func192,Tryz.ntmps192
 go_wp2
 refine wp_loop_rounds 2 ?_
 rw [rounds_succ]
 go_wp2
 rw [rounds_succ]
 go_wp2
 go_ret2
 exact ⟨rfl,rfl⟩
set_option maxRecDepth 100000 in
set_option maxHeartbeats 1000000 in
theorem ra3_short (s:ByteArray) (i:Nat) (w:World) (hz:s.size≤9223372036854775800) (hi:i<s.size) (h1:224≤bt s i) (h2:bt s i<240) (h3:s.size<i+3):RaIs s i 0 0 w:=by
 have hb:=get_bt s
 have l0:=bt_nonneg s i
 have u0:=bt_le s i
 have l1:=bt_nonneg s (i+1)
 have u1:=bt_le s (i+1)
 have l2:=bt_nonneg s (i+2)
 have u2:=bt_le s (i+2)
 have l3:=bt_nonneg s (i+3)
 have u3:=bt_le s (i+3)
 unfold RaIs
 go_enter Tryz.func192,Tryz.ntmps192
 go_wp2
 go_ret2
 exact ⟨rfl,rfl⟩
set_option maxRecDepth 100000 in
set_option maxHeartbeats 1000000 in
theorem ra3_lo1 (s:ByteArray) (i:Nat) (w:World) (hz:s.size≤9223372036854775800) (hi:i<s.size) (h1:224≤bt s i) (h2:bt s i<240) (h3:i+3≤s.size) (b1:bt s (i+1)<128):RaIs s i 0 0 w:=by
 have hb:=get_bt s
 have l0:=bt_nonneg s i
 have u0:=bt_le s i
 have l1:=bt_nonneg s (i+1)
 have u1:=bt_le s (i+1)
 have l2:=bt_nonneg s (i+2)
 have u2:=bt_le s (i+2)
 have l3:=bt_nonneg s (i+3)
 have u3:=bt_le s (i+3)
 unfold RaIs
 go_enter Tryz.func192,Tryz.ntmps192
 go_wp2
 refine wp_loop_rounds 1 ?_
 rw [rounds_succ]
 go_wp2
 go_ret2
 exact ⟨rfl,rfl⟩
set_option maxRecDepth 100000 in
set_option maxHeartbeats 1000000 in
theorem ra3_hi1 (s:ByteArray) (i:Nat) (w:World) (hz:s.size≤9223372036854775800) (hi:i<s.size) (h1:224≤bt s i) (h2:bt s i<240) (h3:i+3≤s.size) (b1:191<bt s (i+1)):RaIs s i 0 0 w:=by
 have hb:=get_bt s
 have l0:=bt_nonneg s i
 have u0:=bt_le s i
 have l1:=bt_nonneg s (i+1)
 have u1:=bt_le s (i+1)
 have l2:=bt_nonneg s (i+2)
 have u2:=bt_le s (i+2)
 have l3:=bt_nonneg s (i+3)
 have u3:=bt_le s (i+3)
 unfold RaIs
 go_enter Tryz.func192,Tryz.ntmps192
 go_wp2
 refine wp_loop_rounds 1 ?_
 rw [rounds_succ]
 go_wp2
 go_ret2
 exact ⟨rfl,rfl⟩
set_option maxRecDepth 100000 in
set_option maxHeartbeats 1000000 in
theorem ra3_lo2 (s:ByteArray) (i:Nat) (w:World) (hz:s.size≤9223372036854775800) (hi:i<s.size) (h1:224≤bt s i) (h2:bt s i<240) (h3:i+3≤s.size) (c1:128≤bt s (i+1)) (d1:bt s (i+1)≤191) (b2:bt s (i+2)<128):RaIs s i 0 0 w:=by
 have hb:=get_bt s
 have l0:=bt_nonneg s i
 have u0:=bt_le s i
 have l1:=bt_nonneg s (i+1)
 have u1:=bt_le s (i+1)
 have l2:=bt_nonneg s (i+2)
 have u2:=bt_le s (i+2)
 have l3:=bt_nonneg s (i+3)
 have u3:=bt_le s (i+3)
 unfold RaIs
 go_enter Tryz.func192,Tryz.ntmps192
 go_wp2
 refine wp_loop_rounds 2 ?_
 rw [rounds_succ]
 go_wp2
 rw [rounds_succ]
 go_wp2
 go_ret2
 exact ⟨rfl,rfl⟩
set_option maxRecDepth 100000 in
set_option maxHeartbeats 1000000 in
theorem ra3_hi2 (s:ByteArray) (i:Nat) (w:World) (hz:s.size≤9223372036854775800) (hi:i<s.size) (h1:224≤bt s i) (h2:bt s i<240) (h3:i+3≤s.size) (c1:128≤bt s (i+1)) (d1:bt s (i+1)≤191) (b2:191<bt s (i+2)):RaIs s i 0 0 w:=by
 have hb:=get_bt s
 have l0:=bt_nonneg s i
 have u0:=bt_le s i
 have l1:=bt_nonneg s (i+1)
 have u1:=bt_le s (i+1)
 have l2:=bt_nonneg s (i+2)
 have u2:=bt_le s (i+2)
 have l3:=bt_nonneg s (i+3)
 have u3:=bt_le s (i+3)
 unfold RaIs
 go_enter Tryz.func192,Tryz.ntmps192
 go_wp2
 refine wp_loop_rounds 2 ?_
 rw [rounds_succ]
 go_wp2
 rw [rounds_succ]
 go_wp2
 go_ret2
 exact ⟨rfl,rfl⟩
set_option maxRecDepth 100000 in
set_option maxHeartbeats 1000000 in
theorem ra3_least (s:ByteArray) (i:Nat) (w:World) (hz:s.size≤9223372036854775800) (hi:i<s.size) (h1:224≤bt s i) (h2:bt s i<240) (h3:i+3≤s.size) (c1:128≤bt s (i+1)) (d1:bt s (i+1)≤191) (c2:128≤bt s (i+2)) (d2:bt s (i+2)≤191) (e1:(((bt s i - 224) * 64+bt s (i+1) - 128) * 64+bt s (i+2) - 128)<2048):RaIs s i 0 0 w:=by
 have hb:=get_bt s
 have l0:=bt_nonneg s i
 have u0:=bt_le s i
 have l1:=bt_nonneg s (i+1)
 have u1:=bt_le s (i+1)
 have l2:=bt_nonneg s (i+2)
 have u2:=bt_le s (i+2)
 have l3:=bt_nonneg s (i+3)
 have u3:=bt_le s (i+3)
 unfold RaIs
 go_enter Tryz.func192,Tryz.ntmps192
 go_wp2
 refine wp_loop_rounds 3 ?_
 rw [rounds_succ]
 go_wp2
 rw [rounds_succ]
 go_wp2
 rw [rounds_succ]
 go_wp2
 go_ret2
 exact ⟨rfl,rfl⟩
set_option maxRecDepth 100000 in
set_option maxHeartbeats 1000000 in
theorem ra3_sur (s:ByteArray) (i:Nat) (w:World) (hz:s.size≤9223372036854775800) (hi:i<s.size) (h1:224≤bt s i) (h2:bt s i<240) (h3:i+3≤s.size) (c1:128≤bt s (i+1)) (d1:bt s (i+1)≤191) (c2:128≤bt s (i+2)) (d2:bt s (i+2)≤191) (e1:55296≤(((bt s i - 224) * 64+bt s (i+1) - 128) * 64+bt s (i+2) - 128)) (e2:(((bt s i - 224) * 64+bt s (i+1) - 128) * 64+bt s (i+2) - 128)≤57343):RaIs s i 0 0 w:=by
 have hb:=get_bt s
 have l0:=bt_nonneg s i
 have u0:=bt_le s i
 have l1:=bt_nonneg s (i+1)
 have u1:=bt_le s (i+1)
 have l2:=bt_nonneg s (i+2)
 have u2:=bt_le s (i+2)
 have l3:=bt_nonneg s (i+3)
 have u3:=bt_le s (i+3)
 unfold RaIs
 go_enter Tryz.func192,Tryz.ntmps192
 go_wp2
 refine wp_loop_rounds 3 ?_
 rw [rounds_succ]
 go_wp2
 rw [rounds_succ]
 go_wp2
 rw [rounds_succ]
 go_wp2
 go_ret2
 exact ⟨rfl,rfl⟩
set_option maxRecDepth 100000 in
set_option maxHeartbeats 1000000 in
theorem ra3_ok1 (s:ByteArray) (i:Nat) (w:World) (hz:s.size≤9223372036854775800) (hi:i<s.size) (h1:224≤bt s i) (h2:bt s i<240) (h3:i+3≤s.size) (c1:128≤bt s (i+1)) (d1:bt s (i+1)≤191) (c2:128≤bt s (i+2)) (d2:bt s (i+2)≤191) (e1:2048≤(((bt s i - 224) * 64+bt s (i+1) - 128) * 64+bt s (i+2) - 128)) (e2:(((bt s i - 224) * 64+bt s (i+1) - 128) * 64+bt s (i+2) - 128)<55296):RaIs s i (((bt s i - 224) * 64+bt s (i+1) - 128) * 64+bt s (i+2) - 128) 3 w:=by
 have hb:=get_bt s
 have l0:=bt_nonneg s i
 have u0:=bt_le s i
 have l1:=bt_nonneg s (i+1)
 have u1:=bt_le s (i+1)
 have l2:=bt_nonneg s (i+2)
 have u2:=bt_le s (i+2)
 have l3:=bt_nonneg s (i+3)
 have u3:=bt_le s (i+3)
 unfold RaIs
 go_enter Tryz.func192,Tryz.ntmps192
 go_wp2
 refine wp_loop_rounds 3 ?_
 rw [rounds_succ]
 go_wp2
 rw [rounds_succ]
 go_wp2
 rw [rounds_succ]
 go_wp2
 go_ret2
 exact ⟨rfl,rfl⟩
set_option maxRecDepth 100000 in
set_option maxHeartbeats 1000000 in
theorem ra3_ok2 (s:ByteArray) (i:Nat) (w:World) (hz:s.size≤9223372036854775800) (hi:i<s.size) (h1:224≤bt s i) (h2:bt s i<240) (h3:i+3≤s.size) (c1:128≤bt s (i+1)) (d1:bt s (i+1)≤191) (c2:128≤bt s (i+2)) (d2:bt s (i+2)≤191) (e1:57343<(((bt s i - 224) * 64+bt s (i+1) - 128) * 64+bt s (i+2) - 128)):RaIs s i (((bt s i - 224) * 64+bt s (i+1) - 128) * 64+bt s (i+2) - 128) 3 w:=by
 have hb:=get_bt s
 have l0:=bt_nonneg s i
 have u0:=bt_le s i
 have l1:=bt_nonneg s (i+1)
 have u1:=bt_le s (i+1)
 have l2:=bt_nonneg s (i+2)
 have u2:=bt_le s (i+2)
 have l3:=bt_nonneg s (i+3)
 have u3:=bt_le s (i+3)
 unfold RaIs
 go_enter Tryz.func192,Tryz.ntmps192
 go_wp2
 refine wp_loop_rounds 3 ?_
 rw [rounds_succ]
 go_wp2
 rw [rounds_succ]
 go_wp2
 rw [rounds_succ]
 go_wp2
 go_ret2
 exact ⟨rfl,rfl⟩
set_option maxRecDepth 100000 in
set_option maxHeartbeats 1000000 in
theorem ra4_short (s:ByteArray) (i:Nat) (w:World) (hz:s.size≤9223372036854775800) (hi:i<s.size) (h1:240≤bt s i) (h2:bt s i<248) (h3:s.size<i+4):RaIs s i 0 0 w:=by
 have hb:=get_bt s
 have l0:=bt_nonneg s i
 have u0:=bt_le s i
 have l1:=bt_nonneg s (i+1)
 have u1:=bt_le s (i+1)
 have l2:=bt_nonneg s (i+2)
 have u2:=bt_le s (i+2)
 have l3:=bt_nonneg s (i+3)
 have u3:=bt_le s (i+3)
 unfold RaIs
 go_enter Tryz.func192,Tryz.ntmps192
 go_wp2
 go_ret2
 exact ⟨rfl,rfl⟩
set_option maxRecDepth 100000 in
set_option maxHeartbeats 1000000 in
theorem ra4_lo1 (s:ByteArray) (i:Nat) (w:World) (hz:s.size≤9223372036854775800) (hi:i<s.size) (h1:240≤bt s i) (h2:bt s i<248) (h3:i+4≤s.size) (b1:bt s (i+1)<128):RaIs s i 0 0 w:=by
 have hb:=get_bt s
 have l0:=bt_nonneg s i
 have u0:=bt_le s i
 have l1:=bt_nonneg s (i+1)
 have u1:=bt_le s (i+1)
 have l2:=bt_nonneg s (i+2)
 have u2:=bt_le s (i+2)
 have l3:=bt_nonneg s (i+3)
 have u3:=bt_le s (i+3)
 unfold RaIs
 go_enter Tryz.func192,Tryz.ntmps192
 go_wp2
 refine wp_loop_rounds 1 ?_
 rw [rounds_succ]
 go_wp2
 go_ret2
 exact ⟨rfl,rfl⟩
set_option maxRecDepth 100000 in
set_option maxHeartbeats 1000000 in
theorem ra4_hi1 (s:ByteArray) (i:Nat) (w:World) (hz:s.size≤9223372036854775800) (hi:i<s.size) (h1:240≤bt s i) (h2:bt s i<248) (h3:i+4≤s.size) (b1:191<bt s (i+1)):RaIs s i 0 0 w:=by
 have hb:=get_bt s
 have l0:=bt_nonneg s i
 have u0:=bt_le s i
 have l1:=bt_nonneg s (i+1)
 have u1:=bt_le s (i+1)
 have l2:=bt_nonneg s (i+2)
 have u2:=bt_le s (i+2)
 have l3:=bt_nonneg s (i+3)
 have u3:=bt_le s (i+3)
 unfold RaIs
 go_enter Tryz.func192,Tryz.ntmps192
 go_wp2
 refine wp_loop_rounds 1 ?_
 rw [rounds_succ]
 go_wp2
 go_ret2
 exact ⟨rfl,rfl⟩
set_option maxRecDepth 100000 in
set_option maxHeartbeats 1000000 in
theorem ra4_lo2 (s:ByteArray) (i:Nat) (w:World) (hz:s.size≤9223372036854775800) (hi:i<s.size) (h1:240≤bt s i) (h2:bt s i<248) (h3:i+4≤s.size) (c1:128≤bt s (i+1)) (d1:bt s (i+1)≤191) (b2:bt s (i+2)<128):RaIs s i 0 0 w:=by
 have hb:=get_bt s
 have l0:=bt_nonneg s i
 have u0:=bt_le s i
 have l1:=bt_nonneg s (i+1)
 have u1:=bt_le s (i+1)
 have l2:=bt_nonneg s (i+2)
 have u2:=bt_le s (i+2)
 have l3:=bt_nonneg s (i+3)
 have u3:=bt_le s (i+3)
 unfold RaIs
 go_enter Tryz.func192,Tryz.ntmps192
 go_wp2
 refine wp_loop_rounds 2 ?_
 rw [rounds_succ]
 go_wp2
 rw [rounds_succ]
 go_wp2
 go_ret2
 exact ⟨rfl,rfl⟩
set_option maxRecDepth 100000 in
set_option maxHeartbeats 1000000 in
theorem ra4_hi2 (s:ByteArray) (i:Nat) (w:World) (hz:s.size≤9223372036854775800) (hi:i<s.size) (h1:240≤bt s i) (h2:bt s i<248) (h3:i+4≤s.size) (c1:128≤bt s (i+1)) (d1:bt s (i+1)≤191) (b2:191<bt s (i+2)):RaIs s i 0 0 w:=by
 have hb:=get_bt s
 have l0:=bt_nonneg s i
 have u0:=bt_le s i
 have l1:=bt_nonneg s (i+1)
 have u1:=bt_le s (i+1)
 have l2:=bt_nonneg s (i+2)
 have u2:=bt_le s (i+2)
 have l3:=bt_nonneg s (i+3)
 have u3:=bt_le s (i+3)
 unfold RaIs
 go_enter Tryz.func192,Tryz.ntmps192
 go_wp2
 refine wp_loop_rounds 2 ?_
 rw [rounds_succ]
 go_wp2
 rw [rounds_succ]
 go_wp2
 go_ret2
 exact ⟨rfl,rfl⟩
set_option maxRecDepth 100000 in
set_option maxHeartbeats 1000000 in
theorem ra4_lo3 (s:ByteArray) (i:Nat) (w:World) (hz:s.size≤9223372036854775800) (hi:i<s.size) (h1:240≤bt s i) (h2:bt s i<248) (h3:i+4≤s.size) (c1:128≤bt s (i+1)) (d1:bt s (i+1)≤191) (c2:128≤bt s (i+2)) (d2:bt s (i+2)≤191) (b3:bt s (i+3)<128):RaIs s i 0 0 w:=by
 have hb:=get_bt s
 have l0:=bt_nonneg s i
 have u0:=bt_le s i
 have l1:=bt_nonneg s (i+1)
 have u1:=bt_le s (i+1)
 have l2:=bt_nonneg s (i+2)
 have u2:=bt_le s (i+2)
 have l3:=bt_nonneg s (i+3)
 have u3:=bt_le s (i+3)
 unfold RaIs
 go_enter Tryz.func192,Tryz.ntmps192
 go_wp2
 refine wp_loop_rounds 3 ?_
 rw [rounds_succ]
 go_wp2
 rw [rounds_succ]
 go_wp2
 rw [rounds_succ]
 go_wp2
 go_ret2
 exact ⟨rfl,rfl⟩
set_option maxRecDepth 100000 in
set_option maxHeartbeats 1000000 in
theorem ra4_hi3 (s:ByteArray) (i:Nat) (w:World) (hz:s.size≤9223372036854775800) (hi:i<s.size) (h1:240≤bt s i) (h2:bt s i<248) (h3:i+4≤s.size) (c1:128≤bt s (i+1)) (d1:bt s (i+1)≤191) (c2:128≤bt s (i+2)) (d2:bt s (i+2)≤191) (b3:191<bt s (i+3)):RaIs s i 0 0 w:=by
 have hb:=get_bt s
 have l0:=bt_nonneg s i
 have u0:=bt_le s i
 have l1:=bt_nonneg s (i+1)
 have u1:=bt_le s (i+1)
 have l2:=bt_nonneg s (i+2)
 have u2:=bt_le s (i+2)
 have l3:=bt_nonneg s (i+3)
 have u3:=bt_le s (i+3)
 unfold RaIs
 go_enter Tryz.func192,Tryz.ntmps192
 go_wp2
 refine wp_loop_rounds 3 ?_
 rw [rounds_succ]
 go_wp2
 rw [rounds_succ]
 go_wp2
 rw [rounds_succ]
 go_wp2
 go_ret2
 exact ⟨rfl,rfl⟩
set_option maxRecDepth 100000 in
set_option maxHeartbeats 1000000 in
theorem ra4_least (s:ByteArray) (i:Nat) (w:World) (hz:s.size≤9223372036854775800) (hi:i<s.size) (h1:240≤bt s i) (h2:bt s i<248) (h3:i+4≤s.size) (c1:128≤bt s (i+1)) (d1:bt s (i+1)≤191) (c2:128≤bt s (i+2)) (d2:bt s (i+2)≤191) (c3:128≤bt s (i+3)) (d3:bt s (i+3)≤191) (e1:((((bt s i - 240) * 64+bt s (i+1) - 128) * 64+bt s (i+2) - 128) * 64+bt s (i+3) - 128)<65536):RaIs s i 0 0 w:=by
 have hb:=get_bt s
 have l0:=bt_nonneg s i
 have u0:=bt_le s i
 have l1:=bt_nonneg s (i+1)
 have u1:=bt_le s (i+1)
 have l2:=bt_nonneg s (i+2)
 have u2:=bt_le s (i+2)
 have l3:=bt_nonneg s (i+3)
 have u3:=bt_le s (i+3)
 unfold RaIs
 go_enter Tryz.func192,Tryz.ntmps192
 go_wp2
 refine wp_loop_rounds 4 ?_
 rw [rounds_succ]
 go_wp2
 rw [rounds_succ]
 go_wp2
 rw [rounds_succ]
 go_wp2
 rw [rounds_succ]
 go_wp2
 go_ret2
 exact ⟨rfl,rfl⟩
set_option maxRecDepth 100000 in
set_option maxHeartbeats 1000000 in
theorem ra4_most (s:ByteArray) (i:Nat) (w:World) (hz:s.size≤9223372036854775800) (hi:i<s.size) (h1:240≤bt s i) (h2:bt s i<248) (h3:i+4≤s.size) (c1:128≤bt s (i+1)) (d1:bt s (i+1)≤191) (c2:128≤bt s (i+2)) (d2:bt s (i+2)≤191) (c3:128≤bt s (i+3)) (d3:bt s (i+3)≤191) (e1:1114111<((((bt s i - 240) * 64+bt s (i+1) - 128) * 64+bt s (i+2) - 128) * 64+bt s (i+3) - 128)):RaIs s i 0 0 w:=by
 have hb:=get_bt s
 have l0:=bt_nonneg s i
 have u0:=bt_le s i
 have l1:=bt_nonneg s (i+1)
 have u1:=bt_le s (i+1)
 have l2:=bt_nonneg s (i+2)
 have u2:=bt_le s (i+2)
 have l3:=bt_nonneg s (i+3)
 have u3:=bt_le s (i+3)
 unfold RaIs
 go_enter Tryz.func192,Tryz.ntmps192
 go_wp2
 refine wp_loop_rounds 4 ?_
 rw [rounds_succ]
 go_wp2
 rw [rounds_succ]
 go_wp2
 rw [rounds_succ]
 go_wp2
 rw [rounds_succ]
 go_wp2
 go_ret2
 exact ⟨rfl,rfl⟩
set_option maxRecDepth 100000 in
set_option maxHeartbeats 1000000 in
theorem ra4_ok (s:ByteArray) (i:Nat) (w:World) (hz:s.size≤9223372036854775800) (hi:i<s.size) (h1:240≤bt s i) (h2:bt s i<248) (h3:i+4≤s.size) (c1:128≤bt s (i+1)) (d1:bt s (i+1)≤191) (c2:128≤bt s (i+2)) (d2:bt s (i+2)≤191) (c3:128≤bt s (i+3)) (d3:bt s (i+3)≤191) (e1:65536≤((((bt s i - 240) * 64+bt s (i+1) - 128) * 64+bt s (i+2) - 128) * 64+bt s (i+3) - 128)) (e2:((((bt s i - 240) * 64+bt s (i+1) - 128) * 64+bt s (i+2) - 128) * 64+bt s (i+3) - 128)≤1114111):RaIs s i ((((bt s i - 240) * 64+bt s (i+1) - 128) * 64+bt s (i+2) - 128) * 64+bt s (i+3) - 128) 4 w:=by
 have hb:=get_bt s
 have l0:=bt_nonneg s i
 have u0:=bt_le s i
 have l1:=bt_nonneg s (i+1)
 have u1:=bt_le s (i+1)
 have l2:=bt_nonneg s (i+2)
 have u2:=bt_le s (i+2)
 have l3:=bt_nonneg s (i+3)
 have u3:=bt_le s (i+3)
 unfold RaIs
 go_enter Tryz.func192,Tryz.ntmps192
 go_wp2
 refine wp_loop_rounds 4 ?_
 rw [rounds_succ]
 go_wp2
 rw [rounds_succ]
 go_wp2
 rw [rounds_succ]
 go_wp2
 rw [rounds_succ]
 go_wp2
 go_ret2
 exact ⟨rfl,rfl⟩
end Go.Proofs.YtikbegmodacopaaGreatDoor
namespace Go.Proofs.YtikbegmodacopaaGreatDoor
open Go.RowKit Go.PlainAid Go.Shelf
theorem HasPrefix_short (t:ByteArray) (w:World) (h:t.size<3) :
  Calls Tryz.prog 133 #[.string t,.string ⟨#[239,191,189]⟩] w fun e w'=>e=.returned (.bool false)∧w=w':=by
 have hd:decide ((3:Int)≤(t.size:Int))=false:=by simp;omega
 go_enter Tryz.func133,Tryz.ntmps133
 go_wp2
 go_ret
 exact ⟨rfl,rfl⟩
set_option maxRecDepth 100000 in
theorem HasPrefix_long (t:ByteArray) (w:World) (h:3≤t.size) :
  Calls Tryz.prog 133 #[.string t,.string ⟨#[239,191,189]⟩] w fun e w'=>e=.returned (.bool ((t.extract 0 3).toList == [239,191,189]))∧w=w':=by
 go_enter Tryz.func133,Tryz.ntmps133
 go_wp2
 go_ret
 exact ⟨rfl,rfl⟩
theorem drop_get (s:ByteArray) (i:Nat) (h:i<s.size):s.data.toList.drop i=s.get! i :: s.data.toList.drop (i+1):=by
 rw [List.drop_eq_getElem_cons (by simpa using h),get!_eq s i h]
 rfl
theorem ext3 (s:ByteArray) (i:Nat) (h:i+3≤s.size):((s.extract i s.size).extract 0 3).toList=[s.get! i,s.get! (i+1),s.get! (i+2)]:=by
 rw [ByteArray.toList_eq,Lib.extract_data,Lib.extract_data,drop_get s i (by omega),drop_get s (i+1) (by omega),drop_get s (i+1+1) (by omega)]
 obtain ⟨m,hm⟩:∃ m,s.size - i=m+3:=⟨s.size - i - 3,by omega⟩
 rw [hm]
 rfl
theorem HasPrefix_no (s:ByteArray) (i:Nat) (w:World) (hl:lost s i) :
  Calls Tryz.prog 133 #[.string (s.extract i s.size),.string ⟨#[239,191,189]⟩] w fun e w'=>e=.returned (.bool false)∧w=w':=by
 by_cases h:s.size<i+3
 ·exact HasPrefix_short _ w (by simp [ByteArray.size_extract];omega)
 ·refine (HasPrefix_long _ w (by simp [ByteArray.size_extract];omega)).mono ?_
  rintro e w' ⟨rfl,rfl⟩
  refine ⟨?_,rfl⟩
  have:((s.extract i s.size).extract 0 3).toList≠[239,191,189]:=by
   rw [ext3 s i (by omega)]
   intro he
   simp only [List.cons.injEq,and_true] at he
   obtain ⟨h0,h1,h2⟩:=he
   have:=fffd_back s i (by omega) (by unfold bn;rw [h0];rfl) (by unfold bn;rw [h1];rfl) (by unfold bn;rw [h2];rfl)
   have h3:=hl.2
   rw [this] at h3
   cases h3
  rw [show (((s.extract i s.size).extract 0 3).toList == [239,191,189])=false from by simpa using this]
theorem HasPrefix_yes (s:ByteArray) (i:Nat) (w:World) (hi:i<s.size) (hd:(Utf8.decode s i).1=65533) (hl:¬ lost s i) :
  Calls Tryz.prog 133 #[.string (s.extract i s.size),.string ⟨#[239,191,189]⟩] w fun e w'=>e=.returned (.bool true)∧w=w':=by
 rcases fffd s i hi hd with h1 | ⟨_,h3,b0,b1,b2⟩
 ·exact (hl ⟨hd,h1⟩).elim
 ·refine (HasPrefix_long _ w (by simp [ByteArray.size_extract];omega)).mono ?_
  rintro e w' ⟨rfl,rfl⟩
  refine ⟨?_,rfl⟩
  have u:∀ (x:UInt8) (n:Nat),n<256→x.toNat=n→x=UInt8.ofNat n:=fun x n _ h=>by rw [← h];simp
  rw [ext3 s i h3,u _ 239 (by omega) b0,u _ 191 (by omega) b1,u _ 189 (by omega) b2]
  rfl
def KpT (n₀:Nat) (A B:World):Prop:=Below n₀ A B∧KeepsWalks A B
theorem KpT_b {n₀:Nat} {w:World} (hn:n₀≤w.heap.size) (W:World) (l:Nat) (o o':Obj) (hl:w.heap.size≤l) (h:W.heap[l]?=some o) (hc:o.isCells=false) (hw:o.isWalk=false):KpT n₀ W (W.putObj l o') :=
 ⟨belowK_b hn W l o o' hl h hc hw,walksK_b (w:=w) W l o o' hl h hc hw⟩
abbrev encT (x:Nat × Int):Array Value:=#[.int .i64 x.1,.int .i32 x.2]
theorem cutting_any (s:ByteArray) (w:World) :
  Calls Tryz.prog 196 #[.string s] w fun e w'=>e=.returned (.func (.func 217) #[] #[.pointer (some ⟨w.heap.size,0,none⟩)])∧w.alloc (.cells #[.string s] 9)=w':=by
 go_enter Tryz.func196,Tryz.ntmps196
 go_wp2
 go_ret
 exact ⟨rfl,rfl⟩
abbrev CutT (s:ByteArray):={x:Nat × Int // x ∈ cuts s}
end Go.Proofs.YtikbegmodacopaaGreatDoor
namespace Go.Proofs.YtikbegmodacopaaGreatDoor
set_option maxRecDepth 100000
open Go.RowKit Go.PlainAid Go.Shelf
def updA (a:Act) (p q P Q:Nat) (x:Nat × Int):Act :=
 { tmps:=(((a.tmps.setIfInBounds p (.int .i64 x.1)).setIfInBounds q (.int .i32 x.2)).setIfInBounds P (.int .i64 x.1)).setIfInBounds Q (.int .i32 x.2),defers:=[] }
theorem ownFrom_obj {β:Type} {B D:Nat} {o:Obj} (hD:D<B):OwnFrom B (fun (_:β) W=>W.heap[D]?=some o):=fun _ _ _ _ hs hg hr =>
 (hg.block D (Array.getElem?_eq_some_iff.1 hs).1 (fun e=>by have:=(hr D e.symm).1;omega)).trans hs
theorem putObj_heap_ne {W:World} {k l:Nat} {o:Obj} (h:k≠l):(W.putObj l o).heap[k]?=W.heap[k]?:=World.putObj_heap_other h
theorem fold2 (t:Array Value) (p q:Nat) (x:Nat × Int):(#[p,q].zip (encT x)).foldl (fun t (p,v)=>t.setIfInBounds p v) t=(t.setIfInBounds p (.int .i64 x.1)).setIfInBounds q (.int .i32 x.2):=by
 simp [encT]
section
variable {g:Operand} {p q P' Q':Nat} {assign body:Code} {Q:Exit→Act→World→Prop} {a:Act} {w:World} {Bn n₀ n:Nat} {s:ByteArray}
end
end Go.Proofs.YtikbegmodacopaaGreatDoor
namespace Go.Proofs.YtikbegmodacopaaGreatDoor
open Go.RowKit Go.PlainAid Go.Shelf
def KpB (Bn:Nat) (A B:World):Prop:=(Bn<A.heap.size→B.heap[Bn]?=A.heap[Bn]?)∧KeepsWalks A B
theorem KpB_t {Bn:Nat} {A B C:World} (h:KpB Bn A B) (k:KpB Bn B C):KpB Bn A C:=⟨fun g=>(k.1 (Nat.lt_of_lt_of_le g h.2.size)).trans (h.1 g),h.2.trans k.2⟩
theorem KpB_cell {Bn:Nat} {A B:World} (h:KpB Bn A B) (g:Bn<A.heap.size):B.cell? ⟨Bn,0,none⟩=A.cell? ⟨Bn,0,none⟩:=World.cell?_of_block (h.1 g)
theorem KpB_b {Bn B:Nat} (hB:Bn<B) (W:World) (l:Nat) (o o':Obj) (hl:B≤l) (h:W.heap[l]?=some o) (hc:o.isCells=false) (hw:o.isWalk=false):KpB Bn W (W.putObj l o') :=
 ⟨fun _=>putObj_heap_ne (by omega),(KpT_b (n₀:=B) (w:={ W with heap:=W.heap.extract 0 B }) (by have:=(Array.getElem?_eq_some_iff.1 h).1;simp;omega) W l o o' (by simp;omega) h hc hw).2⟩
set_option maxRecDepth 100000 in
set_option maxHeartbeats 1000000 in
theorem cut1_inB (n:Nat) (hn:1≤n) (l Bn B:Nat) (s:ByteArray) (J Jx:List (Nat × Int)→World→Prop) (hJ:AbidesFrom B J)
  (hY:∀ pre x W,x ∈ cuts s→J pre W→pre.length<(cuts s).length→YieldAt Fence.wide (n - 1) Tryz.prog l (encT x) W fun e W' =>
    (e=.returned (.bool true)∧J (pre ++ [x]) W'∧KpB Bn W W')∨(e=.returned (.bool false)∧Jx (pre ++ [x]) W'))
  (W:World) (hB:B≤W.heap.size) (hBn:Bn<W.heap.size) (hc:W.cell? ⟨Bn,0,none⟩=some (.string s)) (h0:J [] W) :
  CallsIn Fence.wide n Tryz.prog 217 #[.func (.yield l) #[] #[],.pointer (some ⟨Bn,0,none⟩)] W fun e W'=>(∃ v,e=.returned v) ∧
   ((∃ ys,ys=cuts s∧J ys W')∨(∃ pre,pre <+: cuts s∧Jx pre W')):=by
 refine callsIn_of_wp Tryz.func217 rfl trivial ?_ rfl
 simp only [Tryz.ntmps217,List.size_toArray,List.length_cons,List.length_nil,Nat.reduceAdd,Nat.reduceSub,Array.replicate_succ,Array.replicate_zero,List.push_toArray,List.append_toArray,List.nil_append,List.cons_append]
 have hWi:(W.iter s 0).heap[W.heap.size]?=some (.stringIter s 0):=World.iter_heap W s 0
 have hsz:W.heap.size<(W.iter s 0).heap.size:=(Array.getElem?_eq_some_iff.1 hWi).1
 have hK0:KpB Bn W (W.iter s 0):=⟨fun h=>Below.heap_alloc _ _ _ h,KeepsWalks.alloc _ _⟩
 have hJ0:J [] (W.iter s 0):=hJ [] W (W.iter s 0) none h0 (World.grownBy_alloc W _ none) (fun r h=>by cases h)
 obtain ⟨bi,hbi⟩:∃ bi,bi=W.heap.size:=⟨_,rfl⟩
 have Hbi:=hide_ hbi
 gi_wp2
 gi_loopw [7] (fun _ wr=>∃ (pre:List (Nat × Int)) (pos:Nat),cuts s=pre ++ cutsAt s pos∧pos≤s.size∧wr.heap[W.heap.size]?=some (.stringIter s pos)∧wr.cell? ⟨Bn,0,none⟩=some (.string s)∧KpB Bn W wr∧J pre wr) (fun _ wr=>s.size - wr.iterPos W.heap.size)
 case atStart=>exact ⟨[],0,(cuts_at s),Nat.zero_le _,hWi,(KpB_cell hK0 hBn).trans hc,hK0,hJ0⟩
 case round =>
  clear hWi hsz hK0 hJ0
  obtain ⟨pre,pos,hcut,hpos,hit,hcs,hK,hJs⟩:=hrel
  have HC:=hide_ hcut
  have HIT:=hide_ hit
  clear hcut
  by_cases hlt:pos<s.size
  ·have hnx0:=fun ty=>Lib.run_next_any_at (P:=Tryz.prog) wr W.heap.size s pos ty hit hlt
   have hgr:wr.grownBy (wr.iterAt W.heap.size s (pos+cutN s pos)) (some W.heap.size):=⟨rfl,rfl,rfl,by rw [Lib.iterAt_size];exact Nat.le_refl _,fun k _ hk=>Lib.iterAt_other wr W.heap.size k s _ (fun e=>hk (by rw [e]))⟩
   have hJ1:J pre (wr.iterAt W.heap.size s (pos+cutN s pos)):=hJ pre wr _ _ hJs hgr (fun r e=>by cases e;exact ⟨hB,_,hit,rfl⟩)
   have hK1:KpB Bn W (wr.iterAt W.heap.size s (pos+cutN s pos)):=⟨fun h=>(Lib.iterAt_other _ _ _ _ _ (by omega)).trans (hK.1 h),⟨by rw [Lib.iterAt_size];exact hK.2.size,fun k o hk ho=>by
    have hlt':k<W.heap.size:=(Array.getElem?_eq_some_iff.1 hk).1
    rw [Lib.iterAt_other _ _ _ _ _ (by omega)]
    exact hK.2.same k o hk ho⟩⟩
   have hit1:(wr.iterAt W.heap.size s (pos+cutN s pos)).heap[W.heap.size]?=some (.stringIter s (pos+cutN s pos)):=Lib.iterAt_heap _ _ _ _ _ hit
   have hcs1:(wr.iterAt W.heap.size s (pos+cutN s pos)).cell? ⟨Bn,0,none⟩=some (.string s):=by
    rw [World.cell?_of_block (w:=wr) (Lib.iterAt_other wr W.heap.size Bn s _ (by omega))];exact hcs
   have hnp:=cutN_pos s pos
   have hnf:=cutN_fits s pos hlt
   have hlen:pre.length<(cuts s).length:=by rw [HC.out,cutsAt_lt s pos hlt];simp
   have HS:=hide_ (show cuts s=(pre ++ [(pos,cutR s pos)]) ++ cutsAt s (pos+cutN s pos) by rw [HC.out,cutsAt_lt s pos hlt];simp)
   have HM:=hide_ (iterPos_of hit)
   obtain ⟨w1,hw1⟩:∃ w1,w1=wr.iterAt W.heap.size s (pos+cutN s pos):=⟨_,rfl⟩
   obtain ⟨c,hcd⟩:∃ c:Int,c=((Utf8.decode s pos).1:Int):=⟨_,rfl⟩
   rw [← hw1] at hJ1 hK1 hit1 hcs1
   have hnx:∀ ty,(Instr.next (.pointer (some ⟨W.heap.size,0,none⟩)) true ty).run Tryz.prog wr=.ok (.tuple #[.bool true,.int .i64 pos,.int .i32 c]) w1:=fun ty=>by rw [hnx0 ty,hcd,hw1];rfl
   have HN:=hide_ hit1
   have HK:=hide_ hK1
   have HD:=hide_ hcd
   have HIB:=hide_ hbi
   clear hnx0 hit HIT hgr hK hJs hw1 hit1 hK1 hcd hcs hbi Hbi HC
   have hc32:0≤c∧c≤1114111:=by
    have:=(decodeN_rune (s.size - pos) (s.get! pos).toNat (s.get! (pos+1)).toNat (s.get! (pos+2)).toNat (s.get! (pos+3)).toNat).1
    rw [← Lib.decode_at] at this
    rw [HD.out];omega
   have fin:∀ r:Int,r=cutR s pos→YieldAt Fence.wide (n - 1) Tryz.prog l #[.int .i64 pos,.int .i32 r] w1 fun e W' =>
     (e=.returned (.bool true)∧J (pre ++ [(pos,cutR s pos)]) W'∧KpB Bn w1 W')∨(e=.returned (.bool false)∧Jx (pre ++ [(pos,cutR s pos)]) W'):=fun r hr=>by
    have:=hY pre (pos,cutR s pos) w1 (by rw [HS.out];simp) hJ1 hlen
    rw [hr]
    exact this
   clear hY hJ hJ1
   by_cases hl:lost s pos
   ·have hd:(c == 65533)=true:=by rw [HD.out,hl.1];rfl
    have hb:=get_bt s
    have hb0:=bt_nonneg s pos
    have hb1:=bt_le s pos
    obtain ⟨fn,tmps,assign,body,hy,hR⟩:=fin (-1 - bt s pos) (by unfold cutR;rw [if_pos hl,bt_eq s pos hlt])
    clear fin
    gi_wp2_with (refine ⟨trivial,?_⟩;gi_at_call 133;refine (callsIn_wide.2 (HasPrefix_no s pos _ hl)).mono ?_;rintro e w' ⟨rfl,rfl⟩)
    refine hR.mono ?_
    rintro e W3 (⟨rfl,hJ3,hk3⟩ | ⟨rfl,hJx3⟩)
    ·gi_wp2
     go_roundw
     case rel=>exact ⟨_,_,HS.out,hnf,hk3.2.same _ _ HN.out rfl,(KpB_cell hk3 (Nat.lt_of_lt_of_le hBn HK.out.2.size)).trans hcs1,KpB_t HK.out hk3,hJ3⟩
     case measure=>rw [iterPos_of (hk3.2.same _ _ HN.out rfl),HM.out];omega
    ·gi_wp2
     refine bodyPost_ret (results_none rfl _ _ _) rfl ?_
     exact ⟨⟨_,rfl⟩,.inr ⟨_,⟨_,HS.out.symm⟩,hJx3⟩⟩
   ·by_cases hf:(Utf8.decode s pos).1=65533
    ·obtain rfl:c=65533:=by rw [HD.out,hf];rfl
     obtain ⟨fn,tmps,assign,body,hy,hR⟩:=fin 65533 (by unfold cutR;rw [if_neg hl,hf];rfl)
     clear fin
     gi_wp2_with (refine ⟨trivial,?_⟩;gi_at_call 133;refine (callsIn_wide.2 (HasPrefix_yes s pos _ hlt hf hl)).mono ?_;rintro e w' ⟨rfl,rfl⟩)
     refine hR.mono ?_
     rintro e W3 (⟨rfl,hJ3,hk3⟩ | ⟨rfl,hJx3⟩)
     ·gi_wp2
      go_roundw
      case rel=>exact ⟨_,_,HS.out,hnf,hk3.2.same _ _ HN.out rfl,(KpB_cell hk3 (Nat.lt_of_lt_of_le hBn HK.out.2.size)).trans hcs1,KpB_t HK.out hk3,hJ3⟩
      case measure=>rw [iterPos_of (hk3.2.same _ _ HN.out rfl),HM.out];omega
     ·gi_wp2
      refine bodyPost_ret (results_none rfl _ _ _) rfl ?_
      exact ⟨⟨_,rfl⟩,.inr ⟨_,⟨_,HS.out.symm⟩,hJx3⟩⟩
    ·have hd:(c == 65533)=false:=by rw [HD.out,beq_eq_false_iff_ne];omega
     obtain ⟨fn,tmps,assign,body,hy,hR⟩:=fin c (by unfold cutR;rw [if_neg hl,HD.out])
     clear fin
     gi_wp2
     refine ⟨trivial,?_⟩
     gi_wp2
     refine hR.mono ?_
     rintro e W3 (⟨rfl,hJ3,hk3⟩ | ⟨rfl,hJx3⟩)
     ·gi_wp2
      go_roundw
      case rel=>exact ⟨_,_,HS.out,hnf,hk3.2.same _ _ HN.out rfl,(KpB_cell hk3 (Nat.lt_of_lt_of_le hBn HK.out.2.size)).trans hcs1,KpB_t HK.out hk3,hJ3⟩
      case measure=>rw [iterPos_of (hk3.2.same _ _ HN.out rfl),HM.out];omega
     ·gi_wp2
      refine bodyPost_ret (results_none rfl _ _ _) rfl ?_
      exact ⟨⟨_,rfl⟩,.inr ⟨_,⟨_,HS.out.symm⟩,hJx3⟩⟩
  ·have hnx:=fun ty=>Lib.run_next_end_at (P:=Tryz.prog) wr W.heap.size s pos ty hit hlt
   clear hit
   gi_wp2
   go_end0
   exact ⟨⟨_,rfl⟩,.inl ⟨pre,by rw [HC.out,cutsAt_ge s pos (by omega),List.append_nil],hJs⟩⟩
theorem cut_stopsB (n:Nat) (hn:1≤n) (Bn:Nat) (s:ByteArray) (w:World) (hBn:Bn<w.heap.size) (hc:w.cell? ⟨Bn,0,none⟩=some (.string s)) :
  SeqStopsK Fence.wide n Tryz.prog 217 #[.pointer (some ⟨Bn,0,none⟩)] (fun (x:CutT s)=>encT x.1) (KpB Bn) (fun ys=>ys.map (·.1)=cuts s) (fun pre=>pre.map (·.1) <+: cuts s) (cuts s).length w:=fun l J Jx W hW hJ _ hY h0=>by
 refine (cut1_inB n hn l Bn W.heap.size s (fun pre W=>∃ p:List (CutT s),p.map (·.1)=pre∧J p W) (fun pre W=>∃ p:List (CutT s),p.map (·.1)=pre∧Jx p W)
  (fun pre A B row hs hg hr=>by obtain ⟨p,hp,hj⟩:=hs;exact ⟨p,hp,hJ p A B row hj hg hr⟩)
  (fun pre x V hx hj hl=>?_) W (Nat.le_refl _) (Nat.lt_of_lt_of_le hBn hW.size) ((hW.cell (p:=⟨Bn,0,none⟩) (by simp;omega)).trans hc) ⟨[],rfl,h0⟩).mono ?_
 ·obtain ⟨p,rfl,hj⟩:=hj
  refine (hY p ⟨x,hx⟩ V hj (by simpa using hl)).mono ?_
  rintro e V' (⟨he,hj',hk⟩ | ⟨he,hj'⟩)
  ·exact .inl ⟨he,⟨_,by simp,hj'⟩,hk⟩
  ·exact .inr ⟨he,_,by simp,hj'⟩
 ·rintro e V' ⟨he,⟨ys,rfl,p,hp,hj⟩ | ⟨pre,hpre,p,rfl,hj⟩⟩
  ·exact ⟨he,.inl ⟨p,hp,hj⟩⟩
  ·exact ⟨he,.inr ⟨p,hpre,hj⟩⟩
section
variable {g:Operand} {p q P' Q':Nat} {assign body:Code} {Q:Exit→Act→World→Prop} {a:Act} {w:World} {Bn n:Nat} {s:ByteArray}
theorem rangeB (hn:6≤n) (hg:a.eval g=.func (.func 217) #[] #[.pointer (some ⟨Bn,0,none⟩)]) (hBn:Bn<w.heap.size) (hc:w.cell? ⟨Bn,0,none⟩=some (.string s))
  (I:List (Nat × Int)→World→Prop) (Ix:Code→List (Nat × Int)→World→Prop) (hI:OwnFrom w.heap.size I) (hIx:∀ c,OwnFrom w.heap.size (Ix c)) (h0:I [] w)
  (hassign:∀ (l:Nat) (x:Nat × Int) (W:World) (K:Act→World→Prop),K (updA a p q P' Q' x) W →
    assign.wpIn (Fence.wide.inRound l) (n - 1 - 1) Tryz.prog (Exit.then K (fun _ _ _=>False)) { tmps:=(a.tmps.setIfInBounds p (.int .i64 x.1)).setIfInBounds q (.int .i32 x.2),defers:=[] } W)
  (hbody:∀ (l:Nat) (pre:List (Nat × Int)) (x:Nat × Int) (W:World),x ∈ cuts s→w.heap.size≤l→(∃ r,W.heap[l]?=some (.loop r))→I pre W→pre.length<(cuts s).length →
    body.wpIn (Fence.wide.inRound l) (n - 1 - 1) Tryz.prog (ownPostG w.heap.size (KpB Bn) I Ix (pre ++ [x]) W) (updA a p q P' Q' x) W)
  (hdone:∀ (D:Nat) (W:World),w.heap.size≤D→I (cuts s) W→W.heap[D]?=some (.deferred (some []))→Q .normal { a with defers:={ target:=.collected D,args:=#[] } :: a.defers } W)
  (hstop:∀ (D:Nat) (c:Code) (pre:List (Nat × Int)) (W:World),w.heap.size≤D→pre <+: cuts s→Ix c pre W→W.heap[D]?=some (.deferred (some []))→c.wpIn Fence.wide n Tryz.prog Q { a with defers:={ target:=.collected D,args:=#[] } :: a.defers } W) :
  (Code.rangeFunc g #[p,q] assign body).wpIn Fence.wide n Tryz.prog Q a w :=
 wpIn_rangeFunc_ownH rfl (by omega) hg trivial (enters_of Tryz.func217 (by kernel_rfl) rfl) (cut_stopsB (n - 1) (by omega) Bn s w hBn hc) KpB_t (KpB_b hBn) (Below.refl _ _) (fun _=>rfl)
  (fun pre=>I (pre.map (·.1))) (fun c pre=>Ix c (pre.map (·.1))) (fun pre=>hI (pre.map (·.1))) (fun c pre=>hIx c (pre.map (·.1))) h0 (fun x a' _=>a'=updA a p q P' Q' x.1) (fun _ _ _ _ _ _ hs _ _=>hs)
  (fun l pre x W K hi hK=>by rw [fold2];exact hassign l x.1 W K (hK _ _ (KeepsFrom.refl _ _) ⟨fun _=>rfl,KeepsWalks.refl _⟩ hi rfl))
  (fun l pre x a' W hl hr hi e hlen=>by
    subst e
    have:=hbody l (pre.map (·.1)) x.1 W x.2 hl hr hi (by simpa using hlen)
    rw [show pre.map (·.1) ++ [x.1]=(pre ++ [x]).map (·.1) by simp] at this
    exact this)
  (fun D xs W hD hS hi hk=>by
    have hS':xs.map (·.1)=cuts s:=hS
    simp only [hS'] at hi
    exact hdone D W hD hi hk)
  (fun D c pre W hD hS hi hk=>hstop D c (pre.map (·.1)) W hD hS hi hk)
end
end Go.Proofs.YtikbegmodacopaaGreatDoor
