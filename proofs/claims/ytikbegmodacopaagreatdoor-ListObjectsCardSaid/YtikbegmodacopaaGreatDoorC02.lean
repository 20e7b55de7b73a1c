/-
  Joined and packed by program.
-/
import Derived.Test.YtikbegmodacopaaGreatDoorC01
import Derived.Test.YtikbegmodacopaaGreatDoorProg
import Derived.Laws.EntriesVeiled
import Derived.Laws.BytesArg
namespace Go.Proofs.YtikbegmodacopaaGreatDoor
set_option maxRecDepth 100000
open Go.RowKit Go.PlainAid
def hexD (c:Int):Int:=if 48≤c∧c≤57 then c - 48 else if 97≤c∧c≤102 then c - 87 else if 65≤c∧c≤70 then c - 55 else -1
theorem hexD_bd (c:Int) : -1≤hexD c∧hexD c≤15:=by unfold hexD;split <;> (try split) <;> (try split) <;> omega
def hexN (s:ByteArray) (i:Nat):Nat→Int
 | 0=>0
 | n+1=>if hexN s i n<0∨hexD (bn s (i+n))<0 then -1 else hexN s i n * 16+hexD (bn s (i+n))
theorem hexN_bd (s:ByteArray) (i n:Nat) : -1≤hexN s i n∧hexN s i n<16 ^ n:=by
 induction n with
 | zero=>simp [hexN]
 | succ n ih =>
  have h:=hexD_bd (bn s (i+n))
  have hp:(0:Int)<16 ^ n:=Int.pow_pos (by decide)
  rw [hexN]
  split
  ·rw [Int.pow_succ];omega
  ·rw [Int.pow_succ];omega
theorem hexN_neg (s:ByteArray) (i n m:Nat) (h:hexN s i n<0) (hm:n≤m):hexN s i m = -1:=by
 induction m with
 | zero =>
  obtain rfl:n=0:=by omega
  simp [hexN] at h
 | succ m ih =>
  rcases Nat.lt_or_ge m n with c | c
  ·obtain rfl:n=m+1:=by omega
   have:=(hexN_bd s i (m+1)).1
   omega
  ·rw [hexN,if_pos (.inl (by rw [ih c];omega))]
theorem hexN_step (s:ByteArray) (i n:Nat) (h:0≤hexN s i n) (hd:0≤hexD (bn s (i+n))):hexN s i (n+1)=hexN s i n * 16+hexD (bn s (i+n)):=by
 rw [hexN,if_neg (by omega)]
theorem hexN_bad (s:ByteArray) (i n m:Nat) (hd:hexD (bn s (i+n))<0) (hm:n<m):hexN s i m = -1 :=
 hexN_neg s i (n+1) m (by rw [hexN,if_pos (.inr hd)];decide) hm
def hexW (s:ByteArray) (i n:Nat):Int:=if i+n≤s.size then hexN s i n else -1
theorem bn_extract (s:ByteArray) (a k:Nat) (h:a+k<s.size):bn (s.extract a s.size) k=bn s (a+k):=by
 have h1:k<(s.extract a s.size).size:=by rw [ByteArray.size_extract];omega
 rw [← bn_eq _ _ h1,← bn_eq _ _ h,ByteArray.getElem_extract]
theorem size_ext (s:ByteArray) (a:Nat):(s.extract a s.size).size=s.size - a:=by rw [ByteArray.size_extract];omega
theorem hexN_ext (s:ByteArray) (a i n:Nat) (h:a+i+n≤s.size):hexN (s.extract a s.size) i n=hexN s (a+i) n:=by
 induction n with
 | zero=>rfl
 | succ n ih=>rw [hexN,hexN,ih (by omega),bn_extract s a (i+n) (by omega),Nat.add_assoc]
theorem hexW_ext (s:ByteArray) (a i n:Nat) (h:a≤s.size):hexW (s.extract a s.size) i n=hexW s (a+i) n:=by
 unfold hexW
 rw [size_ext]
 by_cases c:a+i+n≤s.size
 ·rw [if_pos (by omega),if_pos c,hexN_ext s a i n c]
 ·rw [if_neg (by omega),if_neg c]
theorem hexW_bd (s:ByteArray) (i n:Nat) : -1≤hexW s i n∧hexW s i n<16 ^ n:=by
 unfold hexW
 split
 ·exact hexN_bd s i n
 ·have hp:(0:Int)<16 ^ n:=Int.pow_pos (by decide)
  omega
end Go.Proofs.YtikbegmodacopaaGreatDoor
namespace Go.Proofs.YtikbegmodacopaaGreatDoor
set_option maxRecDepth 100000
open Go.RowKit Go.PlainAid
theorem i32_or16 (x y:Int) (hx:0≤x) (hx':x<16777216) (h0:0≤y) (h1:y<16):bits .or .i32 (x * 16) y=x * 16+y:=bits_join .i32 31 (by decide) wraps_i32 4 (x * 16) y (by omega) (by omega) (by omega) h0 (by omega) (by omega)
theorem hex_any (c:Int) (w:World) (h0:0≤c) (h1:c<256) :
  Calls Tryz.prog 242 #[.int .u8 c] w fun e w'=>e=.returned (.int .i32 (hexD c))∧w=w':=by
 rcases (show c<48∨(48≤c∧c≤57)∨(57<c∧c<65)∨(65≤c∧c≤70)∨(70<c∧c<97)∨(97≤c∧c≤102)∨102<c by omega) with a | ⟨a,b⟩ | ⟨a,b⟩ | ⟨a,b⟩ | ⟨a,b⟩ | ⟨a,b⟩ | a
 ·rw [show hexD c = -1 by unfold hexD;rw [if_neg (by omega),if_neg (by omega),if_neg (by omega)]]
  go_enter Tryz.func242,Tryz.ntmps242
  go_wp2
  go_ret
  exact ⟨rfl,rfl⟩
 ·have p:(c - 48) % 256=c - 48:=by omega
  rw [show hexD c=c - 48 by unfold hexD;rw [if_pos (by omega)]]
  go_enter Tryz.func242,Tryz.ntmps242
  go_wp2
  go_ret
  exact ⟨rfl,rfl⟩
 ·rw [show hexD c = -1 by unfold hexD;rw [if_neg (by omega),if_neg (by omega),if_neg (by omega)]]
  go_enter Tryz.func242,Tryz.ntmps242
  go_wp2
  go_ret
  exact ⟨rfl,rfl⟩
 ·have p:(c - 65) % 256=c - 65:=by omega
  rw [show hexD c=c - 65+10 by unfold hexD;rw [if_neg (by omega),if_neg (by omega),if_pos (by omega)];omega]
  go_enter Tryz.func242,Tryz.ntmps242
  go_wp2
  go_ret
  exact ⟨rfl,rfl⟩
 ·rw [show hexD c = -1 by unfold hexD;rw [if_neg (by omega),if_neg (by omega),if_neg (by omega)]]
  go_enter Tryz.func242,Tryz.ntmps242
  go_wp2
  go_ret
  exact ⟨rfl,rfl⟩
 ·have p:(c - 97) % 256=c - 97:=by omega
  rw [show hexD c=c - 97+10 by unfold hexD;rw [if_neg (by omega),if_pos (by omega)];omega]
  go_enter Tryz.func242,Tryz.ntmps242
  go_wp2
  go_ret
  exact ⟨rfl,rfl⟩
 ·rw [show hexD c = -1 by unfold hexD;rw [if_neg (by omega),if_neg (by omega),if_neg (by omega)]]
  go_enter Tryz.func242,Tryz.ntmps242
  go_wp2
  go_ret
  exact ⟨rfl,rfl⟩
theorem hexN_16 (s:ByteArray) (i n:Nat) (hn:n≤4):hexN s i n<65536:=by
 have h:=(hexN_bd s i n).2
 have:(16:Int) ^ n≤16 ^ 4:=by exact_mod_cast Nat.pow_le_pow_right (by decide) hn
 omega
set_option maxHeartbeats 400000 in
theorem number_any (t:ByteArray) (n:Nat) (w:World) (hn:n≤4) :
  Calls Tryz.prog 240 #[.string t,.int .i64 n] w fun e w'=>((hexW t 0 n<0∧e=.returned (.tuple #[.int .i32 0,.bool false]))∨(0≤hexW t 0 n∧e=.returned (.tuple #[.int .i32 (hexW t 0 n),.bool true])))∧w=w':=by
 by_cases hs:t.size<n
 ·have hW:hexW t 0 n = -1:=by unfold hexW;rw [if_neg (by omega)]
  rw [hW]
  go_enter Tryz.func240,Tryz.ntmps240
  go_wp2
  go_ret2
  exact ⟨.inl ⟨by decide,rfl⟩,rfl⟩
 ·have hW:hexW t 0 n=hexN t 0 n:=by unfold hexW;rw [if_pos (by omega)]
  have HW:=hide_ hW
  clear hW
  go_enter Tryz.func240,Tryz.ntmps240
  go_wp2
  go_loopw [6,14] (fun x i wr=>∃ k:Nat,k≤n∧i=.int .i64 k∧x=.int .i32 (hexN t 0 k)∧0≤hexN t 0 k∧wr=w) (fun _ i _=>n - (intOf i).toNat)
  case atStart=>exact ⟨0,Nat.zero_le _,rfl,rfl,Int.le_refl _,rfl⟩
  case round =>
   obtain ⟨k,hk,rfl,rfl,hx,rfl⟩:=hrel
   by_cases hlt:k<n
   ·have hbt:=get_bt t
    have hb0:=bt_nonneg t k
    have hb1:=bt_le t k
    have hbe:=bt_eq t k (by omega)
    have hbd:=hexD_bd (bt t k)
    have h16:=hexN_16 t 0 k (by omega)
    obtain ⟨d,hd⟩:∃ d,d=hexD (bt t k):=⟨_,rfl⟩
    have hcall:=fun W=>hex_any (bt t k) W (by omega) (by omega)
    simp only [← hd] at hcall hbd
    have HB:=hide_ (show hexD (bn t (0+k))=d by rw [hd,hbe,Nat.zero_add])
    have HN:=hide_ (hexN_bad t 0 k n)
    have HS:=hide_ (hexN_step t 0 k)
    obtain ⟨x,hxx⟩:∃ x,x=hexN t 0 k:=⟨_,rfl⟩
    have HX:=hide_ hxx
    rw [← hxx] at hx h16 ⊢
    have HCALL:=hide_ hcall
    clear hcall hd hbe hxx
    by_cases hneg:d<0
    ·go_wp2_with (go_at_call 242;refine (HCALL.out _).mono ?_;rintro e w' ⟨rfl,rfl⟩)
     go_ret2
     have:hexW t 0 n = -1:=by rw [HW.out];exact HN.out (by rw [HB.out];exact hneg) hlt
     rw [this]
     exact ⟨.inl ⟨by decide,rfl⟩,rfl⟩
    ·have ho:=i32_or16 x d hx (by omega) (by omega) (by omega)
     go_wp2_with (go_at_call 242;refine (HCALL.out _).mono ?_;rintro e w' ⟨rfl,rfl⟩)
     go_roundw
     case rel =>
      refine ⟨k+1,by omega,by go_num,?_,?_,by trivial⟩
      ·rw [HS.out (by rw [← HX.out];exact hx) (by rw [HB.out];omega),HB.out,← HX.out]
      ·rw [HS.out (by rw [← HX.out];exact hx) (by rw [HB.out];omega),HB.out,← HX.out];omega
     case measure=>simp [intOf];omega
   ·obtain rfl:k=n:=by omega
    go_wp2
    go_ret2
    rw [HW.out]
    exact ⟨.inr ⟨hx,rfl⟩,rfl⟩
end Go.Proofs.YtikbegmodacopaaGreatDoor
namespace Go.Proofs.YtikbegmodacopaaGreatDoor
set_option maxRecDepth 100000
open Go.RowKit Go.PlainAid
theorem get!_ge (s:ByteArray) (k:Nat) (h:s.size≤k):s.get! k=0:=by
 unfold ByteArray.get!
 have:s.data[k]?=none:=Array.getElem?_eq_none (by simpa using h)
 simp only [getElem!_def,this]
 rfl
theorem get!_ext (s:ByteArray) (a k:Nat) (h:a≤s.size):(s.extract a s.size).get! k=s.get! (a+k):=by
 rcases Nat.lt_or_ge (a+k) s.size with c | c
 ·rw [get!_eq _ k (by rw [size_ext];omega),get!_eq s (a+k) c,ByteArray.getElem_extract]
 ·rw [get!_ge _ k (by rw [size_ext];omega),get!_ge s _ c]
theorem decode_ext (s:ByteArray) (a k:Nat) (h:a≤s.size):Utf8.decode (s.extract a s.size) k=Utf8.decode s (a+k):=by
 rw [Lib.decode_at,Lib.decode_at,get!_ext s a _ h,get!_ext s a _ h,get!_ext s a _ h,get!_ext s a _ h,size_ext,Nat.sub_sub]
 rfl
theorem bn_ext (s:ByteArray) (a k:Nat) (h:a≤s.size):bn (s.extract a s.size) k=bn s (a+k):=by unfold bn;rw [get!_ext s a k h]
theorem cutN_ext (s:ByteArray) (a k:Nat) (h:a≤s.size):cutN (s.extract a s.size) k=cutN s (a+k):=by unfold cutN;rw [decode_ext s a k h]
theorem lost_ext (s:ByteArray) (a k:Nat) (h:a≤s.size):lost (s.extract a s.size) k ↔ lost s (a+k):=by unfold lost;rw [decode_ext s a k h]
theorem cutR_ext (s:ByteArray) (a k:Nat) (h:a≤s.size):cutR (s.extract a s.size) k=cutR s (a+k):=by
 unfold cutR
 rw [decode_ext s a k h,bn_ext s a k h]
 by_cases c:lost s (a+k)
 ·rw [if_pos c,if_pos ((lost_ext s a k h).2 c)]
 ·rw [if_neg c,if_neg (fun x=>c ((lost_ext s a k h).1 x))]
def escN (s:ByteArray) (i:Nat):Option (Int × Bool × Nat) :=
 if s.size≤i+1 then none
 else if bn s (i+1)=110 then some (10,true,2)
 else if bn s (i+1)=116 then some (9,true,2)
 else if bn s (i+1)=114 then some (13,true,2)
 else if bn s (i+1)=48 then some (0,true,2)
 else if bn s (i+1)=92∨bn s (i+1)=34∨bn s (i+1)=39 then some (bn s (i+1),true,2)
 else if bn s (i+1)=120 then (if hexW s (i+2) 2<0 then none else some (hexW s (i+2) 2,true,4))
 else if bn s (i+1)=117 then (if hexW s (i+2) 4<0∨(55296≤hexW s (i+2) 4∧hexW s (i+2) 4≤57343) then none else some (hexW s (i+2) 4,false,6))
 else none
theorem escN_ext (s:ByteArray) (a:Nat) (h:a≤s.size):escN (s.extract a s.size) 0=escN s a:=by
 unfold escN
 have e0:((s.extract a s.size).size≤0+1)=(s.size≤a+1):=by rw [size_ext];exact propext ⟨fun h=>by omega,fun h=>by omega⟩
 simp only [e0,bn_ext s a _ h,hexW_ext s a _ _ h,Nat.zero_add]
def sayN (s:ByteArray) (i:Nat):Int × Bool × Nat × Int :=
 if bn s i=92 then (match escN s i with | none=>(0,false,0,12) | some (c,b,k)=>(c,b,k,0))
 else if bn s i<32∨bn s i=127 then (0,false,0,10)
 else if lost s i then (0,false,0,13)
 else (((Utf8.decode s i).1:Int),false,cutN s i,0)
end Go.Proofs.YtikbegmodacopaaGreatDoor
namespace Go.Proofs.YtikbegmodacopaaGreatDoor
set_option maxRecDepth 100000
open Go.RowKit Go.PlainAid
theorem number_bad (t:ByteArray) (n:Nat) (m:Int) (hm:(n:Int)=m) (w:World) (hn:n≤4) (hx:hexW t 0 n<0) :
  Calls Tryz.prog 240 #[.string t,.int .i64 m] w fun e w'=>e=.returned (.tuple #[.int .i32 0,.bool false])∧w=w':=by
 subst hm
 refine (number_any t n w hn).mono ?_
 rintro e w' ⟨⟨h,rfl⟩ | ⟨h,rfl⟩,rfl⟩
 ·exact ⟨rfl,rfl⟩
 ·omega
theorem number_ok (t:ByteArray) (n:Nat) (m:Int) (hm:(n:Int)=m) (w:World) (hn:n≤4) (x:Int) (hx:hexW t 0 n=x) (h0:0≤x) :
  Calls Tryz.prog 240 #[.string t,.int .i64 m] w fun e w'=>e=.returned (.tuple #[.int .i32 x,.bool true])∧w=w':=by
 subst hm hx
 refine (number_any t n w hn).mono ?_
 rintro e w' ⟨⟨h,rfl⟩ | ⟨h,rfl⟩,rfl⟩
 ·omega
 ·exact ⟨rfl,rfl⟩
def EscOut (c:Int) (b:Bool) (k:Int) (ok:Bool) (w:World) (e:Ending) (w':World):Prop :=
 e=.returned (.tuple #[.agg #[.int .i32 c,.bool b,.int .i64 k],.bool ok])∧w.alloc (.cells #[.int .i32 c,.bool b,.int .i64 k] 260)=w'
set_option maxHeartbeats 400000 in
theorem esc_short (t:ByteArray) (w:World) (h:t.size<2) :
  Calls Tryz.prog 232 #[.string t] w (EscOut 0 false 0 false w):=by
 have hbt:=get_bt t
 unfold EscOut
 go_enter Tryz.func232,Tryz.ntmps232
 go_wp2
 refine bodyPost_ret ?_ rfl ⟨rfl,rfl⟩
 simp [results,Tryz.results232,go_sem]
set_option maxHeartbeats 400000 in
theorem esc_n (t:ByteArray) (w:World) (h:2≤t.size) (h1:bt t 1=110) :
  Calls Tryz.prog 232 #[.string t] w (EscOut 10 true 2 true w):=by
 have hbt:=get_bt t
 unfold EscOut
 go_enter Tryz.func232,Tryz.ntmps232
 go_wp2
 refine bodyPost_ret ?_ rfl ⟨rfl,rfl⟩
 simp [results,Tryz.results232,go_sem]
set_option maxHeartbeats 400000 in
theorem esc_t (t:ByteArray) (w:World) (h:2≤t.size) (h1:bt t 1=116) :
  Calls Tryz.prog 232 #[.string t] w (EscOut 9 true 2 true w):=by
 have hbt:=get_bt t
 unfold EscOut
 go_enter Tryz.func232,Tryz.ntmps232
 go_wp2
 refine bodyPost_ret ?_ rfl ⟨rfl,rfl⟩
 simp [results,Tryz.results232,go_sem]
set_option maxHeartbeats 400000 in
theorem esc_r (t:ByteArray) (w:World) (h:2≤t.size) (h1:bt t 1=114) :
  Calls Tryz.prog 232 #[.string t] w (EscOut 13 true 2 true w):=by
 have hbt:=get_bt t
 unfold EscOut
 go_enter Tryz.func232,Tryz.ntmps232
 go_wp2
 refine bodyPost_ret ?_ rfl ⟨rfl,rfl⟩
 simp [results,Tryz.results232,go_sem]
set_option maxHeartbeats 400000 in
theorem esc_z (t:ByteArray) (w:World) (h:2≤t.size) (h1:bt t 1=48) :
  Calls Tryz.prog 232 #[.string t] w (EscOut 0 true 2 true w):=by
 have hbt:=get_bt t
 unfold EscOut
 go_enter Tryz.func232,Tryz.ntmps232
 go_wp2
 refine bodyPost_ret ?_ rfl ⟨rfl,rfl⟩
 simp [results,Tryz.results232,go_sem]
set_option maxHeartbeats 400000 in
theorem esc_b (t:ByteArray) (w:World) (h:2≤t.size) (h1:bt t 1=92) :
  Calls Tryz.prog 232 #[.string t] w (EscOut 92 true 2 true w):=by
 have hbt:=get_bt t
 unfold EscOut
 go_enter Tryz.func232,Tryz.ntmps232
 go_wp2
 refine bodyPost_ret ?_ rfl ⟨rfl,rfl⟩
 simp [results,Tryz.results232,go_sem]
set_option maxHeartbeats 400000 in
theorem esc_q (t:ByteArray) (w:World) (h:2≤t.size) (h1:bt t 1=34) :
  Calls Tryz.prog 232 #[.string t] w (EscOut 34 true 2 true w):=by
 have hbt:=get_bt t
 unfold EscOut
 go_enter Tryz.func232,Tryz.ntmps232
 go_wp2
 refine bodyPost_ret ?_ rfl ⟨rfl,rfl⟩
 simp [results,Tryz.results232,go_sem]
set_option maxHeartbeats 400000 in
theorem esc_a (t:ByteArray) (w:World) (h:2≤t.size) (h1:bt t 1=39) :
  Calls Tryz.prog 232 #[.string t] w (EscOut 39 true 2 true w):=by
 have hbt:=get_bt t
 unfold EscOut
 go_enter Tryz.func232,Tryz.ntmps232
 go_wp2
 refine bodyPost_ret ?_ rfl ⟨rfl,rfl⟩
 simp [results,Tryz.results232,go_sem]
set_option maxHeartbeats 400000 in
theorem esc_x_no (t:ByteArray) (w:World) (h:2≤t.size) (h1:bt t 1=120) (hx:hexW (t.extract 2 t.size) 0 2<0) :
  Calls Tryz.prog 232 #[.string t] w (EscOut 0 true 4 false w):=by
 have hbt:=get_bt t
 unfold EscOut
 go_enter Tryz.func232,Tryz.ntmps232
 go_wp2_with (go_at_call 240;refine (number_bad _ 2 2 rfl _ (by omega) hx).mono ?_;rintro e w' ⟨rfl,rfl⟩)
 refine bodyPost_ret ?_ rfl ⟨rfl,rfl⟩
 simp [results,Tryz.results232,go_sem]
set_option maxHeartbeats 400000 in
theorem esc_x_ok (t:ByteArray) (w:World) (h:2≤t.size) (h1:bt t 1=120) (x:Int) (hx:hexW (t.extract 2 t.size) 0 2=x) (h0:0≤x) :
  Calls Tryz.prog 232 #[.string t] w (EscOut x true 4 true w):=by
 have hbt:=get_bt t
 have HX:=hide_ hx
 clear hx
 unfold EscOut
 go_enter Tryz.func232,Tryz.ntmps232
 go_wp2_with (go_at_call 240;refine (number_ok _ 2 2 rfl _ (by omega) x HX.out h0).mono ?_;rintro e w' ⟨rfl,rfl⟩)
 refine bodyPost_ret ?_ rfl ⟨rfl,rfl⟩
 simp [results,Tryz.results232,go_sem]
set_option maxHeartbeats 400000 in
theorem esc_u_no (t:ByteArray) (w:World) (h:2≤t.size) (h1:bt t 1=117) (hx:hexW (t.extract 2 t.size) 0 4<0) :
  Calls Tryz.prog 232 #[.string t] w (EscOut 0 false 6 false w):=by
 have hbt:=get_bt t
 unfold EscOut
 go_enter Tryz.func232,Tryz.ntmps232
 go_wp2_with (go_at_call 240;refine (number_bad _ 4 4 rfl _ (by omega) hx).mono ?_;rintro e w' ⟨rfl,rfl⟩)
 refine bodyPost_ret ?_ rfl ⟨rfl,rfl⟩
 simp [results,Tryz.results232,go_sem]
set_option maxHeartbeats 400000 in
theorem esc_u_sur (t:ByteArray) (w:World) (h:2≤t.size) (h1:bt t 1=117) (x:Int) (hx:hexW (t.extract 2 t.size) 0 4=x) (h0:55296≤x) (h2:x≤57343) :
  Calls Tryz.prog 232 #[.string t] w (EscOut x false 6 false w):=by
 have hbt:=get_bt t
 have HX:=hide_ hx
 clear hx
 unfold EscOut
 go_enter Tryz.func232,Tryz.ntmps232
 go_wp2_with (go_at_call 240;refine (number_ok _ 4 4 rfl _ (by omega) x HX.out (by omega)).mono ?_;rintro e w' ⟨rfl,rfl⟩)
 refine bodyPost_ret ?_ rfl ⟨rfl,rfl⟩
 simp [results,Tryz.results232,go_sem]
 exact ⟨h0,h2⟩
set_option maxHeartbeats 400000 in
theorem esc_u_lo (t:ByteArray) (w:World) (h:2≤t.size) (h1:bt t 1=117) (x:Int) (hx:hexW (t.extract 2 t.size) 0 4=x) (h0:0≤x) (h2:x<55296) :
  Calls Tryz.prog 232 #[.string t] w (EscOut x false 6 true w):=by
 have hbt:=get_bt t
 have HX:=hide_ hx
 clear hx
 unfold EscOut
 go_enter Tryz.func232,Tryz.ntmps232
 go_wp2_with (go_at_call 240;refine (number_ok _ 4 4 rfl _ (by omega) x HX.out (by omega)).mono ?_;rintro e w' ⟨rfl,rfl⟩)
 refine bodyPost_ret ?_ rfl ⟨rfl,rfl⟩
 simp [results,Tryz.results232,go_sem]
set_option maxHeartbeats 400000 in
theorem esc_u_hi (t:ByteArray) (w:World) (h:2≤t.size) (h1:bt t 1=117) (x:Int) (hx:hexW (t.extract 2 t.size) 0 4=x) (h0:57343<x) :
  Calls Tryz.prog 232 #[.string t] w (EscOut x false 6 true w):=by
 have hbt:=get_bt t
 have HX:=hide_ hx
 clear hx
 unfold EscOut
 go_enter Tryz.func232,Tryz.ntmps232
 go_wp2_with (go_at_call 240;refine (number_ok _ 4 4 rfl _ (by omega) x HX.out (by omega)).mono ?_;rintro e w' ⟨rfl,rfl⟩)
 refine bodyPost_ret ?_ rfl ⟨rfl,rfl⟩
 simp [results,Tryz.results232,go_sem]
set_option maxHeartbeats 400000 in
theorem esc_other (t:ByteArray) (w:World) (h:2≤t.size) (n110:bt t 1≠110) (n116:bt t 1≠116) (n114:bt t 1≠114) (n48:bt t 1≠48) (n92:bt t 1≠92) (n34:bt t 1≠34) (n39:bt t 1≠39) (n120:bt t 1≠120) (n117:bt t 1≠117) :
  Calls Tryz.prog 232 #[.string t] w (EscOut 0 false 0 false w):=by
 have hbt:=get_bt t
 unfold EscOut
 go_enter Tryz.func232,Tryz.ntmps232
 go_wp2
 refine bodyPost_ret ?_ rfl ⟨rfl,rfl⟩
 simp [results,Tryz.results232,go_sem]
theorem escape_any (t:ByteArray) (w:World) :
  Calls Tryz.prog 232 #[.string t] w fun e w'=>((escN t 0=none∧∃ a b c,EscOut a b c false w e w')∨∃ c b,∃ k:Nat,escN t 0=some (c,b,k)∧EscOut c b k true w e w'):=by
 by_cases h:t.size<2
 ·refine (esc_short t w h).mono fun e w' ho=>.inl ⟨by unfold escN;rw [if_pos (by omega)],_,_,_,ho⟩
 have hb:=bt_eq t 1 (by omega)
 have hw2:=hexW_ext t 2 0 2 (by omega)
 have hw4:=hexW_ext t 2 0 4 (by omega)
 simp only [Nat.add_zero] at hw2 hw4
 have e0:escN t 0=(if bn t 1=110 then (some (10,true,2):Option (Int × Bool × Nat))
  else if bn t 1=116 then some (9,true,2)
  else if bn t 1=114 then some (13,true,2)
  else if bn t 1=48 then some (0,true,2)
  else if bn t 1=92∨bn t 1=34∨bn t 1=39 then some (bn t 1,true,2)
  else if bn t 1=120 then (if hexW t 2 2<0 then none else some (hexW t 2 2,true,4))
  else if bn t 1=117 then (if hexW t 2 4<0∨(55296≤hexW t 2 4∧hexW t 2 4≤57343) then none else some (hexW t 2 4,false,6))
  else none):=by unfold escN;rw [if_neg (by omega)]
 rw [e0]
 by_cases c110:bn t 1=110
 ·refine (esc_n t w (by omega) (by omega)).mono fun e w' ho=>.inr ⟨_,_,2,by rw [if_pos c110],ho⟩
 by_cases c116:bn t 1=116
 ·refine (esc_t t w (by omega) (by omega)).mono fun e w' ho=>.inr ⟨_,_,2,by rw [if_neg c110,if_pos c116],ho⟩
 by_cases c114:bn t 1=114
 ·refine (esc_r t w (by omega) (by omega)).mono fun e w' ho=>.inr ⟨_,_,2,by rw [if_neg c110,if_neg c116,if_pos c114],ho⟩
 by_cases c48:bn t 1=48
 ·refine (esc_z t w (by omega) (by omega)).mono fun e w' ho=>.inr ⟨_,_,2,by rw [if_neg c110,if_neg c116,if_neg c114,if_pos c48],ho⟩
 by_cases c92:bn t 1=92
 ·refine (esc_b t w (by omega) (by omega)).mono fun e w' ho=>.inr ⟨_,_,2,by rw [if_neg c110,if_neg c116,if_neg c114,if_neg c48,if_pos (by omega),c92];rfl,ho⟩
 by_cases c34:bn t 1=34
 ·refine (esc_q t w (by omega) (by omega)).mono fun e w' ho=>.inr ⟨_,_,2,by rw [if_neg c110,if_neg c116,if_neg c114,if_neg c48,if_pos (by omega),c34];rfl,ho⟩
 by_cases c39:bn t 1=39
 ·refine (esc_a t w (by omega) (by omega)).mono fun e w' ho=>.inr ⟨_,_,2,by rw [if_neg c110,if_neg c116,if_neg c114,if_neg c48,if_pos (by omega),c39];rfl,ho⟩
 by_cases c120:bn t 1=120
 ·by_cases hx:hexW t 2 2<0
  ·refine (esc_x_no t w (by omega) (by omega) (by omega)).mono fun e w' ho=>.inl ⟨by rw [if_neg c110,if_neg c116,if_neg c114,if_neg c48,if_neg (show ¬ (bn t 1=92∨bn t 1=34∨bn t 1=39) by omega),if_pos c120,if_pos hx],_,_,_,ho⟩
  ·refine (esc_x_ok t w (by omega) (by omega) _ hw2 (by omega)).mono fun e w' ho=>.inr ⟨_,_,4,by rw [if_neg c110,if_neg c116,if_neg c114,if_neg c48,if_neg (show ¬ (bn t 1=92∨bn t 1=34∨bn t 1=39) by omega),if_pos c120,if_neg hx],ho⟩
 by_cases c117:bn t 1=117
 ·by_cases hx:hexW t 2 4<0
  ·refine (esc_u_no t w (by omega) (by omega) (by omega)).mono fun e w' ho=>.inl ⟨by rw [if_neg c110,if_neg c116,if_neg c114,if_neg c48,if_neg (show ¬ (bn t 1=92∨bn t 1=34∨bn t 1=39) by omega),if_neg c120,if_pos c117,if_pos (.inl hx)],_,_,_,ho⟩
  by_cases hs:55296≤hexW t 2 4∧hexW t 2 4≤57343
  ·refine (esc_u_sur t w (by omega) (by omega) _ hw4 (by omega) (by omega)).mono fun e w' ho=>.inl ⟨by rw [if_neg c110,if_neg c116,if_neg c114,if_neg c48,if_neg (show ¬ (bn t 1=92∨bn t 1=34∨bn t 1=39) by omega),if_neg c120,if_pos c117,if_pos (.inr hs)],_,_,_,ho⟩
  have hn:¬ (hexW t 2 4<0∨55296≤hexW t 2 4∧hexW t 2 4≤57343):=by omega
  by_cases hl:hexW t 2 4<55296
  ·refine (esc_u_lo t w (by omega) (by omega) _ hw4 (by omega) (by omega)).mono fun e w' ho=>.inr ⟨_,_,6,by rw [if_neg c110,if_neg c116,if_neg c114,if_neg c48,if_neg (show ¬ (bn t 1=92∨bn t 1=34∨bn t 1=39) by omega),if_neg c120,if_pos c117,if_neg hn],ho⟩
  ·refine (esc_u_hi t w (by omega) (by omega) _ hw4 (by omega)).mono fun e w' ho=>.inr ⟨_,_,6,by rw [if_neg c110,if_neg c116,if_neg c114,if_neg c48,if_neg (show ¬ (bn t 1=92∨bn t 1=34∨bn t 1=39) by omega),if_neg c120,if_pos c117,if_neg hn],ho⟩
 refine (esc_other t w (by omega) (by omega) (by omega) (by omega) (by omega) (by omega) (by omega) (by omega) (by omega) (by omega)).mono fun e w' ho=>.inl ⟨by rw [if_neg c110,if_neg c116,if_neg c114,if_neg c48,if_neg (show ¬ (bn t 1=92∨bn t 1=34∨bn t 1=39) by omega),if_neg c120,if_neg c117],_,_,_,ho⟩
end Go.Proofs.YtikbegmodacopaaGreatDoor
namespace Go.Proofs.YtikbegmodacopaaGreatDoor
set_option maxRecDepth 100000
open Go.RowKit Go.PlainAid
section
variable (n b0 b1 b2 b3:Nat)
theorem dz1 (h:(128≤b0∧b0<192)∨248≤b0) (h0:b0<256):Lib.decodeN n b0 b1 b2 b3=(65533,1):=by
 unfold Lib.decodeN
 repeat' split
 all_goals first | rfl | (exfalso;omega)
theorem dz2 (h0:b1<256) (h:192≤b0∧b0<224) (hb:¬ (1<n∧128≤b1∧b1≤191∧128≤(b0 - 192) * 64+(b1 - 128))):Lib.decodeN n b0 b1 b2 b3=(65533,1):=by
 unfold Lib.decodeN
 repeat' split
 all_goals first | rfl | (exfalso;omega)
theorem dv2 (h:192≤b0∧b0<224) (hb:1<n∧128≤b1∧b1≤191∧128≤(b0 - 192) * 64+(b1 - 128)):Lib.decodeN n b0 b1 b2 b3=((b0 - 192) * 64+(b1 - 128),2):=by
 unfold Lib.decodeN
 repeat' split
 all_goals first | (exfalso;omega) | (exact Prod.ext (by show _=_;omega) rfl)
theorem dz3 (h0:b1<256) (h0':b2<256) (h:224≤b0∧b0<240) (hb:¬ (2<n∧(128≤b1∧b1≤191)∧(128≤b2∧b2≤191)∧2048≤((b0 - 224) * 64+(b1 - 128)) * 64+(b2 - 128)∧¬ (55296≤((b0 - 224) * 64+(b1 - 128)) * 64+(b2 - 128)∧((b0 - 224) * 64+(b1 - 128)) * 64+(b2 - 128)≤57343))):Lib.decodeN n b0 b1 b2 b3=(65533,1):=by
 unfold Lib.decodeN
 repeat' split
 all_goals first | rfl | (exfalso;omega)
theorem dv3 (h:224≤b0∧b0<240) (hb:2<n∧(128≤b1∧b1≤191)∧(128≤b2∧b2≤191)∧2048≤((b0 - 224) * 64+(b1 - 128)) * 64+(b2 - 128)∧¬ (55296≤((b0 - 224) * 64+(b1 - 128)) * 64+(b2 - 128)∧((b0 - 224) * 64+(b1 - 128)) * 64+(b2 - 128)≤57343)):Lib.decodeN n b0 b1 b2 b3=(((b0 - 224) * 64+(b1 - 128)) * 64+(b2 - 128),3):=by
 unfold Lib.decodeN
 repeat' split
 all_goals first | (exfalso;omega) | (exact Prod.ext (by show _=_;omega) rfl)
theorem dz4 (h0:b1<256) (h0':b2<256) (h0'':b3<256) (h:240≤b0∧b0<248) (hb:¬ (3<n∧(128≤b1∧b1≤191)∧(128≤b2∧b2≤191)∧(128≤b3∧b3≤191)∧65536≤(((b0 - 240) * 64+(b1 - 128)) * 64+(b2 - 128)) * 64+(b3 - 128)∧(((b0 - 240) * 64+(b1 - 128)) * 64+(b2 - 128)) * 64+(b3 - 128)≤1114111)):Lib.decodeN n b0 b1 b2 b3=(65533,1):=by
 unfold Lib.decodeN
 repeat' split
 all_goals first | rfl | (exfalso;omega)
theorem dv4 (h:240≤b0∧b0<248) (hb:3<n∧(128≤b1∧b1≤191)∧(128≤b2∧b2≤191)∧(128≤b3∧b3≤191)∧65536≤(((b0 - 240) * 64+(b1 - 128)) * 64+(b2 - 128)) * 64+(b3 - 128)∧(((b0 - 240) * 64+(b1 - 128)) * 64+(b2 - 128)) * 64+(b3 - 128)≤1114111):Lib.decodeN n b0 b1 b2 b3=((((b0 - 240) * 64+(b1 - 128)) * 64+(b2 - 128)) * 64+(b3 - 128),4):=by
 unfold Lib.decodeN
 repeat' split
 all_goals first | (exfalso;omega) | (exact Prod.ext (by show _=_;omega) rfl)
end
end Go.Proofs.YtikbegmodacopaaGreatDoor
namespace Go.Proofs.YtikbegmodacopaaGreatDoor
set_option maxRecDepth 100000
open Go.RowKit Go.PlainAid
def codeL (r:Nat):List Nat :=
 if r<128 then [r] else if r<2048 then [192+r / 64,128+r % 64]
 else if r<65536 then [224+r / 4096,128+r / 64 % 64,128+r % 64]
 else [240+r / 262144,128+r / 4096 % 64,128+r / 64 % 64,128+r % 64]
def isRune (r:Nat):Prop:=r≤1114111∧¬ (55296≤r∧r≤57343)
theorem codeL_len (r:Nat):1≤(codeL r).length∧(codeL r).length≤4:=by
 unfold codeL
 repeat' split
 all_goals simp
theorem dec_inv (n b0 b1 b2 b3 r m:Nat) (h:Lib.decodeN n b0 b1 b2 b3=(r,m)) (hl:¬ (r=65533∧m=1)) (g0:b0<256) (g1:b1<256) (g2:b2<256) (g3:b3<256) :
  (m=1∧r<128∧b0=r)∨(m=2∧128≤r∧r<2048∧1<n∧b0=192+r / 64∧b1=128+r % 64) ∨
  (m=3∧2048≤r∧r<65536∧2<n∧b0=224+r / 4096∧b1=128+r / 64 % 64∧b2=128+r % 64) ∨
  (m=4∧65536≤r∧3<n∧b0=240+r / 262144∧b1=128+r / 4096 % 64∧b2=128+r / 64 % 64∧b3=128+r % 64):=by
 have bad:Lib.decodeN n b0 b1 b2 b3=(65533,1)→False:=fun e=>by
  rw [e] at h
  injection h with h1 h2
  exact hl ⟨h1.symm,h2.symm⟩
 by_cases c1:b0<128
 ·have e:Lib.decodeN n b0 b1 b2 b3=(b0,1):=by unfold Lib.decodeN;rw [if_pos c1]
  rw [e] at h
  injection h with h1 h2
  exact .inl ⟨h2.symm,by omega,h1⟩
 by_cases c2:b0<192
 ·exact (bad (dz1 _ _ _ _ _ (by omega) g0)).elim
 by_cases c3:b0<224
 ·by_cases hb:1<n∧128≤b1∧b1≤191∧128≤(b0 - 192) * 64+(b1 - 128)
  ·rw [dv2 _ _ _ _ _ (by omega) hb] at h
   injection h with h1 h2
   exact .inr (.inl (by omega))
  ·exact (bad (dz2 _ _ _ _ _ g1 (by omega) hb)).elim
 by_cases c4:b0<240
 ·by_cases hb:2<n∧(128≤b1∧b1≤191)∧(128≤b2∧b2≤191)∧2048≤((b0 - 224) * 64+(b1 - 128)) * 64+(b2 - 128)∧¬ (55296≤((b0 - 224) * 64+(b1 - 128)) * 64+(b2 - 128)∧((b0 - 224) * 64+(b1 - 128)) * 64+(b2 - 128)≤57343)
  ·rw [dv3 _ _ _ _ _ (by omega) hb] at h
   injection h with h1 h2
   obtain ⟨q1,q2,q3,q4,q5⟩:=hb
   exact .inr (.inr (.inl ⟨h2.symm,by omega,by omega,q1,by omega,by omega,by omega⟩))
  ·exact (bad (dz3 _ _ _ _ _ g1 g2 (by omega) hb)).elim
 by_cases c5:b0<248
 ·by_cases hb:3<n∧(128≤b1∧b1≤191)∧(128≤b2∧b2≤191)∧(128≤b3∧b3≤191)∧65536≤(((b0 - 240) * 64+(b1 - 128)) * 64+(b2 - 128)) * 64+(b3 - 128)∧(((b0 - 240) * 64+(b1 - 128)) * 64+(b2 - 128)) * 64+(b3 - 128)≤1114111
  ·rw [dv4 _ _ _ _ _ (by omega) hb] at h
   injection h with h1 h2
   obtain ⟨q1,q2,q3,q4,q5,q6⟩:=hb
   exact .inr (.inr (.inr ⟨h2.symm,by omega,q1,by omega,by omega,by omega,by omega⟩))
  ·exact (bad (dz4 _ _ _ _ _ g1 g2 g3 (by omega) hb)).elim
 ·exact (bad (dz1 _ _ _ _ _ (by omega) g0)).elim
def Matches (s:ByteArray) (i r:Nat):Prop:=i+(codeL r).length≤s.size∧∀ k,k<(codeL r).length→bn s (i+k)=(codeL r)[k]?.getD 0
theorem matches_of (s:ByteArray) (i r:Nat) (h:Utf8.decode s i=(r,(codeL r).length)) (hi:i<s.size) (hl:¬ lost s i):Matches s i r:=by
 have hf:=cutN_fits s i hi
 unfold cutN at hf
 rw [h] at hf
 refine ⟨hf,?_⟩
 have hl':¬ (r=65533∧(codeL r).length=1):=by
  unfold lost at hl
  rw [h] at hl
  exact hl
 rw [Lib.decode_at] at h
 have:=dec_inv _ _ _ _ _ _ _ h hl' (s.get! i).toNat_lt (s.get! (i+1)).toNat_lt (s.get! (i+2)).toNat_lt (s.get! (i+3)).toNat_lt
 unfold bn
 rcases this with ⟨_,h1,h2⟩ | ⟨_,h1,h2,_,h3,h4⟩ | ⟨_,h1,h2,_,h3,h4,h5⟩ | ⟨_,h1,_,h3,h4,h5,h6⟩
 ·unfold codeL
  rw [if_pos h1]
  intro k hk
  obtain rfl:k=0:=by simpa using hk
  exact h2
 ·unfold codeL
  rw [if_neg (by omega),if_pos h2]
  intro k hk
  rcases (show k=0∨k=1 by simp at hk;omega) with rfl | rfl
  ·exact h3
  ·exact h4
 ·unfold codeL
  rw [if_neg (by omega),if_neg (by omega),if_pos h2]
  intro k hk
  rcases (show k=0∨k=1∨k=2 by simp at hk;omega) with rfl | rfl | rfl
  ·exact h3
  ·exact h4
  ·exact h5
 ·unfold codeL
  rw [if_neg (by omega),if_neg (by omega),if_neg (by omega)]
  intro k hk
  rcases (show k=0∨k=1∨k=2∨k=3 by simp at hk;omega) with rfl | rfl | rfl | rfl
  ·exact h3
  ·exact h4
  ·exact h5
  ·exact h6
theorem cut_code (s:ByteArray) (i:Nat) (hi:i<s.size) (hl:¬ lost s i):isRune (Utf8.decode s i).1∧Matches s i (Utf8.decode s i).1∧cutN s i=(codeL (Utf8.decode s i).1).length:=by
 have h1:=decodeN_rune (s.size - i) (s.get! i).toNat (s.get! (i+1)).toNat (s.get! (i+2)).toNat (s.get! (i+3)).toNat
 rw [← Lib.decode_at] at h1
 have hr:isRune (Utf8.decode s i).1:=h1
 have hd:Utf8.decode s i=((Utf8.decode s i).1,(codeL (Utf8.decode s i).1).length):=by
  have h2:=dec_inv _ _ _ _ _ (Utf8.decode s i).1 (Utf8.decode s i).2 (Lib.decode_at s i).symm hl (s.get! i).toNat_lt (s.get! (i+1)).toNat_lt (s.get! (i+2)).toNat_lt (s.get! (i+3)).toNat_lt
  refine Prod.ext rfl ?_
  show (Utf8.decode s i).2=(codeL (Utf8.decode s i).1).length
  unfold codeL
  rcases h2 with ⟨h,h1,_⟩ | ⟨h,h1,h2,_⟩ | ⟨h,h1,h2,_⟩ | ⟨h,h1,_⟩
  ·rw [h,if_pos h1];rfl
  ·rw [h,if_neg (by omega),if_pos h2];rfl
  ·rw [h,if_neg (by omega),if_neg (by omega),if_pos h2];rfl
  ·rw [h,if_neg (by omega),if_neg (by omega),if_neg (by omega)];rfl
 exact ⟨hr,matches_of s i _ hd hi hl,by unfold cutN;exact congrArg Prod.snd hd⟩
end Go.Proofs.YtikbegmodacopaaGreatDoor
namespace Go.Proofs.YtikbegmodacopaaGreatDoor
open Go.RowKit Go.PlainAid Go.Shelf
attribute [local go_sem] Oper.semAt_some
theorem RuneLen_any (v:Nat) (w:World) (hr:isRune v) :
  Calls Tryz.prog 233 #[.int .i32 v] w fun e w'=>e=.returned (.int .i64 (codeL v).length)∧w=w':=by
 obtain ⟨h1,h2⟩:=hr
 obtain ⟨x,hx⟩:∃ x:Int,x=(v:Int):=⟨_,rfl⟩
 rw [← hx]
 rcases (show v<128∨(128≤v∧v<2048)∨(2048≤v∧v<55296)∨(57343<v∧v<65536)∨65536≤v by omega) with a | ⟨a,b⟩ | ⟨a,b⟩ | ⟨a,b⟩ | a
 ·rw [show (codeL v).length=1 by unfold codeL;rw [if_pos a];rfl]
  have c1:0≤x:=by omega
  have c2:x<128:=by omega
  clear hx h1 h2 a
  go_enter Tryz.func233,Tryz.ntmps233
  go_wp2
  go_ret
  exact ⟨rfl,rfl⟩
 ·rw [show (codeL v).length=2 by unfold codeL;rw [if_neg (by omega),if_pos b];rfl]
  have c1:128≤x:=by omega
  have c2:x<2048:=by omega
  clear hx h1 h2 a b
  go_enter Tryz.func233,Tryz.ntmps233
  go_wp2
  go_ret
  exact ⟨rfl,rfl⟩
 ·rw [show (codeL v).length=3 by unfold codeL;rw [if_neg (by omega),if_neg (by omega),if_pos (by omega)];rfl]
  have c1:2048≤x:=by omega
  have c2:x<55296:=by omega
  clear hx h1 h2 a b
  go_enter Tryz.func233,Tryz.ntmps233
  go_wp2
  go_ret
  exact ⟨rfl,rfl⟩
 ·rw [show (codeL v).length=3 by unfold codeL;rw [if_neg (by omega),if_neg (by omega),if_pos b];rfl]
  have c1:57343<x:=by omega
  have c2:x<65536:=by omega
  clear hx h1 h2 a b
  go_enter Tryz.func233,Tryz.ntmps233
  go_wp2
  go_ret
  exact ⟨rfl,rfl⟩
 ·rw [show (codeL v).length=4 by unfold codeL;rw [if_neg (by omega),if_neg (by omega),if_neg (by omega)];rfl]
  have c1:65536≤x:=by omega
  have c2:x≤1114111:=by omega
  clear hx h1 h2 a
  go_enter Tryz.func233,Tryz.ntmps233
  go_wp2
  go_ret
  exact ⟨rfl,rfl⟩
abbrev SayOut (c:Int) (b:Bool) (k:Nat) (err:Int) (w:World) (e:Ending) (w':World):Prop :=
 e=.returned (.tuple #[.agg #[.int .i32 c,.bool b,.int .i64 k],.int .i64 err])∧Below w.heap.size w w'
set_option maxHeartbeats 400000 in
theorem say_ctl (s:ByteArray) (i:Nat) (w:World) (hi:i<s.size) (hc:bt s i<32∨bt s i=127) :
  Calls Tryz.prog 226 #[.string s,.int .i64 i] w (SayOut 0 false 0 10 w):=by
 have hbt:=get_bt s
 unfold SayOut
 rcases hc with hc | hc
 all_goals
  go_enter Tryz.func226,Tryz.ntmps226
  go_wp2
  refine bodyPost_ret ?_ rfl ⟨rfl,?_⟩
  ·simp [results,Tryz.results226,go_sem]
  ·exact (((Below.refl _ w).alloc (Nat.le_refl _) _).alloc (by simp) _)
set_option maxHeartbeats 400000 in
theorem say_esc (s:ByteArray) (i:Nat) (w:World) (hi:i<s.size) (h:bt s i=92) :
  Calls Tryz.prog 226 #[.string s,.int .i64 i] w fun e w'=>((escN s i=none∧SayOut 0 false 0 12 w e w')∨∃ c b,∃ k:Nat,escN s i=some (c,b,k)∧SayOut c b k 0 w e w'):=by
 have hbt:=get_bt s
 have hx:=escN_ext s i (by omega)
 have HX:=hide_ hx
 clear hx
 unfold SayOut
 go_enter Tryz.func226,Tryz.ntmps226
 go_wp2_with (go_at_call 232;refine (escape_any _ _).mono ?_;rintro e w' (⟨hn,a,b,c,rfl,rfl⟩ | ⟨c,b,k,hn,rfl,rfl⟩))
 ·go_wp2
  refine bodyPost_ret ?_ rfl (.inl ⟨by rw [← HX.out];exact hn,rfl,?_⟩)
  ·simp [results,Tryz.results226,go_sem]
  ·exact ((((Below.refl _ w).alloc (Nat.le_refl _) _).alloc (by simp) _).alloc (by simp;omega) _).alloc (by simp;omega) _
 ·go_wp2
  refine bodyPost_ret ?_ rfl (.inr ⟨c,b,k,by rw [← HX.out];exact hn,rfl,?_⟩)
  ·simp [results,Tryz.results226,go_sem]
  ·exact ((((Below.refl _ w).alloc (Nat.le_refl _) _).alloc (by simp) _).alloc (by simp;omega) _).alloc (by simp;omega) _
theorem ownFrom_ex {α β:Type} {B:Nat} {I:α→β→World→Prop} (h:∀ x,OwnFrom B (I x)):OwnFrom B (fun s W=>∃ x,I x s W):=fun s W W' row hs hg hr=>by
 obtain ⟨x,hx⟩:=hs
 exact ⟨x,h x s W W' row hx hg hr⟩
def sayR (r:Int):Int × Nat × Int:=if r<0 then (0,0,13) else (r,(codeL r.toNat).length,0)
def sayBox (r:Int):Array Value:=#[.int .i32 (sayR r).1,.bool false,.int .i64 ((sayR r).2.1:Nat)]
theorem say_store {W:World} {b:Nat} {T T':TypeId} {x0 x1 x2 y:Value} (c4:Blk W b T #[x0,x1,x2]) (c5:Blk W (b+1) T' #[y]) (u0 u1 u2 v:Value) :
  Blk ((((W.setCell ⟨b,0,none⟩ u0).setCell ⟨b,1,none⟩ u1).setCell ⟨b,2,none⟩ u2).setCell ⟨b+1,0,none⟩ v) b T #[u0,u1,u2] ∧
  Blk ((((W.setCell ⟨b,0,none⟩ u0).setCell ⟨b,1,none⟩ u1).setCell ⟨b,2,none⟩ u2).setCell ⟨b+1,0,none⟩ v) (b+1) T' #[v] :=
 ⟨(((c4.set_ 0 u0).set_ 1 u1).set_ 2 u2).far (by dsimp only;omega) v,(((c5.far (p:=⟨b,0,none⟩) (by dsimp only;omega) u0).far (p:=⟨b,1,none⟩) (by dsimp only;omega) u1).far (p:=⟨b,2,none⟩) (by dsimp only;omega) u2).set_ 0 v⟩
theorem say_keeps (W:World) (b B:Nat) (u0 u1 u2 v:Value):KeepsFrom B W ((((W.setCell ⟨b,0,none⟩ u0).setCell ⟨b,1,none⟩ u1).setCell ⟨b,2,none⟩ u2).setCell ⟨b+1,0,none⟩ v) :=
 ((((KeepsOthers.setCell W _ _).trans (KeepsOthers.setCell _ _ _)).trans (KeepsOthers.setCell _ _ _)).trans (KeepsOthers.setCell _ _ _)).from B
theorem say_below {w W:World} (h:Below w.heap.size w W) (u0 u1 u2 v:Value):Below w.heap.size w ((((W.setCell ⟨w.heap.size,0,none⟩ u0).setCell ⟨w.heap.size,1,none⟩ u1).setCell ⟨w.heap.size,2,none⟩ u2).setCell ⟨w.heap.size+1,0,none⟩ v) :=
 (((h.setCell (p:=⟨w.heap.size,0,none⟩) (by dsimp only;omega) _).setCell (p:=⟨w.heap.size,1,none⟩) (by dsimp only;omega) _).setCell (p:=⟨w.heap.size,2,none⟩) (by dsimp only;omega) _).setCell (p:=⟨w.heap.size+1,0,none⟩) (by dsimp only;omega) _
set_option maxRecDepth 100000 in
set_option maxHeartbeats 1000000 in
theorem say_run (s:ByteArray) (i:Nat) (w:World) (hi:i<s.size) (h:bt s i≠92) (h1:32≤bt s i) (h2:bt s i≠127) :
  Calls Tryz.prog 226 #[.string s,.int .i64 i] w (SayOut (sayR (cutR s i)).1 false (sayR (cutR s i)).2.1 (sayR (cutR s i)).2.2 w):=by
 have hbt:=get_bt s
 have g1:decide (bt s i<32)=false:=by simp;omega
 have g2:(bt s i == 127)=false:=by rw [beq_eq_false_iff_ne];exact h2
 have g3:(bt s i == 92)=false:=by rw [beq_eq_false_iff_ne];exact h
 clear h h1 h2
 have HR:=hide_ (cutR_ext s i 0 (by omega))
 have HT:=hide_ (size_ext s i)
 refine (callsIn_wide (n:=30)).1 ?_
 refine callsIn_of_wp_marks Tryz.func226 rfl trivial ?_ rfl
 simp only [Tryz.ntmps226,List.size_toArray,List.length_cons,List.length_nil,Nat.reduceAdd,Nat.reduceSub,Array.replicate_succ,Array.replicate_zero,List.push_toArray,List.append_toArray,List.nil_append,List.cons_append]
 gi_wp2_with fail
 refine ⟨trivial,?_⟩
 refine (callsIn_wide.2 (cutting_any (s.extract i s.size) _)).mono ?_
 rintro e w2 ⟨rfl,rfl⟩
 gi_wp2_with fail
 obtain ⟨t,ht⟩:∃ t,t=s.extract i s.size:=⟨_,rfl⟩
 rw [← ht] at HR HT ⊢
 have hts:0<t.size:=by rw [HT.out];omega
 have b4:=(((Blk.new w 260 #[.int .i32 0,.bool false,.int .i64 0]).alloc (.cells #[.int .i64 0] 37)).alloc (.cells #[.string t] 9))
 have b5:=((Blk.new (w.alloc (.cells #[.int .i32 0,.bool false,.int .i64 0] 260)) 37 #[.int .i64 0]).alloc (.cells #[.string t] 9))
 have b6:=Boxed.new ((w.alloc (.cells #[.int .i32 0,.bool false,.int .i64 0] 260)).alloc (.cells #[.int .i64 0] 37)) 9 (.string t)
 simp only [World.size_alloc] at b5 b6
 have hB3:Below w.heap.size w (((w.alloc (.cells #[.int .i32 0,.bool false,.int .i64 0] 260)).alloc (.cells #[.int .i64 0] 37)).alloc (.cells #[.string t] 9)):=((((Below.refl _ w).alloc (Nat.le_refl _) _).alloc (by simp) _).alloc (by simp;omega) _)
 have hsz:(((w.alloc (.cells #[.int .i32 0,.bool false,.int .i64 0] 260)).alloc (.cells #[.int .i64 0] 37)).alloc (.cells #[.string t] 9)).heap.size=w.heap.size+1+1+1:=by simp
 obtain ⟨w3,hw3⟩:∃ w3,((w.alloc (.cells #[.int .i32 0,.bool false,.int .i64 0] 260)).alloc (.cells #[.int .i64 0] 37)).alloc (.cells #[.string t] 9)=w3:=⟨_,rfl⟩
 rw [hw3] at b4 b5 b6 hB3 hsz ⊢
 clear hw3
 have HSZ:=hide_ hsz
 have hnb:w.heap.size+1+1<w3.heap.size:=by omega
 clear hsz
 refine rangeB (Bn:=w.heap.size+1+1) (s:=t) (P':=40) (Q':=9) (by omega) rfl (by omega) b6.cell
  (fun pre W=>pre=[]∧(W.heap[w.heap.size]?=some (.cells #[.int .i32 0,.bool false,.int .i64 0] 260 (0,0))∧(W.heap[w.heap.size+1]?=some (.cells #[.int .i64 0] 37 (0,0))∧Below w.heap.size w W)))
  (fun c pre W=>∃ x:Nat × Int,(c=.ret∧pre=[x])∧(W.heap[w.heap.size]?=some (.cells (sayBox x.2) 260 (0,0))∧(W.heap[w.heap.size+1]?=some (.cells #[.int .i64 (sayR x.2).2.2] 37 (0,0))∧Below w.heap.size w W)))
  (OwnFrom.and (ownFrom_pure _ _) (OwnFrom.and (ownFrom_obj (by omega)) (OwnFrom.and (ownFrom_obj (by omega)) (ownFrom_below (Nat.le_refl _) (by omega)))))
  (fun c=>ownFrom_ex fun x=>OwnFrom.and (ownFrom_pure _ (fun pre=>c=.ret∧pre=[x])) (OwnFrom.and (ownFrom_obj (by omega)) (OwnFrom.and (ownFrom_obj (by omega)) (ownFrom_below (Nat.le_refl _) (by omega)))))
  ⟨rfl,b4,b5,hB3⟩ ?assign1 ?body1 ?done1 ?stop1
 case assign1 =>
  intro l x W K hK
  simp only [updA,List.setIfInBounds_toArray,List.set_cons_succ,List.set_cons_zero] at hK ⊢
  gi_wp2
  exact hK
 case done1 =>
  rintro D W hD ⟨hnil,_⟩ hk
  exfalso
  rw [cuts_at,cutsAt_lt t 0 hts] at hnil
  cases hnil
 case stop1 =>
  rintro D c pre W hD hS ⟨x,⟨rfl,rfl⟩,c4,c5,hBW⟩ hk
  have hx:x=(0,cutR t 0):=by
   rw [cuts_at,cutsAt_lt t 0 hts] at hS
   obtain ⟨suf,hsuf⟩:=hS
   simp only [List.cons_append,List.nil_append,List.cons.injEq] at hsuf
   exact hsuf.1
  subst hx
  simp only [HR.out,Nat.add_zero] at c4 c5
  have B4:Blk W w.heap.size 260 _:=c4
  have B5:Blk W (w.heap.size+1) 37 _:=c5
  have D4:Blk (W.putObj D (.deferred none)) w.heap.size 260 _:=(putObj_heap_ne (by omega)).trans B4
  have D5:Blk (W.putObj D (.deferred none)) (w.heap.size+1) 37 _:=(putObj_heap_ne (by omega)).trans B5
  have k0:(W.putObj D (.deferred none)).cell? ⟨w.heap.size,0,none⟩=some (.int .i32 (sayR (cutR s i)).1):=D4.cell 0
  have k1:(W.putObj D (.deferred none)).cell? ⟨w.heap.size,1,none⟩=some (.bool false):=D4.cell 1
  have k2:(W.putObj D (.deferred none)).cell? ⟨w.heap.size,2,none⟩=some (.int .i64 ((sayR (cutR s i)).2.1:Nat)):=D4.cell 2
  have k3:(W.putObj D (.deferred none)).cell? ⟨w.heap.size+1,0,none⟩=some (.int .i64 (sayR (cutR s i)).2.2):=D5.cell 0
  clear D4 D5 B4 B5 c4 c5
  gi_wp2
  refine ⟨by simp,.inl ⟨_,_,rfl,run_takeDeferred hk,?_⟩⟩
  exact ⟨.tuple #[.agg #[.int .i32 (sayR (cutR s i)).1,.bool false,.int .i64 ((sayR (cutR s i)).2.1:Nat)],.int .i64 (sayR (cutR s i)).2.2],by simp [results,Tryz.results226,go_sem,k0,k1,k2,k3],rfl,hBW.trans (belowK_b (n₀:=w.heap.size) (w:=w) (Nat.le_refl _) _ D _ _ (by omega) hk rfl rfl)⟩
 case body1 =>
  rintro l pre ⟨p,r⟩ W hmem hl hr ⟨rfl,c4,c5,hBW⟩ hlen
  simp only [updA,List.setIfInBounds_toArray,List.set_cons_succ,List.set_cons_zero]
  obtain ⟨hpl,hrr⟩:=cuts_mem t _ hmem
  simp only at hpl hrr
  have B4:Blk W w.heap.size 260 #[.int .i32 0,.bool false,.int .i64 0]:=c4
  have B5:Blk W (w.heap.size+1) 37 #[.int .i64 0]:=c5
  have k0:W.cell? ⟨w.heap.size,0,none⟩=some (.int .i32 0):=B4.cell 0
  have k1:W.cell? ⟨w.heap.size,1,none⟩=some (.bool false):=B4.cell 1
  have k2:W.cell? ⟨w.heap.size,2,none⟩=some (.int .i64 0):=B4.cell 2
  have k3:W.cell? ⟨w.heap.size+1,0,none⟩=some (.int .i64 0):=B5.cell 0
  have f0:=B4.frozen 0
  have f1:=B4.frozen 1
  have f2:=B4.frozen 2
  have f3:=B5.frozen 0
  have l4:=B4.lt
  have l5:=B5.lt
  have H4:=hide_ B4
  have H5:=hide_ B5
  have HM:=hide_ hmem
  clear B4 B5 hmem c4 c5 hlen
  by_cases hlo:lost t p
  ·have hneg:decide (r<0)=true:=by rw [hrr];unfold cutR;rw [if_pos hlo];simp;omega
   have HRR:=hide_ hrr
   clear hrr
   gi_wp2
   have hs:=say_store H4.out H5.out (.int .i32 0) (.bool false) (.int .i64 0) (.int .i64 13)
   have hr0:sayR r=(0,0,13):=by unfold sayR;rw [if_pos (by simpa using hneg)]
   refine ⟨say_keeps _ _ _ _ _ _ _,(p,r),⟨rfl,rfl⟩,?_,?_,say_below hBW _ _ _ _⟩
   ·simp only [sayBox,hr0];exact hs.1
   ·simp only [hr0];exact hs.2
  ·obtain ⟨hisr,hmat,hcn⟩:=cut_code t p hpl hlo
   obtain ⟨v,hv⟩:∃ v,v=(Utf8.decode t p).1:=⟨_,rfl⟩
   rw [← hv] at hisr hmat hcn
   have hrb:r=(v:Int):=by rw [hrr,cutR,if_neg hlo,hv]
   subst hrb
   have hneg:decide ((v:Int)<0)=false:=by simp
   have HI:=hide_ hisr
   clear hrr hmat hcn hv hisr
   gi_wp2_with fail
   refine ⟨trivial,?_⟩
   refine (CallsIn.inRound l (callsIn_wide.2 (RuneLen_any v _ HI.out))).mono ?_
   rintro e w4 ⟨rfl,rfl⟩
   gi_wp2
   have hs:=say_store H4.out H5.out (.int .i32 v) (.bool false) (.int .i64 (codeL v).length) (.int .i64 0)
   have hr0:sayR (v:Int)=((v:Int),(codeL v).length,(0:Int)):=by unfold sayR;rw [if_neg (by omega),Int.toNat_natCast]
   refine ⟨say_keeps _ _ _ _ _ _ _,(p,v),⟨rfl,rfl⟩,?_,?_,say_below hBW _ _ _ _⟩
   ·simp only [sayBox,hr0];exact hs.1
   ·simp only [hr0];exact hs.2
theorem sayR_lost (s:ByteArray) (i:Nat) (h:lost s i):sayR (cutR s i)=(0,0,13):=by unfold sayR cutR;rw [if_pos h,if_pos (by omega)]
theorem sayR_rune (s:ByteArray) (i:Nat) (hi:i<s.size) (h:¬ lost s i):sayR (cutR s i)=(((Utf8.decode s i).1:Int),cutN s i,(0:Int)):=by
 unfold sayR cutR
 rw [if_neg h,if_neg (by omega),Int.toNat_natCast,(cut_code s i hi h).2.2]
theorem say_any (s:ByteArray) (i:Nat) (w:World) (hi:i<s.size) :
  Calls Tryz.prog 226 #[.string s,.int .i64 i] w (SayOut (sayN s i).1 (sayN s i).2.1 (sayN s i).2.2.1 (sayN s i).2.2.2 w):=by
 have hb:=bt_eq s i hi
 by_cases h:bn s i=92
 ·refine (say_esc s i w hi (by omega)).mono fun e w' ho=>?_
  rcases ho with ⟨hn,ho⟩ | ⟨c,b,k,hn,ho⟩
  ·have e0:sayN s i=(0,false,0,12):=by unfold sayN;rw [if_pos h,hn]
   rw [e0];exact ho
  ·have e0:sayN s i=(c,b,k,0):=by unfold sayN;rw [if_pos h,hn]
   rw [e0];exact ho
 by_cases hc:bn s i<32∨bn s i=127
 ·have e0:sayN s i=(0,false,0,10):=by unfold sayN;rw [if_neg h,if_pos hc]
  rw [e0]
  exact say_ctl s i w hi (by omega)
 have hr:=say_run s i w hi (by omega) (by omega) (by omega)
 by_cases hl:lost s i
 ·have e0:sayN s i=(0,false,0,13):=by unfold sayN;rw [if_neg h,if_neg hc,if_pos hl]
  rw [e0]
  rw [sayR_lost s i hl] at hr
  exact hr
 ·have e0:sayN s i=(((Utf8.decode s i).1:Int),false,cutN s i,0):=by unfold sayN;rw [if_neg h,if_neg hc,if_neg hl]
  rw [e0]
  rw [sayR_rune s i hi hl] at hr
  exact hr
end Go.Proofs.YtikbegmodacopaaGreatDoor
namespace Go.Proofs.YtikbegmodacopaaGreatDoor
set_option maxRecDepth 100000
open Go.RowKit Go.PlainAid
abbrev n8s (l:List Nat):List Value:=l.map fun (x:Nat)=>Value.int .u8 (x:Int)
end Go.Proofs.YtikbegmodacopaaGreatDoor
namespace Go.Proofs.YtikbegmodacopaaGreatDoor
set_option maxRecDepth 100000
open Go.RowKit Go.PlainAid
def bytesOf (rs:List Nat):List Nat:=rs.flatMap codeL
end Go.Proofs.YtikbegmodacopaaGreatDoor
namespace Go.Proofs.YtikbegmodacopaaGreatDoor
set_option maxRecDepth 100000
open Go.RowKit Go.PlainAid
def textOf (l:List Nat):ByteArray:=strOfNums (l.map Int.ofNat)
theorem run_text_of_reads {P:Program} (w:World) (B:Nat) (src e:TypeId) (hs:P.underlying src=some (.slice e)) (he:P.underlying e=some (.int .u8)) (A:Option Addr) (n c:Nat) (l:List Nat)
  (h:Reads w B 1 A n (n8s l)) (dst:TypeId) (hd:P.underlying dst=some .string) :
  (convert src dst (.slice A n c)).run P w=.ok (.string (textOf l)) w:=by
 have hl:l.length=n:=by simpa using h.1
 cases A with
 | none =>
  have h0:n=0:=by
   rcases Nat.eq_zero_or_pos n with c | c
   ·exact c
   ·obtain ⟨ad,e,_⟩:=h.2 c;cases e
  subst h0
  obtain rfl:l=[]:=List.eq_nil_of_length_eq_zero hl
  rw [run_convert_bytes_nil w src e hs he 0 c dst hd]
  rfl
 | some a =>
  have hld:(loadCells a n).run P w=.ok ((l.map Int.ofNat).map (Value.int .u8)).toArray w:=by
   have:=run_loadCells_list (P:=P) w a ((l.map Int.ofNat).map (Value.int .u8)) (fun j v hj=>by
    have hj':j<n:=by
     rw [← hl]
     have:=(List.getElem?_eq_some_iff.1 hj).1
     simpa using this
    obtain ⟨ad,e,_,hc⟩:=h.2 (by omega)
    injection e with e
    subst e
    refine hc j v ?_
    rw [List.map_map] at hj
    exact hj)
   simpa [hl] using this
  rw [run_convert_bytes_string w src dst e _ n c hs he hd,run_bytesToString w _ n c _ hld,foldl_push_bytes]
  simp [textOf,strOfNums,ByteArray.empty,ByteArray.emptyWithCapacity]
  rfl
end Go.Proofs.YtikbegmodacopaaGreatDoor
