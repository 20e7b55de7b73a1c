/-
  Joined and packed by program.
-/
import Derived.Test.YtikbegmodacopaaGreatDoorQ01
import Derived.Test.YtikbegmodacopaaGreatDoorProg
namespace Go.Proofs.YtikbegmodacopaaGreatDoor
set_option maxRecDepth 100000
open Go.RowKit Go.PlainAid
def hexD (c:Int):Int:=if 48≤c∧c≤57 then c - 48 else if 97≤c∧c≤102 then c - 87 else if 65≤c∧c≤70 then c - 55 else -1
theorem hexD_bd (c:Int) : -1≤hexD c∧hexD c≤15:=by unfold hexD;split <;> (try split) <;> (try split) <;> omega
def hexN (s:ByteArray) (i:Nat):Nat→Int
 | 0=>0
 | n+1=>if hexN s i n<0∨hexD (bn s (i+n))<0 then -1 else hexN s i n * 16+hexD (bn s (i+n))
theorem hexN_bd (s:ByteArray) (i n:Nat) : -1≤hexN s i n∧hexN s i n<16 ^ n:=by
 induction n with
 | zero=>simp [hexN]
 | succ n ih =>
  have h:=hexD_bd (bn s (i+n))
  have hp:(0:Int)<16 ^ n:=Int.pow_pos (by decide)
  rw [hexN]
  split
  ·rw [Int.pow_succ];omega
  ·rw [Int.pow_succ];omega
theorem hexN_neg (s:ByteArray) (i n m:Nat) (h:hexN s i n<0) (hm:n≤m):hexN s i m = -1:=by
 induction m with
 | zero =>
  obtain rfl:n=0:=by omega
  simp [hexN] at h
 | succ m ih =>
  rcases Nat.lt_or_ge m n with c | c
  ·obtain rfl:n=m+1:=by omega
   have:=(hexN_bd s i (m+1)).1
   omega
  ·rw [hexN,if_pos (.inl (by rw [ih c];omega))]
theorem hexN_step (s:ByteArray) (i n:Nat) (h:0≤hexN s i n) (hd:0≤hexD (bn s (i+n))):hexN s i (n+1)=hexN s i n * 16+hexD (bn s (i+n)):=by
 rw [hexN,if_neg (by omega)]
theorem hexN_bad (s:ByteArray) (i n m:Nat) (hd:hexD (bn s (i+n))<0) (hm:n<m):hexN s i m = -1 :=
 hexN_neg s i (n+1) m (by rw [hexN,if_pos (.inr hd)];decide) hm
def hexW (s:ByteArray) (i n:Nat):Int:=if i+n≤s.size then hexN s i n else -1
theorem bn_extract (s:ByteArray) (a k:Nat) (h:a+k<s.size):bn (s.extract a s.size) k=bn s (a+k):=by
 have h1:k<(s.extract a s.size).size:=by rw [ByteArray.size_extract];omega
 rw [← bn_eq _ _ h1,← bn_eq _ _ h,ByteArray.getElem_extract]
theorem size_ext (s:ByteArray) (a:Nat):(s.extract a s.size).size=s.size - a:=by rw [ByteArray.size_extract];omega
theorem hexN_ext (s:ByteArray) (a i n:Nat) (h:a+i+n≤s.size):hexN (s.extract a s.size) i n=hexN s (a+i) n:=by
 induction n with
 | zero=>rfl
 | succ n ih=>rw [hexN,hexN,ih (by omega),bn_extract s a (i+n) (by omega),Nat.add_assoc]
theorem hexW_ext (s:ByteArray) (a i n:Nat) (h:a≤s.size):hexW (s.extract a s.size) i n=hexW s (a+i) n:=by
 unfold hexW
 rw [size_ext]
 by_cases c:a+i+n≤s.size
 ·rw [if_pos (by omega),if_pos c,hexN_ext s a i n c]
 ·rw [if_neg (by omega),if_neg c]
theorem hexW_bd (s:ByteArray) (i n:Nat) : -1≤hexW s i n∧hexW s i n<16 ^ n:=by
 unfold hexW
 split
 ·exact hexN_bd s i n
 ·have hp:(0:Int)<16 ^ n:=Int.pow_pos (by decide)
  omega
end Go.Proofs.YtikbegmodacopaaGreatDoor
namespace Go.Proofs.YtikbegmodacopaaGreatDoor
set_option maxRecDepth 100000
open Go.RowKit Go.PlainAid
theorem i32_or16 (x y:Int) (hx:0≤x) (hx':x<16777216) (h0:0≤y) (h1:y<16):bits .or .i32 (x * 16) y=x * 16+y:=bits_join .i32 31 (by decide) wraps_i32 4 (x * 16) y (by omega) (by omega) (by omega) h0 (by omega) (by omega)
theorem hex_any (c:Int) (w:World) (h0:0≤c) (h1:c<256) :
  Calls Tryz.prog 242 #[.int .u8 c] w fun e w'=>e=.returned (.int .i32 (hexD c))∧w=w':=by
 rcases (show c<48∨(48≤c∧c≤57)∨(57<c∧c<65)∨(65≤c∧c≤70)∨(70<c∧c<97)∨(97≤c∧c≤102)∨102<c by omega) with a | ⟨a,b⟩ | ⟨a,b⟩ | ⟨a,b⟩ | ⟨a,b⟩ | ⟨a,b⟩ | a
 ·rw [show hexD c = -1 by unfold hexD;rw [if_neg (by omega),if_neg (by omega),if_neg (by omega)]]
  go_enter Tryz.func242,Tryz.ntmps242
  go_wp2
  go_ret
  exact ⟨rfl,rfl⟩
 ·have p:(c - 48) % 256=c - 48:=by omega
  rw [show hexD c=c - 48 by unfold hexD;rw [if_pos (by omega)]]
  go_enter Tryz.func242,Tryz.ntmps242
  go_wp2
  go_ret
  exact ⟨rfl,rfl⟩
 ·rw [show hexD c = -1 by unfold hexD;rw [if_neg (by omega),if_neg (by omega),if_neg (by omega)]]
  go_enter Tryz.func242,Tryz.ntmps242
  go_wp2
  go_ret
  exact ⟨rfl,rfl⟩
 ·have p:(c - 65) % 256=c - 65:=by omega
  rw [show hexD c=c - 65+10 by unfold hexD;rw [if_neg (by omega),if_neg (by omega),if_pos (by omega)];omega]
  go_enter Tryz.func242,Tryz.ntmps242
  go_wp2
  go_ret
  exact ⟨rfl,rfl⟩
 ·rw [show hexD c = -1 by unfold hexD;rw [if_neg (by omega),if_neg (by omega),if_neg (by omega)]]
  go_enter Tryz.func242,Tryz.ntmps242
  go_wp2
  go_ret
  exact ⟨rfl,rfl⟩
 ·have p:(c - 97) % 256=c - 97:=by omega
  rw [show hexD c=c - 97+10 by unfold hexD;rw [if_neg (by omega),if_pos (by omega)];omega]
  go_enter Tryz.func242,Tryz.ntmps242
  go_wp2
  go_ret
  exact ⟨rfl,rfl⟩
 ·rw [show hexD c = -1 by unfold hexD;rw [if_neg (by omega),if_neg (by omega),if_neg (by omega)]]
  go_enter Tryz.func242,Tryz.ntmps242
  go_wp2
  go_ret
  exact ⟨rfl,rfl⟩
theorem hexDigit_any (c:Int) (w:World) (h0:0≤c) (h1:c<256) :
  Calls Tryz.prog 241 #[.int .u8 c] w fun e w'=>e=.returned (.int .i32 (hexD c))∧w=w':=by
 rcases (show c<48∨(48≤c∧c≤57)∨(57<c∧c<65)∨(65≤c∧c≤70)∨(70<c∧c<97)∨(97≤c∧c≤102)∨102<c by omega) with a | ⟨a,b⟩ | ⟨a,b⟩ | ⟨a,b⟩ | ⟨a,b⟩ | ⟨a,b⟩ | a
 ·rw [show hexD c = -1 by unfold hexD;rw [if_neg (by omega),if_neg (by omega),if_neg (by omega)]]
  go_enter Tryz.func241,Tryz.ntmps241
  go_wp2
  go_ret
  exact ⟨rfl,rfl⟩
 ·rw [show hexD c=c - 48 by unfold hexD;rw [if_pos (by omega)]]
  go_enter Tryz.func241,Tryz.ntmps241
  go_wp2
  go_ret
  exact ⟨rfl,rfl⟩
 ·rw [show hexD c = -1 by unfold hexD;rw [if_neg (by omega),if_neg (by omega),if_neg (by omega)]]
  go_enter Tryz.func241,Tryz.ntmps241
  go_wp2
  go_ret
  exact ⟨rfl,rfl⟩
 ·rw [show hexD c=c - 55 by unfold hexD;rw [if_neg (by omega),if_neg (by omega),if_pos (by omega)]]
  go_enter Tryz.func241,Tryz.ntmps241
  go_wp2
  go_ret
  exact ⟨rfl,rfl⟩
 ·rw [show hexD c = -1 by unfold hexD;rw [if_neg (by omega),if_neg (by omega),if_neg (by omega)]]
  go_enter Tryz.func241,Tryz.ntmps241
  go_wp2
  go_ret
  exact ⟨rfl,rfl⟩
 ·rw [show hexD c=c - 87 by unfold hexD;rw [if_neg (by omega),if_pos (by omega)]]
  go_enter Tryz.func241,Tryz.ntmps241
  go_wp2
  go_ret
  exact ⟨rfl,rfl⟩
 ·rw [show hexD c = -1 by unfold hexD;rw [if_neg (by omega),if_neg (by omega),if_neg (by omega)]]
  go_enter Tryz.func241,Tryz.ntmps241
  go_wp2
  go_ret
  exact ⟨rfl,rfl⟩
theorem hexN_16 (s:ByteArray) (i n:Nat) (hn:n≤4):hexN s i n<65536:=by
 have h:=(hexN_bd s i n).2
 have:(16:Int) ^ n≤16 ^ 4:=by exact_mod_cast Nat.pow_le_pow_right (by decide) hn
 omega
set_option maxHeartbeats 400000 in
theorem number_any (t:ByteArray) (n:Nat) (w:World) (hn:n≤4) :
  Calls Tryz.prog 240 #[.string t,.int .i64 n] w fun e w'=>((hexW t 0 n<0∧e=.returned (.tuple #[.int .i32 0,.bool false]))∨(0≤hexW t 0 n∧e=.returned (.tuple #[.int .i32 (hexW t 0 n),.bool true])))∧w=w':=by
 by_cases hs:t.size<n
 ·have hW:hexW t 0 n = -1:=by unfold hexW;rw [if_neg (by omega)]
  rw [hW]
  go_enter Tryz.func240,Tryz.ntmps240
  go_wp2
  go_ret2
  exact ⟨.inl ⟨by decide,rfl⟩,rfl⟩
 ·have hW:hexW t 0 n=hexN t 0 n:=by unfold hexW;rw [if_pos (by omega)]
  have HW:=hide_ hW
  clear hW
  go_enter Tryz.func240,Tryz.ntmps240
  go_wp2
  go_loopw [6,14] (fun x i wr=>∃ k:Nat,k≤n∧i=.int .i64 k∧x=.int .i32 (hexN t 0 k)∧0≤hexN t 0 k∧wr=w) (fun _ i _=>n - (intOf i).toNat)
  case atStart=>exact ⟨0,Nat.zero_le _,rfl,rfl,Int.le_refl _,rfl⟩
  case round =>
   obtain ⟨k,hk,rfl,rfl,hx,rfl⟩:=hrel
   by_cases hlt:k<n
   ·have hbt:=get_bt t
    have hb0:=bt_nonneg t k
    have hb1:=bt_le t k
    have hbe:=bt_eq t k (by omega)
    have hbd:=hexD_bd (bt t k)
    have h16:=hexN_16 t 0 k (by omega)
    obtain ⟨d,hd⟩:∃ d,d=hexD (bt t k):=⟨_,rfl⟩
    have hcall:=fun W=>hex_any (bt t k) W (by omega) (by omega)
    simp only [← hd] at hcall hbd
    have HB:=hide_ (show hexD (bn t (0+k))=d by rw [hd,hbe,Nat.zero_add])
    have HN:=hide_ (hexN_bad t 0 k n)
    have HS:=hide_ (hexN_step t 0 k)
    obtain ⟨x,hxx⟩:∃ x,x=hexN t 0 k:=⟨_,rfl⟩
    have HX:=hide_ hxx
    rw [← hxx] at hx h16 ⊢
    have HCALL:=hide_ hcall
    clear hcall hd hbe hxx
    by_cases hneg:d<0
    ·go_wp2_with (go_at_call 242;refine (HCALL.out _).mono ?_;rintro e w' ⟨rfl,rfl⟩)
     go_ret2
     have:hexW t 0 n = -1:=by rw [HW.out];exact HN.out (by rw [HB.out];exact hneg) hlt
     rw [this]
     exact ⟨.inl ⟨by decide,rfl⟩,rfl⟩
    ·have ho:=i32_or16 x d hx (by omega) (by omega) (by omega)
     go_wp2_with (go_at_call 242;refine (HCALL.out _).mono ?_;rintro e w' ⟨rfl,rfl⟩)
     go_roundw
     case rel =>
      refine ⟨k+1,by omega,by go_num,?_,?_,by trivial⟩
      ·rw [HS.out (by rw [← HX.out];exact hx) (by rw [HB.out];omega),HB.out,← HX.out]
      ·rw [HS.out (by rw [← HX.out];exact hx) (by rw [HB.out];omega),HB.out,← HX.out];omega
     case measure=>simp [intOf];omega
   ·obtain rfl:k=n:=by omega
    go_wp2
    go_ret2
    rw [HW.out]
    exact ⟨.inr ⟨hx,rfl⟩,rfl⟩
set_option maxHeartbeats 400000 in
theorem hexes_any (t:ByteArray) (i n:Nat) (w:World) (hn:n≤4) (hi:i≤t.size) (hz:t.size≤1152921504606846976) :
  Calls Tryz.prog 235 #[.string t,.int .i64 i,.int .i64 n] w fun e w'=>e=.returned (.int .i32 (hexW t i n))∧w=w':=by
 by_cases hs:t.size<i+n
 ·have hW:hexW t i n = -1:=by unfold hexW;rw [if_neg (by omega)]
  rw [hW]
  go_enter Tryz.func235,Tryz.ntmps235
  go_wp2
  go_ret
  exact ⟨rfl,rfl⟩
 ·have hW:hexW t i n=hexN t i n:=by unfold hexW;rw [if_pos (by omega)]
  have HW:=hide_ hW
  clear hW
  go_enter Tryz.func235,Tryz.ntmps235
  go_wp2
  go_loopw [7,8] (fun x j wr=>∃ k:Nat,k≤n∧j=.int .i64 k∧x=.int .i32 (hexN t i k)∧0≤hexN t i k∧wr=w) (fun _ j _=>n - (intOf j).toNat)
  case atStart=>exact ⟨0,Nat.zero_le _,rfl,rfl,Int.le_refl _,rfl⟩
  case round =>
   obtain ⟨k,hk,rfl,rfl,hx,rfl⟩:=hrel
   by_cases hlt:k<n
   ·have hbt:=get_bt t
    have hb0:=bt_nonneg t (i+k)
    have hb1:=bt_le t (i+k)
    have hbe:=bt_eq t (i+k) (by omega)
    have hbd:=hexD_bd (bt t (i+k))
    have h16:=hexN_16 t i k (by omega)
    obtain ⟨d,hd⟩:∃ d,d=hexD (bt t (i+k)):=⟨_,rfl⟩
    have hcall:=fun W=>hexDigit_any (bt t (i+k)) W (by omega) (by omega)
    simp only [← hd] at hcall hbd
    have HB:=hide_ (show hexD (bn t (i+k))=d by rw [hd,hbe])
    have HN:=hide_ (hexN_bad t i k n)
    have HS:=hide_ (hexN_step t i k)
    obtain ⟨x,hxx⟩:∃ x,x=hexN t i k:=⟨_,rfl⟩
    have HX:=hide_ hxx
    rw [← hxx] at hx h16 ⊢
    have HCALL:=hide_ hcall
    clear hcall hd hbe hxx
    by_cases hneg:d<0
    ·go_wp2_with (go_at_call 241;refine (HCALL.out _).mono ?_;rintro e w' ⟨rfl,rfl⟩)
     go_ret
     have:hexW t i n = -1:=by rw [HW.out];exact HN.out (by rw [HB.out];exact hneg) hlt
     rw [this]
     exact ⟨rfl,rfl⟩
    ·go_wp2_with (go_at_call 241;refine (HCALL.out _).mono ?_;rintro e w' ⟨rfl,rfl⟩)
     go_roundw
     case rel =>
      refine ⟨k+1,by omega,by go_num,?_,?_,by trivial⟩
      ·rw [HS.out (by rw [← HX.out];exact hx) (by rw [HB.out];omega),HB.out,← HX.out]
      ·rw [HS.out (by rw [← HX.out];exact hx) (by rw [HB.out];omega),HB.out,← HX.out];omega
     case measure=>simp [intOf];omega
   ·obtain rfl:k=n:=by omega
    go_wp2
    go_ret
    rw [HW.out]
    exact ⟨rfl,rfl⟩
end Go.Proofs.YtikbegmodacopaaGreatDoor
namespace Go.Proofs.YtikbegmodacopaaGreatDoor
set_option maxRecDepth 100000
open Go.RowKit Go.PlainAid
theorem get!_ge (s:ByteArray) (k:Nat) (h:s.size≤k):s.get! k=0:=by
 unfold ByteArray.get!
 have:s.data[k]?=none:=Array.getElem?_eq_none (by simpa using h)
 simp only [getElem!_def,this]
 rfl
theorem get!_ext (s:ByteArray) (a k:Nat) (h:a≤s.size):(s.extract a s.size).get! k=s.get! (a+k):=by
 rcases Nat.lt_or_ge (a+k) s.size with c | c
 ·rw [get!_eq _ k (by rw [size_ext];omega),get!_eq s (a+k) c,ByteArray.getElem_extract]
 ·rw [get!_ge _ k (by rw [size_ext];omega),get!_ge s _ c]
theorem decode_ext (s:ByteArray) (a k:Nat) (h:a≤s.size):Utf8.decode (s.extract a s.size) k=Utf8.decode s (a+k):=by
 rw [Lib.decode_at,Lib.decode_at,get!_ext s a _ h,get!_ext s a _ h,get!_ext s a _ h,get!_ext s a _ h,size_ext,Nat.sub_sub]
 rfl
theorem bn_ext (s:ByteArray) (a k:Nat) (h:a≤s.size):bn (s.extract a s.size) k=bn s (a+k):=by unfold bn;rw [get!_ext s a k h]
theorem cutN_ext (s:ByteArray) (a k:Nat) (h:a≤s.size):cutN (s.extract a s.size) k=cutN s (a+k):=by unfold cutN;rw [decode_ext s a k h]
theorem lost_ext (s:ByteArray) (a k:Nat) (h:a≤s.size):lost (s.extract a s.size) k ↔ lost s (a+k):=by unfold lost;rw [decode_ext s a k h]
theorem cutR_ext (s:ByteArray) (a k:Nat) (h:a≤s.size):cutR (s.extract a s.size) k=cutR s (a+k):=by
 unfold cutR
 rw [decode_ext s a k h,bn_ext s a k h]
 by_cases c:lost s (a+k)
 ·rw [if_pos c,if_pos ((lost_ext s a k h).2 c)]
 ·rw [if_neg c,if_neg (fun x=>c ((lost_ext s a k h).1 x))]
def escN (s:ByteArray) (i:Nat):Option (Int × Bool × Nat) :=
 if s.size≤i+1 then none
 else if bn s (i+1)=110 then some (10,true,2)
 else if bn s (i+1)=116 then some (9,true,2)
 else if bn s (i+1)=114 then some (13,true,2)
 else if bn s (i+1)=48 then some (0,true,2)
 else if bn s (i+1)=92∨bn s (i+1)=34∨bn s (i+1)=39 then some (bn s (i+1),true,2)
 else if bn s (i+1)=120 then (if hexW s (i+2) 2<0 then none else some (hexW s (i+2) 2,true,4))
 else if bn s (i+1)=117 then (if hexW s (i+2) 4<0∨(55296≤hexW s (i+2) 4∧hexW s (i+2) 4≤57343) then none else some (hexW s (i+2) 4,false,6))
 else none
theorem escN_ext (s:ByteArray) (a:Nat) (h:a≤s.size):escN (s.extract a s.size) 0=escN s a:=by
 unfold escN
 have e0:((s.extract a s.size).size≤0+1)=(s.size≤a+1):=by rw [size_ext];exact propext ⟨fun h=>by omega,fun h=>by omega⟩
 simp only [e0,bn_ext s a _ h,hexW_ext s a _ _ h,Nat.zero_add]
def sayN (s:ByteArray) (i:Nat):Int × Bool × Nat × Int :=
 if bn s i=92 then (match escN s i with | none=>(0,false,0,12) | some (c,b,k)=>(c,b,k,0))
 else if bn s i<32∨bn s i=127 then (0,false,0,10)
 else if lost s i then (0,false,0,13)
 else (((Utf8.decode s i).1:Int),false,cutN s i,0)
end Go.Proofs.YtikbegmodacopaaGreatDoor
namespace Go.Proofs.YtikbegmodacopaaGreatDoor
set_option maxRecDepth 100000
open Go.RowKit Go.PlainAid
theorem number_bad (t:ByteArray) (n:Nat) (m:Int) (hm:(n:Int)=m) (w:World) (hn:n≤4) (hx:hexW t 0 n<0) :
  Calls Tryz.prog 240 #[.string t,.int .i64 m] w fun e w'=>e=.returned (.tuple #[.int .i32 0,.bool false])∧w=w':=by
 subst hm
 refine (number_any t n w hn).mono ?_
 rintro e w' ⟨⟨h,rfl⟩ | ⟨h,rfl⟩,rfl⟩
 ·exact ⟨rfl,rfl⟩
 ·omega
theorem number_ok (t:ByteArray) (n:Nat) (m:Int) (hm:(n:Int)=m) (w:World) (hn:n≤4) (x:Int) (hx:hexW t 0 n=x) (h0:0≤x) :
  Calls Tryz.prog 240 #[.string t,.int .i64 m] w fun e w'=>e=.returned (.tuple #[.int .i32 x,.bool true])∧w=w':=by
 subst hm hx
 refine (number_any t n w hn).mono ?_
 rintro e w' ⟨⟨h,rfl⟩ | ⟨h,rfl⟩,rfl⟩
 ·omega
 ·exact ⟨rfl,rfl⟩
def EscOut (c:Int) (b:Bool) (k:Int) (ok:Bool) (w:World) (e:Ending) (w':World):Prop :=
 e=.returned (.tuple #[.agg #[.int .i32 c,.bool b,.int .i64 k],.bool ok])∧w.alloc (.cells #[.int .i32 c,.bool b,.int .i64 k] 260)=w'
set_option maxHeartbeats 400000 in
theorem esc_short (t:ByteArray) (w:World) (h:t.size<2) :
  Calls Tryz.prog 232 #[.string t] w (EscOut 0 false 0 false w):=by
 have hbt:=get_bt t
 unfold EscOut
 go_enter Tryz.func232,Tryz.ntmps232
 go_wp2
 refine bodyPost_ret ?_ rfl ⟨rfl,rfl⟩
 simp [results,Tryz.results232,go_sem]
set_option maxHeartbeats 400000 in
theorem esc_n (t:ByteArray) (w:World) (h:2≤t.size) (h1:bt t 1=110) :
  Calls Tryz.prog 232 #[.string t] w (EscOut 10 true 2 true w):=by
 have hbt:=get_bt t
 unfold EscOut
 go_enter Tryz.func232,Tryz.ntmps232
 go_wp2
 refine bodyPost_ret ?_ rfl ⟨rfl,rfl⟩
 simp [results,Tryz.results232,go_sem]
set_option maxHeartbeats 400000 in
theorem esc_t (t:ByteArray) (w:World) (h:2≤t.size) (h1:bt t 1=116) :
  Calls Tryz.prog 232 #[.string t] w (EscOut 9 true 2 true w):=by
 have hbt:=get_bt t
 unfold EscOut
 go_enter Tryz.func232,Tryz.ntmps232
 go_wp2
 refine bodyPost_ret ?_ rfl ⟨rfl,rfl⟩
 simp [results,Tryz.results232,go_sem]
set_option maxHeartbeats 400000 in
theorem esc_r (t:ByteArray) (w:World) (h:2≤t.size) (h1:bt t 1=114) :
  Calls Tryz.prog 232 #[.string t] w (EscOut 13 true 2 true w):=by
 have hbt:=get_bt t
 unfold EscOut
 go_enter Tryz.func232,Tryz.ntmps232
 go_wp2
 refine bodyPost_ret ?_ rfl ⟨rfl,rfl⟩
 simp [results,Tryz.results232,go_sem]
set_option maxHeartbeats 400000 in
theorem esc_z (t:ByteArray) (w:World) (h:2≤t.size) (h1:bt t 1=48) :
  Calls Tryz.prog 232 #[.string t] w (EscOut 0 true 2 true w):=by
 have hbt:=get_bt t
 unfold EscOut
 go_enter Tryz.func232,Tryz.ntmps232
 go_wp2
 refine bodyPost_ret ?_ rfl ⟨rfl,rfl⟩
 simp [results,Tryz.results232,go_sem]
set_option maxHeartbeats 400000 in
theorem esc_b (t:ByteArray) (w:World) (h:2≤t.size) (h1:bt t 1=92) :
  Calls Tryz.prog 232 #[.string t] w (EscOut 92 true 2 true w):=by
 have hbt:=get_bt t
 unfold EscOut
 go_enter Tryz.func232,Tryz.ntmps232
 go_wp2
 refine bodyPost_ret ?_ rfl ⟨rfl,rfl⟩
 simp [results,Tryz.results232,go_sem]
set_option maxHeartbeats 400000 in
theorem esc_q (t:ByteArray) (w:World) (h:2≤t.size) (h1:bt t 1=34) :
  Calls Tryz.prog 232 #[.string t] w (EscOut 34 true 2 true w):=by
 have hbt:=get_bt t
 unfold EscOut
 go_enter Tryz.func232,Tryz.ntmps232
 go_wp2
 refine bodyPost_ret ?_ rfl ⟨rfl,rfl⟩
 simp [results,Tryz.results232,go_sem]
set_option maxHeartbeats 400000 in
theorem esc_a (t:ByteArray) (w:World) (h:2≤t.size) (h1:bt t 1=39) :
  Calls Tryz.prog 232 #[.string t] w (EscOut 39 true 2 true w):=by
 have hbt:=get_bt t
 unfold EscOut
 go_enter Tryz.func232,Tryz.ntmps232
 go_wp2
 refine bodyPost_ret ?_ rfl ⟨rfl,rfl⟩
 simp [results,Tryz.results232,go_sem]
set_option maxHeartbeats 400000 in
theorem esc_x_no (t:ByteArray) (w:World) (h:2≤t.size) (h1:bt t 1=120) (hx:hexW (t.extract 2 t.size) 0 2<0) :
  Calls Tryz.prog 232 #[.string t] w (EscOut 0 true 4 false w):=by
 have hbt:=get_bt t
 unfold EscOut
 go_enter Tryz.func232,Tryz.ntmps232
 go_wp2_with (go_at_call 240;refine (number_bad _ 2 2 rfl _ (by omega) hx).mono ?_;rintro e w' ⟨rfl,rfl⟩)
 refine bodyPost_ret ?_ rfl ⟨rfl,rfl⟩
 simp [results,Tryz.results232,go_sem]
set_option maxHeartbeats 400000 in
theorem esc_x_ok (t:ByteArray) (w:World) (h:2≤t.size) (h1:bt t 1=120) (x:Int) (hx:hexW (t.extract 2 t.size) 0 2=x) (h0:0≤x) :
  Calls Tryz.prog 232 #[.string t] w (EscOut x true 4 true w):=by
 have hbt:=get_bt t
 have HX:=hide_ hx
 clear hx
 unfold EscOut
 go_enter Tryz.func232,Tryz.ntmps232
 go_wp2_with (go_at_call 240;refine (number_ok _ 2 2 rfl _ (by omega) x HX.out h0).mono ?_;rintro e w' ⟨rfl,rfl⟩)
 refine bodyPost_ret ?_ rfl ⟨rfl,rfl⟩
 simp [results,Tryz.results232,go_sem]
set_option maxHeartbeats 400000 in
theorem esc_u_no (t:ByteArray) (w:World) (h:2≤t.size) (h1:bt t 1=117) (hx:hexW (t.extract 2 t.size) 0 4<0) :
  Calls Tryz.prog 232 #[.string t] w (EscOut 0 false 6 false w):=by
 have hbt:=get_bt t
 unfold EscOut
 go_enter Tryz.func232,Tryz.ntmps232
 go_wp2_with (go_at_call 240;refine (number_bad _ 4 4 rfl _ (by omega) hx).mono ?_;rintro e w' ⟨rfl,rfl⟩)
 refine bodyPost_ret ?_ rfl ⟨rfl,rfl⟩
 simp [results,Tryz.results232,go_sem]
set_option maxHeartbeats 400000 in
theorem esc_u_sur (t:ByteArray) (w:World) (h:2≤t.size) (h1:bt t 1=117) (x:Int) (hx:hexW (t.extract 2 t.size) 0 4=x) (h0:55296≤x) (h2:x≤57343) :
  Calls Tryz.prog 232 #[.string t] w (EscOut x false 6 false w):=by
 have hbt:=get_bt t
 have HX:=hide_ hx
 clear hx
 unfold EscOut
 go_enter Tryz.func232,Tryz.ntmps232
 go_wp2_with (go_at_call 240;refine (number_ok _ 4 4 rfl _ (by omega) x HX.out (by omega)).mono ?_;rintro e w' ⟨rfl,rfl⟩)
 refine bodyPost_ret ?_ rfl ⟨rfl,rfl⟩
 simp [results,Tryz.results232,go_sem]
 exact ⟨h0,h2⟩
set_option maxHeartbeats 400000 in
theorem esc_u_lo (t:ByteArray) (w:World) (h:2≤t.size) (h1:bt t 1=117) (x:Int) (hx:hexW (t.extract 2 t.size) 0 4=x) (h0:0≤x) (h2:x<55296) :
  Calls Tryz.prog 232 #[.string t] w (EscOut x false 6 true w):=by
 have hbt:=get_bt t
 have HX:=hide_ hx
 clear hx
 unfold EscOut
 go_enter Tryz.func232,Tryz.ntmps232
 go_wp2_with (go_at_call 240;refine (number_ok _ 4 4 rfl _ (by omega) x HX.out (by omega)).mono ?_;rintro e w' ⟨rfl,rfl⟩)
 refine bodyPost_ret ?_ rfl ⟨rfl,rfl⟩
 simp [results,Tryz.results232,go_sem]
set_option maxHeartbeats 400000 in
theorem esc_u_hi (t:ByteArray) (w:World) (h:2≤t.size) (h1:bt t 1=117) (x:Int) (hx:hexW (t.extract 2 t.size) 0 4=x) (h0:57343<x) :
  Calls Tryz.prog 232 #[.string t] w (EscOut x false 6 true w):=by
 have hbt:=get_bt t
 have HX:=hide_ hx
 clear hx
 unfold EscOut
 go_enter Tryz.func232,Tryz.ntmps232
 go_wp2_with (go_at_call 240;refine (number_ok _ 4 4 rfl _ (by omega) x HX.out (by omega)).mono ?_;rintro e w' ⟨rfl,rfl⟩)
 refine bodyPost_ret ?_ rfl ⟨rfl,rfl⟩
 simp [results,Tryz.results232,go_sem]
set_option maxHeartbeats 400000 in
theorem esc_other (t:ByteArray) (w:World) (h:2≤t.size) (n110:bt t 1≠110) (n116:bt t 1≠116) (n114:bt t 1≠114) (n48:bt t 1≠48) (n92:bt t 1≠92) (n34:bt t 1≠34) (n39:bt t 1≠39) (n120:bt t 1≠120) (n117:bt t 1≠117) :
  Calls Tryz.prog 232 #[.string t] w (EscOut 0 false 0 false w):=by
 have hbt:=get_bt t
 unfold EscOut
 go_enter Tryz.func232,Tryz.ntmps232
 go_wp2
 refine bodyPost_ret ?_ rfl ⟨rfl,rfl⟩
 simp [results,Tryz.results232,go_sem]
theorem escape_any (t:ByteArray) (w:World) :
  Calls Tryz.prog 232 #[.string t] w fun e w'=>((escN t 0=none∧∃ a b c,EscOut a b c false w e w')∨∃ c b,∃ k:Nat,escN t 0=some (c,b,k)∧EscOut c b k true w e w'):=by
 by_cases h:t.size<2
 ·refine (esc_short t w h).mono fun e w' ho=>.inl ⟨by unfold escN;rw [if_pos (by omega)],_,_,_,ho⟩
 have hb:=bt_eq t 1 (by omega)
 have hw2:=hexW_ext t 2 0 2 (by omega)
 have hw4:=hexW_ext t 2 0 4 (by omega)
 simp only [Nat.add_zero] at hw2 hw4
 have e0:escN t 0=(if bn t 1=110 then (some (10,true,2):Option (Int × Bool × Nat))
  else if bn t 1=116 then some (9,true,2)
  else if bn t 1=114 then some (13,true,2)
  else if bn t 1=48 then some (0,true,2)
  else if bn t 1=92∨bn t 1=34∨bn t 1=39 then some (bn t 1,true,2)
  else if bn t 1=120 then (if hexW t 2 2<0 then none else some (hexW t 2 2,true,4))
  else if bn t 1=117 then (if hexW t 2 4<0∨(55296≤hexW t 2 4∧hexW t 2 4≤57343) then none else some (hexW t 2 4,false,6))
  else none):=by unfold escN;rw [if_neg (by omega)]
 rw [e0]
 by_cases c110:bn t 1=110
 ·refine (esc_n t w (by omega) (by omega)).mono fun e w' ho=>.inr ⟨_,_,2,by rw [if_pos c110],ho⟩
 by_cases c116:bn t 1=116
 ·refine (esc_t t w (by omega) (by omega)).mono fun e w' ho=>.inr ⟨_,_,2,by rw [if_neg c110,if_pos c116],ho⟩
 by_cases c114:bn t 1=114
 ·refine (esc_r t w (by omega) (by omega)).mono fun e w' ho=>.inr ⟨_,_,2,by rw [if_neg c110,if_neg c116,if_pos c114],ho⟩
 by_cases c48:bn t 1=48
 ·refine (esc_z t w (by omega) (by omega)).mono fun e w' ho=>.inr ⟨_,_,2,by rw [if_neg c110,if_neg c116,if_neg c114,if_pos c48],ho⟩
 by_cases c92:bn t 1=92
 ·refine (esc_b t w (by omega) (by omega)).mono fun e w' ho=>.inr ⟨_,_,2,by rw [if_neg c110,if_neg c116,if_neg c114,if_neg c48,if_pos (by omega),c92];rfl,ho⟩
 by_cases c34:bn t 1=34
 ·refine (esc_q t w (by omega) (by omega)).mono fun e w' ho=>.inr ⟨_,_,2,by rw [if_neg c110,if_neg c116,if_neg c114,if_neg c48,if_pos (by omega),c34];rfl,ho⟩
 by_cases c39:bn t 1=39
 ·refine (esc_a t w (by omega) (by omega)).mono fun e w' ho=>.inr ⟨_,_,2,by rw [if_neg c110,if_neg c116,if_neg c114,if_neg c48,if_pos (by omega),c39];rfl,ho⟩
 by_cases c120:bn t 1=120
 ·by_cases hx:hexW t 2 2<0
  ·refine (esc_x_no t w (by omega) (by omega) (by omega)).mono fun e w' ho=>.inl ⟨by rw [if_neg c110,if_neg c116,if_neg c114,if_neg c48,if_neg (show ¬ (bn t 1=92∨bn t 1=34∨bn t 1=39) by omega),if_pos c120,if_pos hx],_,_,_,ho⟩
  ·refine (esc_x_ok t w (by omega) (by omega) _ hw2 (by omega)).mono fun e w' ho=>.inr ⟨_,_,4,by rw [if_neg c110,if_neg c116,if_neg c114,if_neg c48,if_neg (show ¬ (bn t 1=92∨bn t 1=34∨bn t 1=39) by omega),if_pos c120,if_neg hx],ho⟩
 by_cases c117:bn t 1=117
 ·by_cases hx:hexW t 2 4<0
  ·refine (esc_u_no t w (by omega) (by omega) (by omega)).mono fun e w' ho=>.inl ⟨by rw [if_neg c110,if_neg c116,if_neg c114,if_neg c48,if_neg (show ¬ (bn t 1=92∨bn t 1=34∨bn t 1=39) by omega),if_neg c120,if_pos c117,if_pos (.inl hx)],_,_,_,ho⟩
  by_cases hs:55296≤hexW t 2 4∧hexW t 2 4≤57343
  ·refine (esc_u_sur t w (by omega) (by omega) _ hw4 (by omega) (by omega)).mono fun e w' ho=>.inl ⟨by rw [if_neg c110,if_neg c116,if_neg c114,if_neg c48,if_neg (show ¬ (bn t 1=92∨bn t 1=34∨bn t 1=39) by omega),if_neg c120,if_pos c117,if_pos (.inr hs)],_,_,_,ho⟩
  have hn:¬ (hexW t 2 4<0∨55296≤hexW t 2 4∧hexW t 2 4≤57343):=by omega
  by_cases hl:hexW t 2 4<55296
  ·refine (esc_u_lo t w (by omega) (by omega) _ hw4 (by omega) (by omega)).mono fun e w' ho=>.inr ⟨_,_,6,by rw [if_neg c110,if_neg c116,if_neg c114,if_neg c48,if_neg (show ¬ (bn t 1=92∨bn t 1=34∨bn t 1=39) by omega),if_neg c120,if_pos c117,if_neg hn],ho⟩
  ·refine (esc_u_hi t w (by omega) (by omega) _ hw4 (by omega)).mono fun e w' ho=>.inr ⟨_,_,6,by rw [if_neg c110,if_neg c116,if_neg c114,if_neg c48,if_neg (show ¬ (bn t 1=92∨bn t 1=34∨bn t 1=39) by omega),if_neg c120,if_pos c117,if_neg hn],ho⟩
 refine (esc_other t w (by omega) (by omega) (by omega) (by omega) (by omega) (by omega) (by omega) (by omega) (by omega) (by omega)).mono fun e w' ho=>.inl ⟨by rw [if_neg c110,if_neg c116,if_neg c114,if_neg c48,if_neg (show ¬ (bn t 1=92∨bn t 1=34∨bn t 1=39) by omega),if_neg c120,if_neg c117],_,_,_,ho⟩
end Go.Proofs.YtikbegmodacopaaGreatDoor
