/- Both sides' instructions of a quad are the same. -/
import Derived.Test.YtlcilhmkbmgkeaaGreatDoorNWordsN
set_option linter.unusedSimpArgs false
set_option linter.unusedVariables false
set_option maxHeartbeats 4000000
namespace Go.Abs
open Go


theorem quadValid_eq (q:gQuad) (n:Int):i_QuadValid q n=s_QuadValid q n:=by
 obtain⟨op,d,a,b,m⟩:=q
 unfold i_QuadValid s_QuadValid
 simp only[i_isReg,i_WordValid,i_OpValid,s_l21Regs,s_l21Reg,s_WordValid,s_OpValid,s_l6In,if_true,Bool.false_eq_true,if_false,bind_id,if_and,if_or,bind_some']
 simp only[ieq,eqD,gQuad.mk.injEq,ige,ile,ilt]
 by_cases h1:op=1
 ·subst h1;simp;rw[Bool.eq_iff_iff];simp;omega
 by_cases h2:op=2
 ·subst h2;simp;rw[Bool.eq_iff_iff];simp;omega
 by_cases h3:op=3
 ·subst h3;simp;rw[Bool.eq_iff_iff];simp;omega
 by_cases h4:op=4
 ·subst h4;simp;rw[Bool.eq_iff_iff];simp;omega
 by_cases h5:op=5
 ·subst h5;simp;rw[Bool.eq_iff_iff];simp;omega
 by_cases h6:op=6
 ·subst h6;simp;rw[Bool.eq_iff_iff];simp;omega
 by_cases h7:op=7
 ·subst h7;simp;rw[Bool.eq_iff_iff];simp;omega
 by_cases h9:op=9
 ·subst h9;simp;rw[Bool.eq_iff_iff];simp;omega
 by_cases h8:op=8
 ·subst h8;simp;rw[Bool.eq_iff_iff];simp;omega
 by_cases h10:op=10
 ·subst h10;simp;rw[Bool.eq_iff_iff];simp;omega
 have e10:(op==10)=false:=by simpa using h10
 simp[h1,h2,h3,h4,h5,h6,h7,h8,h9,h10,e10]

theorem quadValid_ok (q:gQuad) (n:Int):∃v,s_QuadValid q n=some v∧(v=true→1≤q.Op∧q.Op≤10∧0≤q.Dst∧q.Dst≤11∧0≤q.A∧q.A≤11∧0≤q.B∧q.B≤11∧(q.Op=3→1≤q.N∧q.N≤12)∧(q.Op=1→ -2147483648≤q.N∧q.N≤2147483647)):=by
 obtain⟨op,d,a,b,m⟩:=q
 unfold s_QuadValid
 simp only[s_l21Regs,s_l21Reg,s_WordValid,s_OpValid,s_l6In,if_true,Bool.false_eq_true,if_false,bind_id,if_and,if_or,bind_some']
 simp only[ieq,ige,ile,ilt]
 by_cases h1:op=1
 ·subst h1;simp;omega
 by_cases h2:op=2
 ·subst h2;simp;omega
 by_cases h3:op=3
 ·subst h3;simp;omega
 by_cases h4:op=4
 ·subst h4;simp;omega
 by_cases h5:op=5
 ·subst h5;simp;omega
 by_cases h6:op=6
 ·subst h6;simp;omega
 by_cases h7:op=7
 ·subst h7;simp;omega
 by_cases h9:op=9
 ·subst h9;simp;omega
 by_cases h8:op=8
 ·subst h8;simp;omega
 by_cases h10:op=10
 ·subst h10;simp;omega
 simp[h1,h2,h3,h4,h5,h6,h7,h8,h9,h10]
end Go.Abs

/- Both sides' instructions of a quad are the same list. -/
set_option linter.unusedSimpArgs false
set_option linter.unusedVariables false
set_option maxHeartbeats 8000000
namespace Go.Abs
open Go

theorem reg_val (p c s:Int) (h:0≤p∧0≤c∧c≤8):∃v,s_l43Reg p c s=some v∧(ilt p c=true→idx ([8,9,18,19,20,21,22,23]:List Int) p=some v)∧(ilt p c=false→v=s):=by
 unfold s_l43Reg
 split
 ·rename_i h1
  rw[ige_iff] at h1
  exact⟨_,rfl,fun h2=>by rw[ilt_iff] at h2;omega,fun _=>rfl⟩
 ·rename_i h1
  rw[ige_iff] at h1
  obtain⟨v,hv,_⟩:=idx_ok ([8,9,18,19,20,21,22,23]:List Int) p h.1 (by simp;omega)
  exact⟨v,by rw[hv,bind_some'],fun _=>hv,fun h2=>by have:=(ilt_iff p c).2 (by omega);rw[h2] at this;cases this⟩
theorem op_val (n:Int) (h:1≤n∧n≤12):∃v,(¬v=15∧¬v=14∧¬v=16)∧s_l43Op n=some v∧idx ([7,8,6,8,11,9,10,1,2,3,4,5]:List Int) (isub .i64 n 1)=some v:=by
 unfold s_l43Op
 rw[isub_eq _ _ (by omega)]
 obtain⟨v,hv,hm⟩:=idx_ok ([7,8,6,8,11,9,10,1,2,3,4,5]:List Int) (n-1) (by omega) (by simp;omega)
 exact⟨v,by simp at hm;omega,by rw[hv,bind_some'],hv⟩
theorem appx_s (l m:List gInstr) (h:l.length+m.length≤100):appx 40 l m=some (l++m):=appx_ok 40 l m ⟨Nat.le_trans h (by unfold maxLen;omega),by omega⟩

theorem const_val (n:Int) (h: -2147483648≤n∧n≤2147483647):∃u lo s w u2 hi,s_Unsigned n=some u∧s_Bits u 0 12=some lo∧s_SignExtend lo 12=some s∧s_Wrap (isub .i64 n s)=some w∧s_Unsigned w=some u2∧s_Bits u2 12 20=some hi∧i_Wrap (isub .i64 n s)=some w:=by
 obtain⟨u,hu0,_⟩:=unsigned_ok n
 have hu:s_Unsigned n=some u:=by rw[← unsigned_eq];exact hu0
 obtain⟨lo,hlo,_⟩:=bits_ok u 0 12
 obtain⟨s,hs,hs1,hs2⟩:=sx_ok lo 12
 have e:isub .i64 n s=n-s:=isub_eq _ _ (by omega)
 have hw:=wrap_val (n-s) (by omega)
 obtain⟨u2,hu20,_⟩:=unsigned_ok ((n-s+2147483648) % 4294967296-2147483648)
 have hu2:=hu20
 rw[unsigned_eq] at hu2
 obtain⟨hi,hhi,_⟩:=bits_ok u2 12 20
 exact⟨u,lo,s,_,u2,hi,hu,hlo,hs,by rw[e];exact hw,hu2,hhi,by rw[e,wrap_eq _ (by omega)];exact hw⟩

def calls (l:List gInstr):List gInstr:=l.filter fun i=>i.Op==15

def w1 (x c:Int):Nat:=if ilt x c=true then 0 else 1
def qlen (q:gQuad) (c:Int):Nat:=
 if q.Op=1 then(if(ige q.N (-2048)&&ile q.N 2047)=true then 1 else 2)+w1 q.Dst c else if q.Op=2 then 1+w1 q.A c+w1 q.Dst c
 else if q.Op=3 then 1+w1 q.A c+w1 q.B c+(if q.N=4 then 1 else 0)+w1 q.Dst c else if q.Op=4 then 1 else if q.Op=5 then 2+w1 q.A c
 else if q.Op=6 then 4+w1 q.A c else if q.Op=7 then 4+w1 q.Dst c else if q.Op=9 then 3+w1 q.A c else 2
def noMem (l:List gInstr):Bool:=l.all fun i=>i.Op !=14&&i.Op !=16

theorem quad_eq (q:gQuad) (c off:Int) (hc:1≤c∧c≤8) (ho: -100000≤off∧off≤100000) (h1:1≤q.Op∧q.Op≤10) (hd:0≤q.Dst) (ha:0≤q.A) (hb:0≤q.B) (hn:q.Op=3→1≤q.N∧q.N≤12)
  (hw:q.Op=1→ -2147483648≤q.N∧q.N≤2147483647):∃l,i_quadInstrs q c off=some l∧s_l43Quad q c off=some l∧(calls l=if 6≤q.Op then[⟨15,1,0,0,0⟩] else[])∧l.length≤5∧l.length=qlen q c∧((ilt q.Dst c&&ilt q.A c&&ilt q.B c)=true→noMem l=true):=by
 obtain⟨rd,hrd,hd1,hd2⟩:=reg_val q.Dst c 7 (by omega)
 obtain⟨ra,hra,ha1,ha2⟩:=reg_val q.A c 5 (by omega)
 obtain⟨rb,hrb,hb1,hb2⟩:=reg_val q.B c 6 (by omega)
 have e0:isub .i64 off (imul .i64 4 0)=off:=by rw[imul_eq _ _ (by omega),isub_eq _ _ (by omega)];omega
 unfold i_quadInstrs s_l43Quad
 simp only[hrd,bind_some',ieq,i_emitter_write_i_quadInstrs_1,i_emitter_write_i_quadInstrs_2,i_emitter_write_i_quadInstrs_3,i_emitter_write_i_quadInstrs_4,i_emitter_read,i_emitter_jump,i_emitter_call,i_emitter_emit,i_emitter_emit_c0_1,i_quadInstrs_1,i_quadInstrs_2,i_quadInstrs_3,i_quadInstrs_4,s_l43Const_o,s_l43Read,s_l43Read_o,s_l43Write,s_l43Give_o,s_l43Call,s_l43Call_o,s_l43Move,s_l43Box]
 have hop:q.Op=1∨q.Op=2∨q.Op=3∨q.Op=4∨q.Op=5∨q.Op=6∨q.Op=7∨q.Op=8∨q.Op=9∨q.Op=10:=by omega
 rcases hop with h|h|h|h|h|h|h|h|h|h
 ·obtain⟨u,lo,s,w,u2,hi,k1,k2,k3,k4,k5,k6,k7⟩:=const_val q.N (hw h)
  simp only[h,i_constInstrs,s_l6In,bind_id,if_and,bind_some',unsigned_eq,bits_eq,signExtend_eq,k1,k2,k3,k4,k5,k6,k7,i_addi,beq_self_eq_true,if_true]
  cases hC:(ige q.N (-2048)&&ile q.N 2047)
  ·have hC':¬(ige q.N (-2048)=true∧ile q.N 2047=true):=by rw[← Bool.and_eq_true,hC];simp
   cases hD:ilt q.Dst c
   ·have:=hd2 hD;subst this
    simp[calls,qlen,w1,noMem,appx_s,k7,k5,k6,h,hD,hC']
   ·have:=hd1 hD
    simp[calls,qlen,w1,noMem,appx_s,this,k7,k5,k6,h,hD,hC']
  ·have hC':(ige q.N (-2048)=true∧ile q.N 2047=true):=by rw[← Bool.and_eq_true,hC]
   cases hD:ilt q.Dst c
   ·have:=hd2 hD;subst this
    simp[calls,qlen,w1,noMem,appx_s,k7,k5,k6,h,hD,hC']
   ·have:=hd1 hD
    simp[calls,qlen,w1,noMem,appx_s,this,k7,k5,k6,h,hD,hC']
 ·simp only[h]
  cases hD:ilt q.Dst c<;>cases hA:ilt q.A c<;>first|(have:=hd2 hD;subst this)|(have k1:=hd1 hD)<;>first|(have:=ha2 hA;subst this)|(have k2:=ha1 hA)
  all_goals simp[calls,qlen,w1,noMem,appx_s,i_addi,s_l43Move, *]
 ·obtain⟨vo,hvo,ho1,ho2⟩:=op_val q.N (hn h)
  simp only[h,s_l43Bin,s_l43Read_o,s_l43Read,s_l43Write,hrd,hra,hrb,ho1,ho2,bind_some',ieq]
  by_cases hN:q.N=4
  ·simp only[hN] at ho1 ho2 ⊢
   cases hD:ilt q.Dst c<;>cases hA:ilt q.A c<;>cases hB:ilt q.B c<;>first|(have:=hd2 hD;subst this)|(have k1:=hd1 hD)<;>first|(have:=ha2 hA;subst this)|(have k2:=ha1 hA)<;>first|(have:=hb2 hB;subst this)|(have k3:=hb1 hB)
   all_goals simp[calls,qlen,w1,noMem,appx_s, *]
  ·have hN':(q.N==4)=false:=by simpa using hN
   simp only[hN']
   cases hD:ilt q.Dst c<;>cases hA:ilt q.A c<;>cases hB:ilt q.B c<;>first|(have:=hd2 hD;subst this)|(have k1:=hd1 hD)<;>first|(have:=ha2 hA;subst this)|(have k2:=ha1 hA)<;>first|(have:=hb2 hB;subst this)|(have k3:=hb1 hB)
   all_goals simp[calls,qlen,w1,noMem,appx_s, *]
 ·simp[calls,qlen,w1,noMem,h,appx_s,e0,ilen]
 ·simp only[h,s_l43Zero,s_l43Read_o,s_l43Read,s_l43Write]
  cases hA:ilt q.A c<;>first|(have:=ha2 hA;subst this)|(have k2:=ha1 hA)
  all_goals simp[calls,qlen,w1,noMem,appx_s,i_addi,s_l43Move,s_l43Box,ilen, *]
 ·simp only[h]
  cases hA:ilt q.A c<;>first|(have:=ha2 hA;subst this)|(have k2:=ha1 hA)
  all_goals simp[calls,qlen,w1,noMem,appx_s,i_addi,s_l43Move,s_l43Box,ilen, *]
 ·simp only[h]
  cases hD:ilt q.Dst c<;>first|(have:=hd2 hD;subst this)|(have k1:=hd1 hD)
  all_goals simp[calls,qlen,w1,noMem,appx_s,i_addi,s_l43Move,s_l43Box, *]
 ·simp[calls,qlen,w1,noMem,h,appx_s,i_addi]
 ·simp only[h]
  cases hA:ilt q.A c<;>first|(have:=ha2 hA;subst this)|(have k2:=ha1 hA)
  all_goals simp[calls,qlen,w1,noMem,appx_s,i_addi,s_l43Move,s_l43Box,ilen, *]
 ·simp[calls,qlen,w1,noMem,h,appx_s,i_addi]
end Go.Abs
