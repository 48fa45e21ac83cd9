/- Words: both sides compute the same. -/
import Derived.Test.YtlcilhmkbmgkeaaGreatDoorNOpV
set_option linter.unusedSimpArgs false
set_option linter.unusedVariables false
set_option maxHeartbeats 4000000
namespace Go.Abs
open Go

theorem power_eq (n:Nat) (hn:n≤62):s_l1Power n=some ((2:Int) ^ n):=by
 unfold s_l1Power
 obtain⟨e,he,hd⟩:=loopM_rule (step:=s_l1Power_L1 n) (s:=(1,0)) (fun s=>∃k:Nat,k≤n∧s=((2:Int) ^ k,(k:Int))) (fun s=>n-s.2.toNat) (fun e=>e=(2:Int) ^ n) ⟨0,by omega,rfl⟩ (by
  rintro s ⟨k,hk,rfl⟩
  unfold s_l1Power_L1
  dsimp only
  by_cases h:k<n
  ·left
   rw[if_pos (by rw[ilt_iff];omega)]
   have hp:(2:Int) ^ k≤2 ^ 61:=by exact_mod_cast Nat.pow_le_pow_right (by decide) (by omega)
   have hp0:(0:Int)<(2:Int) ^ k:=by exact_mod_cast Nat.pow_pos (n:=k) (by decide:0<2)
   refine⟨_,rfl,⟨k+1,by omega,?_⟩,?_⟩
   ·rw[imul_eq _ _ (by omega),iadd_eq _ _ (by omega),Int.pow_succ];rfl
   ·simp only;rw[iadd_eq _ _ (by omega)];omega
  ·right
   rw[if_neg (by rw[ilt_iff];omega)]
   have:k=n:=by omega
   subst this
   exact⟨_,rfl,rfl⟩)
 rw[he,hd];rfl

theorem shl1 (n:Nat) (hn:n≤62):shlx .i64 1 n=some ((2:Int) ^ n):=by
 unfold shlx
 rw[if_neg (by omega)]
 have hp:(2:Int) ^ n≤2 ^ 62:=by exact_mod_cast Nat.pow_le_pow_right (by decide) hn
 have hp0:(0:Int)<(2:Int) ^ n:=by exact_mod_cast Nat.pow_pos (n:=n) (by decide:0<2)
 have e:min (n:Int).toNat IntKind.i64.bits=n:=by show min _ 64=_;simp;omega
 rw[e,Int.one_mul,wr64]
 omega

theorem unsigned_ok (n:Int):∃u,i_Unsigned n=some u∧ -1≤u∧u<4294967296∧(-2147483648≤n∧n≤2147483647→u=n % 4294967296):=by
 unfold i_Unsigned
 simp only[i_WordValid,bind_id,if_and,bind_some']
 by_cases h: -2147483648≤n∧n≤2147483647
 ·have e:(ige n (-2147483648)&&ile n 2147483647)=true:=by simp[ige,ile];omega
  rw[e]
  simp only[bnot,Bool.not_true,Bool.false_eq_true,if_false]
  have e2:iconv .i64 (iconv .u32 n)=n % 4294967296:=by
   unfold iconv;rw[IntKind.wrap_u32,wr64];omega
  rw[e2];exact⟨_,rfl,by omega,by omega,fun _=>rfl⟩
 ·have e:(ige n (-2147483648)&&ile n 2147483647)=false:=by
   rw[Bool.eq_false_iff];simp[ige,ile];omega
  rw[e];exact⟨_,rfl,by omega,by omega,fun h'=>absurd h' h⟩

theorem wrap_eq (n:Int) (h: -9223372036854775808≤n∧n≤9223372036854775807):i_Wrap n=s_Wrap n:=by
 unfold i_Wrap s_Wrap
 have e:remx n 4294967296=some (n.tmod 4294967296):=by unfold remx;rw[if_neg (by omega)]
 rw[e,bind_some']
 have e2:iconv .i64 (iconv .i32 n)=(n+2147483648) % 4294967296-2147483648:=by
  unfold iconv;rw[IntKind.wrap_i32,wr64];omega
 rw[e2]
 have e3:n.tmod 4294967296=if 0≤n then n % 4294967296 else -((-n) % 4294967296):=by
  split
  ·rename_i h0;exact Int.tmod_eq_emod_of_nonneg h0
  ·rename_i h0
   have:n= -(-n):=by omega
   rw[this,Int.neg_tmod,Int.tmod_eq_emod_of_nonneg (by omega)]
   simp
 generalize n.tmod 4294967296=t at e3
 have hp:0≤n→t=n % 4294967296:=fun h=>by rw[e3,if_pos h]
 have hm:¬0≤n→t= -((-n) % 4294967296):=fun h=>by rw[e3,if_neg h]
 clear e3
 split
 ·rename_i h0
  rw[igt_iff] at h0
  by_cases h2:0≤n
  ·have:=hp h2
   rw[isub_eq _ _ (by omega)];congr 1;omega
  ·have:=hm h2
   rw[isub_eq _ _ (by omega)];congr 1;omega
 ·rename_i h0
  rw[igt_iff] at h0
  split
  ·rename_i h1
   rw[ilt_iff] at h1
   by_cases h2:0≤n
   ·have:=hp h2
    rw[iadd_eq _ _ (by omega)];congr 1;omega
   ·have:=hm h2
    rw[iadd_eq _ _ (by omega)];congr 1;omega
  ·rename_i h1
   rw[ilt_iff] at h1
   by_cases h2:0≤n
   ·have:=hp h2
    congr 1;omega
   ·have:=hm h2
    congr 1;omega
theorem wrap_val (n:Int) (h: -9223372036854775808≤n∧n≤9223372036854775807):s_Wrap n=some ((n+2147483648) % 4294967296-2147483648):=by
 rw[← wrap_eq n h]
 unfold i_Wrap iconv;rw[IntKind.wrap_i32,wr64];omega

theorem bits_eq (u low many:Int):i_Bits u low many=s_Bits u low many:=by
 unfold i_Bits s_Bits
 simp only[i_isUnsigned,s_l6In,bind_id,if_and,if_or,bind_some']
 by_cases h:0≤u∧u<4294967296∧0≤low∧low≤31∧1≤many∧many≤32-low
 ·obtain⟨h1,h2,h3,h4,h5,h6⟩:=h
  have es:isub .i64 32 low=32-low:=isub_eq _ _ (by omega)
  rw[es]
  have e:(bnot (ige u 0&&ilt u 4294967296)||ilt low 0||igt low 31||ilt many 1||igt many (32-low))=false:=by
   rw[Bool.eq_false_iff];simp[bnot,ige,ilt,igt];omega
  have e':(bnot (ige u 0&&ile u 4294967295)||bnot (ige low 0&&ile low 31)||bnot (ige many 1&&ile many (32-low)))=false:=by
   rw[Bool.eq_false_iff];simp[bnot,ige,ile];omega
  rw[e,e']
  simp only[Bool.false_eq_true,if_false]
  obtain⟨l,rfl⟩:∃l:Nat,low=l:=⟨low.toNat,by omega⟩
  obtain⟨m,rfl⟩:∃m:Nat,many=m:=⟨many.toNat,by omega⟩
  rw[power_eq l (by omega),power_eq m (by omega),shl1 m (by omega)]
  simp only[bind_some']
  have pl:(0:Int)<2 ^ l:=by exact_mod_cast Nat.pow_pos (n:=l) (by decide:0<2)
  have pm:(0:Int)<2 ^ m:=by exact_mod_cast Nat.pow_pos (n:=m) (by decide:0<2)
  have pm':(2:Int) ^ m≤2 ^ 32:=by exact_mod_cast Nat.pow_le_pow_right (by decide) (by omega)
  have esh:shrx .i64 u l=some (u / 2 ^ l):=by
   unfold shrx
   rw[if_neg (by omega)]
   have e:min (l:Int).toNat IntKind.i64.bits=l:=by show min _ 64=_;simp;omega
   rw[e,Int.fdiv_eq_ediv_of_nonneg _ (Int.le_of_lt pl)]
  rw[esh,quox_eq u _ h1 (by omega) pl]
  simp only[bind_some']
  rw[remx_eq _ _ (Int.ediv_nonneg h1 (by omega)) pm]
  have hv0:0≤u / 2 ^ l:=Int.ediv_nonneg h1 (by omega)
  have hv1:u / 2 ^ l≤u:=Int.ediv_le_self _ h1
  generalize u / 2 ^ l=v at hv0 hv1
  rw[isub_eq _ _ (by omega),iand_eq _ _ hv0 (by omega) (by omega) (by omega)]
  congr 1
  obtain⟨w,rfl⟩:∃w:Nat,v=w:=⟨v.toNat,by omega⟩
  have:((2:Int) ^ m-1).toNat=2 ^ m-1:=by
   have:((2:Int) ^ m)=((2 ^ m:Nat):Int):=by simp
   rw[this];have:=Nat.pow_pos (n:=m) (by decide:0<2);omega
  rw[this]
  simp only[Int.toNat_natCast]
  rw[Nat.and_two_pow_sub_one_eq_mod]
  simp
 ·have e:(bnot (ige u 0&&ilt u 4294967296)||ilt low 0||igt low 31||ilt many 1||igt many (isub .i64 32 low))=true:=by
   by_cases hl:0≤low∧low≤31
   ·rw[isub_eq _ _ (by omega)];simp[bnot,ige,ilt,igt];omega
   ·simp[bnot,ige,ilt,igt];omega
  have e':(bnot (ige u 0&&ile u 4294967295)||bnot (ige low 0&&ile low 31)||bnot (ige many 1&&ile many (isub .i64 32 low)))=true:=by
   by_cases hl:0≤low∧low≤31
   ·rw[isub_eq _ _ (by omega)];simp[bnot,ige,ile];omega
   ·simp[bnot,ige,ile];omega
  rw[e,e'];rfl

end Go.Abs

/- Words: both sides compute the same. -/
set_option linter.unusedSimpArgs false
set_option linter.unusedVariables false
set_option maxHeartbeats 4000000
namespace Go.Abs
open Go

theorem unsigned_eq (n:Int):i_Unsigned n=s_Unsigned n:=by
 unfold i_Unsigned s_Unsigned
 simp only[i_WordValid,s_WordValid,s_l6In,bind_id,if_and,bind_some']
 by_cases h: -2147483648≤n∧n≤2147483647
 ·have e:(ige n (-2147483648)&&ile n 2147483647)=true:=by simp[ige,ile];omega
  rw[e]
  simp only[bnot,Bool.not_true,Bool.false_eq_true,if_false]
  have e2:iconv .i64 (iconv .u32 n)=n % 4294967296:=by
   unfold iconv;rw[IntKind.wrap_u32,wr64];omega
  rw[e2]
  split
  ·rename_i h0
   rw[ilt_iff] at h0
   rw[iadd_eq _ _ (by omega)];congr 1;omega
  ·rename_i h0
   rw[ilt_iff] at h0
   congr 1;omega
 ·have e:(ige n (-2147483648)&&ile n 2147483647)=false:=by
   rw[Bool.eq_false_iff];simp[ige,ile];omega
  rw[e];rfl
theorem signExtend_eq (u many:Int):i_SignExtend u many=s_SignExtend u many:=by
 unfold i_SignExtend s_SignExtend
 simp only[s_l6In,bind_id,if_and,if_or,bind_some']
 by_cases h:1≤many∧many≤32
 ·obtain⟨m,rfl⟩:∃m:Nat,many=m:=⟨many.toNat,by omega⟩
  have em:isub .i64 (m:Int) 1=((m-1:Nat):Int):=by rw[isub_eq _ _ (by omega)];omega
  rw[em,power_eq m (by omega),power_eq (m-1) (by omega),shl1 m (by omega),shl1 (m-1) (by omega)]
  simp only[bind_some',if_or]
  have pm:(0:Int)<2 ^ m:=by exact_mod_cast Nat.pow_pos (n:=m) (by decide:0<2)
  have pm':(2:Int) ^ m≤2 ^ 32:=by exact_mod_cast Nat.pow_le_pow_right (by decide) (by omega)
  have e:(ilt (m:Int) 1||igt (m:Int) 32)=false:=by rw[Bool.eq_false_iff];simp[ilt,igt];omega
  have e':(ige (m:Int) 1&&ile (m:Int) 32)=true:=by simp[ige,ile];omega
  rw[e,e']
  have ec:((false||ilt u 0)||ige u (2 ^ m))=(bnot true||bnot (ige u 0&&ile u (isub .i64 (2 ^ m) 1))):=by
   rw[isub_eq _ _ (by omega)]
   rw[Bool.eq_iff_iff];simp[ilt,ige,ile,bnot];omega
  by_cases h0:ilt u 0=true
  ·have e1:bnot (ige u 0&&ile u (isub .i64 (2 ^ m) 1))=true:=by
    rw[ilt_iff] at h0;simp[bnot,ige];omega
   simp[h0,e1,bnot]
   intro a;rw[ige_iff] at a;rw[ilt_iff] at h0;omega
  ·have h0':ilt u 0=false:=by simpa using h0
   rw[h0'] at ec ⊢
   simp only[Bool.or_self,Bool.false_eq_true,if_false,Bool.false_or] at ec ⊢
   rw[ec]
 ·have e:(ilt many 1||igt many 32)=true:=by simp[ilt,igt];omega
  have e':(ige many 1&&ile many 32)=false:=by rw[Bool.eq_false_iff];simp[ige,ile];omega
  rw[e,e']
  simp[bnot]

theorem bits_ok (u low many:Int):∃v,s_Bits u low many=some v∧0≤v∧v<4294967296:=by
 unfold s_Bits
 simp only[s_l6In,bind_id,if_and,if_or,bind_some']
 by_cases h:0≤u∧u<4294967296∧0≤low∧low≤31∧1≤many∧many≤32-low
 ·obtain⟨h1,h2,h3,h4,h5,h6⟩:=h
  have es:isub .i64 32 low=32-low:=isub_eq _ _ (by omega)
  have e':(bnot (ige u 0&&ile u 4294967295)||bnot (ige low 0&&ile low 31)||bnot (ige many 1&&ile many (32-low)))=false:=by
   rw[Bool.eq_false_iff];simp[bnot,ige,ile];omega
  rw[es,e']
  simp only[Bool.false_eq_true,if_false]
  obtain⟨l,rfl⟩:∃l:Nat,low=l:=⟨low.toNat,by omega⟩
  obtain⟨m,rfl⟩:∃m:Nat,many=m:=⟨many.toNat,by omega⟩
  rw[power_eq l (by omega),power_eq m (by omega)]
  have pl:(0:Int)<2 ^ l:=by exact_mod_cast Nat.pow_pos (n:=l) (by decide:0<2)
  have pm:(0:Int)<2 ^ m:=by exact_mod_cast Nat.pow_pos (n:=m) (by decide:0<2)
  have pm':(2:Int) ^ m≤2 ^ 32:=by exact_mod_cast Nat.pow_le_pow_right (by decide) (by omega)
  simp only[bind_some']
  rw[quox_eq u _ h1 (by omega) pl]
  simp only[bind_some']
  have hv0:0≤u / 2 ^ l:=Int.ediv_nonneg h1 (by omega)
  rw[remx_eq _ _ hv0 pm]
  have h8:=Int.emod_lt_of_pos (u / 2 ^ l) pm
  exact⟨_,rfl,Int.emod_nonneg _ (by omega),by omega⟩
 ·have e':(bnot (ige u 0&&ile u 4294967295)||bnot (ige low 0&&ile low 31)||bnot (ige many 1&&ile many (isub .i64 32 low)))=true:=by
   by_cases hl:0≤low∧low≤31
   ·rw[isub_eq _ _ (by omega)];simp[bnot,ige,ile];omega
   ·simp[bnot,ige,ile];omega
  rw[e'];exact⟨0,rfl,by omega,by omega⟩
theorem sx_ok (u many:Int):∃v,s_SignExtend u many=some v∧ -4294967296≤v∧v<4294967296:=by
 unfold s_SignExtend
 simp only[s_l6In,bind_id,if_and,if_or,bind_some']
 by_cases h:1≤many∧many≤32
 ·obtain⟨m,rfl⟩:∃m:Nat,many=m:=⟨many.toNat,by omega⟩
  have em:isub .i64 (m:Int) 1=((m-1:Nat):Int):=by rw[isub_eq _ _ (by omega)];omega
  rw[em,power_eq m (by omega),power_eq (m-1) (by omega)]
  simp only[bind_some',if_or]
  have pm:(0:Int)<2 ^ m:=by exact_mod_cast Nat.pow_pos (n:=m) (by decide:0<2)
  have pm':(2:Int) ^ m≤2 ^ 32:=by exact_mod_cast Nat.pow_le_pow_right (by decide) (by omega)
  have e':(ige (m:Int) 1&&ile (m:Int) 32)=true:=by simp[ige,ile];omega
  rw[e',isub_eq _ _ (by omega)]
  split
  ·exact⟨0,rfl,by omega,by omega⟩
  ·rename_i hc
   have hu:0≤u∧u≤2 ^ m-1:=by
    rw[Bool.not_eq_true] at hc;simp[bnot,ige,ile] at hc;omega
   split
   ·rw[isub_eq _ _ (by omega)];exact⟨_,rfl,by omega,by omega⟩
   ·exact⟨_,rfl,by omega,by omega⟩
 ·have e':(ige many 1&&ile many 32)=false:=by rw[Bool.eq_false_iff];simp[ige,ile];omega
  rw[e']
  exact⟨0,by simp[bnot],by omega,by omega⟩
end Go.Abs
