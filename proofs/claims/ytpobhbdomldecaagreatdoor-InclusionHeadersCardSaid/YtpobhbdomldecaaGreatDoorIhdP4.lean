/- Parts of the proof, one behind the other. -/
import Derived.Test.YtpobhbdomldecaaGreatDoorIhdP3
import Derived.Lib.ItoaNum
import Derived.RangeFuncKeeps
import Derived.RangeFuncFrom
import Derived.Laws.Tables
import Derived.Laws.Rows
import Derived.BigQuiet
import Derived.StillTail
import Derived.Laws.CopyOwn
import Derived.Lib.Strings
import Derived.Laws.BytesArg
import Derived.Laws.EntriesVeiled
import Derived.Laws.AppendOwnNone
set_option linter.unusedSimpArgs false
set_option linter.unusedVariables false
set_option maxRecDepth 100000
set_option maxHeartbeats 40000000
namespace Go.Proofs.YtpobhbdomldecaaGreatDoor
open Go.RowKit
theorem Qej(s M P x:Nat)(hP:P=2 ^ s)(hx:x<18446744073709551616)(hM:M * P<18446744073709551616)(hM2:M<18446744073709551616):
  bits .or .u64 (bits .and .u64 ((x:Int) / (P:Int)) (M:Int)) (IntKind.u64.wrap (bits .and .u64 (x:Int) (M:Int) * (P:Int)))=((stp s M x:Nat):Int):=by
 have h1:(x:Int) / (P:Int)=((x / P:Nat):Int):=by simp
 have h2:x / P<18446744073709551616:=Nat.lt_of_le_of_lt (Nat.div_le_self _ _) hx;have h3:(x &&& M) * P<18446744073709551616:=Nat.lt_of_le_of_lt (Nat.mul_le_mul_right _ Nat.and_le_right) hM;have h4:(x / P) &&& M<18446744073709551616:=Nat.lt_of_le_of_lt Nat.and_le_left h2;have h5:IntKind.u64.wrap (((x &&& M:Nat):Int) * (P:Int))=(((x &&& M) * P:Nat):Int):=by rw[IntKind.wrap_u64,show(((x &&& M:Nat):Int) * (P:Int))=(((x &&& M) * P:Nat):Int)by simp];omega
 rw[h1,bits_and_u64_nat _ _ h2 hM2,bits_and_u64_nat _ _ hx hM2,h5,bits_or_u64_nat _ _ h4 h3];unfold stp;rw[hP]
theorem Qqu(x:Nat)(hx:x<18446744073709551616):bits .or .u64 ((x:Int) / 4294967296) (IntKind.u64.wrap ((x:Int) * 4294967296))=((Qem x:Nat):Int):=by
 have h1:(x:Int) / 4294967296=((x / 4294967296:Nat):Int):=by omega
 have h5:IntKind.u64.wrap ((x:Int) * 4294967296)=((x * 4294967296 % 18446744073709551616:Nat):Int):=by rw[IntKind.wrap_u64];omega
 rw[h1,h5,bits_or_u64_nat _ _ (by omega) (by omega)];rfl
theorem QhB(n:Nat)(w:World)(hn:n<18446744073709551616):Calls Tryz.prog 269 #[.int .u64 n] w λ e w'=>e=.returned (.int .u64 ((Qem (stp 16 M16 (stp 8 M8 n)):Nat):Int))/\w=w':=by
 have HN:=QLh hn;clear hn
 go_enter Tryz.func269,Tryz.ntmps269
 go_wp2;go_ret;refine⟨Jy ?_,rfl⟩;have hn:=HN.out;have l8:stp 8 M8 n<18446744073709551616:=Vj hn (by decide);have l16:stp 16 M16 (stp 8 M8 n)<18446744073709551616:=Vj l8 (by decide);have S8:=Qej 8 M8 256 n rfl hn (by decide) (by decide);have S16:=Qej 16 M16 65536 (stp 8 M8 n) rfl l8 (by decide) (by decide);have S32:=Qqu _ l16;refine Eq.trans ?_ S32;rw[<-S16,<-S8];rfl
theorem QiY(n:Nat)(w:World)(hn:n<18446744073709551616):Calls Tryz.prog 218 #[.int .u64 n] w λ e w'=>e=.returned (.int .u64 ((Qhl n:Nat):Int))/\w=w':=by
 have l1:stp 1 M1 n<18446744073709551616:=Vj hn (by decide);have l2:stp 2 M2 (stp 1 M1 n)<18446744073709551616:=Vj l1 (by decide);have l4:stp 4 M4 (stp 2 M2 (stp 1 M1 n))<18446744073709551616:=Vj l2 (by decide);have S1:=Qej 1 M1 2 n rfl hn (by decide) (by decide);have S2:=Qej 2 M2 4 (stp 1 M1 n) rfl l1 (by decide) (by decide);have S4:=Qej 4 M4 16 (stp 2 M2 (stp 1 M1 n)) rfl l2 (by decide) (by decide);have H:∀x:Int,x=((stp 4 M4 (stp 2 M2 (stp 1 M1 n)):Nat):Int)->∀W:World,Calls Tryz.prog 269 #[.int .u64 x] W λ e w'=>e=.returned (.int .u64 ((Qhl n:Nat):Int))/\W=w':=λ x hx W=>by rw[hx];exact QhB _ W l4
 have HH:=QLh H;have E:Hid (bits .or .u64 (bits .and .u64 (bits .or .u64 (bits .and .u64 (bits .or .u64 (bits .and .u64 ((n:Int) / 2) (M1:Int)) (IntKind.u64.wrap (bits .and .u64 (n:Int) (M1:Int) * 2)) / 4) (M2:Int)) (IntKind.u64.wrap (bits .and .u64 (bits .or .u64 (bits .and .u64 ((n:Int) / 2) (M1:Int)) (IntKind.u64.wrap (bits .and .u64 (n:Int) (M1:Int) * 2))) (M2:Int) * 4)) / 16) (M4:Int)) (IntKind.u64.wrap (bits .and .u64 (bits .or .u64 (bits .and .u64 (bits .or .u64 (bits .and .u64 ((n:Int) / 2) (M1:Int)) (IntKind.u64.wrap (bits .and .u64 (n:Int) (M1:Int) * 2)) / 4) (M2:Int)) (IntKind.u64.wrap (bits .and .u64 (bits .or .u64 (bits .and .u64 ((n:Int) / 2) (M1:Int)) (IntKind.u64.wrap (bits .and .u64 (n:Int) (M1:Int) * 2))) (M2:Int) * 4))) (M4:Int) * 16))=((stp 4 M4 (stp 2 M2 (stp 1 M1 n)):Nat):Int)):=QLh (by
  refine Eq.trans ?_ S4;rw[<-S2,<-S1];rfl)
 clear S1 S2 S4 H l1 l2 l4 hn
 go_enter Tryz.func218,Tryz.ntmps218
 go_wp2_with fail;refine(HH.out _ E.out _).mono ?_;rintro e w' ⟨rfl,rfl⟩;go_wp2;go_ret;exact⟨rfl,rfl⟩
def Zt(k d:Int):Int:=if 0<=d/\d<=16/\k<2 ^ d.toNat then(Xr k.toNat d.toNat:Nat)else 0
theorem Zr(d:Nat):((2:Int) ^ d)=((2 ^ d:Nat):Int):=by simp
theorem Qga(k d:Int)(w:World)(h0:0<=k)(h1:k<=18446744073709551615):Calls Tryz.prog 154 #[.int .u64 k,.int .i64 d] w λ e w'=>e=.returned (.int .u64 (Zt k d))/\w=w':=by
 by_cases hd:0<=d/\d<=16
 ·obtain⟨hd0,hd1⟩:=hd
  obtain⟨n,rfl⟩:=Int.eq_ofNat_of_zero_le h0;obtain⟨e,rfl⟩:=Int.eq_ofNat_of_zero_le hd0;have hm:(decide ((0:Int)<=(e:Int)) && decide ((e:Int)<=16))=true:=by simp[hd1]
  have HM:=QLh hm;clear hm
  by_cases hlt:n<2 ^ e
  ·have hq:((n:Int) / 2 ^ e != 0)=false:=by
    rw[Zr,show((n:Int) / ((2 ^ e:Nat):Int))=((n / 2 ^ e:Nat):Int)by simp,Nat.div_eq_of_lt hlt];rfl
   have hn64:n<18446744073709551616:=by omega
   have R:Hid (((Qhl n:Nat):Int) / 2 ^ (63 - e) / 2=Zt n e):=QLh (by
    have:=QlR (k:=n) (d:=e) hn64 (by omega);unfold Zt;rw[if_pos ⟨hd0,hd1,by rw[Int.toNat_natCast,Zr];omega⟩,Int.toNat_natCast,Int.toNat_natCast,<-this,Zr];simp)
   have HN:=QLh hn64;clear hn64 hlt
   go_enter Tryz.func154,Tryz.ntmps154
   go_wp2_with fail;refine(Qb8 _ _).mono ?_;rintro e w' ⟨rfl,rfl⟩;rw[HM.out];go_wp2_with fail;refine(QiY n _ HN.out).mono ?_;rintro e w' ⟨rfl,rfl⟩;go_wp2;go_ret;refine⟨Jy ?_,rfl⟩;rw[<-R.out]
  ·have hq:((n:Int) / 2 ^ e != 0)=true:=by
    have hp:0<2 ^ e:=Nat.two_pow_pos e;have:=Nat.div_pos (Nat.le_of_not_lt hlt) hp;rw[Zr,show((n:Int) / ((2 ^ e:Nat):Int))=((n / 2 ^ e:Nat):Int)by simp];exact bne_iff_ne.2 (by omega)
   have R:Hid (Zt n e=0):=QLh (by unfold Zt;rw[if_neg (λ h=>hlt (by have:=h.2.2;rw[Int.toNat_natCast,Zr]at this;omega))]);clear hlt
   go_enter Tryz.func154,Tryz.ntmps154
   go_wp2_with fail;refine(Qb8 _ _).mono ?_;rintro e w' ⟨rfl,rfl⟩;rw[HM.out];go_wp2;go_ret;exact⟨Jy R.out.symm,rfl⟩
 ·have hm:(decide ((0:Int)<=d) && decide (d<=16))=false:=by
   rw[Bool.and_eq_false_iff,decide_eq_false_iff_not,decide_eq_false_iff_not];omega
  have HM:=QLh hm;have R:Hid (Zt k d=0):=QLh (by unfold Zt;rw[if_neg (λ h=>hd ⟨h.1,h.2.1⟩)]);clear hm hd
  go_enter Tryz.func154,Tryz.ntmps154
  go_wp2_with fail;refine(Qb8 _ _).mono ?_;rintro e w' ⟨rfl,rfl⟩;rw[HM.out];go_wp2;go_ret;exact⟨Jy R.out.symm,rfl⟩
theorem QjV(k d:Int)(w:World)(h0:0<=k)(h1:k<=18446744073709551615):Calls Tryz.prog 164 #[.int .u64 k,.int .i64 d] w λ e w'=>e=.returned (.int .u64 (Zt k d))/\w=w':=by
 have H:=QLh (Qga k d w h0 h1);clear h0 h1
 go_enter Tryz.func164,Tryz.ntmps164
 go_wp2_with fail;refine H.out.mono ?_;rintro e w' ⟨rfl,rfl⟩;go_wp2;go_ret;exact⟨rfl,rfl⟩
theorem Qj5(k d:Int)(w:World)(h0:0<=k)(h1:k<=18446744073709551615):Calls Tryz.prog 93 #[.int .u64 k,.int .i64 d] w λ e w'=>e=.returned (.int .u64 (Zt k d))/\w=w':=by
 have H:=QLh (Qga k d w h0 h1);clear h0 h1
 go_enter Tryz.func93,Tryz.ntmps93
 go_wp2_with fail;refine H.out.mono ?_;rintro e w' ⟨rfl,rfl⟩;go_wp2;go_ret;exact⟨rfl,rfl⟩
theorem Qc7(k d:Int)(w:World)(h0:0<=k)(h1:k<=18446744073709551615)(hd64:-9223372036854775808<=d)(hd65:d<=9223372036854775807):Calls Tryz.prog 233 #[.int .u64 k,.int .i64 d] w λ e w'=>e=.returned (.int .u64 (Zt k d))/\w=w':=by
 by_cases hd:0<=d/\d<=16
 ·obtain⟨hd0,hd1⟩:=hd
  obtain⟨n,rfl⟩:=Int.eq_ofNat_of_zero_le h0;obtain⟨e,rfl⟩:=Int.eq_ofNat_of_zero_le hd0;have he16:e<=16:=by omega
  have p16:2 ^ e<=65536:=Nat.pow_le_pow_right (n:=2) (by decide) he16;have p0:0<2 ^ e:=Nat.two_pow_pos e;have e0:decide ((e:Int)<0)=false:=decide_eq_false (by omega);have e1:decide ((16:Int)<(e:Int))=false:=decide_eq_false (by omega);have R0:Zt n e=if n<2 ^ e then((Xr n e:Nat):Int)else 0:=by
   unfold Zt
   by_cases h:n<2 ^ e
   ·rw[if_pos h,if_pos ⟨hd0,hd1,by rw[Int.toNat_natCast,Zr];omega⟩,Int.toNat_natCast,Int.toNat_natCast]
   ·rw[if_neg h,if_neg (λ hh=>h (by have:=hh.2.2;rw[Int.toNat_natCast,Zr]at this;omega))]
  obtain⟨p,hp⟩:∃p:Nat,2 ^ e=p:=⟨_,rfl⟩;have hw:IntKind.u64.wrap ((2:Int) ^ e)=(p:Int):=by rw[Zr,IntKind.wrap_u64,hp];omega
  rw[hp]at p16 p0 R0;have HP:=QLh hp;clear hp
  by_cases hlt:n<p
  ·rw[if_pos hlt]at R0
   have R:=QLh R0;have e2:decide ((p:Int)<=(n:Int))=false:=decide_eq_false (by omega);clear R0
   go_enter Tryz.func233,Tryz.ntmps233
   go_wp2
   go_loopg [0,5,6] e (λ g a b c wr=>∃m:Nat,g+m=e/\a=.int .u64 ((n / 2 ^ m:Nat):Int)/\b=.int .u64 ((Xr n m:Nat):Int)/\c=.int .i64 m/\w=wr)
   case atStart=>exact⟨0,rfl,by simp,rfl,rfl,rfl⟩
   case round=>
    obtain⟨m,hm,rfl,rfl,rfl,rfl⟩:=hrel
    by_cases hme:m<e
    ·have i0:(m:Int)<e:=by omega
     have r1:=QcC n m;have r2:2 ^ m<=2 ^ 15:=Nat.pow_le_pow_right (by decide) (by omega);have S:=QLh (show Xr n (m+1)=2 * Xr n m+n / 2 ^ m % 2 from rfl);have T:Hid (n / 2 ^ (m+1)=n / 2 ^ m / 2):=QLh (by rw[Nat.pow_succ,Nat.div_div_eq_div_mul]);have r3:n / 2 ^ m<=n:=Nat.div_le_self _ _;obtain⟨x,hx⟩:∃x,n / 2 ^ m=x:=⟨_,rfl⟩;obtain⟨y,hy⟩:∃y,Xr n m=y:=⟨_,rfl⟩;rw[hx]at S T r3 ⊢;rw[hy]at S r1 ⊢;have y0:(y:Int)<32768:=by omega
     have x0:(x:Int)<=18446744073709551615:=by omega
     clear hx hy r1 r2;go_wp2
     go_roundg (gk - 1)
     case rel=>exact⟨m+1,by omega,(by rw[T.out];go_num),(by rw[S.out];go_num),by go_num,rfl⟩
     case measure=>omega
    ·obtain rfl:m=e:=by omega
     go_wp2;go_ret;exact⟨Jy R.out.symm,rfl⟩
  ·rw[if_neg hlt]at R0
   have R:=QLh R0;have e2:decide ((p:Int)<=(n:Int))=true:=decide_eq_true (by omega);clear R0
   go_enter Tryz.func233,Tryz.ntmps233
   go_wp2;go_ret;exact⟨Jy R.out.symm,rfl⟩
 ·have R:Hid (Zt k d=0):=QLh (by unfold Zt;rw[if_neg (λ h=>hd ⟨h.1,h.2.1⟩)])
  by_cases h2:d<0
  ·have e0:decide (d<0)=true:=decide_eq_true h2
   clear hd
   go_enter Tryz.func233,Tryz.ntmps233
   go_wp2;go_ret;exact⟨Jy R.out.symm,rfl⟩
  ·have e0:decide (d<0)=false:=decide_eq_false h2
   have h3:16<d:=by omega
   have e1:decide ((16:Int)<d)=true:=decide_eq_true h3;clear hd
   go_enter Tryz.func233,Tryz.ntmps233
   go_wp2;go_ret;exact⟨Jy R.out.symm,rfl⟩
theorem QeI(k d:Int)(w:World)(h0:0<=k)(h1:k<=18446744073709551615)(hd64:-9223372036854775808<=d)(hd65:d<=9223372036854775807):Calls Tryz.prog 232 #[.int .u64 k,.int .i64 d] w λ e w'=>e=.returned (.int .u64 (Zt k d))/\w=w':=by
 have H:=QLh (Qc7 k d w h0 h1 hd64 hd65);clear h0 h1 hd64 hd65
 go_enter Tryz.func232,Tryz.ntmps232
 go_wp2_with fail;refine H.out.mono ?_;rintro e w' ⟨rfl,rfl⟩;go_wp2;go_ret;exact⟨rfl,rfl⟩
theorem Qfo(k d:Int)(w:World)(h0:0<=k)(h1:k<=18446744073709551615)(hd64:-9223372036854775808<=d)(hd65:d<=9223372036854775807):Calls Tryz.prog 174 #[.int .u64 k,.int .i64 d] w λ e w'=>e=.returned (.int .u64 (Zt k d))/\w=w':=by
 have H:=QLh (Qc7 k d w h0 h1 hd64 hd65);clear h0 h1 hd64 hd65
 go_enter Tryz.func174,Tryz.ntmps174
 go_wp2_with fail;refine H.out.mono ?_;rintro e w' ⟨rfl,rfl⟩;go_wp2;go_ret;exact⟨rfl,rfl⟩
theorem Qfj(k:Int)(w:World)(h0:0<=k)(h1:k<=18446744073709551615):Calls Tryz.prog 230 #[.int .u64 k] w λ e w'=>e=.returned (.int .u64 (sib k))/\w=w':=by
 by_cases h:k % 2=0
 ·have S:Hid (sib k=k+1):=QLh (by unfold sib;rw[if_pos h])
  have hk:k+1<=18446744073709551615:=by omega
  go_enter Tryz.func230,Tryz.ntmps230
  go_wp2;go_ret;exact⟨Jy S.out.symm,rfl⟩
 ·have S:Hid (sib k=k - 1):=QLh (by unfold sib;rw[if_neg h])
  have hk:1<=k:=by omega
  go_enter Tryz.func230,Tryz.ntmps230
  go_wp2;go_ret;exact⟨Jy S.out.symm,rfl⟩
def Xy(n:Int):Int:=if n<0 \/ 65536<n then -1 else(Lib.bitLen (n.toNat - 1):Nat)
theorem Qis(x:Nat)(hx:x<2 ^ 64):x<2 ^ Lib.bitLen x/\(x≠0->2 ^ (Lib.bitLen x - 1)<=x/\1<=Lib.bitLen x):=by
 by_cases h:x=0
 ·subst h;exact⟨Nat.two_pow_pos _,λ h=>absurd rfl h⟩
 ·have:=Lib.bitLenAux_bounds 64 x hx h
  exact⟨this.2.2,λ _=>⟨this.2.1,this.1⟩⟩
theorem Qir(n:Int)(w:World)(h0:-9223372036854775808<=n)(h1:n<=9223372036854775807):Calls Tryz.prog 90 #[.int .i64 n] w λ e w'=>e=.returned (.int .i64 (Xy n))/\w=w':=by
 have hbl:=λ x w h0 h1=>Tryz.bits_Len x w h0 h1
 by_cases hn:n<0
 ·have D:Hid (Xy n=-1):=QLh (by unfold Xy;rw[if_pos (.inl hn)])
  have e0:decide (n<0)=true:=decide_eq_true hn
  go_enter Tryz.func90,Tryz.ntmps90
  go_wp2;go_ret;exact⟨Jy D.out.symm,rfl⟩
 have e0:decide (n<0)=false:=decide_eq_false hn
 by_cases hb:65536<n
 ·have D:Hid (Xy n=-1):=QLh (by unfold Xy;rw[if_pos (.inr hb)])
  have e1:decide (65536<n)=true:=decide_eq_true hb
  go_enter Tryz.func90,Tryz.ntmps90
  go_wp2;go_ret;exact⟨Jy D.out.symm,rfl⟩
 have e1:decide (65536<n)=false:=decide_eq_false hb;have D:Hid (Xy n=(Lib.bitLen (n.toNat - 1):Nat)):=QLh (by unfold Xy;rw[if_neg (by omega)]);have hn0:0<=n:=by omega
 have hn1:n<=65536:=by omega
 clear hn hb
 go_enter Tryz.func90,Tryz.ntmps90
 go_wp2_with fail;refine(hbl (max n 1 - 1) _ (by omega) (by omega)).mono ?_;rintro e w' ⟨rfl,rfl⟩;go_wp2;go_ret;exact⟨Jy (by rw[D.out,show(max n 1).toNat - 1=n.toNat - 1 by omega]),rfl⟩
theorem Qci(n:Nat)(hn:n<=65536):Lib.bitLen (n - 1)<=16/\n<=2 ^ Lib.bitLen (n - 1)/\(∀m,m<Lib.bitLen (n - 1)->2 ^ m<n):=by
 have h:=Qis (n - 1) (by omega);have h16:=Lib.bitLen_le (n - 1) 16 (by decide) (by omega);refine⟨h16,by omega,λ m hm=>?_⟩
 by_cases h0:n - 1=0
 ·rw[h0]at hm
  have:Lib.bitLen 0=0:=by decide
  omega
 ·have h2:=(h.2 h0).1
  have:2 ^ m<=2 ^ (Lib.bitLen (n - 1) - 1):=Nat.pow_le_pow_right (by decide) (by omega);omega
theorem QaN(n:Int)(w:World)(h0:-9223372036854775808<=n)(h1:n<=9223372036854775807):Calls Tryz.prog 107 #[.int .i64 n] w λ e w'=>e=.returned (.int .i64 (Xy n))/\w=w':=by
 by_cases hn:n<0
 ·have D:Hid (Xy n=-1):=QLh (by unfold Xy;rw[if_pos (.inl hn)])
  have e0:decide (n<0)=true:=decide_eq_true hn
  go_enter Tryz.func107,Tryz.ntmps107
  go_wp2;go_ret;exact⟨Jy D.out.symm,rfl⟩
 have e0:decide (n<0)=false:=decide_eq_false hn
 by_cases hb:65536<n
 ·have D:Hid (Xy n=-1):=QLh (by unfold Xy;rw[if_pos (.inr hb)])
  have e1:decide (65536<n)=true:=decide_eq_true hb
  go_enter Tryz.func107,Tryz.ntmps107
  go_wp2;go_ret;exact⟨Jy D.out.symm,rfl⟩
 have e1:decide (65536<n)=false:=decide_eq_false hb;obtain⟨q,rfl⟩:=Int.eq_ofNat_of_zero_le (by omega:0<=n);have D:Hid (Xy q=(Lib.bitLen (q - 1):Nat)):=QLh (by unfold Xy;rw[if_neg (by omega),Int.toNat_natCast]);obtain⟨b1,b2,b3⟩:=Qci q (by omega);obtain⟨L,hL⟩:∃L,Lib.bitLen (q - 1)=L:=⟨_,rfl⟩;rw[hL]at D b1 b2 b3;have B2:=QLh b2;have B3:=QLh b3;have hq:(q:Int)<=65536:=by omega
 clear hL b2 b3 hn hb
 go_enter Tryz.func107,Tryz.ntmps107
 go_wp2
 go_loopg [3] L (λ g c wr=>∃m:Nat,g+m=L/\c=.int .i64 m/\w=wr)
 case atStart=>exact⟨0,rfl,rfl,rfl⟩
 case round=>
  obtain⟨m,hm,rfl,rfl⟩:=hrel;have p16:2 ^ m<=2 ^ 16:=Nat.pow_le_pow_right (by decide) (by omega);obtain⟨p,hp⟩:∃p:Nat,2 ^ m=p:=⟨_,rfl⟩;have hw:IntKind.i64.wrap ((2:Int) ^ m)=(p:Int):=by rw[Zr,hp];exact IntWalk.i64_in _ (by omega)
  by_cases hlt:m<L
  ·have h3:=B3.out m hlt
   rw[hp]at h3;have h4:(p:Int)<q:=by omega
   clear hp p16;go_wp2
   go_roundg (gk - 1)
   case rel=>exact⟨m+1,by omega,by go_num,rfl⟩
   case measure=>omega
  ·obtain rfl:m=L:=by omega
   have h3:=B2.out;rw[hp]at h3;have h4:¬(p:Int)<q:=by omega
   clear hp p16;go_wp2;go_ret;exact⟨Jy D.out.symm,rfl⟩
section
open Go.RowKit Go.ChangeMaps
attribute [local go_sem] Oper.semAt_some
structure KpO(o:Nat)(A B:World):Prop where
 size:A.heap.size<=B.heap.size
 same:∀b cs t fr,b≠o->t≠9->A.heap[b]?=some (.cells cs t fr)->B.heap[b]?=some (.cells cs t fr)
theorem KpO.trans{o:Nat}{A B C:World}(h:KpO o A B)(k:KpO o B C):KpO o A C:=⟨Nat.le_trans h.size k.size,λ b cs t fr hb ht hc=>k.same b cs t fr hb ht (h.same b cs t fr hb ht hc)⟩
theorem KpO.putObj(o:Nat)(W:World)(l:Nat)(x x':Obj)(hl:W.heap[l]?=some x)(hx:x.isCells=false):KpO o W (W.putObj l x'):=
 ⟨by simp,λ b cs t fr _ _ hc=>by
  have:b≠l:=λ e=>by subst e;rw[hl]at hc;cases hc;cases hx
  exact(World.putObj_heap_other this).trans hc⟩
theorem Qnz{o:Nat}{A B:World}(h:KpO o A B){base e size n:Nat}{v:Value}{xs:List Value}(ho:o<base)(he:e≠9)(hr:A.ownsRow base e size v n xs):B.ownsRow base e size v n xs:=by
 refine⟨hr.1,?_⟩
 rcases hr.2 with hz | ⟨g,cap,cur,hv,hg,hh,hrest⟩
 ·exact Or.inl hz
 ·exact Or.inr ⟨g,cap,cur,hv,hg,h.same g cur e (0,0) (by omega) he hh,hrest⟩
theorem QqR{o:Nat}{A B:World}(h:KpO o A B){base:Nat}{vals:List Value}{rs:List (List Int)}(ho:o<base)(hr:Z7 A base vals rs):Z7 B base vals rs:=
 ⟨hr.1,λ i hi=>by
  obtain⟨u,h1,h2⟩:=hr.2 i hi;exact⟨u,h1,Qnz h ho (by decide) h2⟩⟩
def Xj:Nat->List (List Int)->List (Int × Int)
 | _,[]=>[]
 | i,r :: rs=>r.map (λ k=>((i:Int),k))++Xj (i+1) rs
theorem V5:∀(s:Nat) (a b:List (List Int)),Xj s (a++b)=Xj s a++Xj (s+a.length) b
 | _,[],_=>rfl
 | s,r :: a,b=>by rw[List.cons_append,Xj,Xj,V5 (s+1) a b,List.append_assoc,List.length_cons,show s+1+a.length=s+(a.length+1)by omega]
def Xu(rs:List (List Int)):List (Int × Int):=Xj 0 rs
def Xg(rs:List (List Int))(i j:Nat):List (Int × Int):=Xu (rs.take i)++((Jj rs i).take j).map (λ k=>((i:Int),k))
theorem Qb5(rs:List (List Int))(i j:Nat)(hj:j<len (Jj rs i)):Xg rs i (j+1)=Xg rs i j++[((i:Int),nth (Jj rs i) j)]:=by unfold Xg;have h:j<(Jj rs i).length:=hj;rw[List.take_succ_eq_append_getElem h,List.map_append,List.append_assoc,Jb _ _ h];rfl
theorem Qde(rs:List (List Int))(i:Nat)(hi:i<len rs):Xg rs i (len (Jj rs i))=Xg rs (i+1) 0:=by unfold Xg Xu;have h:i<rs.length:=hi;rw[Xh,List.take_zero,List.map_nil,List.append_nil,List.take_succ_eq_append_getElem h,V5,List.length_take,Nat.min_eq_left (Nat.le_of_lt h),K7 rs i h];simp[Xj]
theorem QcJ(rs:List (List Int)):Xg rs (len rs) 0=Xu rs:=by unfold Xg;rw[Xh,List.take_zero,List.map_nil,List.append_nil]
theorem QhL(rs:List (List Int))(i j:Nat)(hi:i<len rs)(hj:j<len (Jj rs i)):(Xg rs i j).length<(Xu rs).length:=by
 have h:i<rs.length:=hi;have h2:j<(Jj rs i).length:=hj;have e:Xu rs=Xu (rs.take i)++(Xj (0+(rs.take i).length) (rs.drop i)):=by unfold Xu;rw[<-V5,List.take_append_drop]
 have e2:rs.drop i=Jj rs i :: rs.drop (i+1):=by rw[K7 rs i h];exact List.drop_eq_getElem_cons h
 rw[e,e2,Xj];unfold Xg;simp only[List.length_append,List.length_map,List.length_take];omega
theorem Qjf(rs:List (List Int))(i j:Nat)(hi:i<len rs)(hj:j<len (Jj rs i)):(Xu rs)[(Xg rs i j).length]?=some ((i:Int),nth (Jj rs i) j):=by
 have h:i<rs.length:=hi;have h2:j<(Jj rs i).length:=hj;have e:Xu rs=Xu (rs.take i)++(Xj (0+(rs.take i).length) (rs.drop i)):=by unfold Xu;rw[<-V5,List.take_append_drop]
 have e2:rs.drop i=Jj rs i :: rs.drop (i+1):=by rw[K7 rs i h];exact List.drop_eq_getElem_cons h
 have e3:Jj rs i=(Jj rs i).take j++nth (Jj rs i) j :: (Jj rs i).drop (j+1):=by rw[Jb _ _ h2,<-List.drop_eq_getElem_cons h2,List.take_append_drop]
 have e4:0+(rs.take i).length=i:=by rw[List.length_take];omega
 have e5:Xu rs=Xg rs i j++(((i:Int),nth (Jj rs i) j) :: (((Jj rs i).drop (j+1)).map (λ k=>((i:Int),k))++Xj (i+1) (rs.drop (i+1)))):=by
  rw[e,e4,e2,Xj];unfold Xg
  conv=>lhs;rw[e3]
  simp only[List.map_append,List.map_cons,List.append_assoc,List.cons_append]
 rw[e5,List.getElem?_append_right (Nat.le_refl _),Nat.sub_self];rfl
def Qr(l:List Int)(d:Int):List Int:=l.map λ k=>Zt k d
theorem Xf(l:List Int)(d:Int):len (Qr l d)=len l:=by unfold Qr;rw[Qy,Qy,List.length_map]
theorem QlN(k d:Int):0<=Zt k d/\Zt k d<=65535:=by
 unfold Zt
 split
 ·rename_i h
  have h1:=QcC k.toNat d.toNat;have h2:2 ^ d.toNat<=2 ^ 16:=Nat.pow_le_pow_right (by decide) (by omega);have h3:(2:Nat) ^ 16=65536:=by decide
  omega
 ·decide
theorem Qan(l:List Int)(d:Int):∀k ∈ Qr l d,U64 k:=by intro k hk;obtain⟨x,_,rfl⟩:=List.mem_map.1 hk;have:=QlN x d;unfold U64;omega
theorem Qd1(l:List Int)(d:Int)(m:Nat)(h:m<len l):Qr (l.take (m+1)) d=Qr (l.take m) d++[Zt (nth l m) d]:=by unfold Qr;have h2:m<l.length:=h;rw[List.take_succ_eq_append_getElem h2,List.map_append,Jb l m h2];rfl
theorem Vk{l:List Int}{i:Nat}(h:i<len l):nth l i ∈ l:=by have h2:i<l.length:=h;rw[Jb l i h2];exact List.getElem_mem h2
theorem Qe0(leaves:List Int)(d:Int)(hlen:len leaves<=100)(i:Nat):len (Jj (Z4 leaves d) i)<=100:=by
 have key:∀r ∈ Z4 leaves d,r.length<=100:=by
  intro r hr;unfold Z4 at hr
  split at hr
  ·unfold Za at hr
   obtain⟨j,hj,rfl⟩:=List.mem_map.1 hr;unfold Qat;rw[QiC];refine Nat.le_trans (Qh4 _) (Nat.le_trans (Yf _).2.2 ?_);rw[List.length_map];exact hlen
  ·cases hr
 by_cases hi:i<(Z4 leaves d).length
 ·rw[K7 _ i hi,Qy]
  have:=key _ (List.getElem_mem hi);omega
 ·have:Jj (Z4 leaves d) i=[]:=by
   unfold Jj;rw[List.getD_eq_getElem?_getD,List.getElem?_eq_none (by omega)];rfl
  rw[this];exact Nat.zero_le _
theorem Qou(leaves:List Int)(d:Int):len (Z4 leaves d)<=16:=by
 unfold Z4
 split
 ·rename_i h
  rw[Qy];unfold Za;rw[List.length_map,List.length_range];have:=h.2.1;omega
 ·exact Nat.zero_le _
theorem Qdw:∀(s:Nat) (rs:List (List Int)),(∀r ∈ rs,r.length<=100)->(Xj s rs).length<=100 * rs.length
 | _,[],_=>Nat.le_refl _
 | s,r :: rs,h=>by have h1:=Qdw (s+1) rs (λ x hx=>h x (List.mem_cons_of_mem _ hx));have h2:=h r List.mem_cons_self;rw[Xj,List.length_append,List.length_map,List.length_cons];omega
theorem Qjk(leaves:List Int)(d:Int)(hlen:len leaves<=100):(Xu (Z4 leaves d)).length<=1600:=by
 have h:=Qdw 0 (Z4 leaves d) (λ r hr=>by
  obtain⟨i,hi,rfl⟩:=List.mem_iff_getElem.1 hr;rw[<-K7 _ i hi];exact Qe0 leaves d hlen i)
 have h2:=Qou leaves d;rw[Qy]at h2;unfold Xu;omega
abbrev QuN{α:Type}(f:α->Int × Int)(o bP bD N:Nat)(L:List α)(n:Nat)(w:World):Prop:=
 SeqStopsK Fence.wide n Tryz.prog 163 #[.pointer (some ⟨bP,0,none⟩),.pointer (some ⟨bD,0,none⟩)] (λ x:α=>#[.int .i64 (f x).1,.int .u64 (f x).2]) (KpO o) (λ xs=>xs=L) (λ _=>True) N w
theorem QlE{α:Type}(f:α->Int × Int)(L:List α)(n:Nat)(hn1:1<=n)(o bP bD:Nat)(a:Option Addr)(cap:Nat)(l:List Int)(d:Nat)(w:World)(hcP:w.cell? ⟨bP,0,none⟩=some (.slice a (len l) cap))(hcD:w.cell? ⟨bD,0,none⟩=some (.int .i64 d))
  (hl:QaO w a l) (hlen:len l<=12) (hd:d<=16) (hu:∀k ∈ l,U64 k) (ho:o<w.heap.size) (hLM:L.map f=Xu (Z4 (Qr l d) d)):
  QuN f o bP bD L.length L n w:=by
 obtain⟨rs,hrs⟩:∃rs,Z4 (Qr l d) d=rs:=⟨_,rfl⟩;rw[hrs]at hLM;have HLM:=QLh hLM;have HRS:=QLh hrs;have HB1:Hid (len rs<=16):=QLh (by rw[<-hrs];exact Qou _ _);have HB2:Hid (∀i,len (Jj rs i)<=100):=QLh (by rw[<-hrs];exact Qe0 _ _ (by rw[Xf];omega));clear hrs hLM;intro l0 J Jx W hW hJ hJx hY h0;have HC1:Hid (W.cell? ⟨bP,0,none⟩=some (.slice a (len l) cap)):=QLh (by rw[hW.cell (p:=⟨bP,0,none⟩) (Ql hcP)];exact hcP);have HC2:Hid (W.cell? ⟨bD,0,none⟩=some (.int .i64 d)):=QLh (by rw[hW.cell (p:=⟨bD,0,none⟩) (Ql hcD)];exact hcD);have HL:=QLh (hl.below hW);have H0:=QLh h0;have HJ:=QLh hJ;have HJX:=QLh hJx;have HY:=QLh hY;have HU:=QLh hu;have HO:Hid (o<W.heap.size):=QLh (Nat.lt_of_lt_of_le ho hW.size);obtain⟨i0,hi,hz0,hz1,hz2⟩:=info_parts Qbh;have HZ:=QLh hz0;clear hcP hcD hW h0 hJ hJx hY hl hu ho hz0;refine callsIn_of_wp Tryz.func163 rfl trivial ?_ rfl;simp only[Tryz.ntmps163,List.size_toArray,List.length_cons,List.length_nil,Nat.reduceAdd,Nat.reduceSub,Array.replicate_succ,Array.replicate_zero,List.push_toArray,List.append_toArray,List.nil_append,List.cons_append];have cP:=HC1.out
 gi_wp2
 clear cP
 gi_loopw [13,4] (λ i v wr=>∃m:Nat,m<=len l/\i=.int .i64 m/\Hid (wr.ownsRow W.heap.size 23 1 v m ((Qr (l.take m) d).map (Value.int .u64)))/\Hid (Below W.heap.size W wr)) (λ i _ _=>len l - (intOf i).toNat)
 case atStart=>exact⟨0,Nat.zero_le _,rfl,QLh (World.ownsRow_nil _ _ _ _),QLh (Below.refl _ _)⟩
 case round=>
  obtain⟨m,hm,rfl,HR,HB⟩:=hrel
  by_cases hlt:m<len l
  ·obtain⟨b,off,rfl,hcell⟩:=HL.out.below HB.out m hlt
   have b0:(m:Int)<len l:=by omega
   have cD:wr.cell? ⟨bD,0,none⟩=some (.int .i64 d):=by rw[HB.out.cell (p:=⟨bD,0,none⟩) (Ql HC2.out)];exact HC2.out
   obtain⟨k,hk⟩:∃k,nth l m=k:=⟨_,rfl⟩;have hku:U64 k:=by rw[<-hk];exact HU.out _ (Vk hlt)
   rw[hk]at hcell;have HK:=QLh hk;have HLF:=QLh (QjV k (d:Nat) wr hku.1 hku.2);clear hk hku
   gi_wp2_with fail
   refine⟨trivial,(callsIn_wide.2 HLF.out).mono ?_⟩;rintro e w1 ⟨rfl,rfl⟩
   gi_wp2_with (gi_at_builtin;refine wpListIn_append_own _ rfl _ _ 64 rfl W.heap.size 23 i0 (.int .u64 0) 1 8 Tryz.underlying64 hi HZ.out hz1 hz2 rfl (by decide) _ _ _ rfl (HR.out.alloc _) ⟨wr.heap.size,0,none⟩ 1 1 [.int .u64 (Zt k d)] rfl rfl (World.news_of_block (heap_alloc_new _ _)) (by intro u hu9;simp at hu9;subst hu9;rfl) (by unfold maxLen;omega) (by omega) (by have:=HB.out.size;simp;omega) ?_;intro v2 w4 hown2 hgrow2 _)
   have HO2:Hid (w4.ownsRow W.heap.size 23 1 v2 (m+1) ((Qr (l.take (m+1)) d).map (Value.int .u64))):=QLh (by
    rw[Qd1 l d m hlt,HK.out,List.map_append];exact hown2)
   have HB2:Hid (Below W.heap.size W w4):=QLh (Qq (Qf HB.out _) hgrow2 (λ k hk'=>(HR.out.lt k hk').1));clear hown2 hgrow2 HLF cD hcell
   gi_wp2
   go_roundw
   case rel=>exact⟨m+1,by omega,by go_num,HO2,HB2⟩
   case measure=>simp[intOf];omega
  ·obtain rfl:m=len l:=by omega
   have b0:¬((len l:Nat):Int)<len l:=by omega
   have HR2:Hid (wr.ownsRow W.heap.size 23 1 u4 (len l) ((Qr l d).map (Value.int .u64))):=QLh (by have h:=HR.out;rw[Xh]at h;exact h);obtain⟨a2,cap2,hv,hL2,hc2,hc3⟩:=Qb7 HR2.out;subst hv;have HL2:=QLh hL2;have cD:wr.cell? ⟨bD,0,none⟩=some (.int .i64 d):=by rw[HB.out.cell (p:=⟨bD,0,none⟩) (Ql HC2.out)];exact HC2.out
   have HND:=QLh (Qht a2 cap2 (Qr l d) (d:Nat) wr hL2 (by rw[Xf];exact hlen) (Qan l d));rw[HRS.out]at HND;clear hL2 hc2 hc3 HR hlt hm HR2
   gi_wp2_with fail
   refine⟨trivial,(callsIn_wide.2 HND.out).mono ?_⟩;rintro e w2 ⟨v,vals,rfl,hr1,hr2,hb2⟩;obtain⟨a3,cap3,hv,hR3,hc4,hc5⟩:=Qba hr1 hr2;have HR1:=QLh hr1;have HR2:=QLh hr2;have HBS:Hid (o<wr.heap.size):=QLh (Nat.lt_of_lt_of_le HO.out HB.out.size);have HJ2:Hid (J [] w2):=QLh (HJ.out _ _ _ none H0.out (QbP (Qj HB.out hb2)) (λ r e=>by cases e));have HWS:Hid (W.heap.size<=w2.heap.size):=QLh (Nat.le_trans HB.out.size hb2.size);obtain⟨B2,hB2⟩:∃B2,wr.heap.size=B2:=⟨_,rfl⟩;rw[hB2]at HR1 HR2 HBS;subst hv;clear hr1 hr2 hb2 hR3 hB2 HND cD HB H0
   gi_wp2
   gi_loopw [28] (λ i wr=>∃m:Nat,m<=len rs/\i=.int .i64 m/\Hid (J (L.take (Xg rs m 0).length) wr)/\Hid (wr.ownsRow B2 64 1 (.slice a3 (len rs) cap3) vals.length vals)/\Hid (Z7 wr B2 vals rs)) (λ i _=>len rs - (intOf i).toNat)
   case atStart=>exact⟨0,Nat.zero_le _,rfl,HJ2,HR1,HR2⟩
   case round=>
    clear HJ2 HR1 HR2;obtain⟨m,hm,rfl,HJ2,HR1,HR2⟩:=hrel
    by_cases hlt:m<len rs
    ·have HLT:=QLh hlt
     have hb1:=HB1.out;have hb2:=HB2.out m;have b1:(m:Int)<len rs:=by omega
     obtain⟨a4,c4,hv,hrr,-⟩:=Qba HR1.out HR2.out;have hv2:a4=a3:=by injection hv with h1 h2 h3;exact h1.symm
     subst hv2;obtain⟨rb,ro,ra,rc,rfl,hrc,hru,-⟩:=hrr m hlt;clear hrr hv
     gi_wp2
     gi_loopw [35] (λ j wr=>∃q:Nat,q<=len (Jj rs m)/\j=.int .i64 q/\Hid (J (L.take (Xg rs m q).length) wr)/\Hid (wr.ownsRow B2 64 1 (.slice (some ⟨rb,ro,none⟩) (len rs) cap3) vals.length vals)/\Hid (Z7 wr B2 vals rs)/\wr.cell? ⟨rb,ro+m,none⟩=some (.slice ra (len (Jj rs m)) rc)) (λ j _=>len (Jj rs m) - (intOf j).toNat)
     case atStart=>exact⟨0,Nat.zero_le _,rfl,HJ2,HR1,HR2,hrc⟩
     case round=>
      clear HJ2 HR1 HR2 hrc hru;obtain⟨q,hq,rfl,HJ2,HR1,HR2,hrc⟩:=hrel
      by_cases hlq:q<len (Jj rs m)
      ·have HLQ:=QLh hlq
       have b2:(q:Int)<len (Jj rs m):=by omega
       obtain⟨a4,c4,hv,hrr,-⟩:=Qba HR1.out HR2.out;obtain⟨rb2,ro2,ra2,rc2,hra2,hrc2,hru2,-⟩:=hrr m hlt;have hv3:a4=some ⟨rb,ro,none⟩:=by injection hv with h1 h2 h3;exact h1.symm
       rw[hv3]at hra2
       cases hra2
       rw[hrc]at hrc2;have hra3:ra=ra2:=by
        have h9:=Option.some.inj hrc2
        injection h9
       subst hra3;obtain⟨eb,eo,hre,hec⟩:=hru2 q hlq;subst hre;obtain⟨k,hk⟩:∃k,nth (Jj rs m) q=k:=⟨_,rfl⟩;rw[hk]at hec;have HK:=QLh hk;have HRC:=QLh hrc;obtain⟨x9,hx9⟩:∃x9,(Xg rs m q).length=x9:=⟨_,rfl⟩;have hx8:x9<L.length:=by have h1:=QhL rs m q hlt hlq;rw[<-HLM.out,List.length_map]at h1;omega
       obtain⟨z9,hz9⟩:∃z9,L[x9]'hx8=z9:=⟨_,rfl⟩;have HZ9:Hid (L.take (x9+1)=L.take x9++[z9]):=QLh (by rw[List.take_succ_eq_append_getElem hx8,hz9]);have hf9:f z9=((m:Int),k):=by rw[<-hz9];have h1:=Qjf rs m q hlt hlq;rw[hx9,<-HLM.out,List.getElem?_map,List.getElem?_eq_getElem hx8,hk]at h1;exact Option.some.inj h1
       have hj9:=HJ2.out;rw[hx9]at hj9;have HX9:=QLh hx9;have HX8:=QLh hx8;obtain⟨fn,tmps,assign,body,hy,hR⟩:=HY.out (L.take x9) z9 wr hj9 (by rw[List.length_take];omega);have HR:=QLh hR
       try dsimp only at hy
       rw[hf9]at hy;clear hz9 hf9 hj9 hx9 hx8 hR hv hrr hrc2 hru2 hv3 hk
       gi_wp2
       refine HR.out.mono ?_;rintro e W3 (⟨rfl,hJ3,hk3⟩ | ⟨rfl,hJx3⟩)
       ·have J3:Hid (J (L.take (Xg rs m (q+1)).length) W3):=QLh (by rw[Qb5 rs m q hlq,List.length_append,HX9.out,List.length_singleton,HZ9.out];exact hJ3)
        have R1:Hid (W3.ownsRow B2 64 1 (.slice (some ⟨rb,ro,none⟩) (len rs) cap3) vals.length vals):=QLh (Qnz hk3 HBS.out (by decide) HR1.out);have R2:Hid (Z7 W3 B2 vals rs):=QLh (QqR hk3 HBS.out HR2.out);have hrc3:W3.cell? ⟨rb,ro+m,none⟩=some (.slice (some ⟨eb,eo,none⟩) (len (Jj rs m)) rc):=by
         rcases HR1.out.2 with⟨hz9,_⟩ | ⟨g9,cap9,cur9,hv9,hg9,hh9,_⟩
         ·cases hz9
         ·have e9:rb=g9:=by
           injection hv9 with h1 h2 h3
           have:=Option.some.inj h1
           injection this
          rw[World.cell?_of_block (w:=wr) (w':=W3) (a:=⟨rb,ro+m,none⟩) (by show W3.heap[rb]?=wr.heap[rb]?;rw[e9,hh9];exact hk3.same _ _ _ _ (by have:=HBS.out;omega) (by decide) hh9)];exact HRC.out
        clear hJ3 hk3 hy HR hec HRC
        gi_wp2
        go_roundw
        case rel=>exact⟨q+1,HLQ.out,by go_num,J3,R1,R2,hrc3⟩
        case measure=>have:=HLQ.out;simp[intOf];omega
       ·have JX:=QLh hJx3
        clear hJx3 hy HR hec HRC
        gi_wp2
        refine bodyPost_ret (results_none rfl _ _ _) rfl ?_;exact⟨⟨_,rfl⟩,Or.inr ⟨_,trivial,JX.out⟩⟩
      ·obtain rfl:q=len (Jj rs m):=by omega
       have b2:¬((len (Jj rs m):Nat):Int)<len (Jj rs m):=by omega
       have HJ3:Hid (J (L.take (Xg rs (m+1) 0).length) wr):=QLh (by have h:=HJ2.out;rw[Qde rs m hlt]at h;exact h)
       gi_wp2
       go_roundw
       case rel=>exact⟨m+1,HLT.out,by go_num,HJ3,HR1,HR2⟩
       case measure=>have:=HLT.out;simp[intOf];omega
    ·obtain rfl:m=len rs:=by omega
     have b1:¬((len rs:Nat):Int)<len rs:=by omega
     have HJ3:Hid (J L wr):=QLh (by have h:=HJ2.out;rw[QcJ,<-HLM.out,List.length_map,List.take_length]at h;exact h)
     gi_wp2
     go_end0
     exact⟨⟨_,rfl⟩,Or.inl HJ3.out⟩
end
section
open Go.RowKit Go.ChangeMaps
attribute [local go_sem] Oper.semAt_some
theorem KpO.setCell(o:Nat)(W:World)(k:Nat)(v:Value):KpO o W (W.setCell ⟨o,k,none⟩ v):=
 ⟨by simp[World.setCell],λ b cs t fr hb _ hc=>(Below.heap_setCell _ _ _ _ (λ e=>hb e)).trans hc⟩
theorem QsJ{α:Type}(B s0:Nat)(T:TypeId)(f:List α->Value):OwnFrom B (fun (pre:List α) W=>W.heap[s0]?=some (.cells #[f pre] T (0,0))):=λ s W W' row hs hg hr=>
 (hg.block s0 (lt_of_block hs) (λ e=>by
  obtain⟨_,x,hx,hc⟩:=hr s0 (by rw[e]);rw[hs]at hx
  cases hx
  cases hc)).trans hs
theorem QkV(a:Option Addr)(cap n:Nat)(d:Int)(w:World):Calls Tryz.prog 101 #[.int .i64 d,.slice a n cap] w λ e w'=>e=.returned (.func (.func 163) #[] #[.pointer (some ⟨w.heap.size+1,0,none⟩),.pointer (some ⟨w.heap.size,0,none⟩)])/\w'=(w.alloc (.cells #[.int .i64 d] 3)).alloc (.cells #[.slice a n cap] 64):=by
 go_enter Tryz.func101,Tryz.ntmps101
 go_wp2;go_ret;exact⟨rfl,rfl⟩
def Qf8(n:Int)(l:List Int):List (Int × Int):=Xu (Z4 (Qr l (Xy n)) (Xy n))
def Ki(n:Int)(l:List Int):Prop:=0<=n/\n<=65536/\Qa0 n l
instance (n:Int) (l:List Int):Decidable (Ki n l):=by unfold Ki;exact inferInstance
end
theorem QgK(x:W32)(a:Nat)(w:World)(h1:1<=a)(h2:a<=31):Calls Tryz.prog 271 #[.int .u32 (wI x),.int .i64 (-(a:Int))] w λ e w'=>e=.returned (.int .u32 (wI (Jr x a)))/\w'=w:=by
 have e1:IntKind.u64.wrap (-(a:Int))=((18446744073709551616 - a:Nat):Int):=by rw[show IntKind.u64.wrap (-(a:Int))=(-(a:Int)) % 18446744073709551616 by simp[IntKind.wrap,IntKind.bits,IntKind.signed]];omega
 have e2:bits .and .u64 ((18446744073709551616 - a:Nat):Int) 31=((32 - a:Nat):Int):=by rw[show(31:Int)=((31:Nat):Int)from rfl,u64_and_nat _ _ (by omega) (by omega),nat_mask5];omega
 go_enter Tryz.func271,Tryz.ntmps271
 go_wp2;rw[QmV,show 32 - (32 - a)=a by omega,Zi,Yx,Qop];go_ret;exact⟨rfl,rfl⟩
def Qon(x:W32)(a b c:Nat):W32:=Jr x a ^^^ Jr x b ^^^ x >>> c
theorem Qo1(x:W32)(a b c:Nat)(w:World)(h1:1<=a/\a<=31)(h2:1<=b/\b<=31)(h3:c<=31):Calls Tryz.prog 270 #[.int .u32 (wI x),.int .i64 a,.int .i64 b,.int .i64 c] w λ e w'=>e=.returned (.int .u32 (wI (Qon x a b c)))/\Below w.heap.size w w':=by
 have HA:=QLh (λ w'=>QgK x a w' h1.1 h1.2);have HB:=QLh (λ w'=>QgK x b w' h2.1 h2.2)
 go_enter Tryz.func270,Tryz.ntmps270
 have na:IntKind.i64.wrap (-(a:Int))=-(a:Int):=IntWalk.i64_in _ (by omega);have nb:IntKind.i64.wrap (-(b:Int))=-(b:Int):=IntWalk.i64_in _ (by omega);have sc:¬((c:Int)<0):=by omega
 go_upto_region 1 with fail;refine Qp 13 1000 (none) (Kx (List.map qv [.int .u32 (wI x),.int .i64 a,.int .i64 (-(a:Int)),.int .u32 (wI (Jr x a)),.int .u32 (wI x),.int .i64 b,.int .i64 (-(b:Int)),.int .u32 (wI (Jr x b)),.int .u32 (wI (Jr x a ^^^ Jr x b)),.int .u32 (wI x),.int .i64 c,.int .u32 (wI (x >>> c)),.int .u32 (wI (Jr x a ^^^ Jr x b ^^^ x >>> c))])) rfl (by kernel_rfl) (by kernel_rfl) (Q9 Xz) (Q6 13 ⟨?s0,?s1,?s2,?s3,?s4,?s5,?s6,?s7,?s8,?s9,?s10,?s11,?s12,trivial⟩) ?_
 case s0=>refine qV (λ _=>rfl) rfl λ av wv hE hO hD=>?_;simp[go_sem,qF av 0 (.int .u32 (wI x)) (hO.2.2 0 rfl),na,nb,Qz,Zi,sc]
 case s1=>refine qV (λ _=>rfl) rfl λ av wv hE hO hD=>?_;simp[go_sem,qF av 1 (.int .i64 a) (hO.2.2 1 rfl),na,nb,Qz,Zi,sc]
 case s2=>refine qV (λ _=>rfl) rfl λ av wv hE hO hD=>?_;simp[go_sem,qE (hD.1 rfl _ rfl),na,nb,Qz,Zi,sc]
 case s3=>refine Qu (λ av wv hE hS hO hD=>⟨rfl,?_⟩);have f9:=qE (hD.1 rfl _ rfl);have f11:=qE (hD.2.1 rfl _ rfl);refine Zb (v:=.int .u32 (wI (Jr x a))) (by simp[go_sem,f9,f11]) ((HA.out wv).mono (λ e w2 ⟨h1,h2⟩=>⟨h1,by rw[h2];exact Below.refl _ _⟩)) (λ w2 hb=>⟨_,rfl,Qo hb,rfl⟩)
 case s4=>refine qV (λ _=>rfl) rfl λ av wv hE hO hD=>?_;simp[go_sem,qF av 0 (.int .u32 (wI x)) (hO.2.2 0 rfl),na,nb,Qz,Zi,sc]
 case s5=>refine qV (λ _=>rfl) rfl λ av wv hE hO hD=>?_;simp[go_sem,qF av 2 (.int .i64 b) (hO.2.2 2 rfl),na,nb,Qz,Zi,sc]
 case s6=>refine qV (λ _=>rfl) rfl λ av wv hE hO hD=>?_;simp[go_sem,qE (hD.1 rfl _ rfl),na,nb,Qz,Zi,sc]
 case s7=>refine Qu (λ av wv hE hS hO hD=>⟨rfl,?_⟩);have f13:=qE (hD.1 rfl _ rfl);have f15:=qE (hD.2.1 rfl _ rfl);refine Zb (v:=.int .u32 (wI (Jr x b))) (by simp[go_sem,f13,f15]) ((HB.out wv).mono (λ e w2 ⟨h1,h2⟩=>⟨h1,by rw[h2];exact Below.refl _ _⟩)) (λ w2 hb=>⟨_,rfl,Qo hb,rfl⟩)
 case s8=>refine qV (λ _=>rfl) rfl λ av wv hE hO hD=>?_;simp[go_sem,qE (hD.1 rfl _ rfl),qE (hD.2.1 rfl _ rfl),na,nb,Qz,Zi,sc]
 case s9=>refine qV (λ _=>rfl) rfl λ av wv hE hO hD=>?_;simp[go_sem,qF av 0 (.int .u32 (wI x)) (hO.2.2 0 rfl),na,nb,Qz,Zi,sc]
 case s10=>refine qV (λ _=>rfl) rfl λ av wv hE hO hD=>?_;simp[go_sem,qF av 3 (.int .i64 c) (hO.2.2 3 rfl),na,nb,Qz,Zi,sc]
 case s11=>refine qV (λ _=>rfl) rfl λ av wv hE hO hD=>?_;simp[go_sem,qE (hD.1 rfl _ rfl),qE (hD.2.1 rfl _ rfl),na,nb,Qz,Zi,sc]
 case s12=>refine qV (λ _=>rfl) rfl λ av wv hE hO hD=>?_;simp[go_sem,qE (hD.1 rfl _ rfl),qE (hD.2.1 rfl _ rfl),na,nb,Qz,Zi,sc]
 intro a' w' hE hO hall;have hA:=Qn (ds:=[9,10,11,12,13,14,15,16,17,18,19,20,21]) rfl hO (by kernel_rfl);obtain⟨j0,j1,j2,j3,j4,j5,j6,j7,j8,j9,j10,j11,j12,-⟩:=hall;simp only[List.foldl_cons,List.foldl_nil,Act.put,List.setIfInBounds_toArray,List.set_cons_succ,List.set_cons_zero,qJ 9 (j0 _ rfl),qJ 10 (j1 _ rfl),qJ 11 (j2 _ rfl),qJ 12 (j3 _ rfl),qJ 13 (j4 _ rfl),qJ 14 (j5 _ rfl),qJ 15 (j6 _ rfl),qJ 16 (j7 _ rfl),qJ 17 (j8 _ rfl),qJ 18 (j9 _ rfl),qJ 19 (j10 _ rfl),qJ 20 (j11 _ rfl),qJ 21 (j12 _ rfl)]at hA;clear hO j0 j1 j2 j3 j4 j5 j6 j7 j8 j9 j10 j11 j12;subst hA;clear na nb sc;go_wp2;go_ret;exact⟨rfl,Q0 hE⟩
def Qd8(x:W32)(l:List Nat):W32:=l.foldl (λ y n=>y ^^^ Jr x n) 0
theorem QlS(x:W32)(l:List Nat)(m:Nat)(h:m<l.length):Qd8 x (l.take (m+1))=Qd8 x (l.take m) ^^^ Jr x l[m]:=by unfold Qd8;rw[List.take_succ_eq_append_getElem h,List.foldl_append];rfl
theorem QpM(e:W32):Qd8 e [6,11,25]=t1W e:=by unfold Qd8 t1W;simp
theorem Qqf(a:W32):Qd8 a [2,13,22]=t0W a:=by unfold Qd8 t0W;simp
def Qp2(l:List Nat)(i:Nat):Nat:=l.getD i 1
theorem Qsd(l:List Nat)(i:Nat)(h:i<l.length):Qp2 l i=l[i]:=by unfold Qp2;rw[List.getD_eq_getElem?_getD,List.getElem?_eq_getElem h];rfl
theorem QkJ(x:W32)(l:List Nat)(b c:Nat)(w:World)(hl:len l<=100)(hn:∀i,i<len l->1<=Qp2 l i/\Qp2 l i<=31)(hc:∀i,i<len l->w.cell? ⟨b,i,none⟩=some (.int .i64 (Qp2 l i:Nat))):Calls Tryz.prog 272 #[.int .u32 (wI x),.slice (some ⟨b,0,none⟩) (len l) c] w λ e w'=>e=.returned (.int .u32 (wI (Qd8 x l)))/\w'=w:=by
 have HC:=QLh hc;have HN:=QLh hn;clear hc hn
 go_enter Tryz.func272,Tryz.ntmps272
 go_wp2
 go_loopg [4,6,9] (len l) (λ g y _ i wr=>∃m:Nat,g+m=len l/\y=.int .u32 (wI (Qd8 x (l.take m)))/\i=.int .i64 m/\wr=w)
 case atStart=>exact⟨0,rfl,rfl,rfl,rfl⟩
 case round=>
  obtain⟨m,hm,rfl,rfl,rfl⟩:=hrel
  by_cases hlt:m<len l
  ·have i1:(m:Int)<len l:=by omega
   have c0:=HC.out m hlt;have hb:=HN.out m hlt;have hlt':m<l.length:=hlt;have HS:Hid (Qd8 x (l.take (m+1))=Qd8 x (l.take m) ^^^ Jr x (Qp2 l m)):=QLh (by rw[QlS x l m hlt',Qsd l m hlt']);generalize Qp2 l m=n at c0 hb HS;have na:IntKind.i64.wrap (-(n:Int))=-(n:Int):=IntWalk.i64_in _ (by omega);have HR:=QLh (λ w'=>QgK x n w' hb.1 hb.2);clear hlt' hb;go_wp2_with fail;refine(HR.out wr).mono ?_;rintro e w2 ⟨rfl,rfl⟩;generalize Qd8 x (l.take m)=y at HS ⊢;clear c0 na HR;go_wp2;rw[Qz,<-HS.out]
   go_roundg (len l - (m+1))
   case rel=>exact⟨m+1,by omega,rfl,by go_num,rfl⟩
   case measure=>omega
  ·obtain rfl:m=len l:=by omega
   have i1:¬((len l:Nat):Int)<(len l:Nat):=by omega
   have e:l.take (len l)=l:=List.take_length;rw[e];clear e;go_wp2;go_ret;exact⟨rfl,rfl⟩
abbrev wV(x:W32):Value:=.int .u32 (wI x)
def bW(b:UInt8):W32:=BitVec.ofNat 32 b.toNat
abbrev bV(b:UInt8):Value:=.int .u8 (wI (bW b))
theorem Que(b:UInt8):wI (bW b)=(b.toNat:Int):=by have:=b.toNat_lt;simp[wI,bW,BitVec.toNat_ofNat]
theorem Qn6(x:W32):IntKind.u32.wrap (wI x)=wI x:=by have:=x.isLt;rw[IntKind.wrap_u32'];unfold wI;omega
theorem Qrx(x:W32):wI x % 4294967296=wI x:=by have:=x.isLt;unfold wI;omega
theorem QjG(x:W32):IntKind.u32.wrap (wI x * 16777216)=wI (x <<< 24):=QkL x 24
theorem QjH(x:W32):IntKind.u32.wrap (wI x * 65536)=wI (x <<< 16):=QkL x 16
theorem QmW(x:W32):IntKind.u32.wrap (wI x * 256)=wI (x <<< 8):=QkL x 8
def wsC(L:List W32):Array Value:=(L.map wV).toArray
theorem Xk(L:List W32)(i:Nat)(h:i<L.length):(wsC L)[i]?=some (wV (wth L i)):=by unfold wsC;rw[Qke L i h];simp[h]
theorem Qe6(L:List W32)(i:Nat)(x:W32):(wsC L).setIfInBounds i (wV x)=wsC (L.set i x):=by unfold wsC;simp[List.map_set]
def Qbu:List W32:=List.replicate 64 0
theorem Qlz(w:World):Calls Tryz.prog 273 #[] w λ e w'=>e=.returned (.agg (wsC kW))/\Below w.heap.size w w':=by
 go_enter Tryz.func273,Tryz.ntmps273
 go_upto_region 1 with fail;obtain⟨b,hb⟩:∃b,w.heap.size=b:=⟨_,rfl⟩;show Code.wp _ _ _ _ (w.alloc (.cells (wsC Qbu) 294));obtain⟨V,hV⟩:∃V,w.alloc (.cells (wsC Qbu) 294)=V:=⟨_,rfl⟩;have HV:Hid (V.heap[b]?=some (.cells (wsC Qbu) 294 (0,0))):=QLh (by rw[<-hV,<-hb];exact heap_alloc_new _ _);have HS:Hid (Below w.heap.size w V):=QLh (by rw[<-hV];exact Qf (Below.refl _ _) _);have HBW:Hid (w.heap.size<=b):=QLh (Nat.le_of_eq hb);rw[hV,hb];clear hV hb;apply wp_region_lit;refine wpList_build rfl 294 _ rfl (by as_aux_lemma=>kernel_rfl) ?_;refine wpList_store_row rfl 294 _ _ rfl b (wsC kW) rfl (by as_aux_lemma=>kernel_rfl) 294 (wsC Qbu) HV.out (by as_aux_lemma=>kernel_rfl) (by as_aux_lemma=>kernel_rfl) (by as_aux_lemma=>kernel_rfl) ?_;apply wpList_nil;obtain⟨U,hU⟩:∃U,V.setRow b (wsC kW)=U:=⟨_,rfl⟩;have HU:Hid (U.heap[b]?=some (.cells (wsC kW) 294 (0,0))):=QLh (by rw[<-hU];exact setRow_heap V b _ _ _ _ HV.out);have HUB:Hid (Below w.heap.size w U):=QLh (by
  rw[<-hU];exact⟨HS.out.os,HS.out.tape,HS.out.output,by rw[setRow_size];exact HS.out.size,λ i hi=>by rw[setRow_other _ _ _ _ (show i≠b by have:=HBW.out;omega)];exact HS.out.block i hi⟩)
 rw[hU];rename_i Q' K hK;refine hK _ _ ?_;apply wp_ret;refine bodyPost_ret (v:=.agg (wsC kW)) ?_ rfl ?_
 ·exact results_cell_row rfl _ _ b 294 (wsC kW) (0,0) _ rfl HU.out rfl rfl (by as_aux_lemma=>kernel_rfl)
 ·exact⟨rfl,HUB.out⟩
theorem QsN(t:Nat)(h:t<64)(w:World):(Instr.index 294 (.agg (wsC kW)) (.int .i64 (t:Int))).run Tryz.prog w=.ok (.int .u32 (wI (wth kW t))) w:=by
 have hk:(wsC kW)[t]?=some (wV (wth kW t)):=Xk kW t h;have hs:(wsC kW).size=64:=rfl;generalize wsC kW=KC at hk hs;have b:¬(64:Int)<=(t:Int):=by omega
 have b2:¬(t:Int)<0:=by omega
 unfold Instr.index;simp[go_sem,hk,hs,b,b2];intro h9;omega
theorem Ko{P:Program}{ops:Array Oper}{w:World}{Q:Act->Prop}:∀(l:List Oper) (a:Act),wpQuiet P ops (λ u=>u=w) Q l a->wpStill P ops w Q l a
 | [],_,h=>h
 | o :: rest,a,h=>by
  unfold wpQuiet at h;unfold wpStill
  by_cases hw:Region.wanted o (yielded ops a.tmps)=true
  ·rw[if_pos hw]at h ⊢
   obtain⟨v,h1,h2⟩:=h;have h3:=h1 w rfl;have h4:=Ko rest _ h2;unfold Oper.quietAt at h3;unfold Oper.still;generalize (execOp a.eval o).run P w=r at h3 ⊢
   cases r with
   | ok n w'=>
    cases n <;> simp only[Oper.quietUpon]at h3 <;> simp only[Oper.stillUpon]
    case value u=>exact⟨h3.1,by rw[h3.2];exact h4⟩
    case skip=>exact⟨h3.1,by rw[<-h3.2];exact h4⟩
    case enter f args=>exact⟨h3.1,v,h3.2,h4⟩
   | halt x w'=>simp only[Oper.quietUpon]at h3
  ·rw[if_neg hw]at h ⊢
   exact Ko rest _ h
theorem V6{P:Program}{id:Nat}{Q:Exit->Act->World->Prop}{a:Act}{w:World}{l:List Oper}(n:Nat)(hm:P.follows .mixedOrders=true)(hB:Region.lexTailB .any l.toArray n=true)
  (h:∀w',Xe none w.drew w'->wpQuiet P l.toArray (λ u=>u=w') (λ a'=>wpList P l.toArray Q (l.drop n) a' w') (l.take n) a):(Code.region id l.toArray true).wp P Q a w:=
 wp_region_still_tail n hm hB (Ko _ _ (h _ (Y4 _ _)))
theorem Yt{P:Program}{id:Nat}{Q:Exit->Act->World->Prop}{a:Act}{w:World}{l:List Oper}(hm:P.follows .mixedOrders=true)(hB:Region.lexB .any l.toArray=true)
  (h:∀w',Xe none w.drew w'->wpQuiet P l.toArray (λ u=>u=w') (λ a'=>Q .normal a' w') l a):(Code.region id l.toArray true).wp P Q a w:=
 wp_region_still_lit hm hB (Ko _ _ (h _ (Y4 _ _)))
section
def stL(v:St8):List W32:=[v.a,v.b,v.c,v.d,v.e,v.f,v.g,v.h]
def Ua(v:St8)(r:List UInt8)(n:Int):Array Value:=((stL v).map wV++r.map bV++[Value.int .u64 n]).toArray
theorem Xl(v:St8)(r:List UInt8)(n:Int)(i:Nat)(h:i<8):(Ua v r n)[i]?=some (wV (wth (stL v) i)):=by unfold Ua;have h8:(stL v).length=8:=rfl;rw[Qke _ i (by omega)];simp[List.getElem?_append,h8,h]
theorem Qc6(v:St8)(r:List UInt8)(n:Int)(i:Nat)(h:i<r.length):(Ua v r n)[8+i]?=some (bV (bth r i)):=by
 unfold Ua;have h8:(stL v).length=8:=rfl;have e:bth r i=r[i]:=by unfold bth;rw[List.getD_eq_getElem?_getD,List.getElem?_eq_getElem h];rfl
 rw[e];simp[List.getElem?_append,h8,h]
def Qdl(r:List UInt8)(m:Nat):List W32:=Ul r m++List.replicate (64 - m) 0
def Ql8(L:List W32)(r:List UInt8)(n:Int):Array Value:=(L.map wV++r.map bV++[Value.int .u64 n]).toArray
theorem Qll(L:List W32)(r:List UInt8)(n:Int)(i:Nat)(h:i<L.length):(Ql8 L r n)[i]?=some (wV (wth L i)):=by unfold Ql8;rw[Qke _ i h];simp[List.getElem?_append,h]
theorem QnV(L:List W32)(r:List UInt8)(n:Int)(i:Nat)(x:W32)(h:i<L.length):(Ql8 L r n).setIfInBounds i (wV x)=Ql8 (L.set i x) r n:=by unfold Ql8;simp[List.set_append,h,List.map_set]
def Qrs(v u:St8)(i:Nat):List W32:=(stL (QbJ v u)).take i++(stL v).drop i
theorem Qkx(v u:St8)(i:Nat):(Qrs v u i).length=8:=by unfold Qrs;have h1:(stL (QbJ v u)).length=8:=rfl;have h2:(stL v).length=8:=rfl;rw[List.length_append,List.length_take,List.length_drop,h1,h2];omega
theorem QnZ(v u:St8)(i:Nat)(h:i<8):wth (Qrs v u i) i=wth (stL v) i/\(Qrs v u i).set i (wth (stL v) i+wth (stL u) i)=Qrs v u (i+1):=by
 match i,h with
 | 0,_ | 1,_ | 2,_ | 3,_ | 4,_ | 5,_ | 6,_ | 7,_=>exact⟨rfl,rfl⟩
attribute [local go_sem] Qz Zx Yx Q5 Qt
theorem Xq{row:Option Nat}{w w':World}(h:Below w.heap.size w w'):Xe row w w':=⟨h.os,h.tape,h.output,h.size,λ i hi _=>h.block i hi⟩
theorem QfV{w w1:World}{b:Nat}(h:Xe (some b) w w1)(o:Nat)(v:Value):Xe (some b) w (w1.setCell ⟨b,o,none⟩ v):=
 ⟨h.os,h.tape,h.output,by rw[World.size_setCell];exact h.size,λ i hi hn=>by rw[Below.heap_setCell _ _ _ _ (show i≠b from λ e=>hn (by rw[e]))];exact h.block i hi hn⟩
theorem Jf{row:Option Nat}{w w1:World}(h:Xe row w w1){b:Nat}(hb:w.heap.size<=b)(o:Nat)(v:Value):Xe row w (w1.setCell ⟨b,o,none⟩ v):=
 ⟨h.os,h.tape,h.output,by rw[World.size_setCell];exact h.size,λ i hi hn=>by rw[Below.heap_setCell _ _ _ _ (by omega:i≠b)];exact h.block i hi hn⟩
theorem Kr(r:List UInt8)(m:Nat):(Ul r m).length=m:=by simp[Ul]
theorem QhI(r:List UInt8)(m:Nat)(h:m<=64):(Qdl r m).length=64:=by unfold Qdl;rw[List.length_append,Kr,List.length_replicate];omega
theorem Qfr(r:List UInt8)(m:Nat)(h:m<64):(Qdl r m).set m (w4 (bth r (4 * m)) (bth r (4 * m+1)) (bth r (4 * m+2)) (bth r (4 * m+3)))=Qdl r (m+1):=by
 unfold Qdl;rw[List.set_append_right _ _ (by rw[Kr];exact Nat.le_refl _),Kr,Nat.sub_self,show 64 - m=(64 - (m+1))+1 by omega,List.replicate_succ,List.set_cons_zero];have e:Ul r (m+1)=Ul r m++[w4 (bth r (4 * m)) (bth r (4 * m+1)) (bth r (4 * m+2)) (bth r (4 * m+3))]:=by unfold Ul;rw[List.range_succ,List.map_append];rfl
 rw[e,List.append_assoc];rfl
def Kt(r:List UInt8)(j:Nat):List W32:=Uu (Ul r 16) j++List.replicate (48 - j) 0
theorem Uj(ws:List W32):∀j,(Uu ws j).length=ws.length+j
 | 0=>rfl
 | j+1=>by rw[Uu,List.length_append,Uj ws j];rfl
theorem Qho(r:List UInt8)(j:Nat)(h:j<=48):(Kt r j).length=64:=by unfold Kt;rw[List.length_append,Uj,Kr,List.length_replicate];omega
theorem Uc(r:List UInt8)(j i:Nat)(h:i<16+j):wth (Kt r j) i=wth (Uu (Ul r 16) j) i:=by unfold Kt wth;rw[List.getD_eq_getElem?_getD,List.getD_eq_getElem?_getD,List.getElem?_append_left (by rw[Uj,Kr];exact h)]
theorem QfI(r:List UInt8)(j:Nat)(h:j<48):(Kt r j).set (16+j) (QjC (Uu (Ul r 16) j) (16+j))=Kt r (j+1):=by
 unfold Kt;have hl:(Uu (Ul r 16) j).length=16+j:=by rw[Uj,Kr]
 rw[List.set_append_right _ _ (by rw[hl];exact Nat.le_refl _),hl,Nat.sub_self,show 48 - j=(48 - (j+1))+1 by omega,List.replicate_succ,List.set_cons_zero,Uu,hl,List.append_assoc];rfl
theorem Qfv(r:List UInt8):Qdl r 16=Kt r 0:=rfl
theorem Qtr(hb:Nat)(v:St8)(r:List UInt8)(n:Int)(w:World)(hr:r.length=64)(h:w.heap[hb]?=some (.cells (Ua v r n) 250 (0,0))):
  Calls Tryz.prog 220 #[.pointer (some ⟨hb,0,none⟩),.slice (some ⟨hb,8,none⟩) 64 64] w λ e w'=>e=.returned (.tuple #[])/\Xe (some hb) w w'/\w'.heap[hb]?=some (.cells (Ua (Vu v r) r n) 250 (0,0)):=by
 have H:=QLh h;have HR:=QLh hr;clear h hr
 go_enter Tryz.func220,Tryz.ntmps220
 go_upto_region 1 with fail;obtain⟨wb,hwb⟩:∃wb,w.heap.size=wb:=⟨_,rfl⟩;show Code.wp _ _ _ _ (w.alloc (.cells (wsC Qbu) 294));obtain⟨V,hV⟩:∃V,w.alloc (.cells (wsC Qbu) 294)=V:=⟨_,rfl⟩;have HX:Hid (Xe (some hb) w V):=QLh (by rw[<-hV];exact Qf4 _ _ _);have HW:Hid (V.heap[wb]?=some (.cells (wsC Qbu) 294 (0,0))):=QLh (by rw[<-hV,<-hwb];exact heap_alloc_new _ _);have HN:Hid (hb<wb):=QLh (by have:=lt_of_block H.out;omega);have H:=QLh (show V.heap[hb]?=some (.cells (Ua v r n) 250 (0,0))by rw[<-hV];exact Qe H.out _);rw[hV,hwb];clear hV;go_wp2
 go_loopg [22,5,6] 16 (λ g i _ _ wr=>∃m:Nat,g+m=16/\i=.int .i64 m/\Hid (wr.heap[wb]?=some (.cells (wsC (Qdl r m)) 294 (0,0)))/\Hid (Xe (some hb) w wr)/\Hid (wr.heap[hb]?=some (.cells (Ua v r n) 250 (0,0))))
 case atStart=>exact⟨0,rfl,rfl,HW.out,HX.out,H.out⟩
 case round=>
  clear HX HW H;obtain⟨m,hm,rfl,HW,HX,H⟩:=hrel
  by_cases hlt:m<16
  ·have i1:(m:Int)<16:=by omega
   go_upto_region 5 with fail;rw[show 4 * m+4 - 4 * m=4 by omega];obtain⟨W,hW⟩:∃W,wr=W:=⟨_,rfl⟩;rw[hW]at HW HX H ⊢;clear hW;obtain⟨B0,hB0⟩:∃B,bW (bth r (4 * m))=B:=⟨_,rfl⟩;obtain⟨B1,hB1⟩:∃B,bW (bth r (4 * m+1))=B:=⟨_,rfl⟩;obtain⟨B2,hB2⟩:∃B,bW (bth r (4 * m+2))=B:=⟨_,rfl⟩;obtain⟨B3,hB3⟩:∃B,bW (bth r (4 * m+3))=B:=⟨_,rfl⟩;have q0:W.cell? ⟨hb,8+4 * m,none⟩=some (.int .u8 (wI B0)):=by rw[Qa H.out,Qc6 _ _ _ _ (by have:=HR.out;omega),<-hB0]
   have q1:W.cell? ⟨hb,8+4 * m+1,none⟩=some (.int .u8 (wI B1)):=by rw[Qa H.out,Nat.add_assoc,Qc6 _ _ _ _ (by have:=HR.out;omega),<-hB1]
   have q2:W.cell? ⟨hb,8+4 * m+2,none⟩=some (.int .u8 (wI B2)):=by rw[Qa H.out,Nat.add_assoc,Qc6 _ _ _ _ (by have:=HR.out;omega),<-hB2]
   have q3:W.cell? ⟨hb,8+4 * m+3,none⟩=some (.int .u8 (wI B3)):=by rw[Qa H.out,Nat.add_assoc,Qc6 _ _ _ _ (by have:=HR.out;omega),<-hB3]
   have HW4:Hid (B0 <<< 24 ||| B1 <<< 16 ||| B2 <<< 8 ||| B3=w4 (bth r (4 * m)) (bth r (4 * m+1)) (bth r (4 * m+2)) (bth r (4 * m+3))):=QLh (by rw[<-hB0,<-hB1,<-hB2,<-hB3];rfl)
   have m64:¬(64:Int)<=(m:Int):=by omega
   clear hB0 hB1 hB2 hB3;refine V6 24 rfl (by kernel_rfl) λ w' hE=>?_;have y1:=@Qn6;have y2:=@Qrx;have y3:=@QjG;have y4:=@QjH;have y5:=@QmW;have y6:=@Yx;have q0:=Qb hE (by simp) q0;have q1:=Qb hE (by simp) q1;have q2:=Qb hE (by simp) q2;have q3:=Qb hE (by simp) q3;simp only[List.take_succ_cons,List.take_zero,List.drop_succ_cons,List.drop_zero]
   repeat go_big_quiet_step (fail)
   refine wpQuiet_nil ?_;clear y1 y2 y3 y4 y5 y6;have hX:=Q0 hE;have hN:=HN.out;have hWs:w'.heap[wb]?=some (.cells (wsC (Qdl r m)) 294 (0,0)):=(hX.block _ (lt_of_block HW.out)).trans HW.out;have HWS:=QLh hWs;have HX2:Hid (Xe (some hb) w w'):=QLh (Q7 _ _ _ _ HX.out (Xq hX));have H2:Hid (w'.heap[hb]?=some (.cells (Ua v r n) 250 (0,0))):=QLh ((hX.block _ (lt_of_block H.out)).trans H.out);have c0:w'.cell? ⟨wb,m,none⟩=some (wV (wth (Qdl r m) m)):=by rw[Qa hWs,Xk _ _ (by rw[QhI r m (by omega)];omega)]
   have f0:w'.frozen? ⟨wb,m,none⟩=false:=Qk hWs m;have l0:wb<w'.heap.size:=lt_of_block hWs;clear hE hX q0 q1 q2 q3 m64 hWs;go_wp2
   go_roundg (16 - (m+1))
   case rel=>exact⟨m+1,by omega,by go_num,QLh (by rw[HW4.out,<-Qfr r m (by omega)];have:=Qc HWS.out (o:=m) (wV (w4 (bth r (4 * m)) (bth r (4 * m+1)) (bth r (4 * m+2)) (bth r (4 * m+3))));rw[Qe6]at this;exact this),QLh (Jf HX2.out (Nat.le_of_eq hwb) _ _),Qh H2.out (by omega:hb≠wb) _⟩
   case measure=>omega
  ·obtain rfl:m=16:=by omega
   have i1:¬((16:Nat):Int)<16:=by decide
   rw[Qfv]at HW;clear hm hlt;go_wp2
   go_loopg [8] 48 (λ g i wr=>∃j:Nat,g+j=48/\i=.int .i64 ((16+j:Nat):Int)/\Hid (wr.heap[wb]?=some (.cells (wsC (Kt r j)) 294 (0,0)))/\Hid (Xe (some hb) w wr)/\Hid (wr.heap[hb]?=some (.cells (Ua v r n) 250 (0,0))))
   case atStart=>exact⟨0,rfl,rfl,HW.out,HX.out,H.out⟩
   case round=>
    clear HW HX H;obtain⟨j,hj,rfl,HW,HX,H⟩:=hrel;obtain⟨t,ht⟩:∃t,16+j=t:=⟨_,rfl⟩;rw[ht]
    by_cases hlt:t<64
    ·have i2:((t:Nat):Int)<64:=by omega
     obtain⟨p16,e16⟩:∃p,t=p+16:=⟨t - 16,by omega⟩;obtain⟨p15,e15⟩:∃p,t=p+15:=⟨t - 15,by omega⟩;obtain⟨p7,e7⟩:∃p,t=p+7:=⟨t - 7,by omega⟩;obtain⟨p2,e2⟩:∃p,t=p+2:=⟨t - 2,by omega⟩;have k16:IntKind.i64.wrap ((t:Int) - 16)=(p16:Int):=by rw[IntWalk.i64_in _ (by omega)];omega
     have k15:IntKind.i64.wrap ((t:Int) - 15)=(p15:Int):=by rw[IntWalk.i64_in _ (by omega)];omega
     have k7:IntKind.i64.wrap ((t:Int) - 7)=(p7:Int):=by rw[IntWalk.i64_in _ (by omega)];omega
     have k2:IntKind.i64.wrap ((t:Int) - 2)=(p2:Int):=by rw[IntWalk.i64_in _ (by omega)];omega
     have b16:¬(64:Int)<=(p16:Int):=by omega
     have b15:¬(64:Int)<=(p15:Int):=by omega
     have b7:¬(64:Int)<=(p7:Int):=by omega
     have b2:¬(64:Int)<=(p2:Int):=by omega
     have bt:¬(64:Int)<=(t:Int):=by omega
     go_upto_region 11 with fail;obtain⟨W,hW⟩:∃W,wr=W:=⟨_,rfl⟩;rw[hW]at HW HX H ⊢;clear hW;obtain⟨A,hA⟩:∃x,wth (Uu (Ul r 16) j) p16=x:=⟨_,rfl⟩;obtain⟨B,hB⟩:∃x,wth (Uu (Ul r 16) j) p15=x:=⟨_,rfl⟩;obtain⟨C,hC⟩:∃x,wth (Uu (Ul r 16) j) p7=x:=⟨_,rfl⟩;obtain⟨D,hD⟩:∃x,wth (Uu (Ul r 16) j) p2=x:=⟨_,rfl⟩;have hlm:=Qho r j (by omega);have z16:W.cell? ⟨wb,p16,none⟩=some (.int .u32 (wI A)):=by rw[Qa HW.out,Xk _ _ (by omega),Uc _ _ _ (by omega),hA]
     have z15:W.cell? ⟨wb,p15,none⟩=some (.int .u32 (wI B)):=by rw[Qa HW.out,Xk _ _ (by omega),Uc _ _ _ (by omega),hB]
     have z7:W.cell? ⟨wb,p7,none⟩=some (.int .u32 (wI C)):=by rw[Qa HW.out,Xk _ _ (by omega),Uc _ _ _ (by omega),hC]
     have z2:W.cell? ⟨wb,p2,none⟩=some (.int .u32 (wI D)):=by rw[Qa HW.out,Xk _ _ (by omega),Uc _ _ _ (by omega),hD]
     have HNX:Hid (A+Qon B 7 18 3+C+Qon D 17 19 10=QjC (Uu (Ul r 16) j) t):=QLh (by rw[<-hA,<-hB,<-hC,<-hD];unfold QjC;rw[show t - 16=p16 by omega,show t - 15=p15 by omega,show t - 7=p7 by omega,show t - 2=p2 by omega];rfl);clear hA hB hC hD e16 e15 e7 e2;refine Qp 25 1000 (none) (Kx (List.map qv [.int .i64 t,.int .i64 t,.int .i64 p16,.pointer (some ⟨wb,p16,none⟩),.int .u32 (wI A),.func (.func 270) #[] #[],.int .i64 t,.int .i64 p15,.pointer (some ⟨wb,p15,none⟩),.int .u32 (wI B),.int .u32 (wI (Qon B 7 18 3)),.int .u32 (wI (A+Qon B 7 18 3)),.int .i64 t,.int .i64 p7,.pointer (some ⟨wb,p7,none⟩),.int .u32 (wI C),.int .u32 (wI (A+Qon B 7 18 3+C)),.func (.func 270) #[] #[],.int .i64 t,.int .i64 p2,.pointer (some ⟨wb,p2,none⟩),.int .u32 (wI D),.int .u32 (wI (Qon D 17 19 10)),.int .u32 (wI (A+Qon B 7 18 3+C+Qon D 17 19 10)),.pointer (some ⟨wb,t,none⟩)])) rfl (by kernel_rfl) (by kernel_rfl) (Q9 Xz) (Q6 25 ⟨?s0,?s1,?s2,?s3,?s4,?s5,?s6,?s7,?s8,?s9,?s10,?s11,?s12,?s13,?s14,?s15,?s16,?s17,?s18,?s19,?s20,?s21,?s22,?s23,?s24,trivial⟩) ?_
     case s0=>refine qV (λ _=>rfl) rfl λ av wv hE hO hD=>?_;simp[go_sem,qF av 8 (.int .i64 t) (hO.2.2 8 rfl),k16,k15,k7,k2,b16,b15,b7,b2,bt,Qt,Q5]
     case s1=>refine qV (λ _=>rfl) rfl λ av wv hE hO hD=>?_;simp[go_sem,qF av 8 (.int .i64 t) (hO.2.2 8 rfl),k16,k15,k7,k2,b16,b15,b7,b2,bt,Qt,Q5]
     case s2=>refine qV (λ _=>rfl) rfl λ av wv hE hO hD=>?_;simp[go_sem,qE (hD.1 rfl _ rfl),k16,k15,k7,k2,b16,b15,b7,b2,bt,Qt,Q5]
     case s3=>refine qV (λ _=>rfl) rfl λ av wv hE hO hD=>?_;simp[go_sem,qF av 4 (.pointer (some ⟨wb,0,none⟩)) (hO.2.2 4 rfl),qE (hD.1 rfl _ rfl),k16,k15,k7,k2,b16,b15,b7,b2,bt,Qt,Q5]
     case s4=>refine qV (λ _=>rfl) rfl λ av wv hE hO hD=>?_;simp[go_sem,qE (hD.1 rfl _ rfl),Qb hE (by simp) z16,Qb hE (by simp) z15,Qb hE (by simp) z7,Qb hE (by simp) z2,k16,k15,k7,k2,b16,b15,b7,b2,bt,Qt,Q5]
     case s5=>refine qV (λ _=>rfl) rfl λ av wv hE hO hD=>?_;simp[go_sem,qF av 7 (.func (.func 270) #[] #[]) (hO.2.2 7 rfl),k16,k15,k7,k2,b16,b15,b7,b2,bt,Qt,Q5]
     case s6=>refine qV (λ _=>rfl) rfl λ av wv hE hO hD=>?_;simp[go_sem,qF av 8 (.int .i64 t) (hO.2.2 8 rfl),k16,k15,k7,k2,b16,b15,b7,b2,bt,Qt,Q5]
     case s7=>refine qV (λ _=>rfl) rfl λ av wv hE hO hD=>?_;simp[go_sem,qE (hD.1 rfl _ rfl),k16,k15,k7,k2,b16,b15,b7,b2,bt,Qt,Q5]
     case s8=>refine qV (λ _=>rfl) rfl λ av wv hE hO hD=>?_;simp[go_sem,qF av 4 (.pointer (some ⟨wb,0,none⟩)) (hO.2.2 4 rfl),qE (hD.1 rfl _ rfl),k16,k15,k7,k2,b16,b15,b7,b2,bt,Qt,Q5]
     case s9=>refine qV (λ _=>rfl) rfl λ av wv hE hO hD=>?_;simp[go_sem,qE (hD.1 rfl _ rfl),Qb hE (by simp) z16,Qb hE (by simp) z15,Qb hE (by simp) z7,Qb hE (by simp) z2,k16,k15,k7,k2,b16,b15,b7,b2,bt,Qt,Q5]
     case s10=>refine Qu (λ av wv hE hS hO hD=>⟨rfl,?_⟩);have f66:=qE (hD.1 rfl _ rfl);have f70:=qE (hD.2.1 rfl _ rfl);refine Zb (v:=.int .u32 (wI (Qon B 7 18 3))) (by simp[go_sem,f66,f70]) (Qo1 B 7 18 3 wv (by decide) (by decide) (by decide)) (λ w2 hb=>⟨_,rfl,Qo hb,rfl⟩)
     case s11=>refine qV (λ _=>rfl) rfl λ av wv hE hO hD=>?_;simp[go_sem,qE (hD.1 rfl _ rfl),qE (hD.2.1 rfl _ rfl),k16,k15,k7,k2,b16,b15,b7,b2,bt,Qt,Q5]
     case s12=>refine qV (λ _=>rfl) rfl λ av wv hE hO hD=>?_;simp[go_sem,qF av 8 (.int .i64 t) (hO.2.2 8 rfl),k16,k15,k7,k2,b16,b15,b7,b2,bt,Qt,Q5]
     case s13=>refine qV (λ _=>rfl) rfl λ av wv hE hO hD=>?_;simp[go_sem,qE (hD.1 rfl _ rfl),k16,k15,k7,k2,b16,b15,b7,b2,bt,Qt,Q5]
     case s14=>refine qV (λ _=>rfl) rfl λ av wv hE hO hD=>?_;simp[go_sem,qF av 4 (.pointer (some ⟨wb,0,none⟩)) (hO.2.2 4 rfl),qE (hD.1 rfl _ rfl),k16,k15,k7,k2,b16,b15,b7,b2,bt,Qt,Q5]
     case s15=>refine qV (λ _=>rfl) rfl λ av wv hE hO hD=>?_;simp[go_sem,qE (hD.1 rfl _ rfl),Qb hE (by simp) z16,Qb hE (by simp) z15,Qb hE (by simp) z7,Qb hE (by simp) z2,k16,k15,k7,k2,b16,b15,b7,b2,bt,Qt,Q5]
     case s16=>refine qV (λ _=>rfl) rfl λ av wv hE hO hD=>?_;simp[go_sem,qE (hD.1 rfl _ rfl),qE (hD.2.1 rfl _ rfl),k16,k15,k7,k2,b16,b15,b7,b2,bt,Qt,Q5]
     case s17=>refine qV (λ _=>rfl) rfl λ av wv hE hO hD=>?_;simp[go_sem,qF av 7 (.func (.func 270) #[] #[]) (hO.2.2 7 rfl),k16,k15,k7,k2,b16,b15,b7,b2,bt,Qt,Q5]
     case s18=>refine qV (λ _=>rfl) rfl λ av wv hE hO hD=>?_;simp[go_sem,qF av 8 (.int .i64 t) (hO.2.2 8 rfl),k16,k15,k7,k2,b16,b15,b7,b2,bt,Qt,Q5]
     case s19=>refine qV (λ _=>rfl) rfl λ av wv hE hO hD=>?_;simp[go_sem,qE (hD.1 rfl _ rfl),k16,k15,k7,k2,b16,b15,b7,b2,bt,Qt,Q5]
     case s20=>refine qV (λ _=>rfl) rfl λ av wv hE hO hD=>?_;simp[go_sem,qF av 4 (.pointer (some ⟨wb,0,none⟩)) (hO.2.2 4 rfl),qE (hD.1 rfl _ rfl),k16,k15,k7,k2,b16,b15,b7,b2,bt,Qt,Q5]
     case s21=>refine qV (λ _=>rfl) rfl λ av wv hE hO hD=>?_;simp[go_sem,qE (hD.1 rfl _ rfl),Qb hE (by simp) z16,Qb hE (by simp) z15,Qb hE (by simp) z7,Qb hE (by simp) z2,k16,k15,k7,k2,b16,b15,b7,b2,bt,Qt,Q5]
     case s22=>refine Qu (λ av wv hE hS hO hD=>⟨rfl,?_⟩);have f78:=qE (hD.1 rfl _ rfl);have f82:=qE (hD.2.1 rfl _ rfl);refine Zb (v:=.int .u32 (wI (Qon D 17 19 10))) (by simp[go_sem,f78,f82]) (Qo1 D 17 19 10 wv (by decide) (by decide) (by decide)) (λ w2 hb=>⟨_,rfl,Qo hb,rfl⟩)
     case s23=>refine qV (λ _=>rfl) rfl λ av wv hE hO hD=>?_;simp[go_sem,qE (hD.1 rfl _ rfl),qE (hD.2.1 rfl _ rfl),k16,k15,k7,k2,b16,b15,b7,b2,bt,Qt,Q5]
     case s24=>refine qV (λ _=>rfl) rfl λ av wv hE hO hD=>?_;simp[go_sem,qF av 4 (.pointer (some ⟨wb,0,none⟩)) (hO.2.2 4 rfl),qE (hD.1 rfl _ rfl),k16,k15,k7,k2,b16,b15,b7,b2,bt,Qt,Q5]
     intro a' w' hE hO hall;have hA:=Qn (ds:=[61,62,63,64,65,66,67,68,69,70,71,72,73,74,75,76,77,78,79,80,81,82,83,84,85]) rfl hO (by kernel_rfl);obtain⟨j0,j1,j2,j3,j4,j5,j6,j7,j8,j9,j10,j11,j12,j13,j14,j15,j16,j17,j18,j19,j20,j21,j22,j23,j24,-⟩:=hall;simp only[List.foldl_cons,List.foldl_nil,Act.put,List.setIfInBounds_toArray,List.set_cons_succ,List.set_cons_zero,qJ 61 (j0 _ rfl),qJ 62 (j1 _ rfl),qJ 63 (j2 _ rfl),qJ 64 (j3 _ rfl),qJ 65 (j4 _ rfl),qJ 66 (j5 _ rfl),qJ 67 (j6 _ rfl),qJ 68 (j7 _ rfl),qJ 69 (j8 _ rfl),qJ 70 (j9 _ rfl),qJ 71 (j10 _ rfl),qJ 72 (j11 _ rfl),qJ 73 (j12 _ rfl),qJ 74 (j13 _ rfl),qJ 75 (j14 _ rfl),qJ 76 (j15 _ rfl),qJ 77 (j16 _ rfl),qJ 78 (j17 _ rfl),qJ 79 (j18 _ rfl),qJ 80 (j19 _ rfl),qJ 81 (j20 _ rfl),qJ 82 (j21 _ rfl),qJ 83 (j22 _ rfl),qJ 84 (j23 _ rfl),qJ 85 (j24 _ rfl)]at hA;clear hO j0 j1 j2 j3 j4 j5 j6 j7 j8 j9 j10 j11 j12 j13 j14 j15 j16 j17 j18 j19 j20 j21 j22 j23 j24;subst hA;have hX:=Q0 hE;have hWs:w'.heap[wb]?=some (.cells (wsC (Kt r j)) 294 (0,0)):=(hX.block _ (lt_of_block HW.out)).trans HW.out;have HWS:=QLh hWs;have HX2:Hid (Xe (some hb) w w'):=QLh (Q7 _ _ _ _ HX.out (Xq hX));have H2:Hid (w'.heap[hb]?=some (.cells (Ua v r n) 250 (0,0))):=QLh ((hX.block _ (lt_of_block H.out)).trans H.out);have c0:w'.cell? ⟨wb,t,none⟩=some (wV (wth (Kt r j) t)):=by rw[Qa hWs,Xk _ _ (by omega)]
     have f0:w'.frozen? ⟨wb,t,none⟩=false:=Qk hWs t;have l0:wb<w'.heap.size:=lt_of_block hWs;clear hE hX z16 z15 z7 z2 hWs k16 k15 k7 k2 b16 b15 b7 b2 bt;go_wp2
     go_roundg (48 - (j+1))
     case rel=>exact⟨j+1,by omega,by go_num,QLh (by have h9:=Qc HWS.out (o:=t) (wV (QjC (Uu (Ul r 16) j) t));rw[Qe6,<-ht,QfI r j (by omega),ht,<-HNX.out]at h9;exact h9),QLh (Jf HX2.out (Nat.le_of_eq hwb) _ _),Qh H2.out (show hb≠wb by have:=HN.out;omega) _⟩
     case measure=>omega
    ·obtain rfl:t=64:=by omega
     obtain rfl:j=48:=by omega
     have i2:¬((64:Nat):Int)<64:=by decide
     obtain⟨ws,hws⟩:∃ws,Uu (Ul r 16) 48=ws:=⟨_,rfl⟩;have hwz:Kt r 48=ws:=by rw[<-hws];unfold Kt;simp
     have HWL:Hid (ws.length=64):=QLh (by rw[<-hws,Uj,Kr]);rw[hwz]at HW;have HWS:=QLh hws;clear hwz hws hj ht hlt;have y0:wr.cell? ⟨hb,0,none⟩=some (wV v.a):=(Qa H.out 0).trans (Xl v r n 0 (by decide));have y1:wr.cell? ⟨hb,1,none⟩=some (wV v.b):=(Qa H.out 1).trans (Xl v r n 1 (by decide));have y2:wr.cell? ⟨hb,2,none⟩=some (wV v.c):=(Qa H.out 2).trans (Xl v r n 2 (by decide));have y3:wr.cell? ⟨hb,3,none⟩=some (wV v.d):=(Qa H.out 3).trans (Xl v r n 3 (by decide));have y4:wr.cell? ⟨hb,4,none⟩=some (wV v.e):=(Qa H.out 4).trans (Xl v r n 4 (by decide));have y5:wr.cell? ⟨hb,5,none⟩=some (wV v.f):=(Qa H.out 5).trans (Xl v r n 5 (by decide));have y6:wr.cell? ⟨hb,6,none⟩=some (wV v.g):=(Qa H.out 6).trans (Xl v r n 6 (by decide));have y7:wr.cell? ⟨hb,7,none⟩=some (wV v.h):=(Qa H.out 7).trans (Xl v r n 7 (by decide));go_upto_region 14 with fail;obtain⟨vb,hvb⟩:∃vb,wr.heap.size=vb:=⟨_,rfl⟩;show Code.wp _ _ _ _ (wr.alloc (.cells (wsC (stL v)) 246));obtain⟨Y,hY⟩:∃Y,wr.alloc (.cells (wsC (stL v)) 246)=Y:=⟨_,rfl⟩;have hyb:Below wr.heap.size wr Y:=by rw[<-hY];exact Qf (Below.refl _ _) _
     have HV:Hid (Y.heap[vb]?=some (.cells (wsC (stL v)) 246 (0,0))):=QLh (by rw[<-hY,<-hvb];exact heap_alloc_new _ _);have HVB:Hid (wb<vb/\hb<vb):=QLh ⟨by have:=lt_of_block HW.out;omega,by have:=lt_of_block H.out;omega⟩;have HW:=QLh ((hyb.block _ (lt_of_block HW.out)).trans HW.out);have H:=QLh ((hyb.block _ (lt_of_block H.out)).trans H.out);have HX:=QLh (Q7 _ _ _ _ HX.out (Xq hyb));rw[hY,hvb];clear hY hvb hyb y0 y1 y2 y3 y4 y5 y6 y7;go_wp2_with fail;refine(Qlz Y).mono ?_;rintro e Z ⟨rfl,hb9⟩;have HV:=QLh ((hb9.block _ (lt_of_block HV.out)).trans HV.out);have HW:=QLh ((hb9.block _ (lt_of_block HW.out)).trans HW.out);have H:=QLh ((hb9.block _ (lt_of_block H.out)).trans H.out);have HX:=QLh (Q7 _ _ _ _ HX.out (Xq hb9));clear hb9;obtain⟨KC,hKC⟩:∃KC,wsC kW=KC:=⟨_,rfl⟩;rw[hKC];have HKC:=QLh hKC;clear hKC;go_wp2
     go_loopg [90,11,12,13,14,15,16,17,18,19,20] 64 (λ g i _ _ _ _ _ _ _ _ _ _ wr=>∃t:Nat,g+t=64/\i=.int .i64 (t:Nat)/\Hid (wr.heap[vb]?=some (.cells (wsC (stL (Vt kW ws v t))) 246 (0,0)))/\Hid (wr.heap[wb]?=some (.cells (wsC ws) 294 (0,0)))/\Hid (Xe (some hb) w wr)/\Hid (wr.heap[hb]?=some (.cells (Ua v r n) 250 (0,0))))
     case atStart=>exact⟨0,rfl,rfl,HV.out,HW.out,HX.out,H.out⟩
     case round=>
      clear HV HW HX H;obtain⟨t,ht,rfl,HV,HW,HX,H⟩:=hrel
      by_cases hlt:t<64
      ·have i3:((t:Nat):Int)<64:=by omega
       have bt:¬(64:Int)<=(t:Int):=by omega
       obtain⟨K,hK⟩:∃K,wth kW t=K:=⟨_,rfl⟩;have hk:∀w',(Instr.index 294 (.agg KC) (.int .i64 (t:Int))).run Tryz.prog w'=.ok (.int .u32 (wI K)) w':=λ w'=>by rw[<-HKC.out,QsN t hlt,hK]
       have HK:=QLh hK;clear hK;obtain⟨z8,hu⟩:∃u,Vt kW ws v t=u:=⟨_,rfl⟩;rw[hu]at HV;obtain⟨X,hX⟩:∃X,wth ws t=X:=⟨_,rfl⟩;go_upto_region 17 with fail;obtain⟨W,hW⟩:∃W,wr=W:=⟨_,rfl⟩;rw[hW]at HV HW HX H ⊢;clear hW;have x0:W.cell? ⟨vb,0,none⟩=some (.int .u32 (wI z8.a)):=(Qa HV.out 0).trans (Xk (stL z8) 0 (by decide:0<8));have x1:W.cell? ⟨vb,1,none⟩=some (.int .u32 (wI z8.b)):=(Qa HV.out 1).trans (Xk (stL z8) 1 (by decide:1<8));have x2:W.cell? ⟨vb,2,none⟩=some (.int .u32 (wI z8.c)):=(Qa HV.out 2).trans (Xk (stL z8) 2 (by decide:2<8));have x4:W.cell? ⟨vb,4,none⟩=some (.int .u32 (wI z8.e)):=(Qa HV.out 4).trans (Xk (stL z8) 4 (by decide:4<8));have x5:W.cell? ⟨vb,5,none⟩=some (.int .u32 (wI z8.f)):=(Qa HV.out 5).trans (Xk (stL z8) 5 (by decide:5<8));have x6:W.cell? ⟨vb,6,none⟩=some (.int .u32 (wI z8.g)):=(Qa HV.out 6).trans (Xk (stL z8) 6 (by decide:6<8));refine Yt rfl (by kernel_rfl) λ w' hE=>?_;have x0:=Qb hE (by simp) x0;have x1:=Qb hE (by simp) x1;have x2:=Qb hE (by simp) x2;have x4:=Qb hE (by simp) x4;have x5:=Qb hE (by simp) x5;have x6:=Qb hE (by simp) x6
       repeat go_big_quiet_step (fail)
       refine wpQuiet_nil ?_;have hX9:=Q0 hE;have HV:=QLh ((hX9.block _ (lt_of_block HV.out)).trans HV.out);have HW:=QLh ((hX9.block _ (lt_of_block HW.out)).trans HW.out);have H:=QLh ((hX9.block _ (lt_of_block H.out)).trans H.out);have HX:=QLh (Q7 _ _ _ _ HX.out (Xq hX9));clear hE hX9 x0 x1 x2 x4 x5 x6;go_upto_region 18 with fail;obtain⟨W,hW⟩:∃W,w'=W:=⟨_,rfl⟩;rw[hW]at HV HW HX H ⊢;clear hW;have x7:W.cell? ⟨vb,7,none⟩=some (.int .u32 (wI z8.h)):=(Qa HV.out 7).trans (Xk (stL z8) 7 (by decide:7<8));have zt:W.cell? ⟨wb,t,none⟩=some (.int .u32 (wI X)):=by rw[Qa HW.out,Xk ws t (by have:=HWL.out;omega),hX]
       refine Qp 21 1000 (none) (Kx [λ u _=>u=(.pointer (some ⟨vb,7,none⟩)),λ u _=>u=(.int .u32 (wI z8.h)),λ u _=>u=(.int .u32 (wI K)),λ u _=>u=(.int .u32 (wI (z8.h+K))),λ u _=>u=(.int .i64 t),λ u _=>u=(.pointer (some ⟨wb,t,none⟩)),λ u _=>u=(.int .u32 (wI X)),λ u _=>u=(.int .u32 (wI (z8.h+K+X))),λ u _=>u=(.func (.func 272) #[] #[]),λ u _=>u=(.int .u32 (wI z8.e)),λ uu w'=>∃c,uu=.slice (some ⟨c,0,none⟩) 3 3/\w'.heap[c]?=some (.cells #[.int .i64 6,.int .i64 11,.int .i64 25] 3 (0,0)),λ u _=>u=(.int .u32 (wI (t1W z8.e))),λ u _=>u=(.int .u32 (wI (z8.h+K+X+t1W z8.e))),λ u _=>u=(.int .u32 (wI z8.g)),λ u _=>u=(.int .u32 (wI z8.e)),λ u _=>u=(.int .u32 (wI z8.f)),λ u _=>u=(.int .u32 (wI z8.g)),λ u _=>u=(.int .u32 (wI (z8.f ^^^ z8.g))),λ u _=>u=(.int .u32 (wI (z8.e &&& (z8.f ^^^ z8.g)))),λ u _=>u=(.int .u32 (wI (z8.g ^^^ (z8.e &&& (z8.f ^^^ z8.g))))),λ u _=>u=(.int .u32 (wI (z8.h+K+X+t1W z8.e+(z8.g ^^^ (z8.e &&& (z8.f ^^^ z8.g))))))]) rfl (by kernel_rfl) (by kernel_rfl) (Q9 ⟨Qd,Qd,Qd,Qd,Qd,Qd,Qd,Qd,Qd,Qd,?m10,Qd,Qd,Qd,Qd,Qd,Qd,Qd,Qd,Qd,Qd,trivial⟩) (Q6 21 ⟨?s0,?s1,?s2,?s3,?s4,?s5,?s6,?s7,?s8,?s9,?s10,?s11,?s12,?s13,?s14,?s15,?s16,?s17,?s18,?s19,?s20,trivial⟩) ?_
       case m10=>exact⟨λ uu w1 w2 h ⟨c,h1,h2⟩=>⟨c,h1,Zo h h2⟩,λ _ uu w1 w2 h ⟨c,h1,h2⟩=>⟨c,h1,Qw h (by simp) h2⟩⟩
       case s0=>refine qV (λ _=>rfl) rfl λ av wv hE hO hD=>?_;simp[go_sem,qF av 10 (.pointer (some ⟨vb,0,none⟩)) (hO.2.2 10 rfl),Q5,Qt,Qz,Zx,bt]
       case s1=>refine qV (λ _=>rfl) rfl λ av wv hE hO hD=>?_;simp[go_sem,qE (hD.1 rfl _ rfl),Qb hE (by simp) x7,Qb hE (by simp) zt,Q5,Qt,Qz,Zx,bt]
       case s2=>refine qV (λ _=>rfl) rfl λ av wv hE hO hD=>?_;simp[go_sem,qF av 12 (.int .u32 (wI K)) (hO.2.2 12 rfl),Q5,Qt,Qz,Zx,bt]
       case s3=>refine qV (λ _=>rfl) rfl λ av wv hE hO hD=>?_;simp[go_sem,qE (hD.1 rfl _ rfl),qE (hD.2.1 rfl _ rfl),Q5,Qt,Qz,Zx,bt]
       case s4=>refine qV (λ _=>rfl) rfl λ av wv hE hO hD=>?_;simp[go_sem,qF av 11 (.int .i64 t) (hO.2.2 11 rfl),Q5,Qt,Qz,Zx,bt]
       case s5=>refine qV (λ _=>rfl) rfl λ av wv hE hO hD=>?_;simp[go_sem,qF av 4 (.pointer (some ⟨wb,0,none⟩)) (hO.2.2 4 rfl),qE (hD.1 rfl _ rfl),Q5,Qt,Qz,Zx,bt]
       case s6=>refine qV (λ _=>rfl) rfl λ av wv hE hO hD=>?_;simp[go_sem,qE (hD.1 rfl _ rfl),Qb hE (by simp) x7,Qb hE (by simp) zt,Q5,Qt,Qz,Zx,bt]
       case s7=>refine qV (λ _=>rfl) rfl λ av wv hE hO hD=>?_;simp[go_sem,qE (hD.1 rfl _ rfl),qE (hD.2.1 rfl _ rfl),Q5,Qt,Qz,Zx,bt]
       case s8=>refine qV (λ _=>rfl) rfl λ av wv hE hO hD=>?_;simp[go_sem,qF av 9 (.func (.func 272) #[] #[]) (hO.2.2 9 rfl),Q5,Qt,Qz,Zx,bt]
       case s9=>refine qV (λ _=>rfl) rfl λ av wv hE hO hD=>?_;simp[go_sem,qF av 16 (.int .u32 (wI z8.e)) (hO.2.2 16 rfl),Q5,Qt,Qz,Zx,bt]
       case s10=>refine Qu (λ av wv hE hS hO hD=>⟨rfl,?_⟩);exact Zn (v:=.slice (some ⟨wv.heap.size,0,none⟩) 3 3) (w':=wv.alloc (.cells #[.int .i64 6,.int .i64 11,.int .i64 25] 3)) (by simp[go_sem]) ⟨_,rfl,Qo (Qf (Zj _) _),wv.heap.size,rfl,heap_alloc_new _ _⟩
       case s11=>refine Qu (λ av wv hE hS hO hD=>⟨rfl,?_⟩);have f114:=qE (hD.1 rfl _ rfl);have f115:=qE (hD.2.1 rfl _ rfl);have d116:(λ uu w'=>∃c,uu=.slice (some ⟨c,0,none⟩) 3 3/\w'.heap[c]?=some (.cells #[.int .i64 6,.int .i64 11,.int .i64 25] 3 (0,0))) (av.eval (.tmp 116)) wv:=hD.2.2.1 rfl _ rfl;obtain⟨c,hc,hcc⟩:=d116;have f116:=(Xd av 116).symm.trans hc;refine Zb (v:=.int .u32 (wI (t1W z8.e))) (by simp[go_sem,f114,f115,f116,len]) ((QkJ z8.e [6,11,25] c 3 wv (by simp[len]) (by intro i hi;match i,hi with | 0,_ | 1,_ | 2,_=>simp[Qp2]) (by intro i hi;rw[Qa hcc];match i,hi with | 0,_ | 1,_ | 2,_=>rfl)).mono (λ e w2 ⟨h1,h2⟩=>⟨by rw[h1,QpM],by rw[h2];exact Below.refl _ _⟩)) (λ w2 hb=>⟨_,rfl,Qo hb,rfl⟩)
       case s12=>refine qV (λ _=>rfl) rfl λ av wv hE hO hD=>?_;simp[go_sem,qE (hD.1 rfl _ rfl),qE (hD.2.1 rfl _ rfl),Q5,Qt,Qz,Zx,bt]
       case s13=>refine qV (λ _=>rfl) rfl λ av wv hE hO hD=>?_;simp[go_sem,qF av 18 (.int .u32 (wI z8.g)) (hO.2.2 18 rfl),Q5,Qt,Qz,Zx,bt]
       case s14=>refine qV (λ _=>rfl) rfl λ av wv hE hO hD=>?_;simp[go_sem,qF av 16 (.int .u32 (wI z8.e)) (hO.2.2 16 rfl),Q5,Qt,Qz,Zx,bt]
       case s15=>refine qV (λ _=>rfl) rfl λ av wv hE hO hD=>?_;simp[go_sem,qF av 17 (.int .u32 (wI z8.f)) (hO.2.2 17 rfl),Q5,Qt,Qz,Zx,bt]
       case s16=>refine qV (λ _=>rfl) rfl λ av wv hE hO hD=>?_;simp[go_sem,qF av 18 (.int .u32 (wI z8.g)) (hO.2.2 18 rfl),Q5,Qt,Qz,Zx,bt]
       case s17=>refine qV (λ _=>rfl) rfl λ av wv hE hO hD=>?_;simp[go_sem,qE (hD.1 rfl _ rfl),qE (hD.2.1 rfl _ rfl),Q5,Qt,Qz,Zx,bt]
       case s18=>refine qV (λ _=>rfl) rfl λ av wv hE hO hD=>?_;simp[go_sem,qE (hD.1 rfl _ rfl),qE (hD.2.1 rfl _ rfl),Q5,Qt,Qz,Zx,bt]
       case s19=>refine qV (λ _=>rfl) rfl λ av wv hE hO hD=>?_;simp[go_sem,qE (hD.1 rfl _ rfl),qE (hD.2.1 rfl _ rfl),Q5,Qt,Qz,Zx,bt]
       case s20=>refine qV (λ _=>rfl) rfl λ av wv hE hO hD=>?_;simp[go_sem,qE (hD.1 rfl _ rfl),qE (hD.2.1 rfl _ rfl),Q5,Qt,Qz,Zx,bt]
       intro a' w' hE hO hall;have hA:=Qn (ds:=[106,107,108,109,110,111,112,113,114,115,116,117,118,119,120,121,122,123,124,125,126]) rfl hO (by kernel_rfl);obtain⟨j0,j1,j2,j3,j4,j5,j6,j7,j8,j9,j10,j11,j12,j13,j14,j15,j16,j17,j18,j19,j20,-⟩:=hall;have e116:(λ uu w'=>∃c,uu=.slice (some ⟨c,0,none⟩) 3 3/\w'.heap[c]?=some (.cells #[.int .i64 6,.int .i64 11,.int .i64 25] 3 (0,0))) (a'.eval (.tmp 116)) w':=j10 _ rfl;obtain⟨v116,hv116⟩:∃v,a'.eval (.tmp 116)=v:=⟨_,rfl⟩;rw[hv116]at e116;simp only[List.foldl_cons,List.foldl_nil,Act.put,List.setIfInBounds_toArray,List.set_cons_succ,List.set_cons_zero,qJ 106 (j0 _ rfl),qJ 107 (j1 _ rfl),qJ 108 (j2 _ rfl),qJ 109 (j3 _ rfl),qJ 110 (j4 _ rfl),qJ 111 (j5 _ rfl),qJ 112 (j6 _ rfl),qJ 113 (j7 _ rfl),qJ 114 (j8 _ rfl),qJ 115 (j9 _ rfl),hv116,qJ 117 (j11 _ rfl),qJ 118 (j12 _ rfl),qJ 119 (j13 _ rfl),qJ 120 (j14 _ rfl),qJ 121 (j15 _ rfl),qJ 122 (j16 _ rfl),qJ 123 (j17 _ rfl),qJ 124 (j18 _ rfl),qJ 125 (j19 _ rfl),qJ 126 (j20 _ rfl)]at hA;clear hO j10 j0 j1 j2 j3 j4 j5 j6 j7 j8 j9 hv116 j11 j12 j13 j14 j15 j16 j17 j18 j19 j20;subst hA;have hX9:=Q0 hE;have HV:=QLh ((hX9.block _ (lt_of_block HV.out)).trans HV.out);have HW:=QLh ((hX9.block _ (lt_of_block HW.out)).trans HW.out);have H:=QLh ((hX9.block _ (lt_of_block H.out)).trans H.out);have HX:=QLh (Q7 _ _ _ _ HX.out (Xq hX9));have HST:Hid (Vt kW ws v (t+1)=QeW z8 K X):=QLh (by rw[Vt,hu,HK.out,hX]);rw[Qt2];clear hE hX9 x7 zt e116 hk bt hu hX;obtain⟨P,hP⟩:∃P,z8.h+K+X+t1W z8.e+chW z8.e z8.f z8.g=P:=⟨_,rfl⟩;rw[hP];have HPX:Hid (xW z8 K X=P):=QLh hP;clear hP;obtain⟨W,hW⟩:∃W,w'=W:=⟨_,rfl⟩;rw[hW]at HV HW HX H ⊢;clear hW;go_wp2_with fail;refine(QkJ z8.a [2,13,22] W.heap.size 3 (W.alloc (.cells #[.int .i64 2,.int .i64 13,.int .i64 22] 3)) (by simp[len]) (by intro i hi;match i,hi with | 0,_ | 1,_ | 2,_=>simp[Qp2]) (by intro i hi;rw[Qa (heap_alloc_new _ _)];match i,hi with | 0,_ | 1,_ | 2,_=>rfl)).mono ?_
       rintro e W3 ⟨rfl,hw3⟩;rw[Qqf];have hX9:Below W.heap.size W W3:=by rw[hw3];exact Qf (Below.refl _ _) _
       have HV:=QLh ((hX9.block _ (lt_of_block HV.out)).trans HV.out);have HW:=QLh ((hX9.block _ (lt_of_block HW.out)).trans HW.out);have H:=QLh ((hX9.block _ (lt_of_block H.out)).trans H.out);have HX:=QLh (Q7 _ _ _ _ HX.out (Xq hX9));clear hX9 hw3;have x0:W3.cell? ⟨vb,0,none⟩=some (.int .u32 (wI z8.a)):=(Qa HV.out 0).trans (Xk (stL z8) 0 (by decide:0<8));have x1:W3.cell? ⟨vb,1,none⟩=some (.int .u32 (wI z8.b)):=(Qa HV.out 1).trans (Xk (stL z8) 1 (by decide:1<8));have x2:W3.cell? ⟨vb,2,none⟩=some (.int .u32 (wI z8.c)):=(Qa HV.out 2).trans (Xk (stL z8) 2 (by decide:2<8));have x3:W3.cell? ⟨vb,3,none⟩=some (.int .u32 (wI z8.d)):=(Qa HV.out 3).trans (Xk (stL z8) 3 (by decide:3<8));have x4:W3.cell? ⟨vb,4,none⟩=some (.int .u32 (wI z8.e)):=(Qa HV.out 4).trans (Xk (stL z8) 4 (by decide:4<8));have x5:W3.cell? ⟨vb,5,none⟩=some (.int .u32 (wI z8.f)):=(Qa HV.out 5).trans (Xk (stL z8) 5 (by decide:5<8));have x6:W3.cell? ⟨vb,6,none⟩=some (.int .u32 (wI z8.g)):=(Qa HV.out 6).trans (Xk (stL z8) 6 (by decide:6<8));have x7:W3.cell? ⟨vb,7,none⟩=some (.int .u32 (wI z8.h)):=(Qa HV.out 7).trans (Xk (stL z8) 7 (by decide:7<8));have xf:∀o,W3.frozen? ⟨vb,o,none⟩=false:=Qk HV.out;have xl:vb<W3.heap.size:=lt_of_block HV.out;go_upto_region 20 with fail;rw[Qse];have HPY:Hid (yW z8=t0W z8.a+QrP z8.a z8.b z8.c):=QLh rfl;go_upto_region 21 with fail;obtain⟨U,hU⟩:∃U,(((((((W3.setCell ⟨vb,0,none⟩ (.int .u32 (wI (P+(t0W z8.a+QrP z8.a z8.b z8.c))))).setCell ⟨vb,1,none⟩ (.int .u32 (wI z8.a))).setCell ⟨vb,2,none⟩ (.int .u32 (wI z8.b))).setCell ⟨vb,3,none⟩ (.int .u32 (wI z8.c))).setCell ⟨vb,4,none⟩ (.int .u32 (wI (z8.d+P)))).setCell ⟨vb,5,none⟩ (.int .u32 (wI z8.e))).setCell ⟨vb,6,none⟩ (.int .u32 (wI z8.f))).setCell ⟨vb,7,none⟩ (.int .u32 (wI z8.g))=U:=⟨_,rfl⟩;rw[hU];have hwv:w.heap.size<=vb:=by have:=HVB.out;omega
       have HV2:Hid (U.heap[vb]?=some (.cells (wsC (stL (QeW z8 K X))) 246 (0,0))):=QLh (by
        rw[<-hU];have h9:=Qc (Qc (Qc (Qc (Qc (Qc (Qc (Qc HV.out (o:=0) (wV (P+(t0W z8.a+QrP z8.a z8.b z8.c)))) (o:=1) (wV z8.a)) (o:=2) (wV z8.b)) (o:=3) (wV z8.c)) (o:=4) (wV (z8.d+P))) (o:=5) (wV z8.e)) (o:=6) (wV z8.f)) (o:=7) (wV z8.g);simp only[Qe6]at h9;have e9:stL (QeW z8 K X)=[P+(t0W z8.a+QrP z8.a z8.b z8.c),z8.a,z8.b,z8.c,z8.d+P,z8.e,z8.f,z8.g]:=by unfold QeW stL yW;rw[HPX.out]
        rw[e9];exact h9)
       have hne1:wb≠vb:=by have:=HVB.out;omega
       have hne2:hb≠vb:=by have:=HVB.out;omega
       have HW2:Hid (U.heap[wb]?=some (.cells (wsC ws) 294 (0,0))):=QLh (by rw[<-hU];exact Qh (Qh (Qh (Qh (Qh (Qh (Qh (Qh HW.out hne1 _) hne1 _) hne1 _) hne1 _) hne1 _) hne1 _) hne1 _) hne1 _);have H2:Hid (U.heap[hb]?=some (.cells (Ua v r n) 250 (0,0))):=QLh (by rw[<-hU];exact Qh (Qh (Qh (Qh (Qh (Qh (Qh (Qh H.out hne2 _) hne2 _) hne2 _) hne2 _) hne2 _) hne2 _) hne2 _) hne2 _);have HX2:Hid (Xe (some hb) w U):=QLh (by rw[<-hU];exact Jf (Jf (Jf (Jf (Jf (Jf (Jf (Jf HX.out hwv _ _) hwv _ _) hwv _ _) hwv _ _) hwv _ _) hwv _ _) hwv _ _) hwv _ _);clear hU x0 x1 x2 x3 x4 x5 x6 x7 xf xl hne1 hne2;go_wp2
       go_roundg (64 - (t+1))
       case rel=>exact⟨t+1,by omega,by go_num,QLh (by rw[HST.out];exact HV2.out),HW2.out,HX2.out,H2.out⟩
       case measure=>omega
      ·obtain rfl:t=64:=by omega
       have i3:¬((64:Nat):Int)<64:=by decide
       go_upto_region 22 with fail;have HPR:Hid (Vu v r=QbJ v (Vt kW ws v 64)):=QLh (by unfold Vu;rw[HWS.out]);obtain⟨z8,hz8⟩:∃u,Vt kW ws v 64=u:=⟨_,rfl⟩;rw[hz8]at HV HPR;clear hz8 ht;go_wp2
       go_loopg [158,21] 8 (λ g i _ wr=>∃t:Nat,g+t=8/\i=.int .i64 (t:Nat)/\Hid (wr.heap[vb]?=some (.cells (wsC (stL z8)) 246 (0,0)))/\Hid (Xe (some hb) w wr)/\Hid (wr.heap[hb]?=some (.cells (Ql8 (Qrs v z8 t) r n) 250 (0,0))))
       case atStart=>exact⟨0,rfl,rfl,HV.out,HX.out,H.out⟩
       case round=>
        clear HV HW HX H;obtain⟨i,hi,rfl,HV,HX,H⟩:=hrel
        by_cases hlt:i<8
        ·have i4:((i:Nat):Int)<8:=by omega
         have bi:¬(8:Int)<=(i:Int):=by omega
         obtain⟨W,hW⟩:∃W,wr=W:=⟨_,rfl⟩;rw[hW]at HV HX H ⊢;clear hW;go_upto_region 25 with fail;obtain⟨A,hA⟩:∃A,wth (stL v) i=A:=⟨_,rfl⟩;obtain⟨B,hB⟩:∃B,wth (stL z8) i=B:=⟨_,rfl⟩;have hnx:=QnZ v z8 i hlt;rw[hA,hB]at hnx;have a0:W.cell? ⟨hb,i,none⟩=some (.int .u32 (wI A)):=by rw[Qa H.out,Qll _ _ _ _ (by rw[Qkx];exact hlt),hnx.1]
         have b0:W.cell? ⟨vb,i,none⟩=some (.int .u32 (wI B)):=by rw[Qa HV.out,Xk _ _ (show i<8 from hlt),hB]
         have HNX:=QLh hnx.2;clear hA hB hnx;refine V6 11 rfl (by kernel_rfl) λ w' hE=>?_;have a0:=Qb hE (by simp) a0;have b0:=Qb hE (by simp) b0;have y1:=@Q5;have y2:=@Qt;simp only[List.take_succ_cons,List.take_zero,List.drop_succ_cons,List.drop_zero]
         repeat go_big_quiet_step (fail)
         refine wpQuiet_nil ?_;clear y1 y2;have hX9:=Q0 hE;have HV:=QLh ((hX9.block _ (lt_of_block HV.out)).trans HV.out);have hH:=(hX9.block _ (lt_of_block H.out)).trans H.out;have HH:=QLh hH;have HX:=QLh (Q7 _ _ _ _ HX.out (Xq hX9));have af:w'.frozen? ⟨hb,i,none⟩=false:=Qk hH i;have al:hb<w'.heap.size:=lt_of_block hH;clear hE hX9 hH b0 bi;go_wp2
         go_roundg (8 - (i+1))
         case rel=>exact⟨i+1,by omega,by go_num,Qh HV.out (show vb≠hb by have:=HVB.out;omega) _,QLh (QfV HX.out _ _),QLh (by have h9:=Qc HH.out (o:=i) (wV (A+B));rw[QnV _ _ _ _ _ (by rw[Qkx];exact hlt),HNX.out]at h9;exact h9)⟩
         case measure=>omega
        ·obtain rfl:i=8:=by omega
         have i4:¬((8:Nat):Int)<8:=by decide
         have e8:Qrs v z8 8=stL (QbJ v z8):=by unfold Qrs;rfl
         go_wp2
         go_end0
         refine⟨rfl,HX.out,?_⟩;rw[HPR.out];have:=H.out;rw[e8]at this;exact this
end
def byV(b:UInt8):Value:=.int .u8 (b.toNat:Int)
theorem Qh3{P:Program}(w:World)(dT sT ty elem:TypeId)(g o dLen dCap:Nat)(s:ByteArray)(cur:Array Value)(t:TypeId)
  (hu:P.underlying dT=some (.slice elem)) (hs:(P.info? elem).map (·.size)=some 1) (hg:w.heap[g]?=some (.cells cur t (0,0))) (hfit:o+Nat.min s.size dLen<=cur.size):
  (Builtin.copy_ #[dT,sT] ty #[.slice (some ⟨g,o,none⟩) dLen dCap,.string s]).run P w=
   .ok (goInt (Nat.min s.size dLen)) (w.setRow g (cur.toList.take o++(s.data.toList.take (Nat.min s.size dLen)).map byV++cur.toList.drop (o+Nat.min s.size dLen)).toArray):=by
 have hn:((s.data.toList.take (Nat.min s.size dLen)).map byV).length=Nat.min s.size dLen:=by
  rw[List.length_map,List.length_take];have:s.data.toList.length=s.size:=by rw[Array.length_toList];rfl
  rw[this];exact Nat.min_eq_left (Nat.min_le_left _ _)
 have hst:=run_storeCells_at P g o t ((s.data.toList.take (Nat.min s.size dLen)).map byV) 0 cur w hg (by rw[hn];simpa using hfit) (by
  intro v hv;obtain⟨b,_,rfl⟩:=List.mem_map.1 hv;rfl)
 rw[hn]at hst
 cases hq:P.info? elem with
 | none=>simp[hq]at hs
 | some i=>
  have hi:i.size=1:=by simpa [hq] using hs
  simp only[Nat.add_zero]at hst;simp[Builtin.copy_,run_underlying hu,Builtin.lenOf,Builtin.firstCells,sizeOf,typeInfo,hq,hi];have e9:List.take (s.size.min dLen) (List.map (λ b:UInt8=>Value.int IntKind.u8 (b.toNat:Int)) s.data.toList)=(s.data.toList.take (s.size.min dLen)).map byV:=by rw[<-List.map_take];rfl
  rw[e9,hst];simp
theorem QeU{P:Program}{w:World}{ops:Array Oper}{rest:List Oper}{o:Oper}{a:Act}{Q:Exit->Act->World->Prop}(hgd:o.guard=none)(d s:Operand)(dT sT:TypeId)
  (ho:o.op=.call { callee:=.builtin .copy,args:=#[d,s],argTypes:=#[dT,sT] }) (elem:TypeId) (hu:P.underlying dT=some (.slice elem)) (hsz:(P.info? elem).map (·.size)=some 1)
  (g off dLen dCap:Nat) (x:ByteArray) (hd:a.eval d=.slice (some ⟨g,off,none⟩) dLen dCap) (hs:a.eval s=.string x)
  (cur:Array Value) (t:TypeId) (hg:w.heap[g]?=some (.cells cur t (0,0))) (k:Nat) (hk:Nat.min x.size dLen=k) (hfit:off+k<=cur.size)
  (h:wpList P ops Q rest (a.put o.dst (goInt k)) (w.setRow g (cur.toList.take off++(x.data.toList.take k).map byV++cur.toList.drop (off+k)).toArray)):wpList P ops Q (o :: rest) a w:=by
 refine wpList_plain hgd λ K hK=>?_;subst hk;have hrun:=Qh3 (P:=P) w dT sT o.type elem g off dLen dCap x cur t hu hsz hg hfit;unfold Oper.wp;simp[execOp,ho,resolve,invoke,builtin,hd,hs,hrun,Result.andThen];exact hK _ _ (by simpa using h)
theorem Vs{P:Program}{o:Oper}{a:Act}{w:World}{f:FuncId}{args:Array Value}{R:Value->World->Prop}{K:Act->World->Prop}{Q:Exit->Act->World->Prop}(h:(execOp a.eval o).run P w=.ok (.enter f args) w)
  (hc:Calls P f args w (λ e w'=>∃v,e=.returned v/\R v w')) (hK:∀v w',R v w'->K (a.put o.dst v) w'):o.wp P a w K Q:=by
 unfold Oper.wp;rw[h];exact hc.mono λ e w' ⟨v,he,hR⟩=>by subst he;exact hK v w' hR
theorem Qts(b:UInt8):byV b=bV b:=by unfold byV;rw[<-Que]
theorem Qh0(v:St8)(r:List UInt8)(n:Int)(h:r.length=64):(Ua v r n)[72]?=some (.int .u64 n):=by unfold Ua;rw[List.getElem?_toArray,List.getElem?_append_right (by simp[stL,h])];simp[stL,h]
theorem Qpb(v:St8)(r:List UInt8)(n m:Int)(h:r.length=64):(Ua v r n).setIfInBounds 72 (.int .u64 m)=Ua v r m:=by
 unfold Ua;rw[List.setIfInBounds_toArray]
 congr 1
 rw[List.set_append_right _ _ (by simp[stL,h])];simp[stL,h]
theorem Qhu(v:St8)(r:List UInt8)(n:Int)(h:r.length=64):(Ua v r n).size=73:=by unfold Ua;simp[stL,h]
theorem Qm7(v:St8)(r:List UInt8)(n:Int)(p k:Nat)(K:List UInt8)(hK:K.length=k)(hp:p+k<=64)(h:r.length=64):
  ((Ua v r n).toList.take (8+p)++K.map byV++(Ua v r n).toList.drop (8+p+k)).toArray=Ua v (QkK r p K) n:=by
 have hw:((stL v).map wV).length=8:=rfl;have e:(Ua v r n).toList=(stL v).map wV++(r.map bV++[Value.int .u64 n]):=by unfold Ua;simp
 have e1:(Ua v r n).toList.take (8+p)=(stL v).map wV++(r.take p).map bV:=by rw[e,List.take_append,hw,List.take_of_length_le (by rw[hw];omega),show 8+p - 8=p by omega,List.take_append_of_le_length (by rw[List.length_map];omega),List.map_take]
 have e2:(Ua v r n).toList.drop (8+p+k)=(r.drop (p+k)).map bV++[Value.int .u64 n]:=by rw[e,List.drop_append,hw,List.drop_eq_nil_of_le (by rw[hw];omega),List.nil_append,show 8+p+k - 8=p+k by omega,List.drop_append_of_le_length (by rw[List.length_map];omega),List.map_drop]
 have e3:K.map byV=K.map bV:=List.map_congr_left λ b _=>Qts b;rw[e1,e2,e3];unfold Ua QkK;rw[hK];simp only[List.map_append,List.append_assoc]
def Kz(b:Nat)(L:List UInt8)(w:World):Prop:=∃v r,Kh v r L/\w.heap[b]?=some (.cells (Ua v r (len L:Nat)) 250 (0,0))
theorem Kz.keep{b:Nat}{L:List UInt8}{w w':World}(h:Kz b L w)(hb:Below w.heap.size w w'):Kz b L w':=by obtain⟨v,r,h1,h2⟩:=h;exact⟨v,r,h1,(hb.block _ (lt_of_block h2)).trans h2⟩
theorem Kz.lt{b:Nat}{L:List UInt8}{w:World}(h:Kz b L w):b<w.heap.size:=by obtain⟨v,r,h1,h2⟩:=h;exact lt_of_block h2
theorem QoQ(w:World)(g:Nat)(cs:Array Value):Xe (some g) w (w.setRow g cs):=
 ⟨rfl,rfl,rfl,by simp[World.setRow],λ k hk hn=>setRow_other w g k cs (λ e=>hn (by rw[e]))⟩
theorem Qe3{w:World}{ops:Array Oper}{rest:List Oper}{o:Oper}{a:Act}{Q:Exit->Act->World->Prop}(hgd:o.guard=none)(d s:Operand)
  (ho:o.op=.call { callee:=.builtin .copy,args:=#[d,s],argTypes:=#[41,9] }) (hb p dCap:Nat) (X:ByteArray) (v:St8) (r:List UInt8) (n:Int) (hd:a.eval d=.slice (some ⟨hb,8+p,none⟩) (64 - p) dCap) (hs:a.eval s=.string X)
  (hg:w.heap[hb]?=some (.cells (Ua v r n) 250 (0,0))) (hr:r.length=64) (hp:p<64) (k:Nat) (hk:min X.size (64 - p)=k)
  (h:∀U:World,Hid (U.heap[hb]?=some (.cells (Ua v (QkK r p (X.data.toList.take k)) n) 250 (0,0)))->Hid (Xe (some hb) w U)->U.cell? ⟨hb,72,none⟩=some (.int .u64 n)->U.frozen? ⟨hb,72,none⟩=false->hb<U.heap.size->wpList Tryz.prog ops Q rest (a.put o.dst (.int .i64 (k:Nat))) U):wpList Tryz.prog ops Q (o :: rest) a w:=by
 have hkl:(X.data.toList.take k).length=k:=by rw[List.length_take,Array.length_toList];have:X.data.size=X.size:=rfl;rw[this];omega
 have hkp:p+k<=64:=by omega
 refine QeU hgd d s 41 9 ho 5 Tryz.underlying41 (by kernel_rfl) hb (8+p) (64 - p) dCap X hd hs (Ua v r n) _ hg k hk (by rw[Qhu _ _ _ hr];omega) ?_;rw[Qm7 v r n p k _ hkl hkp hr];have hb2:(w.setRow hb (Ua v (QkK r p (X.data.toList.take k)) n)).heap[hb]?=some (.cells (Ua v (QkK r p (X.data.toList.take k)) n) 250 (0,0)):=setRow_heap w hb _ _ _ _ hg;exact h _ (QLh hb2) (QLh (QoQ _ _ _)) (by rw[Qa hb2,Qh0 _ _ _ (by rw[QdX _ _ _ (by rw[hkl,hr];exact hkp)];exact hr)]) (Qk hb2 72) (lt_of_block hb2)
theorem Kz.intro{b:Nat}{L:List UInt8}{w:World}{v:St8}{r:List UInt8}(h:Kh v r L){n:Int}(hn:n=(len L:Nat))(hc:w.heap[b]?=some (.cells (Ua v r n) 250 (0,0))):Kz b L w:=⟨v,r,h,by rw[<-hn];exact hc⟩
theorem Qcz(hb:Nat)(L:List UInt8)(s:ByteArray)(w:World)(h:Kz hb L w)(hl:len L+s.size<=4611686018427387904):
  Calls Tryz.prog 159 #[.pointer (some ⟨hb,0,none⟩),.string s] w λ e w'=>e=.returned (.tuple #[])/\Xe (some hb) w w'/\Kz hb (L++s.data.toList) w':=by
 have H:=QLh h;have HL:=QLh hl;clear h hl
 go_enter Tryz.func159,Tryz.ntmps159
 go_wp2
 go_loopg [1,4,5] s.size (λ g x _ _ wr=>∃(X:ByteArray) (D:List UInt8),x=.string X/\X.size=g/\Hid (s.data.toList=D++X.data.toList)/\Hid (Kz hb (L++D) wr)/\Hid (Xe (some hb) w wr))
 case atStart=>exact⟨s,[],rfl,rfl,QLh rfl,QLh (by rw[List.append_nil];exact H.out),QLh (Y4 _ _)⟩
 case round=>
  obtain⟨X,D,rfl,hX,HS,HH,HE⟩:=hrel
  by_cases hx:X.size=0
  ·have i1:¬(0:Int)<(X.size:Int):=by omega
   have HD:Hid (s.data.toList=D):=QLh (by rw[HS.out,show X.data.toList=[]from List.eq_nil_of_length_eq_zero (by rw[Array.length_toList];exact hx),List.append_nil]);clear hX hx;go_wp2
   go_end0
   exact⟨rfl,HE.out,by rw[HD.out];exact HH.out⟩
  ·have i1:(0:Int)<(X.size:Int):=by omega
   obtain⟨v,r,hT,hc⟩:=HH.out;have HT:=QLh hT;obtain⟨n,hn⟩:∃n,len (L++D)=n:=⟨_,rfl⟩;have HN:=QLh hn;rw[hn]at hc;have HNB:Hid (n+X.size<=4611686018427387904):=QLh (by
    have h1:=HL.out;have h2:s.size=D.length+X.size:=by have:=congrArg List.length HS.out;rw[List.length_append,Array.length_toList,Array.length_toList]at this;exact this
    rw[<-hn,Qy,List.length_append];rw[Qy]at h1;omega)
   have HX0:=QLh hx;have HXG:=QLh hX;obtain⟨W,hW⟩:∃W,wr=W:=⟨_,rfl⟩;rw[hW]at hc HH HE ⊢;have HC:=QLh hc;have c72:W.cell? ⟨hb,72,none⟩=some (.int .u64 n):=by rw[Qa hc,Qh0 _ _ _ hT.rest]
   clear hW hn hX hc hx hT;go_upto_region 3 with fail;obtain⟨p,hp⟩:∃p:Nat,n % 64=p:=⟨_,rfl⟩;have hp6:p<64:=by omega
   rw[show((n:Int) % 64)=((p:Nat):Int)by omega];obtain⟨k,hk⟩:∃k:Nat,min X.size (64 - p)=k:=⟨_,rfl⟩;have HP:=QLh hp;have HK:=QLh hk;have p1:¬(64:Int)<=(p:Int):=by omega
   have p2:¬(64:Int)<(p:Int):=by omega
   have p3:¬64=p:=by omega
   have k1:¬(X.size:Int)<(k:Int):=by omega
   clear hp hk c72
   go_upto_region 4 with(refine Qe3 (o:=⟨some 22,_,_,_,_,_⟩) ?_ (.tmp 20) (.tmp 21) ?_ hb p (64 - p) X v r n ?_ ?_ HC.out HT.out.rest hp6 k HK.out ?_;rfl;rfl;rotate_left 2;intro U HU HEU cU fU lU)
   rotate_left 1
   ·rfl
   ·rfl
   have hnb:=HNB.out;have hx0:=HX0.out;have hkk:=HK.out;have wk:IntKind.u64.wrap (k:Int)=(k:Int):=IntWalk.u64_in _ (by omega);have wn:IntKind.u64.wrap ((n:Int)+(k:Int))=(n:Int)+(k:Int):=IntWalk.u64_in _ (by omega);clear hnb hx0 hkk;go_upto_region 6 with fail;obtain⟨m,hm⟩:∃m:Nat,n+k=m:=⟨_,rfl⟩;rw[show(n:Int)+(k:Int)=((m:Nat):Int)by omega];obtain⟨V,hV⟩:∃V,U.setCell ⟨hb,72,none⟩ (.int .u64 (m:Nat))=V:=⟨_,rfl⟩;rw[hV];obtain⟨r2,hr2⟩:∃r2,QkK r p (X.data.toList.take k)=r2:=⟨_,rfl⟩;rw[hr2]at HU;have hkl:(X.data.toList.take k).length=k:=by rw[List.length_take,Array.length_toList];have h1:X.data.size=X.size:=rfl;have h2:=HK.out;rw[h1];omega
   have hr2l:r2.length=64:=by rw[<-hr2,QdX _ _ _ (by have:=HT.out.rest;have:=HK.out;omega)];exact HT.out.rest
   have HVB:Hid (V.heap[hb]?=some (.cells (Ua v r2 (m:Nat)) 250 (0,0))):=QLh (by
    rw[<-hV];have:=Qc HU.out (o:=72) (.int .u64 (m:Nat));rw[Qpb _ _ _ _ hr2l]at this;exact this)
   have HVE:Hid (Xe (some hb) w V):=QLh (by rw[<-hV];exact QfV (Q7 _ _ _ _ HE.out HEU.out) _ _);have c72:V.cell? ⟨hb,72,none⟩=some (.int .u64 (m:Nat)):=by rw[Qa HVB.out,Qh0 _ _ _ hr2l]
   have lV:hb<V.heap.size:=lt_of_block HVB.out;have HKL:=QLh hkl;have HM:=QLh hm;have HR2:=QLh hr2;have HRL:=QLh hr2l;have hk0:0<k:=by have:=HX0.out;have:=HK.out;omega
   have HK0:=QLh hk0;have HD2:Hid (len (L++(D++X.data.toList.take k))=m/\s.data.toList=(D++X.data.toList.take k)++(X.extract k X.size).data.toList/\(X.extract k X.size).size=X.size - k):=QLh (by
    have hkx:k<=X.size:=by have:=HK.out;omega
    refine⟨?_,?_,by rw[ByteArray.size_extract];omega⟩
    ·rw[Qy,<-List.append_assoc,List.length_append,hkl]
     have:=HN.out;rw[Qy]at this;omega
    ·rw[HS.out,Lib.extract_data,List.append_assoc]
     congr 1
     have h9:(X.data.toList.drop k).take (X.size - k)=X.data.toList.drop k:=List.take_of_length_le (by rw[List.length_drop,Array.length_toList];exact Nat.le_refl _);rw[h9,List.take_append_drop])
   clear wk wn hV hr2 hkl hr2l hm cU fU lU k1 p1 p2 p3 hk0
   by_cases hq:m % 64=0
   ·have q1:((m:Nat):Int) % 64=0:=by omega
    have HQ:=QLh hq;clear hq;go_upto_region 7 with fail;have HIN:=QLh (fun (wv:World) (hb9:Below V.heap.size V wv)=>Qtr hb v r2 (m:Nat) wv HRL.out ((hb9.block _ lV).trans HVB.out));refine Zp 7 (some hb) (Kx [λ u _=>u=(.pointer (some ⟨hb,0,none⟩)),λ u _=>u=(.pointer (some ⟨hb,0,none⟩)),λ u _=>u=(.pointer (some ⟨hb,0,none⟩)),λ u _=>u=(.pointer (some ⟨hb,0,none⟩)),λ u _=>u=(.pointer (some ⟨hb,0,none⟩)),λ u _=>u=(.pointer (some ⟨hb,8,none⟩)),λ u _=>u=(.slice (some ⟨hb,8,none⟩) 64 64),λ u w'=>u=.tuple #[]/\w'.heap[hb]?=some (.cells (Ua (Vu v r2) r2 (m:Nat)) 250 (0,0))]) rfl (by kernel_rfl) (Q9 ⟨Qd,Qd,Qd,Qd,Qd,Qd,Qd,?m7,trivial⟩) (Q6 8 ⟨?s0,?s1,?s2,?s3,?s4,?s5,?s6,?s7,trivial⟩) ?_
    case m7=>exact⟨λ u w1 w2 h ⟨h1,h2⟩=>⟨h1,(h.block _ (lt_of_block h2)).trans h2⟩,λ hn=>absurd rfl hn⟩
    case s0=>refine qV (λ _=>rfl) rfl λ av wv hE hO hD=>?_;simp[go_sem,qF av 0 (.pointer (some ⟨hb,0,none⟩)) (hO.2.2 0 rfl)]
    case s1=>refine qV (λ _=>rfl) rfl λ av wv hE hO hD=>?_;simp[go_sem,qE (hD.1 rfl _ rfl)]
    case s2=>refine qV (λ _=>rfl) rfl λ av wv hE hO hD=>?_;simp[go_sem,qE (hD.1 rfl _ rfl)]
    case s3=>refine qV (λ _=>rfl) rfl λ av wv hE hO hD=>?_;simp[go_sem,qF av 0 (.pointer (some ⟨hb,0,none⟩)) (hO.2.2 0 rfl)]
    case s4=>refine qV (λ _=>rfl) rfl λ av wv hE hO hD=>?_;simp[go_sem,qE (hD.1 rfl _ rfl)]
    case s5=>refine qV (λ _=>rfl) rfl λ av wv hE hO hD=>?_;simp[go_sem,qE (hD.1 rfl _ rfl)]
    case s6=>refine qV (λ _=>rfl) rfl λ av wv hE hO hD=>?_;simp[go_sem,qE (hD.1 rfl _ rfl)]
    case s7=>refine Qu (λ av wv hE hS hO hD=>⟨rfl,?_⟩);have f43:=qE (hD.1 rfl _ rfl);have f47:=qE (hD.2.1 rfl _ rfl);refine Vs (R:=λ u w2=>u=.tuple #[]/\Xe (some hb) wv w2/\w2.heap[hb]?=some (.cells (Ua (Vu v r2) r2 (m:Nat)) 250 (0,0))) (f:=220) (args:=#[.pointer (some ⟨hb,0,none⟩),.slice (some ⟨hb,8,none⟩) 64 64]) (by simp[go_sem,f43,f47]) ((HIN.out wv (Qj (Zy (Below.refl _ _)) (hS rfl))).mono (λ e w2 ⟨h1,h2,h3⟩=>⟨_,h1,rfl,h2,h3⟩)) (λ u w2 ⟨h1,h2,h3⟩=>⟨_,rfl,QcH h2,h1,h3⟩)
    intro a' w' hE hO hall;have hA:=Qn (ds:=[41,42,43,44,45,46,47,48]) rfl hO (by kernel_rfl);obtain⟨j0,j1,j2,j3,j4,j5,j6,j7,-⟩:=hall;have e48:(λ u w'=>u=.tuple #[]/\w'.heap[hb]?=some (.cells (Ua (Vu v r2) r2 (m:Nat)) 250 (0,0))) (a'.eval (.tmp 48)) w':=j7 _ rfl;obtain⟨v48,hv48⟩:∃v,a'.eval (.tmp 48)=v:=⟨_,rfl⟩;rw[hv48]at e48;simp only[List.foldl_cons,List.foldl_nil,Act.put,List.setIfInBounds_toArray,List.set_cons_succ,List.set_cons_zero,qJ 41 (j0 _ rfl),qJ 42 (j1 _ rfl),qJ 43 (j2 _ rfl),qJ 44 (j3 _ rfl),qJ 45 (j4 _ rfl),qJ 46 (j5 _ rfl),qJ 47 (j6 _ rfl),hv48]at hA;clear hO j7 j0 j1 j2 j3 j4 j5 j6 hv48;subst hA;obtain⟨_,h48⟩:=e48;have HB9:=QLh h48;have HE9:Hid (Xe (some hb) w w'):=QLh (Q7 _ _ _ _ HVE.out (Q7 _ _ _ _ (Xq (Zy (Below.refl _ _))) hE));have HT2:Hid (Kh (Vu v r2) r2 (L++(D++X.data.toList.take k))):=QLh (by
     have hn:=HN.out;have hp:=HP.out;rw[Qy]at hn;have h1:=HT.out.full (k:=X.data.toList.take k) (by rw[hn,hp,HKL.out];have:=HK.out;omega) (by rw[HKL.out];exact HK0.out) (by rw[hn,HKL.out,HM.out];exact HQ.out);rw[hn,hp,HR2.out,List.append_assoc]at h1;exact h1)
    clear h48 hE;go_wp2
    go_roundg (X.size - k)
    case rel=>exact⟨X.extract k X.size,D++X.data.toList.take k,rfl,HD2.out.2.2,QLh HD2.out.2.1,QLh (Kz.intro HT2.out (by rw[HD2.out.1]) HB9.out),HE9⟩
    case measure=>have:=HX0.out;have:=HK0.out;have:=HXG.out;omega
   ·have q1:¬((m:Nat):Int) % 64=0:=by omega
    have HQ:=QLh hq;have HT2:Hid (Kh v r2 (L++(D++X.data.toList.take k))):=QLh (by
     have hn:=HN.out;have hp:=HP.out;rw[Qy]at hn;have h1:=HT.out.more (k:=X.data.toList.take k) (by rw[hn,hp,HKL.out];have:=HK.out;omega) (by rw[HKL.out];exact HK0.out) (by rw[hn,HKL.out,HM.out];exact HQ.out);rw[hn,hp,HR2.out,List.append_assoc]at h1;exact h1)
    clear hq;go_wp2
    go_roundg (X.size - k)
    case rel=>exact⟨X.extract k X.size,D++X.data.toList.take k,rfl,HD2.out.2.2,QLh HD2.out.2.1,QLh (Kz.intro HT2.out (by rw[HD2.out.1]) HVB.out),HVE⟩
    case measure=>have:=HX0.out;have:=HK0.out;have:=HXG.out;omega
theorem Qqy(L:List UInt8):strOfNums (L.map λ b=>(b.toNat:Int))=⟨L.toArray⟩:=by
 have h:(strOfNums (L.map λ b=>(b.toNat:Int))).data.toList=L:=by
  rw[strOfNums_data,List.map_map]
  conv=>rhs;rw[<-List.map_id L]
  refine List.map_congr_left λ x _=>?_;simp
 exact ByteArray.ext (Array.ext' (by rw[h]))
theorem Um(w:World)(g off cap n:Nat)(L:List UInt8)(hn:L.length=n)(hc:∀i,i<n->w.cell? ⟨g,off+i,none⟩=some (byV (L.getD i 0))):
  (convert 41 9 (.slice (some ⟨g,off,none⟩) n cap)).run Tryz.prog w=.ok (.string ⟨L.toArray⟩) w:=by
 have h:=run_convert_bytes_arg (P:=Tryz.prog) (w:=w) 41 5 Tryz.underlying41 Tryz.underlying5 g off n cap (L.map λ b=>(b.toNat:Int)) (by rw[List.length_map,hn]) (λ i hi=>by
  rw[hc i hi];have hi2:i<L.length:=by omega
  unfold byV;rw[List.getD_eq_getElem?_getD,List.getElem?_eq_getElem hi2,List.getD_eq_getElem?_getD,List.getElem?_map,List.getElem?_eq_getElem hi2];rfl) 9 Tryz.underlying9
 rw[Qqy]at h;exact h
theorem QdM(w:World)(t:TypeId)(cap n:Nat)(L:List UInt8)(hn:L.length=n):(convert 41 9 (.slice (some ⟨w.heap.size,0,none⟩) n cap)).run Tryz.prog (w.alloc (.cells (L.map byV).toArray t))=.ok (.string ⟨L.toArray⟩) (w.alloc (.cells (L.map byV).toArray t)):=by
 refine Um _ _ _ _ _ L hn λ i hi=>?_;have hb:(w.alloc (.cells (L.map byV).toArray t)).heap[w.heap.size]?=some (.cells (L.map byV).toArray t (0,0)):=Qg _ rfl;have hi2:i<L.length:=by omega
 rw[Qa hb,Nat.zero_add,List.getElem?_toArray,List.getElem?_map,List.getElem?_eq_getElem hi2,List.getD_eq_getElem?_getD,List.getElem?_eq_getElem hi2];rfl
theorem Qk8{w:World}{base n:Nat}{v:Value}{L:List UInt8}(h:w.ownsRow base 5 1 v n (L.map byV))(hn:L.length=n)(h0:0<n):(convert 41 9 v).run Tryz.prog w=.ok (.string ⟨L.toArray⟩) w:=by
 rcases h.2 with⟨rfl,h1⟩ | ⟨g,cap,cur,rfl,_,_,_,_,_,_⟩
 ·omega
 ·refine Um _ _ _ _ _ L hn λ i hi=>?_
  have h2:=h.cellAt i (by omega);have hi2:i<L.length:=by omega
  rw[Nat.zero_add,h2,List.getElem?_map,List.getElem?_eq_getElem hi2,List.getD_eq_getElem?_getD,List.getElem?_eq_getElem hi2];rfl
def Qu0(K:List UInt8)(k m:Nat):List UInt8:=K.take m++List.replicate (k - m) 0
def QeY(K:List UInt8)(k m:Nat):Array Value:=((Qu0 K k m).map byV).toArray
theorem Qje(K:List UInt8)(k m:Nat)(h:m<k)(hk:K.length=k):(QeY K k m)[m]?=some (byV 0):=by unfold QeY Qu0;rw[List.getElem?_toArray,List.getElem?_map,List.getElem?_append_right (by rw[List.length_take];omega),List.length_take,show m - min m K.length=0 by omega];rw[show k - m=(k - m - 1)+1 by omega,List.replicate_succ];rfl
theorem Qhb(K:List UInt8)(k m:Nat)(h:m<k)(hk:K.length=k):(QeY K k m).setIfInBounds m (byV (K.getD m 0))=QeY K k (m+1):=by
 unfold QeY Qu0;rw[List.setIfInBounds_toArray,<-List.map_set]
 congr 2
 rw[List.set_append_right _ _ (by rw[List.length_take];omega),List.length_take,show m - min m K.length=0 by omega];rw[show k - m=(k - (m+1))+1 by omega,List.replicate_succ,List.set_cons_zero,List.take_succ_eq_append_getElem (by omega),List.append_assoc]
 congr 1
 rw[List.getD_eq_getElem?_getD,List.getElem?_eq_getElem (by omega)];rfl
theorem Qgx(K:List UInt8)(k:Nat)(hk:K.length=k):QeY K k k=(K.map byV).toArray:=by unfold QeY Qu0;rw[Nat.sub_self,List.replicate_zero,List.append_nil,<-hk,List.take_length]
theorem Qe8(N m:Nat)(h:m<8):Value.int .u8 ((N:Int) / 2 ^ (8 * (7 - m)) % 256)=byV ((Ve N).getD m 0):=by
 have h1:(Ve N).getD m 0=UInt8.ofNat (N / 256 ^ (7 - m)):=by rw[List.getD_eq_getElem?_getD,Qkj N m h];rfl
 rw[h1];unfold byV
 congr 1
 rw[UInt8.toNat_ofNat',show(2:Int) ^ (8 * (7 - m))=((256 ^ (7 - m):Nat):Int)by rw[Int.pow_mul];simp];simp
theorem QeX{w:World}{b:Nat}{L:List UInt8}{t:TypeId}{fr:Nat × Nat}(h:w.heap[b]?=some (.cells (L.map byV).toArray t fr))(i:Nat)(hi:i<L.length):w.cell? ⟨b,0+i,none⟩=some (byV (L.getD i 0)):=by rw[Qa h,Nat.zero_add,List.getElem?_toArray,List.getElem?_map,List.getElem?_eq_getElem hi,List.getD_eq_getElem?_getD,List.getElem?_eq_getElem hi];rfl
theorem QfS(x:W32):[Value.int .u8 (wI x / 16777216 % 256),.int .u8 (wI x / 65536 % 256),.int .u8 (wI x / 256 % 256),.int .u8 (wI x % 256)]=(Qab x).map byV:=by unfold Qab byV wI;simp[UInt8.toNat_ofNat']
theorem QhQ(v:St8)(t:Nat)(h:t<8):(((stL v).take (t+1)).map Qab).flatten=(((stL v).take t).map Qab).flatten++Qab (wth (stL v) t):=by rw[List.take_succ_eq_append_getElem h,List.map_append,List.flatten_append,Qke _ _ h];simp
theorem Qnb(v:St8):((stL v).map Qab).flatten=QtO v:=by unfold stL QtO;simp
def QpV:List W32:=List.replicate 8 0
theorem Qmz(w:World):Calls Tryz.prog 219 #[] w λ e w'=>e=.returned (.agg (wsC (stL st0)))/\Below w.heap.size w w':=by
 go_enter Tryz.func219,Tryz.ntmps219
 go_upto_region 1 with fail;obtain⟨b,hb⟩:∃b,w.heap.size=b:=⟨_,rfl⟩;show Code.wp _ _ _ _ (w.alloc (.cells (wsC QpV) 246));obtain⟨V,hV⟩:∃V,w.alloc (.cells (wsC QpV) 246)=V:=⟨_,rfl⟩;have HV:Hid (V.heap[b]?=some (.cells (wsC QpV) 246 (0,0))):=QLh (by rw[<-hV,<-hb];exact heap_alloc_new _ _);have HS:Hid (Below w.heap.size w V):=QLh (by rw[<-hV];exact Qf (Below.refl _ _) _);have HBW:Hid (w.heap.size<=b):=QLh (Nat.le_of_eq hb);rw[hV,hb];clear hV hb;apply wp_region_lit;refine wpList_build rfl 246 _ rfl (by as_aux_lemma=>kernel_rfl) ?_;refine wpList_store_row rfl 246 _ _ rfl b (wsC (stL st0)) rfl (by as_aux_lemma=>kernel_rfl) 246 (wsC QpV) HV.out (by as_aux_lemma=>kernel_rfl) (by as_aux_lemma=>kernel_rfl) (by as_aux_lemma=>kernel_rfl) ?_;apply wpList_nil;obtain⟨U,hU⟩:∃U,V.setRow b (wsC (stL st0))=U:=⟨_,rfl⟩;have HU:Hid (U.heap[b]?=some (.cells (wsC (stL st0)) 246 (0,0))):=QLh (by rw[<-hU];exact setRow_heap V b _ _ _ _ HV.out);have HUB:Hid (Below w.heap.size w U):=QLh (by
  rw[<-hU];exact⟨HS.out.os,HS.out.tape,HS.out.output,by rw[setRow_size];exact HS.out.size,λ i hi=>by rw[setRow_other _ _ _ _ (show i≠b by have:=HBW.out;omega)];exact HS.out.block i hi⟩)
 rw[hU];rename_i Q' K hK;refine hK _ _ ?_;apply wp_ret;refine bodyPost_ret (v:=.agg (wsC (stL st0))) ?_ rfl ?_
 ·exact results_cell_row rfl _ _ b 246 (wsC (stL st0)) (0,0) _ rfl HU.out rfl rfl (by as_aux_lemma=>kernel_rfl)
 ·exact⟨rfl,HUB.out⟩
def QjL:List UInt8:=List.replicate 64 0
theorem QnR:Tryz.prog.built 250 [(0,.agg (wsC (stL st0)))]=some (Ua st0 QjL ((0:Nat):Int)):=by kernel_rfl
def Quh(w:World)(e:Ending)(w':World):Prop:=∃b,e=.returned (.pointer (some ⟨b,0,none⟩))/\w.heap.size<=b/\Kz b [] w'/\Below w.heap.size w w'
theorem Ql9:QjL.length=64:=by unfold QjL;rw[List.length_replicate]
theorem QqC(w:World):Calls Tryz.prog 158 #[] w (Quh w):=by
 have HB:=QLh QnR;have HF:=QLh Qmz
 go_enter Tryz.func158,Tryz.ntmps158
 go_upto_region 1 with fail;go_wp2_with fail;refine(HF.out _).mono ?_;rintro e w2 ⟨rfl,hb2⟩;have HB2:=QLh hb2;clear hb2;have hA:wsC (stL st0)=#[.int .u32 1779033703,.int .u32 3144134277,.int .u32 1013904242,.int .u32 2773480762,.int .u32 1359893119,.int .u32 2600822924,.int .u32 528734635,.int .u32 1541459225]:=by kernel_rfl
 rw[hA];clear hA;go_wp2;go_ret;refine⟨w2.heap.size,rfl,HB2.out.size,⟨st0,QjL,Kh.start _ Ql9,(heap_alloc_new _ _).trans ?_⟩,Qf HB2.out _⟩
 kernel_rfl
theorem QsR:(Tryz.prog.info? 5).map (λ i=>(i.zero,i.size,i.bytes))=some (some (.int .u8 0),1,1):=by kernel_rfl
theorem QsL(v:St8)(t:Nat)(h:t<8)(w:World):(Instr.index 246 (.agg (wsC (stL v))) (.int .i64 (t:Int))).run Tryz.prog w=.ok (.int .u32 (wI (wth (stL v) t))) w:=by
 have hk:(wsC (stL v))[t]?=some (wV (wth (stL v) t)):=Xk (stL v) t h;have hs:(wsC (stL v)).size=8:=rfl;generalize wsC (stL v)=KC at hk hs;have b:¬(8:Int)<=(t:Int):=by omega
 have b2:¬(t:Int)<0:=by omega
 unfold Instr.index;simp[go_sem,hk,hs,b,b2];intro h9;omega
theorem Kz.count{b:Nat}{L:List UInt8}{w:World}(h:Kz b L w){n:Nat}(hn:len L=n):w.cell? ⟨b,72,none⟩=some (.int .u64 (n:Nat)):=by obtain⟨v,r,h1,h2⟩:=h;rw[Qa h2,Qh0 _ _ _ h1.rest,hn]
theorem Qcr{B:Nat}{row:Nat}{w V w2:World}(h1:Below B w V)(hr:B<=row)(hB:B<=V.heap.size)(h2:Xe (some row) V w2):Below B w w2:=
 ⟨h2.os.trans h1.os,h2.tape.trans h1.tape,h2.output.trans h1.output,Nat.le_trans h1.size h2.size,λ i hi=>(h2.block i (by omega) (by simp;omega)).trans (h1.block i hi)⟩
theorem QpI(v:St8)(r:List UInt8)(n:Int):(Ua v r n).all (·.oneCell')=true:=by
 unfold Ua;rw[Array.all_eq_true];intro i hi;have:∀x ∈ (stL v).map wV++r.map bV++[Value.int .u64 n],x.oneCell'=true:=by
  intro x hx;simp only[List.mem_append,List.mem_map,List.mem_singleton]at hx
  rcases hx with(⟨a,_,rfl⟩ | ⟨a,_,rfl⟩) | rfl <;> rfl
 exact this _ (by simp)
theorem Qq1(hb:Nat)(L:List UInt8)(w:World)(h:Kz hb L w)(hl:len L<=1152921504606846976):
  Calls Tryz.prog 160 #[.pointer (some ⟨hb,0,none⟩)] w λ e w'=>e=.returned (.string ⟨(Qpg L).toArray⟩)/\Below w.heap.size w w':=by
 obtain⟨v,r,hT,hc⟩:=h;obtain⟨n,hn⟩:∃n,len L=n:=⟨_,rfl⟩;rw[hn]at hc hl;obtain⟨Cc,hCc⟩:∃Cc,Ua v r (n:Nat)=Cc:=⟨_,rfl⟩;have HCC:=QLh hCc;have HSZ:Hid (Cc.size=73):=QLh (by rw[<-hCc,Qhu _ _ _ hT.rest]);have HON:Hid (Cc.all (·.oneCell')=true):=QLh (by rw[<-hCc];exact QpI _ _ _);rw[hCc]at hc;have HC:=QLh hc;have HT:=QLh hT;have HN:=QLh hn;have HL:=QLh hl;have HI:Hid ((Tryz.prog.info? 250).map (·.size)=some Cc.size):=QLh (by rw[HSZ.out];kernel_rfl);clear hc hT hn hl hCc
 go_enter Tryz.func160,Tryz.ntmps160
 go_upto_region 3 with fail
 go_upto_region 4 with(first | (refine wpList_load_row (o:=⟨some 14,_,_,_,_,_⟩) ?_ 250 (.tmp 13) ?_ hb ?_ 250 Cc (0,0) _ HC.out Tryz.underlying250 ?_ HI.out ?_;rfl;rfl;rfl;rfl;skip) | (refine wpList_store_row ?_ 250 (.tmp 3) (.tmp 14) ?_ w.heap.size Cc ?_ ?_ 250 _ (heap_alloc_new _ _) HI.out ?_ HON.out ?_;rfl;rfl;rfl;rfl;(rw[HSZ.out];kernel_rfl);skip))
 obtain⟨cb,hcb⟩:∃cb,w.heap.size=cb:=⟨_,rfl⟩;rw[hcb];obtain⟨V,hV⟩:∃V,(w.alloc (.cells Tryz.zeroCells250 250)).setRow cb Cc=V:=⟨_,rfl⟩;rw[hV];have HVB:Hid (V.heap[cb]?=some (.cells (Ua v r (n:Nat)) 250 (0,0))):=QLh (by rw[HCC.out,<-hV,<-hcb];exact setRow_heap _ _ _ _ _ _ (heap_alloc_new _ _));have HVW:Hid (Below w.heap.size w V):=QLh (by
  rw[<-hV];have h1:Below w.heap.size w (w.alloc (.cells Tryz.zeroCells250 250)):=Qf (Below.refl _ _) _;exact⟨h1.os,h1.tape,h1.output,by rw[setRow_size];exact h1.size,λ i hi=>by rw[setRow_other _ _ _ _ (by omega:i≠cb)];exact h1.block i hi⟩)
 have HCB:Hid (w.heap.size<=cb):=QLh (Nat.le_of_eq hcb);have HH:Hid (Kz cb L V):=QLh (Kz.intro HT.out (by rw[HN.out]) HVB.out);have c72:V.cell? ⟨cb,72,none⟩=some (.int .u64 n):=by rw[Qa HVB.out,Qh0 _ _ _ HT.out.rest]
 have w8:IntKind.u64.wrap ((n:Int) * 8)=(n:Int) * 8:=IntWalk.u64_in _ (by have:=HL.out;omega);clear hV hcb HVB HC HI HON HSZ HCC;go_upto_region 5 with fail;clear c72 w8;have cv:(convert 41 9 (.slice (some ⟨V.heap.size,0,none⟩) 1 1)).run Tryz.prog (V.alloc (.cells #[.int .u8 128] 5))=.ok (.string ⟨#[128]⟩) (V.alloc (.cells #[.int .u8 128] 5)):=QdM V 5 1 1 [128] rfl;go_wp2_with fail;have HV1:=QLh (Qcz cb L ⟨#[128]⟩ (V.alloc (.cells #[.int .u8 128] 5)) (HH.out.keep (Qf (Below.refl _ _) _)) (by have h1:=HL.out;have h2:=HN.out;rw[h2];show n+1<=_;omega));refine HV1.out.mono ?_;rintro e w2 ⟨rfl,hE,hH⟩;have HH:=QLh hH;have HVW:Hid (Below w.heap.size w w2):=QLh (Qcr HVW.out HCB.out HVW.out.size (Q7 _ _ _ _ (Qf4 _ _ _) hE));have HH:Hid (Kz cb (L++[128]++List.replicate 0 0) w2):=QLh (by rw[List.replicate_zero,List.append_nil];exact HH.out);clear hE hH HV1 cv;go_upto_region 6 with fail
 go_loopg [21] (Jz n) (λ g _ wr=>∃m:Nat,g+m=Jz n/\Hid (Kz cb (L++[128]++List.replicate m 0) wr)/\Hid (Below w.heap.size w wr))
 case atStart=>exact⟨0,rfl,HH,HVW⟩
 case round=>
  clear HH HVW;obtain⟨m,hm,HH,HVW⟩:=hrel;have hz:=QeR n;have HLEN:Hid (len (L++[128]++List.replicate m 0)=n+1+m):=QLh (by
   have:=HN.out;rw[Qy]at this;rw[Qy,List.length_append,List.length_append,List.length_replicate,this];rfl)
  have c72:=HH.out.count HLEN.out;obtain⟨q,hq⟩:∃q,n+1+m=q:=⟨_,rfl⟩;rw[hq]at c72 HLEN;have HQ:Hid (q<=n+64):=QLh (by omega)
  by_cases hlt:m<Jz n
  ·have q1:¬((q:Nat):Int) % 64=56:=by have:=QfL n m hlt;omega
   clear hq;go_wp2_with fail;have HV1:=QLh (Qcz cb _ ⟨#[0]⟩ wr HH.out (by rw[HLEN.out];have h1:=HL.out;have h2:=HQ.out;show _+1<=_;omega));refine HV1.out.mono ?_;rintro e w2 ⟨rfl,hE,hH⟩;have HV2:Hid (Below w.heap.size w w2):=QLh (Qcr HVW.out HCB.out HVW.out.size hE);have HH2:Hid (Kz cb (L++[128]++List.replicate (m+1) 0) w2):=QLh (by
    have e9:L++[128]++List.replicate (m+1) 0=L++[128]++List.replicate m 0++[0]:=by rw[List.replicate_succ',List.append_assoc (L++[128])]
    rw[e9];exact hH)
   clear hE hH HV1;go_wp2
   go_roundg (Jz n - (m+1))
   case rel=>exact⟨m+1,by omega,HH2,HV2⟩
   case measure=>omega
  ·obtain rfl:m=Jz n:=by omega
   have q1:((q:Nat):Int) % 64=56:=by have:=QfW n;omega
   clear hq hz hlt hm;go_upto_region 9 with fail;obtain⟨N,hN⟩:∃N:Nat,n * 8=N:=⟨_,rfl⟩;rw[show(n:Int) * 8=((N:Nat):Int)by omega];have HN8:=QLh hN;obtain⟨L1,hL1⟩:∃L1,L++[128]++List.replicate (Jz n) 0=L1:=⟨_,rfl⟩;rw[hL1]at HH HLEN;have HL1:=QLh hL1;obtain⟨lb,hlb⟩:∃lb,wr.heap.size=lb:=⟨_,rfl⟩;obtain⟨U,hU⟩:∃U,wr.alloc (.cells (QeY (Ve N) 8 0) 68)=U:=⟨_,rfl⟩;have HUB:Hid (U.heap[lb]?=some (.cells (QeY (Ve N) 8 0) 68 (0,0))):=QLh (by rw[<-hU];exact Qg _ hlb);have HUH:Hid (Kz cb L1 U):=QLh (by rw[<-hU];exact HH.out.keep (Qf (Below.refl _ _) _));have HUW:Hid (Below w.heap.size w U):=QLh (by rw[<-hU];exact Qf HVW.out _);have HLB:Hid (w.heap.size<=lb/\cb<lb):=QLh ⟨by rw[<-hlb];exact HVW.out.size,by rw[<-hlb];exact HH.out.lt⟩;rw[hlb];change Code.wp _ _ _ _ (wr.alloc (.cells (QeY (Ve N) 8 0) 68));rw[hU];clear hU hlb hL1 hN c72 q1 HH HVW;go_wp2
   go_loopg [26,6] 8 (λ g i _ wr=>∃m:Nat,g+m=8/\i=.int .i64 m/\Hid (wr.heap[lb]?=some (.cells (QeY (Ve N) 8 m) 68 (0,0)))/\Hid (Kz cb L1 wr)/\Hid (Below w.heap.size w wr))
   case atStart=>exact⟨0,rfl,rfl,HUB,HUH,HUW⟩
   case round=>
    clear HUB HUH HUW;obtain⟨m,hm,rfl,HUB,HUH,HUW⟩:=hrel
    by_cases hlt:m<8
    ·have i1:(m:Int)<8:=by omega
     have i2:IntKind.i64.wrap (7 - (m:Int))=7 - (m:Int):=IntWalk.i64_in _ (by omega);have i3:IntKind.i64.wrap (8 * (7 - (m:Int)))=8 * (7 - (m:Int)):=IntWalk.i64_in _ (by omega);have i4:¬8 * (7 - (m:Int))<0:=by omega
     have i5:¬(8:Int)<=(m:Int):=by omega
     obtain⟨W,hW⟩:∃W,wr=W:=⟨_,rfl⟩;rw[hW]at HUB HUH HUW ⊢;have c0:W.cell? ⟨lb,m,none⟩=some (byV 0):=by rw[Qa HUB.out,Qje _ _ _ hlt (Xo N)]
     have c1:W.frozen? ⟨lb,m,none⟩=false:=Qk HUB.out m;have c2:lb<W.heap.size:=lt_of_block HUB.out;clear hW;go_upto_region 13 with fail;rw[Qe8 N m hlt];clear c0 c1 c2 i2 i3 i4 i5;have HU2:Hid ((W.setCell ⟨lb,m,none⟩ (byV ((Ve N).getD m 0))).heap[lb]?=some (.cells (QeY (Ve N) 8 (m+1)) 68 (0,0))):=QLh (by
      have:=Qc HUB.out (o:=m) (byV ((Ve N).getD m 0));rw[Qhb _ _ _ hlt (Xo N)]at this;exact this)
     have HU3:Hid (Kz cb L1 (W.setCell ⟨lb,m,none⟩ (byV ((Ve N).getD m 0)))):=QLh (by
      obtain⟨v9,r9,h1,h2⟩:=HUH.out;exact⟨v9,r9,h1,Qh h2 (show cb≠lb by have:=HLB.out.2;omega) _⟩)
     have HU4:Hid (Below w.heap.size w (W.setCell ⟨lb,m,none⟩ (byV ((Ve N).getD m 0)))):=QLh (Ji HUW.out HLB.out.1 _);go_wp2
     go_roundg (8 - (m+1))
     case rel=>exact⟨m+1,by omega,by go_num,HU2,HU3,HU4⟩
     case measure=>omega
    ·obtain rfl:m=8:=by omega
     have i1:¬((8:Nat):Int)<8:=by decide
     have HUB:=QLh (by have h:=HUB.out;rw[Qgx _ _ (Xo N)]at h;exact h);have cv:(convert 41 9 (.slice (some ⟨lb,0,none⟩) 8 8)).run Tryz.prog wr=.ok (.string ⟨(Ve N).toArray⟩) wr:=Um wr lb 0 8 8 (Ve N) (Xo N) (λ i hi=>QeX HUB.out i (by rw[Xo];exact hi));go_wp2_with fail;have HV1:=QLh (Qcz cb L1 ⟨(Ve N).toArray⟩ wr HUH.out (by rw[HLEN.out];have h1:=HL.out;have h2:=HQ.out;show _+(Ve N).length<=_;rw[Xo];omega));refine HV1.out.mono ?_;rintro e w3 ⟨rfl,hE,hH⟩;have HW3:Hid (Below w.heap.size w w3):=QLh (Qcr HUW.out HCB.out HUW.out.size hE);have HH3:Hid (Kz cb (Qme L) w3):=QLh (by
      have h1:=HN.out;rw[Qy]at h1;have h2:Qme L=L1++Ve N:=by rw[Qf0,<-HL1.out,h1,<-HN8.out,Nat.mod_eq_of_lt (by have:=HL.out;omega),Nat.mul_comm]
      rw[h2];exact hH)
     clear hE hH HV1 cv HUB HUH HUW i1;obtain⟨z,r9,hz,hzb⟩:=HH3.out;have HZ:=QLh hz;have x0:w3.cell? ⟨cb,0,none⟩=some (.int .u32 (wI z.a)):=by rw[Qa hzb,Xl _ _ _ 0 (by decide)];rfl
     have x1:w3.cell? ⟨cb,1,none⟩=some (.int .u32 (wI z.b)):=by rw[Qa hzb,Xl _ _ _ 1 (by decide)];rfl
     have x2:w3.cell? ⟨cb,2,none⟩=some (.int .u32 (wI z.c)):=by rw[Qa hzb,Xl _ _ _ 2 (by decide)];rfl
     have x3:w3.cell? ⟨cb,3,none⟩=some (.int .u32 (wI z.d)):=by rw[Qa hzb,Xl _ _ _ 3 (by decide)];rfl
     have x4:w3.cell? ⟨cb,4,none⟩=some (.int .u32 (wI z.e)):=by rw[Qa hzb,Xl _ _ _ 4 (by decide)];rfl
     have x5:w3.cell? ⟨cb,5,none⟩=some (.int .u32 (wI z.f)):=by rw[Qa hzb,Xl _ _ _ 5 (by decide)];rfl
     have x6:w3.cell? ⟨cb,6,none⟩=some (.int .u32 (wI z.g)):=by rw[Qa hzb,Xl _ _ _ 6 (by decide)];rfl
     have x7:w3.cell? ⟨cb,7,none⟩=some (.int .u32 (wI z.h)):=by rw[Qa hzb,Xl _ _ _ 7 (by decide)];rfl
     clear hz hzb;go_upto_region 17 with fail;rw[show(#[.int .u32 (wI z.a),.int .u32 (wI z.b),.int .u32 (wI z.c),.int .u32 (wI z.d),.int .u32 (wI z.e),.int .u32 (wI z.f),.int .u32 (wI z.g),.int .u32 (wI z.h)]:Array Value)=wsC (stL z)from rfl];obtain⟨ZC,hZC⟩:∃ZC,wsC (stL z)=ZC:=⟨_,rfl⟩;rw[hZC];have HZC:=QLh hZC;clear hZC x0 x1 x2 x3 x4 x5 x6 x7;obtain⟨i0,hi,hz0,hz1,hz2⟩:=info_parts QsR;have HZ0:=QLh hz0;clear hz0
     go_loopg [43,7,9] 8 (λ g i o _ wr=>∃m:Nat,g+m=8/\i=.int .i64 m/\Hid (wr.ownsRow w.heap.size 5 1 o (4 * m) ((((stL z).take m).map Qab).flatten.map byV))/\Hid (Below w.heap.size w wr))
     case atStart=>exact⟨0,rfl,rfl,QLh (World.ownsRow_nil _ _ _ _),HW3⟩
     case round=>
      clear HW3 HH3;obtain⟨m,hm,rfl,HO,HW3⟩:=hrel
      by_cases hlt:m<8
      ·have i1:(m:Int)<8:=by omega
       obtain⟨X,hX⟩:∃X,wth (stL z) m=X:=⟨_,rfl⟩;have hk:∀w',(Instr.index 246 (.agg ZC) (.int .i64 (m:Int))).run Tryz.prog w'=.ok (.int .u32 (wI X)) w':=λ w'=>by rw[<-HZC.out,QsL z m hlt,hX]
       have HX:=QLh hX;obtain⟨W,hW⟩:∃W,wr=W:=⟨_,rfl⟩;rw[hW]at HO HW3 ⊢;clear hX hW;go_upto_region 19 with fail;have hmm:4 * m<=32:=by omega
       go_upto_region 20 with(at_builtin;refine wpList_append_own _ rfl _ _ 41 rfl w.heap.size 5 i0 (.int .u8 0) 1 1 Tryz.underlying41 hi HZ0.out hz1 hz2 rfl (by decide) _ _ _ rfl (HO.out.alloc _) ⟨W.heap.size,0,none⟩ 4 4 [.int .u8 (wI X / 16777216 % 256),.int .u8 (wI X / 65536 % 256),.int .u8 (wI X / 256 % 256),.int .u8 (wI X % 256)] rfl rfl (World.news_of_block (heap_alloc_new _ _)) (by intro u hu;simp at hu;rcases hu with rfl | rfl | rfl | rfl <;> rfl) (by unfold maxLen;omega) (by omega) (by have:=HW3.out.size;simp;omega) ?_;intro v2 w4 hown2 hgrow2 _)
       have HO2:Hid (w4.ownsRow w.heap.size 5 1 v2 (4 * (m+1)) ((((stL z).take (m+1)).map Qab).flatten.map byV)):=QLh (by
        rw[QhQ z m hlt,HX.out,List.map_append,<-QfS];exact hown2)
       have HW4:Hid (Below w.heap.size w w4):=QLh (Qq (Qf HW3.out _) hgrow2 (λ k hk'=>(HO.out.lt k hk').1));clear hown2 hgrow2 hk;go_wp2
       go_roundg (8 - (m+1))
       case rel=>exact⟨m+1,by omega,by go_num,HO2,HW4⟩
       case measure=>omega
      ·obtain rfl:m=8:=by omega
       have i1:¬((8:Nat):Int)<8:=by decide
       have HO2:Hid (wr.ownsRow w.heap.size 5 1 u7 32 ((Qpg L).map byV)):=QLh (by
        have h1:=HO.out;rw[show(stL z).take 8=stL z from rfl,Qnb,HZ.out.sum]at h1;exact h1)
       have cv:=Qk8 HO2.out (Qg0 L) (by decide);go_wp2;go_ret;exact⟨rfl,HW3.out⟩
theorem QrS(s:ByteArray)(w:World)(hl:s.size<=1152921504606846976):Calls Tryz.prog 97 #[.string s] w λ e w'=>e=.returned (.string (Quq s))/\Below w.heap.size w w':=by
 have HL:=QLh hl;clear hl
 go_enter Tryz.func97,Tryz.ntmps97
 go_wp2_with fail;refine(QqC _).mono ?_;rintro e w1 ⟨b,rfl,hb0,hh,hw1⟩;have HH:=QLh hh;have HW1:=QLh hw1;have HB0:=QLh hb0;clear hh hw1 hb0;go_wp2_with fail;refine(Qcz b [] s w1 HH.out (by have:=HL.out;show 0+s.size<=_;omega)).mono ?_;rintro e w2 ⟨rfl,hE,hH⟩;have HW2:Hid (Below w.heap.size w w2):=QLh (Qcr HW1.out HB0.out HW1.out.size hE);have HH2:=QLh hH;clear hE hH;go_wp2_with fail;refine(Qq1 b s.data.toList w2 HH2.out (by rw[Qy,Array.length_toList];exact HL.out)).mono ?_;rintro e w3 ⟨rfl,hE⟩;have HW3:Hid (Below w.heap.size w w3):=QLh (Qj HW2.out hE);clear hE;go_wp2;go_ret;exact⟨rfl,HW3.out⟩
def Qdc(n:Nat):ByteArray:=⟨(Ve n).toArray⟩
theorem QcG(n:Nat):(Qdc n).size=8:=by show(Ve n).toArray.size=8;rw[List.size_toArray,Xo]
theorem Qrl(N:Nat)(w:World)(hN:N<18446744073709551616):Calls Tryz.prog 157 #[.int .u64 (N:Nat)] w λ e w'=>e=.returned (.string (Qdc N))/\Below w.heap.size w w':=by
 have HNN:=QLh hN;clear hN
 go_enter Tryz.func157,Tryz.ntmps157
 go_upto_region 2 with fail;obtain⟨lb,hlb⟩:∃lb,w.heap.size=lb:=⟨_,rfl⟩;obtain⟨U,hU⟩:∃U,w.alloc (.cells (QeY (Ve N) 8 0) 68)=U:=⟨_,rfl⟩;have HUB:Hid (U.heap[lb]?=some (.cells (QeY (Ve N) 8 0) 68 (0,0))):=QLh (by rw[<-hU];exact Qg _ hlb);have HUW:Hid (Below w.heap.size w U):=QLh (by rw[<-hU];exact Qf (Below.refl _ _) _);have HLB:Hid (w.heap.size<=lb):=QLh (Nat.le_of_eq hlb);rw[hlb];change Code.wp _ _ _ _ (w.alloc (.cells (QeY (Ve N) 8 0) 68));rw[hU];clear hU hlb;go_wp2
 go_loopg [5,4] 8 (λ g i _ wr=>∃m:Nat,g+m=8/\i=.int .i64 m/\Hid (wr.heap[lb]?=some (.cells (QeY (Ve N) 8 m) 68 (0,0)))/\Hid (Below w.heap.size w wr))
 case atStart=>exact⟨0,rfl,rfl,HUB,HUW⟩
 case round=>
  clear HUB HUW;obtain⟨m,hm,rfl,HUB,HUW⟩:=hrel
  by_cases hlt:m<8
  ·have i1:(m:Int)<8:=by omega
   have i2:IntKind.i64.wrap (7 - (m:Int))=7 - (m:Int):=IntWalk.i64_in _ (by omega);have i3:IntKind.i64.wrap (8 * (7 - (m:Int)))=8 * (7 - (m:Int)):=IntWalk.i64_in _ (by omega);have i4:¬8 * (7 - (m:Int))<0:=by omega
   have i5:¬(8:Int)<=(m:Int):=by omega
   obtain⟨W,hW⟩:∃W,wr=W:=⟨_,rfl⟩;rw[hW]at HUB HUW ⊢;have c0:W.cell? ⟨lb,m,none⟩=some (byV 0):=by rw[Qa HUB.out,Qje _ _ _ hlt (Xo N)]
   have c1:W.frozen? ⟨lb,m,none⟩=false:=Qk HUB.out m;have c2:lb<W.heap.size:=lt_of_block HUB.out;clear hW;go_upto_region 6 with fail;rw[Qe8 N m hlt];clear c0 c1 c2 i2 i3 i4 i5;have HU2:Hid ((W.setCell ⟨lb,m,none⟩ (byV ((Ve N).getD m 0))).heap[lb]?=some (.cells (QeY (Ve N) 8 (m+1)) 68 (0,0))):=QLh (by
    have:=Qc HUB.out (o:=m) (byV ((Ve N).getD m 0));rw[Qhb _ _ _ hlt (Xo N)]at this;exact this)
   have HU4:Hid (Below w.heap.size w (W.setCell ⟨lb,m,none⟩ (byV ((Ve N).getD m 0)))):=QLh (Ji HUW.out HLB.out _);go_wp2
   go_roundg (8 - (m+1))
   case rel=>exact⟨m+1,by omega,by go_num,HU2,HU4⟩
   case measure=>omega
  ·obtain rfl:m=8:=by omega
   have i1:¬((8:Nat):Int)<8:=by decide
   have HUB:=QLh (by have h:=HUB.out;rw[Qgx _ _ (Xo N)]at h;exact h);have cv:(convert 41 9 (.slice (some ⟨lb,0,none⟩) 8 8)).run Tryz.prog wr=.ok (.string (Qdc N)) wr:=Um wr lb 0 8 8 (Ve N) (Xo N) (λ i hi=>QeX HUB.out i (by rw[Xo];exact hi));go_wp2;go_ret;exact⟨rfl,HUW.out⟩
theorem QjU:(Tryz.prog.info? 172).map (·.size)=some 2:=by kernel_rfl
theorem QpB:liesAt Tryz.prog Tryz.prog.depth 172 (2 / Tryz.prog.cellsOf 172) 0 172 1=true:=by kernel_rfl
theorem Qro:(Tryz.prog.info? 5).map (λ i=>(i.zero,i.size,i.bytes))=some (some (.int .u8 0),1,1):=by kernel_rfl
theorem QiJ(b:Nat)(w:World)(h0:w.cell? ⟨b,0,none⟩=some (.pointer (some ⟨b,0,none⟩))):
  Calls Tryz.prog 193 #[.pointer (some ⟨b,0,none⟩)] w λ e w'=>e=.returned (.tuple #[])/\w'=w:=by
 obtain⟨j,hj,_⟩:=Option.map_eq_some_iff.1 QjU
 go_enter Tryz.func193,Tryz.ntmps193
 go_wp2;rw[Lib.run_neq_ptr_same w _ Tryz.underlying170 hj];go_wp2
 go_end0
 exact⟨rfl,rfl⟩
theorem Qi3(b:Nat)(w:World)(h0:w.cell? ⟨b,0,none⟩=some (.pointer none))(hsh:w.shape? b=some (172,2))(hfz:w.frozen? ⟨b,0,none⟩=false):
  Calls Tryz.prog 193 #[.pointer (some ⟨b,0,none⟩)] w λ e w'=>e=.returned (.tuple #[])/\w'=w.setCell ⟨b,0,none⟩ (.pointer (some ⟨b,0,none⟩)):=by
 obtain⟨j,hj,hjs⟩:=Option.map_eq_some_iff.1 QjU
 go_enter Tryz.func193,Tryz.ntmps193
 go_wp2;rw[Lib.run_to_unsafe w ⟨b,0,none⟩ Tryz.underlying170 Tryz.underlying297 hj (by rw[hjs];decide) hsh (Nat.zero_lt_succ 1)];simp only[Result.andThen];rw[Oper.upon_value];go_wp2;rw[run_callFunc_extern Tryz.func259 (by kernel_rfl) (by kernel_rfl) (by kernel_rfl) (e:=Extern.AbiNoEscape.same) (by kernel_rfl)];rw[Lib.run_noEscape];simp only[Result.andThen];rw[Oper.upon_value];go_wp2;rw[Lib.run_from_unsafe w ⟨b,0,none⟩ Tryz.underlying297 Tryz.underlying170 hj hsh QpB];simp only[Result.andThen];rw[Oper.upon_value];go_wp2
 go_end0
 exact⟨rfl,rfl⟩
theorem QfK(B b:Nat)(bs:List Value)(w:World)(h:Lib.IsBuilder 172 5 B b bs w):
  Calls Tryz.prog 193 #[.pointer (some ⟨b,0,none⟩)] w λ e w'=>e=.returned (.tuple #[])/\(Lib.BuilderAt 172 5 B b (.pointer (some ⟨b,0,none⟩)) bs w'/\Below B w w'):=by
 rcases h with h | h
 ·refine(Qi3 b w h.cell0 h.shape h.frozen0).mono ?_
  rintro e w' ⟨rfl,rfl⟩;exact⟨rfl,h.used _,(Below.refl B w).setCell (p:=⟨b,0,none⟩) h.1 _⟩
 ·refine(QiJ b w h.cell0).mono ?_
  rintro e w' ⟨rfl,rfl⟩;exact⟨rfl,h,Below.refl B _⟩
theorem Qn1(B b:Nat)(bs:List Value)(c:Int)(w:World)(h:Lib.IsBuilder 172 5 B b bs w)(hlen:bs.length+1<=140737488355328)(hBw:B<=w.heap.size):
  Calls Tryz.prog 155 #[.pointer (some ⟨b,0,none⟩),.int .u8 c] w λ e w'=>e=.returned .nilIface/\(Lib.BuilderAt 172 5 B b (.pointer (some ⟨b,0,none⟩)) (bs++[.int .u8 c]) w'/\Below B w w'):=by
 obtain⟨i0,hi,hz0,hz1,hz2⟩:=info_parts Qro
 go_enter Tryz.func155,Tryz.ntmps155
 go_wp2_with fail;refine(QfK B b bs _ h).mono ?_;rintro e w1 ⟨rfl,h1,hb1⟩;obtain⟨hB,v,hbk,hown,hne⟩:=h1;have c0:w1.cell? ⟨b,0,none⟩=some (.pointer (some ⟨b,0,none⟩)):=by rw[Lib.cell_of_heap hbk];rfl
 have c1:w1.cell? ⟨b,1,none⟩=some v:=by rw[Lib.cell_of_heap hbk];rfl
 go_wp2_with (at_builtin;refine wpList_append_own _ rfl _ _ 41 rfl B 5 i0 (.int .u8 0) 1 1 Tryz.underlying41 hi hz0 hz1 hz2 rfl (by decide) _ _ _ rfl (hown.alloc _) ⟨w1.heap.size,0,none⟩ 1 1 [.int .u8 c] rfl rfl ?c1 ?c2 ?c3 ?c4 ?c5 ?_)
 case c1=>
  intro j u hj
  match j,hj with
  | 0,hj=>simp at hj;subst hj;simp[Addr.add]
 case c2=>intro u hu;simp at hu;subst hu;rfl
 case c3=>unfold maxLen;omega
 case c4=>omega
 case c5=>have:=hb1.size;simp;omega
 intro v' w2 hown' hgrow _;have hlt:b<w1.heap.size:=lt_of_block hbk;have hb2:w2.heap[b]?=some (.cells #[.pointer (some ⟨b,0,none⟩),v] 172 (0,0)):=by rw[hgrow.block b (by simp;omega) (λ e=>hne e.symm),Lib.alloc_old w1 _ b hlt];exact hbk
 have d0:w2.cell? ⟨b,0,none⟩=some (.pointer (some ⟨b,0,none⟩)):=by rw[Lib.cell_of_heap hb2];rfl
 have d1:w2.cell? ⟨b,1,none⟩=some v:=by rw[Lib.cell_of_heap hb2];rfl
 have f1:w2.frozen? ⟨b,1,none⟩=false:=Lib.frozen_of_heap hb2 1;obtain⟨g,cap,rfl⟩:∃g cap,v'=.slice (some ⟨g,0,none⟩) (bs.length+1) cap:=by
  rcases hown'.2 with⟨_,h0⟩ | ⟨g,cap,cur,hv,_⟩
  ·omega
  ·exact⟨g,cap,hv⟩
 go_wp2;go_ret;refine⟨rfl,?_,?_⟩
 ·exact Lib.BuilderAt.put (T:=172) (e:=5) hB hb2 (bs':=bs++[.int .u8 c]) (by simpa using hown') (by decide)
 ·exact((hb1.alloc (by have:=hb1.size;omega) _).grown hgrow (by have:=hb1.size;simp;omega) (λ k hk=>(hown.lt k hk).1)).setCell (p:=⟨b,1,none⟩) hB _
theorem QgJ(B b:Nat)(bs:List Value)(s:ByteArray)(w:World)(h:Lib.IsBuilder 172 5 B b bs w)(hlen:bs.length+s.size<=140737488355328)(hBw:B<=w.heap.size):
  Calls Tryz.prog 144 #[.pointer (some ⟨b,0,none⟩),.string s] w λ e w'=>e=.returned (.tuple #[.int .i64 s.size,.nilIface])/\(Lib.BuilderAt 172 5 B b (.pointer (some ⟨b,0,none⟩)) (bs++Lib.strCells s) w'/\Below B w w'):=by
 obtain⟨i0,hi,hz0,hz1,hz2⟩:=info_parts Qro
 go_enter Tryz.func144,Tryz.ntmps144
 go_wp2_with fail;refine(QfK B b bs _ h).mono ?_;rintro e w1 ⟨rfl,h1,hb1⟩;obtain⟨hB,v,hbk,hown,hne⟩:=h1;have c0:w1.cell? ⟨b,0,none⟩=some (.pointer (some ⟨b,0,none⟩)):=by rw[Lib.cell_of_heap hbk];rfl
 have c1:w1.cell? ⟨b,1,none⟩=some v:=by rw[Lib.cell_of_heap hbk];rfl
 go_wp2_with (at_builtin;refine Lib.wpList_append_own_string _ rfl _ _ 41 9 rfl B 5 i0 Tryz.underlying41 Tryz.underlying9 hi hz0 hz1 hz2 _ _ _ rfl hown s rfl ?c3 ?c4 ?c5 ?_)
 case c3=>unfold maxLen;omega
 case c4=>omega
 case c5=>have:=hb1.size;omega
 intro v' w2 hown' hgrow _;have hlt:b<w1.heap.size:=lt_of_block hbk;have hb2:w2.heap[b]?=some (.cells #[.pointer (some ⟨b,0,none⟩),v] 172 (0,0)):=by rw[hgrow.block b hlt (λ e=>hne e.symm)];exact hbk
 have d0:w2.cell? ⟨b,0,none⟩=some (.pointer (some ⟨b,0,none⟩)):=by rw[Lib.cell_of_heap hb2];rfl
 have d1:w2.cell? ⟨b,1,none⟩=some v:=by rw[Lib.cell_of_heap hb2];rfl
 have f1:w2.frozen? ⟨b,1,none⟩=false:=Lib.frozen_of_heap hb2 1;obtain⟨ao,n',cap,rfl⟩:∃ao n' cap,v'=.slice ao n' cap:=by
  rcases hown'.2 with⟨hv,_⟩ | ⟨g,cap,cur,hv,_⟩
  ·exact⟨_,_,_,hv⟩
  ·exact⟨_,_,_,hv⟩
 go_wp2
 go_ret2
 refine⟨rfl,?_,?_⟩
 ·exact Lib.BuilderAt.put (T:=172) (e:=5) hB hb2 (bs':=bs++Lib.strCells s) (by simpa [Lib.strCells_length] using hown') (by decide)
 ·exact(hb1.grown hgrow (by have:=hb1.size;omega) (λ k hk=>(hown.lt k hk).1)).setCell (p:=⟨b,1,none⟩) hB _
abbrev Qq0(B b:Nat)(L:List UInt8)(w:World):Prop:=Lib.BuilderAt 172 5 B b (.pointer (some ⟨b,0,none⟩)) (Lib.byteCells L) w
theorem Qrq(L M:List UInt8):Lib.byteCells (L++M)=Lib.byteCells L++Lib.byteCells M:=by unfold Lib.byteCells;rw[List.map_append]
theorem Qrw(L:List UInt8):(Lib.byteCells L).length=L.length:=by unfold Lib.byteCells;rw[List.length_map]
def QuO(B b:Nat)(L:List UInt8)(w:World)(e:Ending)(w':World):Prop:=e=.returned (.tuple #[])/\Qq0 B b L w'/\Below B w w'
theorem Qp3(B b:Nat)(L:List UInt8)(p:ByteArray)(w:World)(h:Qq0 B b L w)(hl:L.length+(8+p.size)<=140737488355328)(hB:B<=w.heap.size):
  Calls Tryz.prog 156 #[.string p,.pointer (some ⟨b,0,none⟩)] w (QuO B b (L++Qay p) w):=by
 have H:=QLh h;have HL:=QLh hl;have HB:=QLh hB;clear h hl hB;have i1:IntKind.u64.wrap ((p.size:Nat):Int)=((p.size:Nat):Int):=IntWalk.u64_in _ (by have:=HL.out;omega)
 go_enter Tryz.func156,Tryz.ntmps156
 go_wp2_with fail;refine(Qrl p.size w (by have:=HL.out;omega)).mono ?_;rintro e w1 ⟨rfl,hb1⟩;have HB1:=QLh hb1;have H1:Hid (Qq0 B b L w1):=QLh (by
  obtain⟨h1,v,h2,h3,h4⟩:=H.out;exact⟨h1,v,(hb1.block _ (lt_of_block h2)).trans h2,Qs h3 hb1,h4⟩)
 clear hb1;go_wp2_with fail;refine(QgJ B b _ (Qdc p.size) w1 (Or.inr H1.out) (by rw[Qrw,QcG];have:=HL.out;omega) (Nat.le_trans HB.out HB1.out.size)).mono ?_;rintro e w2 ⟨rfl,h2,hb2⟩;have H2:Hid (Qq0 B b (L++Ve p.size) w2):=QLh (by show Lib.BuilderAt _ _ _ _ _ (Lib.byteCells _) _;rw[Qrq];exact h2);have HB2:Hid (Below B w w2):=QLh ((HB1.out.mono HB.out).trans hb2);have HBS:Hid (B<=w2.heap.size):=QLh (Nat.le_trans HB.out HB2.out.size);clear h2 hb2;go_wp2_with fail;refine(QgJ B b _ p w2 (Or.inr H2.out) (by rw[Qrw,List.length_append,Xo];have:=HL.out;omega) HBS.out).mono ?_;rintro e w3 ⟨rfl,h3,hb3⟩;have H3:Hid (Qq0 B b (L++Qay p) w3):=QLh (by show Lib.BuilderAt _ _ _ _ _ (Lib.byteCells _) _;unfold Qay;rw[<-List.append_assoc,Qrq];exact h3);have HB3:Hid (Below B w w3):=QLh (HB2.out.trans hb3);clear h3 hb3;go_wp2
 go_end0
 exact⟨rfl,H3.out,HB3.out⟩
theorem QpR{t:ByteArray}(h:t.size≠0):t.toList.isEmpty=false:=by rw[ByteArray.toList_eq];cases t with | mk d=>simp_all [ByteArray.size]
theorem Qjm(tag:ByteArray)(h:tag.size<=16):Lib.byteCells (Qep tag)=[.int .u8 ((tag.size:Nat):Int)]++Lib.strCells tag:=by
 unfold Qep Lib.strCells Lib.byteCells;rw[List.map_cons]
 congr 1
 rw[UInt8.toNat_ofNat',Nat.mod_eq_of_lt (by omega)]
theorem Qnc(tag:ByteArray)(parts:List ByteArray)(a:Option Addr)(cap:Nat)(w:World)(h1:1<=tag.size)(h2:tag.size<=16)(hp:Jk w a parts)(hs:(Jh parts).length<=140737488355300):
  Calls Tryz.prog 96 #[.string tag,.slice a (len parts) cap] w λ e w'=>e=.returned (.string (Uq tag parts))/\Below w.heap.size w w':=by
 have HP:=QLh hp;have HS:=QLh hs;have HT2:=QLh h2;have HT1:=QLh h1;have HPL:Hid (len parts<=140737488355300):=QLh (by have:=QhV parts;rw[Qy];omega);have t1:tag.toList.isEmpty=false:=QpR (by omega);have t2:¬(16:Int)<(tag.size:Int):=by omega
 have t3:IntKind.u8.wrap ((tag.size:Nat):Int)=((tag.size:Nat):Int):=IntWalk.u8_in _ (by omega);clear hp hs h1 h2
 go_enter Tryz.func96,Tryz.ntmps96
 go_upto_region 4 with fail;obtain⟨b,hb⟩:∃b,w.heap.size=b:=⟨_,rfl⟩;rw[hb];obtain⟨V,hV⟩:∃V,w.alloc (.cells #[.pointer none,.slice none 0 0] 172)=V:=⟨_,rfl⟩;rw[hV];have HBW:Hid (w.heap.size<=b):=QLh (Nat.le_of_eq hb);have HI:Hid (Lib.IsBuilder 172 5 b b [] V):=QLh (Or.inl ⟨Nat.le_refl _,_,by rw[<-hV];exact Qg _ hb,World.ownsRow_nil _ _ _ _,by simp[Value.ownBlock]⟩);have HVW:Hid (Below w.heap.size w V):=QLh (by rw[<-hV];exact Qf (Below.refl _ _) _);have HVS:Hid (b<=V.heap.size):=QLh (by rw[<-hb];exact HVW.out.size);clear hV hb;go_wp2_with fail;refine(Qn1 b b [] _ V HI.out (by decide) HVS.out).mono ?_;rintro e w1 ⟨rfl,hb1,hB1⟩;have H1:=QLh hb1;have HS1:Hid (b<=w1.heap.size):=QLh (Nat.le_trans HVS.out hB1.size);have HW1:Hid (Below w.heap.size w w1):=QLh (HVW.out.trans (hB1.mono HBW.out));clear hb1 hB1 t1 t2 t3;go_wp2_with fail;refine(QgJ b b _ tag w1 (Or.inr H1.out) (by have:=HT2.out;show 1+tag.size<=_;omega) HS1.out).mono ?_;rintro e w2 ⟨rfl,hb2,hB2⟩;have H2:Hid (Qq0 b b (Qep tag++Jh (parts.take 0)) w2):=QLh (by
  show Lib.BuilderAt _ _ _ _ _ (Lib.byteCells _) _;rw[List.take_zero,show Jh []=[]from rfl,List.append_nil,Qjm tag HT2.out];exact hb2)
 have HS2:Hid (b<=w2.heap.size):=QLh (Nat.le_trans HS1.out hB2.size);have HW2:Hid (Below w.heap.size w w2):=QLh (HW1.out.trans (hB2.mono HBW.out));clear hb2 hB2;go_wp2
 go_loopg [25,8] (len parts) (λ g i _ wr=>∃m:Nat,g+m=len parts/\i=.int .i64 m/\Hid (Qq0 b b (Qep tag++Jh (parts.take m)) wr)/\Hid (b<=wr.heap.size)/\Hid (Below w.heap.size w wr))
 case atStart=>exact⟨0,rfl,rfl,H2,HS2,HW2⟩
 case round=>
  clear H2 HS2 HW2;obtain⟨m,hm,rfl,H2,HS2,HW2⟩:=hrel;have HPB:=HPL.out
  by_cases hlt:m<len parts
  ·have i1:(m:Int)<(len parts:Nat):=by omega
   obtain⟨pb,po,rfl,hpc⟩:=(HP.out.below HW2.out) m hlt;obtain⟨x,hx⟩:∃x,tth parts m=x:=⟨_,rfl⟩;rw[hx]at hpc;have HX:=QLh hx;clear hx;go_wp2_with fail;refine(Qp3 b b _ x wr H2.out (by
    have h1:=HS.out;have h2:=Qi5 parts (m+1);have h3:=HT2.out;rw[Qao _ _ hlt,List.length_append,HX.out,Jm]at h2;rw[List.length_append,QeC];omega) HS2.out).mono ?_
   rintro e w3 ⟨rfl,h3,hb3⟩;have H3:Hid (Qq0 b b (Qep tag++Jh (parts.take (m+1))) w3):=QLh (by rw[Qao _ _ hlt,HX.out,<-List.append_assoc];exact h3);have HS3:Hid (b<=w3.heap.size):=QLh (Nat.le_trans HS2.out hb3.size);have HW3:Hid (Below w.heap.size w w3):=QLh (HW2.out.trans (hb3.mono HBW.out));clear h3 hb3 hpc;go_wp2
   go_roundg (len parts - (m+1))
   case rel=>exact⟨m+1,by omega,by go_num,H3,HS3,HW3⟩
   case measure=>omega
  ·obtain rfl:m=len parts:=by omega
   have i1:¬((len parts:Nat):Int)<(len parts:Nat):=by omega
   have H4:Hid (Qq0 b b (Qo8 tag parts) wr):=QLh (by have h:=H2.out;rw[Xh]at h;exact h);clear H2 hm hlt;go_wp2_with fail;refine(Tryz.Builder_String_any b b _ wr (Or.inr H4.out) HS2.out).mono ?_;rintro e w4 ⟨rfl,hB4⟩;have HW4:Hid (Below w.heap.size w w4):=QLh (HW2.out.trans (hB4.mono HBW.out));clear hB4;go_wp2;go_ret;exact⟨rfl,HW4.out⟩
theorem Qah(tag:ByteArray)(parts:List ByteArray)(a:Option Addr)(cap:Nat)(w:World)(h1:1<=tag.size)(h2:tag.size<=16)(hp:Jk w a parts)(hs:(Jh parts).length<=140737488355300):
  Calls Tryz.prog 45 #[.string tag,.slice a (len parts) cap] w λ e w'=>e=.returned (.string (Xi tag parts))/\Below w.heap.size w w':=by
 have HF:=QLh (Qnc tag parts a cap w h1 h2 hp hs);have HS:Hid (1<=(Uq tag parts).size/\(Uq tag parts).size<=140737488355328):=QLh (by rw[QeQ];omega);clear h1 h2 hp hs
 go_enter Tryz.func45,Tryz.ntmps45
 go_wp2_with fail;refine HF.out.mono ?_;rintro e w1 ⟨rfl,hb1⟩;have HB1:=QLh hb1;have t1:(Uq tag parts).toList.isEmpty=false:=QpR (by have:=HS.out;omega);clear hb1;go_wp2_with fail;refine(QrS (Uq tag parts) w1 (by have:=HS.out;omega)).mono ?_;rintro e w2 ⟨rfl,hb2⟩;have HB2:Hid (Below w.heap.size w w2):=QLh (Qj HB1.out hb2);clear hb2;go_wp2;go_ret;exact⟨rfl,HB2.out⟩
def Ks(b:Nat)(d:ByteArray)(k0 k1:Option Addr)(w:World):Prop:=w.heap[b]?=some (.cells #[.string d,.pointer k0,.pointer k1] 118 (0,0))
theorem Ks.below{b:Nat}{d:ByteArray}{k0 k1:Option Addr}{w w':World}(h:Ks b d k0 k1 w)(hb:Below w.heap.size w w'):Ks b d k0 k1 w':=(hb.block _ (lt_of_block h)).trans h
theorem Ks.digest{b:Nat}{d:ByteArray}{k0 k1:Option Addr}{w:World}(h:Ks b d k0 k1 w):w.cell? ⟨b,0,none⟩=some (.string d):=by rw[Qa h];rfl
def Qua(d:ByteArray)(w:World)(e:Ending)(w':World):Prop:=∃b,e=.returned (.pointer (some ⟨b,0,none⟩))/\w.heap.size<=b/\Ks b d none none w'/\Below w.heap.size w w'
theorem QaX{w:World}{g:Nat}{cs:Array Value}{t:TypeId}{fr:Nat × Nat}(h:w.heap[g]?=some (.cells cs t fr))(l:List ByteArray)(hl:∀i,i<len l->cs[i]?=some (.string (tth l i))):Jk w (some ⟨g,0,none⟩) l:=λ i hi=>⟨g,0,rfl,by rw[Qa h,Nat.zero_add];exact hl i hi⟩
theorem QmC(s:ByteArray)(w:World)(hs:s.size<=140737488355200):Calls Tryz.prog 94 #[.string s] w (Qua (Xi Kf [s]) w):=by
 have HS:=QLh hs;clear hs
 go_enter Tryz.func94,Tryz.ntmps94
 go_wp2_with fail;have hw1:Jk (w.alloc (.cells #[.string s] 9)) (some ⟨w.heap.size,0,none⟩) [s]:=QaX (heap_alloc_new _ _) [s] (λ i hi=>by
  have:i=0:=by have:i<1:=hi;omega
  subst this;rfl)
 refine(Qah Kf [s] (some ⟨w.heap.size,0,none⟩) 1 _ (by decide) (by decide) hw1 (by have:=HS.out;show((Qay s)++[]).length<=_;rw[List.append_nil,Jm];omega)).mono ?_;rintro e w2 ⟨rfl,hb2⟩;have HB2:Hid (Below w.heap.size w w2):=QLh (Qj (Qf (Below.refl _ _) _) hb2);clear hb2 hw1;obtain⟨H,hH⟩:∃H,Xi Kf [s]=H:=⟨_,rfl⟩;rw[hH];go_wp2;go_ret;exact⟨w2.heap.size,rfl,HB2.out.size,by rw[hH];exact heap_alloc_new _ _,Qf HB2.out _⟩
def Qt4(d:ByteArray)(b0 b1:Nat)(w:World)(e:Ending)(w':World):Prop:=∃b,e=.returned (.pointer (some ⟨b,0,none⟩))/\w.heap.size<=b/\Ks b d (some ⟨b0,0,none⟩) (some ⟨b1,0,none⟩) w'/\Below w.heap.size w w'
theorem Qp4(b0 b1:Nat)(d0 d1:ByteArray)(w:World)(h0:w.cell? ⟨b0,0,none⟩=some (.string d0))(h1:w.cell? ⟨b1,0,none⟩=some (.string d1))(hs:d0.size<=70000000000000/\d1.size<=70000000000000):
  Calls Tryz.prog 92 #[.pointer (some ⟨b0,0,none⟩),.pointer (some ⟨b1,0,none⟩)] w (Qt4 (Xi QaB [d0,d1]) b0 b1 w):=by
 obtain⟨H,hH⟩:∃H,Xi QaB [d0,d1]=H:=⟨_,rfl⟩;rw[hH];have HH:Hid (∀(g:Nat) (wv:World),wv.heap[g]?=some (.cells #[.string d0,.string d1] 9 (0,0))->Calls Tryz.prog 45 #[.string ⟨#[110,111,100,101]⟩,.slice (some ⟨g,0,none⟩) 2 2] wv λ e w'=>e=.returned (.string H)/\Below wv.heap.size wv w'):=QLh (λ g wv hg=>by
  rw[<-hH];refine Qah QaB [d0,d1] (some ⟨g,0,none⟩) 2 wv (by decide) (by decide) (QaX hg [d0,d1] (λ i hi=>by
   have:i=0 \/ i=1:=by have:i<2:=hi;omega
   rcases this with rfl | rfl <;> rfl)) ?_
  show((Qay d0)++((Qay d1)++[])).length<=_;rw[List.append_nil,List.length_append,Jm,Jm];omega)
 have c0:=h0;have c1:=h1;clear hH h0 h1 hs
 go_enter Tryz.func92,Tryz.ntmps92
 go_upto_region 1 with fail;refine Qp 15 1000 (none) (Kx [λ u _=>u=(.pointer (some ⟨b0,0,none⟩)),λ u _=>u=(.pointer (some ⟨b0,0,none⟩)),λ u _=>u=(.pointer (some ⟨b0,0,none⟩)),λ u _=>u=(.string d0),λ u _=>u=(.pointer (some ⟨b1,0,none⟩)),λ u _=>u=(.pointer (some ⟨b1,0,none⟩)),λ u _=>u=(.pointer (some ⟨b1,0,none⟩)),λ u _=>u=(.string d1),λ u w'=>∃g,u=.slice (some ⟨g,0,none⟩) 2 2/\w'.heap[g]?=some (.cells #[.string d0,.string d1] 9 (0,0)),λ u _=>u=(.string H),λ u _=>u=(.pointer (some ⟨b0,0,none⟩)),λ u _=>u=(.pointer (some ⟨b1,0,none⟩)),λ u _=>u=(.agg #[.pointer (some ⟨b0,0,none⟩),.pointer (some ⟨b1,0,none⟩)]),λ u _=>u=(.agg #[.string H,.pointer (some ⟨b0,0,none⟩),.pointer (some ⟨b1,0,none⟩)]),λ u w'=>∃g,u=.pointer (some ⟨g,0,none⟩)/\w.heap.size<=g/\Ks g H (some ⟨b0,0,none⟩) (some ⟨b1,0,none⟩) w']) rfl (by kernel_rfl) (by kernel_rfl) (Q9 ⟨Qd,Qd,Qd,Qd,Qd,Qd,Qd,Qd,?m8,Qd,Qd,Qd,Qd,Qd,?m14,trivial⟩) (Q6 15 ⟨?s0,?s1,?s2,?s3,?s4,?s5,?s6,?s7,?s8,?s9,?s10,?s11,?s12,?s13,?s14,trivial⟩) ?_
 case m8=>exact⟨λ u w1 w' h ⟨b,h1,hb⟩=>⟨b,h1,Zo h hb⟩,λ _ u w1 w' h ⟨b,h1,hb⟩=>⟨b,h1,Qw h (by simp) hb⟩⟩
 case m14=>exact⟨λ u w1 w' h ⟨b,h1,h2,hb⟩=>⟨b,h1,h2,Zo h hb⟩,λ _ u w1 w' h ⟨b,h1,h2,hb⟩=>⟨b,h1,h2,Qw h (by simp) hb⟩⟩
 case s0=>refine qV (λ _=>rfl) rfl λ av wv hE hO hD=>?_;simp[go_sem,qF av 0 (.pointer (some ⟨b0,0,none⟩)) (hO.2.2 0 rfl)]
 case s1=>refine qV (λ _=>rfl) rfl λ av wv hE hO hD=>?_;simp[go_sem,qE (hD.1 rfl _ rfl)]
 case s2=>refine qV (λ _=>rfl) rfl λ av wv hE hO hD=>?_;simp[go_sem,qE (hD.1 rfl _ rfl)]
 case s3=>refine qV (λ _=>rfl) rfl λ av wv hE hO hD=>?_;simp[go_sem,qE (hD.1 rfl _ rfl),Qb hE (by simp) c0,Qb hE (by simp) c1]
 case s4=>refine qV (λ _=>rfl) rfl λ av wv hE hO hD=>?_;simp[go_sem,qF av 1 (.pointer (some ⟨b1,0,none⟩)) (hO.2.2 1 rfl)]
 case s5=>refine qV (λ _=>rfl) rfl λ av wv hE hO hD=>?_;simp[go_sem,qE (hD.1 rfl _ rfl)]
 case s6=>refine qV (λ _=>rfl) rfl λ av wv hE hO hD=>?_;simp[go_sem,qE (hD.1 rfl _ rfl)]
 case s7=>refine qV (λ _=>rfl) rfl λ av wv hE hO hD=>?_;simp[go_sem,qE (hD.1 rfl _ rfl),Qb hE (by simp) c0,Qb hE (by simp) c1]
 case s8=>refine Qu (λ av wv hE hS hO hD=>⟨rfl,?_⟩);have f8:=qE (hD.1 rfl _ rfl);have f12:=qE (hD.2.1 rfl _ rfl);refine Zn (v:=.slice (some ⟨wv.heap.size,0,none⟩) 2 2) (w':=wv.alloc (.cells #[.string d0,.string d1] 9)) (by simp[go_sem,f8,f12]) ⟨_,rfl,Qo (Qf (Zj _) _),wv.heap.size,rfl,heap_alloc_new _ _⟩
 case s9=>refine Qu (λ av wv hE hS hO hD=>⟨rfl,?_⟩);have d13:(λ u w'=>∃g,u=.slice (some ⟨g,0,none⟩) 2 2/\w'.heap[g]?=some (.cells #[.string d0,.string d1] 9 (0,0))) (av.eval (.tmp 13)) wv:=hD.1 rfl _ rfl;obtain⟨g,h13,hg⟩:=d13;have f13:=(Xd av 13).symm.trans h13;refine Zb (v:=.string H) (by simp[go_sem,f13]) (HH.out g wv hg) (λ w2 hb=>⟨_,rfl,Qo hb,rfl⟩)
 case s10=>refine qV (λ _=>rfl) rfl λ av wv hE hO hD=>?_;simp[go_sem,qF av 0 (.pointer (some ⟨b0,0,none⟩)) (hO.2.2 0 rfl)]
 case s11=>refine qV (λ _=>rfl) rfl λ av wv hE hO hD=>?_;simp[go_sem,qF av 1 (.pointer (some ⟨b1,0,none⟩)) (hO.2.2 1 rfl)]
 case s12=>refine qV (λ _=>rfl) rfl λ av wv hE hO hD=>?_;simp[go_sem,qE (hD.1 rfl _ rfl),qE (hD.2.1 rfl _ rfl)]
 case s13=>refine qV (λ _=>rfl) rfl λ av wv hE hO hD=>?_;simp[go_sem,qE (hD.1 rfl _ rfl),qE (hD.2.1 rfl _ rfl)]
 case s14=>refine Qu (λ av wv hE hS hO hD=>⟨rfl,?_⟩);have f18:=qE (hD.1 rfl _ rfl);refine Zn (v:=.pointer (some ⟨wv.heap.size,0,none⟩)) (w':=wv.alloc (.cells #[.string H,.pointer (some ⟨b0,0,none⟩),.pointer (some ⟨b1,0,none⟩)] 118)) (by simp[go_sem,f18]) ⟨_,rfl,Qo (Qf (Zj _) _),wv.heap.size,rfl,(by have:=hE.size;simp at this;omega),heap_alloc_new _ _⟩
 intro a' w' hE hO hall;have hA:=Qn (ds:=[5,6,7,8,9,10,11,12,13,14,15,16,17,18,19]) rfl hO (by kernel_rfl);obtain⟨j0,j1,j2,j3,j4,j5,j6,j7,j8,j9,j10,j11,j12,j13,j14,-⟩:=hall;have e13:(λ u w'=>∃g,u=.slice (some ⟨g,0,none⟩) 2 2/\w'.heap[g]?=some (.cells #[.string d0,.string d1] 9 (0,0))) (a'.eval (.tmp 13)) w':=j8 _ rfl;have e19:(λ u w'=>∃g,u=.pointer (some ⟨g,0,none⟩)/\w.heap.size<=g/\Ks g H (some ⟨b0,0,none⟩) (some ⟨b1,0,none⟩) w') (a'.eval (.tmp 19)) w':=j14 _ rfl;obtain⟨v13,hv13⟩:∃v,a'.eval (.tmp 13)=v:=⟨_,rfl⟩;rw[hv13]at e13;obtain⟨v19,hv19⟩:∃v,a'.eval (.tmp 19)=v:=⟨_,rfl⟩;rw[hv19]at e19;simp only[List.foldl_cons,List.foldl_nil,Act.put,List.setIfInBounds_toArray,List.set_cons_succ,List.set_cons_zero,qJ 5 (j0 _ rfl),qJ 6 (j1 _ rfl),qJ 7 (j2 _ rfl),qJ 8 (j3 _ rfl),qJ 9 (j4 _ rfl),qJ 10 (j5 _ rfl),qJ 11 (j6 _ rfl),qJ 12 (j7 _ rfl),hv13,qJ 14 (j9 _ rfl),qJ 15 (j10 _ rfl),qJ 16 (j11 _ rfl),qJ 17 (j12 _ rfl),qJ 18 (j13 _ rfl),hv19]at hA;clear hO j8 j14 j0 j1 j2 j3 j4 j5 j6 j7 hv13 j9 j10 j11 j12 j13 hv19;subst hA;obtain⟨g,rfl,hg,hn⟩:=e19;have HN:=QLh hn;have HG:=QLh hg;have HW:Hid (Below w.heap.size w w'):=QLh (Q0 hE);clear hn hg hE;go_wp2;go_ret;exact⟨g,rfl,HG.out,HN.out,HW.out⟩
def Zl(els:List ByteArray)(d:Nat):Nat->Nat->Nat->World->Prop
 | 0,k,b,w=>Ks b (plD els d 0 k) none none w
 | l+1,k,b,w=>∃b0 b1,Ks b (plD els d (l+1) k) (some ⟨b0,0,none⟩) (some ⟨b1,0,none⟩) w/\Zl els d l (2 * k) b0 w/\Zl els d l (2 * k+1) b1 w
theorem Zl.below{els:List ByteArray}{d:Nat}:∀{l k b:Nat} {w w':World},Zl els d l k b w->Below w.heap.size w w'->Zl els d l k b w'
 | 0,_,_,_,_,h,hb=>Ks.below h hb
 | l+1,_,_,_,_,⟨b0,b1,h,h0,h1⟩,hb=>⟨b0,b1,h.below hb,h0.below hb,h1.below hb⟩
theorem Zl.digest{els:List ByteArray}{d:Nat}:∀{l k b:Nat} {w:World},Zl els d l k b w->w.cell? ⟨b,0,none⟩=some (.string (plD els d l k))
 | 0,_,_,_,h=>Ks.digest h
 | l+1,_,_,_,⟨b0,b1,h,_,_⟩=>h.digest
theorem Zl.ext{els:List ByteArray}{d l k b:Nat}{w w':World}(h:Zl els d l k b w)(hb:Ext w w'):Zl els d l k b w':=h.below hb
theorem Zl.extB{els:List ByteArray}{d l k b:Nat}{w w':World}(h:Zl els d l k b w)(hb:Xe none w w'):Zl els d l k b w':=h.below (Yb hb)
structure QsF(els:List ByteArray)(d bF bD bE bN nb:Nat)(a:Option Addr)(cap:Nat)(w:World):Prop where
 f:w.heap[bF]?=some (.cells #[.func (.func 91) #[] #[.pointer (some ⟨bF,0,none⟩),.pointer (some ⟨bD,0,none⟩),.pointer (some ⟨bE,0,none⟩),.pointer (some ⟨bN,0,none⟩)]] 119 (0,0))
 d:w.heap[bD]?=some (.cells #[.int .i64 (d:Nat)] 3 (0,0))
 e:w.heap[bE]?=some (.cells #[.slice a (len els) cap] 36 (0,0))
 n:w.heap[bN]?=some (.cells #[.pointer (some ⟨nb,0,none⟩)] 115 (0,0))
 nb:Ks nb (Xi QdC []) none none w
 t:Jk w a els
theorem QsF.below{els:List ByteArray}{d bF bD bE bN nb:Nat}{a:Option Addr}{cap:Nat}{w w':World}(h:QsF els d bF bD bE bN nb a cap w)(hb:Below w.heap.size w w'):QsF els d bF bD bE bN nb a cap w':=
 ⟨(hb.block _ (lt_of_block h.f)).trans h.f,(hb.block _ (lt_of_block h.d)).trans h.d,(hb.block _ (lt_of_block h.e)).trans h.e,(hb.block _ (lt_of_block h.n)).trans h.n,h.nb.below hb,h.t.below hb⟩
def QtZ(els:List ByteArray)(d l k:Nat)(w:World)(e:Ending)(w':World):Prop:=∃g,e=.returned (.pointer (some ⟨g,0,none⟩))/\Zl els d l k g w'/\Below w.heap.size w w'
theorem Qly{k d:Nat}(hd:d<=16)(hk:k<2 ^ d):Zt (k:Nat) (d:Nat)=((Xr k d:Nat):Int):=by
 unfold Zt;rw[if_pos]
 ·simp
 ·refine⟨by omega,by omega,?_⟩
  rw[Int.toNat_natCast,Zr]
  exact_mod_cast hk
theorem QgO{d:Nat}(hd:d<=16):2 ^ d<=65536:=Nat.pow_le_pow_right (by decide) hd
theorem QsO(els:List ByteArray)(d bF bD bE bN nb:Nat)(a:Option Addr)(cap k:Nat)(w:World)(hd:d<=16)(hk:k<2 ^ d)(hn:len els<=65536)(hz:∀i,i<len els->(tth els i).size<=140737488355200)(h:QsF els d bF bD bE bN nb a cap w):
  Calls Tryz.prog 91 #[.int .i64 0,.int .u64 k,.pointer (some ⟨bF,0,none⟩),.pointer (some ⟨bD,0,none⟩),.pointer (some ⟨bE,0,none⟩),.pointer (some ⟨bN,0,none⟩)] w (QtZ els d 0 k w):=by
 have H:=QLh h;have HK:Hid (k<65536):=QLh (Nat.lt_of_lt_of_le hk (QgO hd));have HN:=QLh hn;have HZ:=QLh hz;have HEL:=QLh (Qj5 (k:Nat) (d:Nat) w (by omega) (by have:=HK.out;omega));rw[Qly hd hk]at HEL;have cd:w.cell? ⟨bD,0,none⟩=some (.int .i64 (d:Nat)):=by rw[Qa h.d];rfl
 have ce:w.cell? ⟨bE,0,none⟩=some (.slice a (len els) cap):=by rw[Qa h.e];rfl
 have cn:w.cell? ⟨bN,0,none⟩=some (.pointer (some ⟨nb,0,none⟩)):=by rw[Qa h.n];rfl
 have HPL:Hid (plD els d 0 k=if Xr k d<len els then Xi Kf [tth els (Xr k d)]else Xi QdC []):=QLh rfl;have HRL:Hid (Xr k d<65536):=QLh (Nat.lt_of_lt_of_le (QcC k d) (QgO hd));obtain⟨i,hi⟩:∃i,Xr k d=i:=⟨_,rfl⟩;rw[hi]at HEL HPL HRL;clear h hi hd hk hn hz
 go_enter Tryz.func91,Tryz.ntmps91
 go_wp2_with fail;refine HEL.out.mono ?_;rintro e w1 ⟨rfl,rfl⟩;have HNB:=HN.out;have hil:=HRL.out
 by_cases hlt:i<len els
 ·have i1:(i:Int)<(len els:Nat):=by omega
  have i2:IntKind.u64.wrap ((len els:Nat):Int)=((len els:Nat):Int):=IntWalk.u64_in _ (by omega);obtain⟨pb,po,rfl,hpc⟩:=H.out.t i hlt;obtain⟨x,hx⟩:∃x,tth els i=x:=⟨_,rfl⟩;rw[hx]at hpc;have HX:=QLh hx;clear hx;go_wp2_with fail;refine(QmC x w (by rw[<-HX.out];exact HZ.out i hlt)).mono ?_;rintro e w2 ⟨g,rfl,hg,hn2,hb2⟩;have HE2:Hid (Zl els d 0 k g w2):=QLh (by
   show Ks g (plD els d 0 k) none none w2;rw[HPL.out,if_pos hlt,HX.out];exact hn2)
  have HB2:=QLh hb2;clear hg hn2 hb2 hpc;go_wp2;go_ret;exact⟨g,rfl,HE2.out,HB2.out⟩
 ·have i1:¬(i:Int)<(len els:Nat):=by omega
  have i2:IntKind.u64.wrap ((len els:Nat):Int)=((len els:Nat):Int):=IntWalk.u64_in _ (by omega);have HE2:Hid (Zl els d 0 k nb w):=QLh (by
   show Ks nb (plD els d 0 k) none none w;rw[HPL.out,if_neg hlt];exact H.out.nb)
  clear hlt;go_wp2;go_ret;exact⟨nb,rfl,HE2.out,Below.refl _ _⟩
theorem QrI(els:List ByteArray)(d bF bD bE bN nb:Nat)(a:Option Addr)(cap l k:Nat)(w:World)(hd:l+1<=16)(hk:k<65536)(h:QsF els d bF bD bE bN nb a cap w)
  (hr:∀(k':Nat) (wv:World),Below w.heap.size w wv->(k'=2 * k \/ k'=2 * k+1)->Calls Tryz.prog 91 #[.int .i64 (l:Nat),.int .u64 ((k':Nat):Int),.pointer (some ⟨bF,0,none⟩),.pointer (some ⟨bD,0,none⟩),.pointer (some ⟨bE,0,none⟩),.pointer (some ⟨bN,0,none⟩)] wv (QtZ els d l k' wv)):
  Calls Tryz.prog 91 #[.int .i64 ((l+1:Nat):Int),.int .u64 k,.pointer (some ⟨bF,0,none⟩),.pointer (some ⟨bD,0,none⟩),.pointer (some ⟨bE,0,none⟩),.pointer (some ⟨bN,0,none⟩)] w (QtZ els d (l+1) k w):=by
 have HR:=QLh hr;have K1:2 * k=2 * k \/ 2 * k=2 * k+1:=Or.inl rfl;have K2:2 * k+1=2 * k \/ 2 * k+1=2 * k+1:=Or.inr rfl;have cf:w.cell? ⟨bF,0,none⟩=some (.func (.func 91) #[] #[.pointer (some ⟨bF,0,none⟩),.pointer (some ⟨bD,0,none⟩),.pointer (some ⟨bE,0,none⟩),.pointer (some ⟨bN,0,none⟩)]):=by rw[Qa h.f];rfl
 have l1:(0:Int)<((l+1:Nat):Int):=by omega
 have s1:IntKind.i64.wrap (l:Int)=(l:Int):=IntWalk.i64_in _ (by omega);have m1:IntKind.u64.wrap (2 * (k:Int))=2 * (k:Int):=IntWalk.u64_in _ (by omega);have m2:IntKind.u64.wrap (2 * (k:Int)+1)=2 * (k:Int)+1:=IntWalk.u64_in _ (by omega);clear hr h
 go_enter Tryz.func91,Tryz.ntmps91
 go_upto_region 2 with fail;refine Qp 14 1000 (none) (Kx [λ u _=>u=(.func (.func 91) #[] #[.pointer (some ⟨bF,0,none⟩),.pointer (some ⟨bD,0,none⟩),.pointer (some ⟨bE,0,none⟩),.pointer (some ⟨bN,0,none⟩)]),λ u _=>u=(.int .i64 ((l+1:Nat):Int)),λ u _=>u=(.int .i64 (l:Nat)),λ u _=>u=(.int .u64 k),λ u _=>u=(.int .u64 ((2 * k:Nat):Int)),λ u w'=>∃g,u=.pointer (some ⟨g,0,none⟩)/\Zl els d l (2 * k) g w',λ u _=>u=(.func (.func 91) #[] #[.pointer (some ⟨bF,0,none⟩),.pointer (some ⟨bD,0,none⟩),.pointer (some ⟨bE,0,none⟩),.pointer (some ⟨bN,0,none⟩)]),λ u _=>u=(.int .i64 ((l+1:Nat):Int)),λ u _=>u=(.int .i64 (l:Nat)),λ u _=>u=(.int .u64 k),λ u _=>u=(.int .u64 ((2 * k:Nat):Int)),λ u _=>u=(.int .u64 ((2 * k+1:Nat):Int)),λ u w'=>∃g,u=.pointer (some ⟨g,0,none⟩)/\Zl els d l (2 * k+1) g w',λ u w'=>∃g,u=.pointer (some ⟨g,0,none⟩)/\Zl els d (l+1) k g w']) rfl (by kernel_rfl) (by kernel_rfl) (Q9 ⟨Qd,Qd,Qd,Qd,Qd,?m5,Qd,Qd,Qd,Qd,Qd,Qd,?m12,?m13,trivial⟩) (Q6 14 ⟨?s0,?s1,?s2,?s3,?s4,?s5,?s6,?s7,?s8,?s9,?s10,?s11,?s12,?s13,trivial⟩) ?_
 case m5=>exact⟨λ u w1 w' h ⟨b,h1,hb⟩=>⟨b,h1,hb.ext h⟩,λ _ u w1 w' h ⟨b,h1,hb⟩=>⟨b,h1,hb.extB h⟩⟩
 case m12=>exact⟨λ u w1 w' h ⟨b,h1,hb⟩=>⟨b,h1,hb.ext h⟩,λ _ u w1 w' h ⟨b,h1,hb⟩=>⟨b,h1,hb.extB h⟩⟩
 case m13=>exact⟨λ u w1 w' h ⟨b,h1,hb⟩=>⟨b,h1,hb.ext h⟩,λ _ u w1 w' h ⟨b,h1,hb⟩=>⟨b,h1,hb.extB h⟩⟩
 case s0=>refine qV (λ _=>rfl) rfl λ av wv hE hO hD=>?_;simp[go_sem,qF av 2 (.pointer (some ⟨bF,0,none⟩)) (hO.2.2 2 rfl),Qb hE (by simp) cf,s1,m1,m2]
 case s1=>refine qV (λ _=>rfl) rfl λ av wv hE hO hD=>?_;simp[go_sem,qF av 0 (.int .i64 ((l+1:Nat):Int)) (hO.2.2 0 rfl),s1,m1,m2]
 case s2=>refine qV (λ _=>rfl) rfl λ av wv hE hO hD=>?_;simp[go_sem,qE (hD.1 rfl _ rfl),s1,m1,m2]
 case s3=>refine qV (λ _=>rfl) rfl λ av wv hE hO hD=>?_;simp[go_sem,qF av 1 (.int .u64 k) (hO.2.2 1 rfl),s1,m1,m2]
 case s4=>refine qV (λ _=>rfl) rfl λ av wv hE hO hD=>?_;simp[go_sem,qE (hD.1 rfl _ rfl),s1,m1,m2]
 case s5=>refine Qu (λ av wv hE hS hO hD=>⟨rfl,?_⟩);have f12:=qE (hD.1 rfl _ rfl);have f14:=qE (hD.2.1 rfl _ rfl);have f16:=qE (hD.2.2.1 rfl _ rfl);refine Vs (R:=λ u w2=>(∃g,u=.pointer (some ⟨g,0,none⟩)/\Zl els d l (2 * k) g w2)/\Below wv.heap.size wv w2) (f:=91) (args:=#[.int .i64 (l:Nat),.int .u64 ((2 * k:Nat):Int),.pointer (some ⟨bF,0,none⟩),.pointer (some ⟨bD,0,none⟩),.pointer (some ⟨bE,0,none⟩),.pointer (some ⟨bN,0,none⟩)]) (by simp[go_sem,f12,f14,f16]) ((HR.out (2 * k) wv (Q0 hE) K1).mono (λ e w2 ⟨g,h1,h2,h3⟩=>⟨_,h1,⟨g,rfl,h2⟩,h3⟩)) (λ u w2 ⟨h1,h2⟩=>⟨_,rfl,Qo h2,h1⟩)
 case s6=>refine qV (λ _=>rfl) rfl λ av wv hE hO hD=>?_;simp[go_sem,qF av 2 (.pointer (some ⟨bF,0,none⟩)) (hO.2.2 2 rfl),Qb hE (by simp) cf,s1,m1,m2]
 case s7=>refine qV (λ _=>rfl) rfl λ av wv hE hO hD=>?_;simp[go_sem,qF av 0 (.int .i64 ((l+1:Nat):Int)) (hO.2.2 0 rfl),s1,m1,m2]
 case s8=>refine qV (λ _=>rfl) rfl λ av wv hE hO hD=>?_;simp[go_sem,qE (hD.1 rfl _ rfl),s1,m1,m2]
 case s9=>refine qV (λ _=>rfl) rfl λ av wv hE hO hD=>?_;simp[go_sem,qF av 1 (.int .u64 k) (hO.2.2 1 rfl),s1,m1,m2]
 case s10=>refine qV (λ _=>rfl) rfl λ av wv hE hO hD=>?_;simp[go_sem,qE (hD.1 rfl _ rfl),s1,m1,m2]
 case s11=>refine qV (λ _=>rfl) rfl λ av wv hE hO hD=>?_;simp[go_sem,qE (hD.1 rfl _ rfl),s1,m1,m2]
 case s12=>refine Qu (λ av wv hE hS hO hD=>⟨rfl,?_⟩);have f18:=qE (hD.1 rfl _ rfl);have f20:=qE (hD.2.1 rfl _ rfl);have f23:=qE (hD.2.2.1 rfl _ rfl);refine Vs (R:=λ u w2=>(∃g,u=.pointer (some ⟨g,0,none⟩)/\Zl els d l (2 * k+1) g w2)/\Below wv.heap.size wv w2) (f:=91) (args:=#[.int .i64 (l:Nat),.int .u64 ((2 * k+1:Nat):Int),.pointer (some ⟨bF,0,none⟩),.pointer (some ⟨bD,0,none⟩),.pointer (some ⟨bE,0,none⟩),.pointer (some ⟨bN,0,none⟩)]) (by simp[go_sem,f18,f20,f23]) ((HR.out (2 * k+1) wv (Q0 hE) K2).mono (λ e w2 ⟨g,h1,h2,h3⟩=>⟨_,h1,⟨g,rfl,h2⟩,h3⟩)) (λ u w2 ⟨h1,h2⟩=>⟨_,rfl,Qo h2,h1⟩)
 case s13=>refine Qu (λ av wv hE hS hO hD=>⟨rfl,?_⟩);have d17:(λ u w'=>∃g,u=.pointer (some ⟨g,0,none⟩)/\Zl els d l (2 * k) g w') (av.eval (.tmp 17)) wv:=hD.1 rfl _ rfl;have d24:(λ u w'=>∃g,u=.pointer (some ⟨g,0,none⟩)/\Zl els d l (2 * k+1) g w') (av.eval (.tmp 24)) wv:=hD.2.1 rfl _ rfl;obtain⟨g0,h17,hg0⟩:=d17;obtain⟨g1,h24,hg1⟩:=d24;have f17:=(Xd av 17).symm.trans h17;have f24:=(Xd av 24).symm.trans h24;refine Vs (R:=λ u w2=>∃g,u=.pointer (some ⟨g,0,none⟩)/\Ks g (plD els d (l+1) k) (some ⟨g0,0,none⟩) (some ⟨g1,0,none⟩) w2/\Below wv.heap.size wv w2) (f:=92) (args:=#[.pointer (some ⟨g0,0,none⟩),.pointer (some ⟨g1,0,none⟩)]) (by simp[go_sem,f17,f24]) ((Qp4 g0 g1 (plD els d l (2 * k)) (plD els d l (2 * k+1)) wv hg0.digest hg1.digest ⟨by rw[Qaa];decide,by rw[Qaa];decide⟩).mono (λ e w2 ⟨g,h1,_,h2,h3⟩=>⟨_,h1,g,rfl,h2,h3⟩)) (λ u w2 ⟨g,h1,h2,h3⟩=>⟨_,rfl,Qo h3,g,h1,g0,g1,h2,hg0.below h3,hg1.below h3⟩)
 intro a' w' hE hO hall;have hA:=Qn (ds:=[12,13,14,15,16,17,18,19,20,21,22,23,24,25]) rfl hO (by kernel_rfl);obtain⟨j0,j1,j2,j3,j4,j5,j6,j7,j8,j9,j10,j11,j12,j13,-⟩:=hall;have e17:(λ u w'=>∃g,u=.pointer (some ⟨g,0,none⟩)/\Zl els d l (2 * k) g w') (a'.eval (.tmp 17)) w':=j5 _ rfl;have e24:(λ u w'=>∃g,u=.pointer (some ⟨g,0,none⟩)/\Zl els d l (2 * k+1) g w') (a'.eval (.tmp 24)) w':=j12 _ rfl;have e25:(λ u w'=>∃g,u=.pointer (some ⟨g,0,none⟩)/\Zl els d (l+1) k g w') (a'.eval (.tmp 25)) w':=j13 _ rfl;obtain⟨v17,hv17⟩:∃v,a'.eval (.tmp 17)=v:=⟨_,rfl⟩;rw[hv17]at e17;obtain⟨v24,hv24⟩:∃v,a'.eval (.tmp 24)=v:=⟨_,rfl⟩;rw[hv24]at e24;obtain⟨v25,hv25⟩:∃v,a'.eval (.tmp 25)=v:=⟨_,rfl⟩;rw[hv25]at e25;simp only[List.foldl_cons,List.foldl_nil,Act.put,List.setIfInBounds_toArray,List.set_cons_succ,List.set_cons_zero,qJ 12 (j0 _ rfl),qJ 13 (j1 _ rfl),qJ 14 (j2 _ rfl),qJ 15 (j3 _ rfl),qJ 16 (j4 _ rfl),hv17,qJ 18 (j6 _ rfl),qJ 19 (j7 _ rfl),qJ 20 (j8 _ rfl),qJ 21 (j9 _ rfl),qJ 22 (j10 _ rfl),qJ 23 (j11 _ rfl),hv24,hv25]at hA;clear hO j5 j12 j13 j0 j1 j2 j3 j4 hv17 j6 j7 j8 j9 j10 j11 hv24 hv25;subst hA;obtain⟨g,rfl,hg⟩:=e25;have HG:=QLh hg;have HW:Hid (Below w.heap.size w w'):=QLh (Q0 hE);clear hg hE e17 e24;go_wp2;go_ret;exact⟨g,rfl,HG.out,HW.out⟩
theorem Qrr(els:List ByteArray)(d bF bD bE bN nb:Nat)(a:Option Addr)(cap:Nat)(hd:d<=16)(hn:len els<=65536)(hz:∀i,i<len els->(tth els i).size<=140737488355200):
  ∀(l k:Nat) (w:World),l<=d->k<2 ^ (d - l)->QsF els d bF bD bE bN nb a cap w->
  Calls Tryz.prog 91 #[.int .i64 (l:Nat),.int .u64 k,.pointer (some ⟨bF,0,none⟩),.pointer (some ⟨bD,0,none⟩),.pointer (some ⟨bE,0,none⟩),.pointer (some ⟨bN,0,none⟩)] w (QtZ els d l k w)
 | 0,k,w,_,hk,h=>QsO els d bF bD bE bN nb a cap k w hd (by simpa using hk) hn hz h
 | l+1,k,w,hl,hk,h=>by
  have h2:2 ^ (d - (l+1))<=65536:=Nat.le_trans (Nat.pow_le_pow_right (by decide) (show d - (l+1)<=16 by omega)) (by decide);refine QrI els d bF bD bE bN nb a cap l k w (by omega) (by omega) h λ k' wv hb hk'=>?_;refine Qrr els d bF bD bE bN nb a cap hd hn hz l k' wv (by omega) ?_ (h.below hb);have:2 ^ (d - l)=2 * 2 ^ (d - (l+1)):=by rw[show d - l=(d - (l+1))+1 by omega,Nat.pow_succ];omega
  rcases hk' with rfl | rfl <;> omega
def Qa1(els:List ByteArray):Nat:=Lib.bitLen (len els - 1)
theorem QaG{els:List ByteArray}(h:len els<=65536):Qa1 els<=16:=(Qci (len els) h).1
theorem Yw{els:List ByteArray}(h:len els<=65536):Xy (len els:Nat)=((Qa1 els:Nat):Int):=by unfold Xy Qa1;rw[if_neg (by omega),Int.toNat_natCast]
def QaM(els:List ByteArray)(b:Nat)(w:World):Prop:=∃p,w.heap[b]?=some (.cells #[.pointer (some ⟨p,0,none⟩),.int .i64 (Qa1 els:Nat),.int .i64 (len els:Nat)] 124 (0,0))/\Zl els (Qa1 els) (Qa1 els) 0 p w
theorem QaM.below{els:List ByteArray}{b:Nat}{w w':World}(h:QaM els b w)(hb:Below w.heap.size w w'):QaM els b w':=by obtain⟨p,h1,h2⟩:=h;exact⟨p,(hb.block _ (lt_of_block h1)).trans h1,h2.below hb⟩
def QsU(els:List ByteArray)(w:World)(e:Ending)(w':World):Prop:=∃b,e=.returned (.tuple #[.pointer (some ⟨b,0,none⟩),.int .i64 0])/\w.heap.size<=b/\QaM els b w'/\Below w.heap.size w w'
theorem Qij(els:List ByteArray)(a:Option Addr)(cap:Nat)(w:World)(ht:Jk w a els)(hn:len els<=65536)(hz:∀i,i<len els->(tth els i).size<=140737488355200):
  Calls Tryz.prog 42 #[.slice a (len els) cap] w (QsU els w):=by
 have HT:=QLh ht;have HN:=QLh hn;have HZ:=QLh hz;obtain⟨d,hd⟩:∃d,Qa1 els=d:=⟨_,rfl⟩;have HDD:=QLh hd;have HD16:Hid (d<=16):=QLh (by rw[<-hd];exact QaG hn);have HDZ:Hid (Xy (len els:Nat)=((d:Nat):Int)):=QLh (by rw[<-hd];exact Yw hn);have n1:¬(65536:Int)<(len els:Nat):=by omega
 clear ht hz hd
 go_enter Tryz.func42,Tryz.ntmps42
 go_wp2_with fail;refine(Qir (len els:Nat) _ (by omega) (by omega)).mono ?_;rintro e w1 ⟨rfl,rfl⟩;rw[HDZ.out];clear n1 hn;go_wp2_with fail;obtain⟨bE,hbE⟩:∃bE,w.heap.size=bE:=⟨_,rfl⟩;obtain⟨bD,hbD⟩:∃bD,w.heap.size+1=bD:=⟨_,rfl⟩;rw[hbD,hbE];obtain⟨V,hV⟩:∃V,(w.alloc (.cells #[.slice a (len els) cap] 36)).alloc (.cells #[.int .i64 (d:Nat)] 3)=V:=⟨_,rfl⟩;rw[hV];have HVE:Hid (V.heap[bE]?=some (.cells #[.slice a (len els) cap] 36 (0,0))):=QLh (by rw[<-hV];exact Qe (Qg _ hbE) _);have HVD:Hid (V.heap[bD]?=some (.cells #[.int .i64 (d:Nat)] 3 (0,0))):=QLh (by rw[<-hV];exact Qg _ (by rw[Q3 _ rfl];exact hbD));have HVW:Hid (Below w.heap.size w V):=QLh (by rw[<-hV];exact Qf (Qf (Below.refl _ _) _) _);clear hV hbE hbD;refine(Qah QdC [] none 0 V (by decide) (by decide) (Jk.nil _ _) (by decide)).mono ?_;rintro e w2 ⟨rfl,hb2⟩;have H2E:Hid (w2.heap[bE]?=some (.cells #[.slice a (len els) cap] 36 (0,0))):=QLh ((hb2.block _ (lt_of_block HVE.out)).trans HVE.out);have H2D:Hid (w2.heap[bD]?=some (.cells #[.int .i64 (d:Nat)] 3 (0,0))):=QLh ((hb2.block _ (lt_of_block HVD.out)).trans HVD.out);have H2W:Hid (Below w.heap.size w w2):=QLh (Qj HVW.out hb2);obtain⟨Hn,hHn⟩:∃Hn,Xi QdC []=Hn:=⟨_,rfl⟩;rw[hHn];have HHN:=QLh hHn;clear hb2 hHn HVE HVD HVW;go_upto_region 7 with fail;obtain⟨nb,hnb⟩:∃nb,w2.heap.size=nb:=⟨_,rfl⟩;obtain⟨bN,hbN⟩:∃bN,w2.heap.size+1=bN:=⟨_,rfl⟩;obtain⟨bF,hbF⟩:∃bF,w2.heap.size+1+1=bF:=⟨_,rfl⟩;rw[hbF,hbN,hnb];obtain⟨U,hU⟩:∃U,(((w2.alloc (.cells #[.string Hn,.pointer none,.pointer none] 118)).alloc (.cells #[.pointer (some ⟨nb,0,none⟩)] 115)).alloc (.cells #[.func (.func 91) #[] #[.pointer (some ⟨bF,0,none⟩),.pointer (some ⟨bD,0,none⟩),.pointer (some ⟨bE,0,none⟩),.pointer (some ⟨bN,0,none⟩)]] 119))=U:=⟨_,rfl⟩;rw[hU];have HEN:Hid (QsF els d bF bD bE bN nb a cap U):=QLh (by
  have hbw:Below w.heap.size w U:=by rw[<-hU];exact Qf (Qf (Qf H2W.out _) _) _
  refine⟨?_,?_,?_,?_,?_,HT.out.below hbw⟩
  ·rw[<-hU];exact Qg _ (by rw[Q3 _ (Q3 _ rfl)];exact hbF)
  ·rw[<-hU];exact Qe (Qe (Qe H2D.out _) _) _
  ·rw[<-hU];exact Qe (Qe (Qe H2E.out _) _) _
  ·rw[<-hU];exact Qe (Qg _ (by rw[Q3 _ rfl];exact hbN)) _
  ·rw[<-hU,HHN.out];exact Qe (Qe (Qg _ hnb) _) _)
 have HUW:Hid (Below w.heap.size w U):=QLh (by rw[<-hU];exact Qf (Qf (Qf H2W.out _) _) _);have HVS:Hid (w.heap.size<=U.heap.size):=QLh HUW.out.size;have HA:Hid (∀wv:World,Below U.heap.size U wv->Calls Tryz.prog 91 #[.int .i64 (d:Nat),.int .u64 0,.pointer (some ⟨bF,0,none⟩),.pointer (some ⟨bD,0,none⟩),.pointer (some ⟨bE,0,none⟩),.pointer (some ⟨bN,0,none⟩)] wv (QtZ els d d 0 wv)):=QLh (λ wv hb=>Qrr els d bF bD bE bN nb a cap HD16.out HN.out HZ.out d 0 wv (Nat.le_refl _) (Nat.two_pow_pos _) (HEN.out.below hb));have cf:U.cell? ⟨bF,0,none⟩=some (.func (.func 91) #[] #[.pointer (some ⟨bF,0,none⟩),.pointer (some ⟨bD,0,none⟩),.pointer (some ⟨bE,0,none⟩),.pointer (some ⟨bN,0,none⟩)]):=by rw[Qa HEN.out.f];rfl
 have cd:U.cell? ⟨bD,0,none⟩=some (.int .i64 (d:Nat)):=by rw[Qa HEN.out.d];rfl
 have ce:U.cell? ⟨bE,0,none⟩=some (.slice a (len els) cap):=by rw[Qa HEN.out.e];rfl
 clear hU hnb hbN hbF H2D H2E H2W;refine Qp 8 1000 (none) (Kx [λ u _=>u=(.func (.func 91) #[] #[.pointer (some ⟨bF,0,none⟩),.pointer (some ⟨bD,0,none⟩),.pointer (some ⟨bE,0,none⟩),.pointer (some ⟨bN,0,none⟩)]),λ u _=>u=(.int .i64 (d:Nat)),λ u w'=>∃g,u=.pointer (some ⟨g,0,none⟩)/\Zl els d d 0 g w',λ u _=>u=(.int .i64 (d:Nat)),λ u _=>u=(.slice a (len els) cap),λ u _=>u=(.int .i64 (len els)),λ u w'=>∃g,u=.agg #[.pointer (some ⟨g,0,none⟩),.int .i64 (d:Nat),.int .i64 (len els)]/\Zl els d d 0 g w',λ u w'=>∃b,u=.pointer (some ⟨b,0,none⟩)/\w.heap.size<=b/\QaM els b w']) rfl (by kernel_rfl) (by kernel_rfl) (Q9 ⟨Qd,Qd,?m2,Qd,Qd,Qd,?m6,?m7,trivial⟩) (Q6 8 ⟨?s0,?s1,?s2,?s3,?s4,?s5,?s6,?s7,trivial⟩) ?_
 case m2=>exact⟨λ u w1 w' h ⟨b,h1,hb⟩=>⟨b,h1,hb.ext h⟩,λ _ u w1 w' h ⟨b,h1,hb⟩=>⟨b,h1,hb.extB h⟩⟩
 case m6=>exact⟨λ u w1 w' h ⟨b,h1,hb⟩=>⟨b,h1,hb.ext h⟩,λ _ u w1 w' h ⟨b,h1,hb⟩=>⟨b,h1,hb.extB h⟩⟩
 case m7=>exact⟨λ u w1 w' h ⟨b,h1,h2,hb⟩=>⟨b,h1,h2,hb.below h⟩,λ _ u w1 w' h ⟨b,h1,h2,hb⟩=>⟨b,h1,h2,hb.below (Yb h)⟩⟩
 case s0=>refine qV (λ _=>rfl) rfl λ av wv hE hO hD=>?_;simp[go_sem,qF av 6 (.pointer (some ⟨bF,0,none⟩)) (hO.2.2 6 rfl),Qb hE (by simp) cf,Qb hE (by simp) cd,Qb hE (by simp) ce]
 case s1=>refine qV (λ _=>rfl) rfl λ av wv hE hO hD=>?_;simp[go_sem,qF av 4 (.pointer (some ⟨bD,0,none⟩)) (hO.2.2 4 rfl),Qb hE (by simp) cf,Qb hE (by simp) cd,Qb hE (by simp) ce]
 case s2=>refine Qu (λ av wv hE hS hO hD=>⟨rfl,?_⟩);have f17:=qE (hD.1 rfl _ rfl);have f18:=qE (hD.2.1 rfl _ rfl);refine Vs (R:=λ u w2=>(∃g,u=.pointer (some ⟨g,0,none⟩)/\Zl els d d 0 g w2)/\Below wv.heap.size wv w2) (f:=91) (args:=#[.int .i64 (d:Nat),.int .u64 0,.pointer (some ⟨bF,0,none⟩),.pointer (some ⟨bD,0,none⟩),.pointer (some ⟨bE,0,none⟩),.pointer (some ⟨bN,0,none⟩)]) (by simp[go_sem,f17,f18]) ((HA.out wv (Q0 hE)).mono (λ e w2 ⟨g,h1,h2,h3⟩=>⟨_,h1,⟨g,rfl,h2⟩,h3⟩)) (λ u w2 ⟨h1,h2⟩=>⟨_,rfl,Qo h2,h1⟩)
 case s3=>refine qV (λ _=>rfl) rfl λ av wv hE hO hD=>?_;simp[go_sem,qF av 4 (.pointer (some ⟨bD,0,none⟩)) (hO.2.2 4 rfl),Qb hE (by simp) cf,Qb hE (by simp) cd,Qb hE (by simp) ce]
 case s4=>refine qV (λ _=>rfl) rfl λ av wv hE hO hD=>?_;simp[go_sem,qF av 1 (.pointer (some ⟨bE,0,none⟩)) (hO.2.2 1 rfl),Qb hE (by simp) cf,Qb hE (by simp) cd,Qb hE (by simp) ce]
 case s5=>refine qV (λ _=>rfl) rfl λ av wv hE hO hD=>?_;simp[go_sem,qE (hD.1 rfl _ rfl)]
 case s6=>refine Qu (λ av wv hE hS hO hD=>⟨rfl,?_⟩);have d19:(λ u w'=>∃g,u=.pointer (some ⟨g,0,none⟩)/\Zl els d d 0 g w') (av.eval (.tmp 19)) wv:=hD.1 rfl _ rfl;have f20:=qE (hD.2.1 rfl _ rfl);have f22:=qE (hD.2.2.1 rfl _ rfl);obtain⟨g,h19,hg⟩:=d19;have f19:=(Xd av 19).symm.trans h19;exact Zn (v:=.agg #[.pointer (some ⟨g,0,none⟩),.int .i64 (d:Nat),.int .i64 (len els)]) (by simp[go_sem,f19,f20,f22]) ⟨_,rfl,Qo (Zj _),g,rfl,hg⟩
 case s7=>
  refine Qu (λ av wv hE hS hO hD=>⟨rfl,?_⟩);have d23:(λ u w'=>∃g,u=.agg #[.pointer (some ⟨g,0,none⟩),.int .i64 (d:Nat),.int .i64 (len els)]/\Zl els d d 0 g w') (av.eval (.tmp 23)) wv:=hD.1 rfl _ rfl;obtain⟨g,h23,hg⟩:=d23;have f23:=(Xd av 23).symm.trans h23;refine Zn (v:=.pointer (some ⟨wv.heap.size,0,none⟩)) (w':=wv.alloc (.cells #[.pointer (some ⟨g,0,none⟩),.int .i64 (d:Nat),.int .i64 (len els)] 124)) (by simp[go_sem,f23]) ⟨_,rfl,Qo (Qf (Zj _) _),wv.heap.size,rfl,(by have:=hE.size;have:=HVS.out;simp at *;omega),g,?_,?_⟩
  ·rw[HDD.out];exact heap_alloc_new _ _
  ·rw[HDD.out];exact hg.below (Qf (Below.refl _ _) _)
 intro a' w' hE hO hall;have hA:=Qn (ds:=[17,18,19,20,21,22,23,24]) rfl hO (by kernel_rfl);obtain⟨j0,j1,j2,j3,j4,j5,j6,j7,-⟩:=hall;have e19:(λ u w'=>∃g,u=.pointer (some ⟨g,0,none⟩)/\Zl els d d 0 g w') (a'.eval (.tmp 19)) w':=j2 _ rfl;have e23:(λ u w'=>∃g,u=.agg #[.pointer (some ⟨g,0,none⟩),.int .i64 (d:Nat),.int .i64 (len els)]/\Zl els d d 0 g w') (a'.eval (.tmp 23)) w':=j6 _ rfl;have e24:(λ u w'=>∃b,u=.pointer (some ⟨b,0,none⟩)/\w.heap.size<=b/\QaM els b w') (a'.eval (.tmp 24)) w':=j7 _ rfl;obtain⟨v19,hv19⟩:∃v,a'.eval (.tmp 19)=v:=⟨_,rfl⟩;rw[hv19]at e19;obtain⟨v23,hv23⟩:∃v,a'.eval (.tmp 23)=v:=⟨_,rfl⟩;rw[hv23]at e23;obtain⟨v24,hv24⟩:∃v,a'.eval (.tmp 24)=v:=⟨_,rfl⟩;rw[hv24]at e24;simp only[List.foldl_cons,List.foldl_nil,Act.put,List.setIfInBounds_toArray,List.set_cons_succ,List.set_cons_zero,qJ 17 (j0 _ rfl),qJ 18 (j1 _ rfl),hv19,qJ 20 (j3 _ rfl),qJ 21 (j4 _ rfl),qJ 22 (j5 _ rfl),hv23,hv24]at hA;clear hO j2 j6 j7 j0 j1 hv19 j3 j4 j5 hv23 hv24;subst hA;obtain⟨g,rfl,hg,ht⟩:=e24;have HG:Hid (w.heap.size<=g):=QLh hg;have HT2:=QLh ht;have HW:Hid (Below w.heap.size w w'):=QLh (Qj HUW.out (Q0 hE));clear hg ht hE e19 e23;go_wp2
 go_ret2
 exact⟨g,rfl,HG.out,HT2.out,HW.out⟩
theorem QqZ(els:List ByteArray)(b:Nat)(w:World)(h:QaM els b w):Calls Tryz.prog 43 #[.pointer (some ⟨b,0,none⟩)] w λ e w'=>e=.returned (.string (plD els (Qa1 els) (Qa1 els) 0))/\w=w':=by
 obtain⟨p,h1,h2⟩:=h;have c0:w.cell? ⟨b,0,none⟩=some (.pointer (some ⟨p,0,none⟩)):=by rw[Qa h1];rfl
 have c1:=h2.digest;clear h1 h2
 go_enter Tryz.func43,Tryz.ntmps43
 go_wp2;go_ret;exact⟨rfl,rfl⟩
theorem QlH(els:List ByteArray)(b:Nat)(w:World)(h:QaM els b w):Calls Tryz.prog 66 #[.pointer (some ⟨b,0,none⟩)] w λ e w'=>e=.returned (.int .i64 (Qa1 els:Nat))/\w=w':=by
 obtain⟨p,h1,h2⟩:=h;have c0:w.cell? ⟨b,1,none⟩=some (.int .i64 (Qa1 els:Nat)):=by rw[Qa h1];rfl
 clear h1 h2
 go_enter Tryz.func66,Tryz.ntmps66
 go_wp2;go_ret;exact⟨rfl,rfl⟩
theorem QpQ(els:List ByteArray)(b:Nat)(w:World)(h:QaM els b w):Calls Tryz.prog 99 #[.pointer (some ⟨b,0,none⟩)] w λ e w'=>e=.returned (.int .i64 (len els:Nat))/\w=w':=by
 obtain⟨p,h1,h2⟩:=h;have c0:w.cell? ⟨b,2,none⟩=some (.int .i64 (len els:Nat)):=by rw[Qa h1];rfl
 clear h1 h2
 go_enter Tryz.func99,Tryz.ntmps99
 go_wp2;go_ret;exact⟨rfl,rfl⟩
theorem Qdp:∀(s:Nat) (rs:List (List Int)) (x:Int × Int),x ∈ Xj s rs->∃j,j<rs.length/\∃k ∈ Jj rs j,x=(((s+j:Nat):Int),k)
 | _,[],x,h=>by simp[Xj]at h
 | s,r :: rs,x,h=>by
  rw[Xj,List.mem_append]at h
  rcases h with h | h
  ·obtain⟨k,hk,rfl⟩:=List.mem_map.1 h
   exact⟨0,by simp,k,by simpa [Jj] using hk,rfl⟩
  ·obtain⟨j,hj,k,hk,rfl⟩:=Qdp (s+1) rs x h
   refine⟨j+1,by simp;omega,k,by simpa [Jj] using hk,?_⟩;rw[show s+1+j=s+(j+1)by omega]
theorem Qkc{k:Int}{e:Nat}(h0:0<=k)(h1:k<2 ^ (e+1)):0<=sib k/\sib k<2 ^ (e+1):=by
 have h2:(2:Int) ^ (e+1)=2 * 2 ^ e:=by rw[Int.pow_succ];omega
 rw[h2]at h1 ⊢;generalize (2:Int) ^ e=p at h1 ⊢;unfold sib
 split <;> omega
theorem QgX{y:Int}{d i:Nat}(h0:0<=y)(h1:y<2 ^ d)(hi:i<=d):0<=y / 2 ^ i/\y / 2 ^ i<2 ^ (d - i):=by
 obtain⟨n,rfl⟩:=Int.eq_ofNat_of_zero_le h0;rw[Zr]at h1;have h3:n<2 ^ d:=by exact_mod_cast h1
 have h4:n / 2 ^ i<2 ^ (d - i):=by apply Nat.div_lt_of_lt_mul;rw[<-Nat.pow_add,show i+(d - i)=d by omega];exact h3
 rw[Zr,Zr]
 constructor
 ·exact Int.ediv_nonneg h0 (Int.natCast_nonneg _)
 ·exact_mod_cast h4
theorem Qr4{leaves:List Int}{d:Nat}(hd:d<=16)(h:∀y ∈ leaves,0<=y/\y<2 ^ d):∀x ∈ Xu (Z4 leaves (d:Nat)),∃i k:Nat,x=((i:Int),(k:Int))/\i<d/\k<2 ^ (d - i):=by
 intro x hx;obtain⟨i,hi,k,hk,rfl⟩:=Qdp 0 _ x hx;unfold Z4 at hi hk
 split at hi
 ·rename_i hc
  rw[if_pos hc,Int.toNat_natCast]at hk;rw[Int.toNat_natCast]at hi;unfold Za at hi hk;rw[List.length_map,List.length_range]at hi;rw[K7 _ i (by simpa using hi)]at hk;simp only[List.getElem_map,List.getElem_range]at hk;unfold Qat at hk;rw[Qen,Ut]at hk;obtain⟨⟨j,hj,rfl⟩,_⟩:=hk;rw[(Yf _).2.1,List.mem_map]at hj;obtain⟨y,hy,rfl⟩:=hj;have h1:=QgX (h y hy).1 (h y hy).2 (Nat.le_of_lt hi);obtain⟨e,he⟩:∃e,d - i=e+1:=⟨d - i - 1,by omega⟩;rw[he]at h1;have h2:=Qkc h1.1 h1.2;refine⟨i,(sib (y / 2 ^ i)).toNat,?_,hi,?_⟩
  ·rw[Int.toNat_of_nonneg h2.1,Nat.zero_add]
  ·rw[he]
   have h3:=h2.2;rw[Zr]at h3;exact(Int.toNat_lt h2.1).2 h3
 ·simp at hi
theorem Kc{l:List Int}{d:Nat}(hd:d<=16):∀y ∈ Qr l (d:Nat),0<=y/\y<2 ^ d:=by
 intro y hy;obtain⟨k,_,rfl⟩:=List.mem_map.1 hy;unfold Zt
 split
 ·have:=QcC k.toNat ((d:Nat):Int).toNat
  rw[Int.toNat_natCast]at this ⊢;rw[Zr];omega
 ·rw[Zr]
  have:=Nat.two_pow_pos d;omega
def Vf(els:List ByteArray)(L:List (Int × Int)):List ByteArray:=L.map λ x=>plD els (Qa1 els) x.1.toNat x.2.toNat
theorem QhO(els:List ByteArray)(L:List (Int × Int))(x:Int × Int):Vf els (L++[x])=Vf els L++[plD els (Qa1 els) x.1.toNat x.2.toNat]:=by unfold Vf;rw[List.map_append];rfl
theorem Qq7{ks l m:List Int}(h:QcS ks=l)(hm:m.Pairwise (λ x y=>x<y))(he:∀k,k ∈ l ↔ k ∈ m):Qat ks=m:=by unfold Qat;exact Qr3 (Vr ks) hm (λ k=>by rw[h];exact he k)
theorem QsY(els:List ByteArray)(b l k:Nat)(w:World)(h:QaM els b w)(hn:len els<=65536)(hl:l<=Qa1 els)(hk:k<2 ^ (Qa1 els - l)):
  Calls Tryz.prog 100 #[.pointer (some ⟨b,0,none⟩),.int .i64 (l:Nat),.int .u64 (k:Nat)] w λ e w'=>e=.returned (.tuple #[.string (plD els (Qa1 els) l k),.bool true])/\Below w.heap.size w w':=by
 obtain⟨p0,h1,h2⟩:=h;have hd16:=QaG hn;obtain⟨d,hd⟩:∃d,Qa1 els=d:=⟨_,rfl⟩;rw[hd]at h1 h2 hl hk hd16 ⊢;have c0:w.cell? ⟨b,0,none⟩=some (.pointer (some ⟨p0,0,none⟩)):=by rw[Qa h1];rfl
 have c1:w.cell? ⟨b,1,none⟩=some (.int .i64 (d:Nat)):=by rw[Qa h1];rfl
 have HP:Hid (Zl els d (l+(d - l)) (k / 2 ^ (d - l)) p0 w):=QLh (by rw[Nat.div_eq_of_lt hk,show l+(d - l)=d by omega];exact h2);have HK:Hid (k<65536):=QLh (Nat.lt_of_lt_of_le hk (QgO (by omega)));have a2:¬((d:Nat):Int)<((l:Nat):Int):=by omega
 obtain⟨e,he⟩:∃e,d - l=e:=⟨_,rfl⟩;rw[he]at HP hk;have a3:IntKind.i64.wrap ((d:Int) - (l:Int))=((e:Nat):Int):=by rw[IntWalk.i64_in _ (by omega)];omega
 have a5:¬(e:Int)<0:=by omega
 have a4:((k:Nat):Int) / 2 ^ e=0:=by
  rw[Zr];have:k / 2 ^ e=0:=Nat.div_eq_of_lt hk
  exact_mod_cast this
 have a6:IntKind.i64.wrap ((e:Int) - 1)=(e:Int) - 1:=IntWalk.i64_in _ (by omega);have a1:¬((l:Nat):Int)<0:=by omega
 have a7:min e 64=e:=by omega
 have HE:Hid (e<=16):=QLh (by omega);clear h1 h2 hd hk he hl hd16
 go_enter Tryz.func100,Tryz.ntmps100
 go_upto_region 5 with fail;clear c0 c1 a1 a2 a3 a4 a5 a6 a7
 go_loopg [9,8] e (λ g i p wr=>∃(t q:Nat),g=t/\i=.int .i64 ((t:Int) - 1)/\p=.pointer (some ⟨q,0,none⟩)/\t<=16/\Hid (Zl els d (l+t) (k / 2 ^ t) q wr)/\Hid (Below w.heap.size w wr))
 case atStart=>exact⟨e,p0,rfl,rfl,rfl,HE.out,HP,QLh (Below.refl _ _)⟩
 case round=>
  clear HP;obtain⟨t,q,hgt,rfl,rfl,ht,HP,HW⟩:=hrel;have HGT:=QLh hgt;clear hgt
  cases t with
  | zero=>
   have i1:¬(0:Int)<=((0:Nat):Int) - 1:=by decide
   have cq:wr.cell? ⟨q,0,none⟩=some (.string (plD els d l k)):=by
    have:=HP.out.digest
    rwa [Nat.add_zero,Nat.pow_zero,Nat.div_one]at this
   go_wp2
   go_ret2
   exact⟨rfl,HW.out⟩
  | succ t=>
   rw[show((t+1:Nat):Int) - 1=((t:Nat):Int)by omega];have i1:(0:Int)<=((t:Nat):Int):=by omega
   obtain⟨W,hW⟩:∃W,wr=W:=⟨_,rfl⟩;rw[hW]at HP HW ⊢;clear hW;obtain⟨b0,b1,hn9,h0,h1⟩:=HP.out;obtain⟨x,hx⟩:∃x,k / 2 ^ t=x:=⟨_,rfl⟩;obtain⟨y,hy⟩:∃y,x % 2=y:=⟨_,rfl⟩;have hxx:k / 2 ^ (t+1)=x / 2:=by rw[<-hx,Nat.div_div_eq_div_mul,Nat.pow_succ]
   have hx6:x<65536:=by rw[<-hx];exact Nat.lt_of_le_of_lt (Nat.div_le_self _ _) HK.out
   rw[hxx]at h0 h1;obtain⟨q2,hq2⟩:∃q2,(if y=0 then b0 else b1)=q2:=⟨_,rfl⟩;have cq:W.cell? ⟨q,1+y,none⟩=some (.pointer (some ⟨q2,0,none⟩)):=by
    rw[Qa hn9,<-hq2]
    by_cases hy0:y=0
    ·rw[if_pos hy0,hy0];rfl
    ·rw[if_neg hy0,show y=1 by omega];rfl
   have HP2:Hid (Zl els d (l+t) (k / 2 ^ t) q2 W):=QLh (by
    rw[hx,<-hq2]
    by_cases hy0:y=0
    ·rw[if_pos hy0,show x=2 * (x / 2)by omega];exact h0
    ·rw[if_neg hy0,show x=2 * (x / 2)+1 by omega];exact h1)
   have s1:min t 64=t:=by omega
   have s2:((k:Nat):Int) / 2 ^ t=((x:Nat):Int):=by rw[Zr,<-hx];rfl
   have s3:bits .and .u64 ((x:Nat):Int) 1=((y:Nat):Int):=by rw[show(1:Int)=((1:Nat):Int)from rfl,u64_and_nat _ _ (by omega) (by omega),Nat.and_one_is_mod,hy]
   have s4:¬(2:Int)<=((y:Nat):Int):=by omega
   have s5:¬((t:Nat):Int)<0:=by omega
   clear hx hy hxx hx6 hn9 h0 h1 hq2;go_upto_region 7 with fail;refine Qp 9 1000 (none) (Kx (List.map qv [.pointer (some ⟨q,0,none⟩),.int .u64 (k:Nat),.int .i64 (t:Nat),.int .u64 (x:Nat),.int .u64 (y:Nat),.pointer (some ⟨q,0,none⟩),.pointer (some ⟨q,1,none⟩),.pointer (some ⟨q,1+y,none⟩),.pointer (some ⟨q2,0,none⟩)])) rfl (by kernel_rfl) (by kernel_rfl) (Q9 Xz) (Q6 9 ⟨?s0,?s1,?s2,?s3,?s4,?s5,?s6,?s7,?s8,trivial⟩) ?_
   case s0=>refine qV (λ _=>rfl) rfl λ av wv hE hO hD=>?_;simp[go_sem,qF av 8 (.pointer (some ⟨q,0,none⟩)) (hO.2.2 8 rfl),s1,s2,s3,s4,s5]
   case s1=>refine qV (λ _=>rfl) rfl λ av wv hE hO hD=>?_;simp[go_sem,qF av 2 (.int .u64 (k:Nat)) (hO.2.2 2 rfl),s1,s2,s3,s4,s5]
   case s2=>refine qV (λ _=>rfl) rfl λ av wv hE hO hD=>?_;simp[go_sem,qF av 9 (.int .i64 (t:Nat)) (hO.2.2 9 rfl),s1,s2,s3,s4,s5]
   case s3=>refine qV (λ _=>rfl) rfl λ av wv hE hO hD=>?_;simp[go_sem,qE (hD.1 rfl _ rfl),qE (hD.2.1 rfl _ rfl),s1,s2,s3,s4,s5]
   case s4=>refine qV (λ _=>rfl) rfl λ av wv hE hO hD=>?_;simp[go_sem,qE (hD.1 rfl _ rfl),s1,s2,s3,s4,s5]
   case s5=>refine qV (λ _=>rfl) rfl λ av wv hE hO hD=>?_;simp[go_sem,qE (hD.1 rfl _ rfl),s1,s2,s3,s4,s5]
   case s6=>refine qV (λ _=>rfl) rfl λ av wv hE hO hD=>?_;simp[go_sem,qE (hD.1 rfl _ rfl),s1,s2,s3,s4,s5]
   case s7=>refine qV (λ _=>rfl) rfl λ av wv hE hO hD=>?_;simp[go_sem,qE (hD.1 rfl _ rfl),qE (hD.2.1 rfl _ rfl),s1,s2,s3,s4,s5]
   case s8=>refine qV (λ _=>rfl) rfl λ av wv hE hO hD=>?_;simp[go_sem,qE (hD.1 rfl _ rfl),Qb hE (by simp) cq,s1,s2,s3,s4,s5]
   intro a' w' hE hO hall;have hA:=Qn (ds:=[50,51,52,53,54,55,56,57,58]) rfl hO (by kernel_rfl);obtain⟨j0,j1,j2,j3,j4,j5,j6,j7,j8,-⟩:=hall;simp only[List.foldl_cons,List.foldl_nil,Act.put,List.setIfInBounds_toArray,List.set_cons_succ,List.set_cons_zero,qJ 50 (j0 _ rfl),qJ 51 (j1 _ rfl),qJ 52 (j2 _ rfl),qJ 53 (j3 _ rfl),qJ 54 (j4 _ rfl),qJ 55 (j5 _ rfl),qJ 56 (j6 _ rfl),qJ 57 (j7 _ rfl),qJ 58 (j8 _ rfl)]at hA;clear hO j0 j1 j2 j3 j4 j5 j6 j7 j8;subst hA;have HW2:Hid (Below w.heap.size w w'):=QLh (Qj HW.out (Q0 hE));have HP3:Hid (Zl els d (l+t) (k / 2 ^ t) q2 w'):=QLh (HP2.out.below (Q0 hE));have a6:IntKind.i64.wrap (((t:Nat):Int) - 1)=((t:Nat):Int) - 1:=IntWalk.i64_in _ (by omega);clear hE cq s1 s2 s3 s4 s5;go_wp2
   go_roundg t
   case rel=>exact⟨t,q2,rfl,rfl,rfl,by omega,HP3,HW2⟩
   case measure=>have:=HGT.out;omega
section
open Go.RowKit Go.ChangeMaps
attribute [local go_sem] Oper.semAt_some
theorem U6:(Tryz.prog.info? 9).map (λ i=>(i.zero,i.size,i.bytes))=some (some (.string ⟨#[]⟩),1,16):=by kernel_rfl
def QmR(l:List ByteArray)(er:Int)(w:World)(e:Ending)(w':World):Prop:=∃v,e=.returned (.tuple #[v,.int .i64 er])/\w'.ownsRow w.heap.size 9 1 v (len l) (l.map Value.string)/\Below w.heap.size w w'
theorem QfT{α:Type}(P:α->Prop):∀(l:List α),(∀x ∈ l,P x)->∃L:List { x // P x },L.map Subtype.val=l
 | [],_=>⟨[],rfl⟩
 | x :: l,h=>by obtain⟨L,hL⟩:=QfT P l (λ y hy=>h y (List.mem_cons_of_mem _ hy));exact⟨⟨x,h x List.mem_cons_self⟩ :: L,by rw[List.map_cons,hL]⟩
abbrev PlX(d:Nat):={ x:Int × Int // ∃i k:Nat,x=((i:Int),(k:Int))/\i<d/\k<2 ^ (d - i) }
theorem QkQ{o base k:Nat}{W w4:World}{tmp:Obj}{v v':Value}{xs:List Value}(hrow:W.ownsRow base 9 1 v k xs)(hg:(W.alloc tmp).grownBy w4 v.ownBlock):KpO o W (w4.setCell ⟨o,0,none⟩ v'):=by
 have hs:=hg.size;refine⟨by simp at hs;simp[World.setCell];omega,λ b cs t fr hb ht hc=>?_⟩;have hlt:=lt_of_block hc;refine(Below.heap_setCell _ _ _ _ (λ e=>hb e)).trans ?_;refine(hg.block b (by simp;omega) (λ e=>?_)).trans (Qe hc _)
 rcases hrow.2 with⟨rfl,_⟩ | ⟨g,cap,cur,rfl,_,hgb,_⟩
 ·simp[Value.ownBlock]at e
 ·simp[Value.ownBlock]at e
  subst e;rw[hgb]at hc
  cases hc
  exact ht rfl
theorem QqA(els:List ByteArray)(b:Nat)(l:List Int)(a:Option Addr)(cap:Nat)(w:World)(ht:QaM els b w)(hn:len els<=65536)(h:QaO w a l)(hl:len l<=12)(hu:∀k ∈ l,U64 k)(hb:Qa0 (len els:Nat) l):
  Calls Tryz.prog 46 #[.pointer (some ⟨b,0,none⟩),.slice a (len l) cap] w (QmR (Vf els (Qf8 (len els:Nat) l)) 0 w):=by
 have HT:=QLh ht;have HN:=QLh hn;have HM:=QLh (QqY (len els:Nat) l a cap w h (by omega) (by omega) (by omega));rw[decide_eq_true hb]at HM;have HLN:=QLh (QpQ els b w ht);have H:=QLh h;have HU:=QLh hu;obtain⟨d,hd⟩:∃d,Qa1 els=d:=⟨_,rfl⟩;have HDD:=QLh hd;have HD16:Hid (d<=16):=QLh (by rw[<-hd];exact QaG hn);have HPL:Hid (Qf8 (len els:Nat) l=Xu (Z4 (Qr l d) d)):=QLh (by unfold Qf8;rw[Yw hn,hd]);clear ht hn h hu hb hd;obtain⟨i0,hi,hz0,hz1,hz2⟩:=info_parts U6;have HZ:=QLh hz0;clear hz0;refine(callsIn_wide (n:=9)).1 ?_;refine callsIn_of_wp_marks Tryz.func46 rfl trivial ?_ rfl;simp only[Tryz.ntmps46,List.size_toArray,List.length_cons,List.length_nil,Nat.reduceAdd,Nat.reduceSub,Array.replicate_succ,Array.replicate_zero,List.push_toArray,List.append_toArray,List.nil_append,List.cons_append]
 gi_wp2_with fail
 refine⟨trivial,(callsIn_wide.2 HLN.out).mono ?_⟩;rintro e w1 ⟨rfl,rfl⟩
 gi_wp2_with fail
 refine⟨trivial,(callsIn_wide.2 HM.out).mono ?_⟩;rintro e w1 ⟨rfl,hb1⟩;have HB1:=QLh hb1;have HT1:=QLh (HT.out.below hb1);clear hb1 HM HLN;obtain⟨ab,hab⟩:∃ab,w1.heap.size=ab:=⟨_,rfl⟩
 gi_wp2_with fail
 obtain⟨o,ho⟩:∃o,ab+1=o:=⟨_,rfl⟩;rw[ho];obtain⟨V,hV⟩:∃V,((w1.alloc (.cells #[.func (.func 100) #[.pointer (some ⟨b,0,none⟩)] #[]] 128)).alloc (.cells #[.slice none 0 0] 36))=V:=⟨_,rfl⟩;rw[hV];have V1:Hid (V.heap[ab]?=some (.cells #[.func (.func 100) #[.pointer (some ⟨b,0,none⟩)] #[]] 128 (0,0))):=QLh (by rw[<-hV];exact Qe (Qg _ hab) _);have V2:Hid (Boxed V o 36 (.slice none 0 0)):=QLh (by rw[<-hV];exact Qg _ (by rw[Q3 _ rfl];omega));have VB:Hid (Below w.heap.size w V):=QLh (by rw[<-hV];exact Qf (Qf HB1.out _) _);have VS:Hid (w.heap.size<=ab/\ab<o):=QLh ⟨by rw[<-hab];exact HB1.out.size,by omega⟩;have HDP:=QLh (QlH els b V (HT.out.below VB.out));rw[HDD.out]at HDP;clear hV hab ho HT1;refine⟨trivial,(callsIn_wide.2 HDP.out).mono ?_⟩;rintro e w2 ⟨rfl,rfl⟩
 gi_wp2_with fail
 refine⟨trivial,(callsIn_wide.2 (QkV a cap (len l) (d:Nat) _)).mono ?_⟩;rintro e w3 ⟨rfl,hw3⟩;obtain⟨s1,hs1⟩:∃s1,V.heap.size=s1:=⟨_,rfl⟩;rw[hs1];have Z1:Hid (w3.heap[ab]?=some (.cells #[.func (.func 100) #[.pointer (some ⟨b,0,none⟩)] #[]] 128 (0,0))):=QLh (by rw[hw3];exact Qe (Qe V1.out _) _);have Z0:Hid (Boxed w3 o 36 (.slice none 0 0)):=QLh (by rw[hw3];exact Qe (Qe V2.out _) _);have Z2:Hid (w3.heap[s1]?=some (.cells #[.int .i64 (d:Nat)] 3 (0,0))):=QLh (by rw[hw3];exact Qe (Qg _ hs1) _);have Z3:Hid (w3.heap[s1+1]?=some (.cells #[.slice a (len l) cap] 64 (0,0))):=QLh (by rw[hw3];exact Qg _ (by rw[Q3 _ rfl,hs1]));have ZB:Hid (Below w.heap.size w w3):=QLh (by rw[hw3];exact Qf (Qf VB.out _) _);have ZS:Hid (o<w3.heap.size):=QLh (Z0.out.lt);clear hw3 hs1 V1 V2 HDP;obtain⟨L,hL⟩:∃L:List (PlX d),L.map Subtype.val=Xu (Z4 (Qr l d) d):=QfT _ _ (Qr4 HD16.out (Kc HD16.out));have HLL:=QLh hL;have HLB:Hid (L.length<=1600):=QLh (by
  have h1:=Qjk (Qr l d) d (by rw[Xf];omega);rw[<-hL,List.length_map]at h1;exact h1)
 gi_wp2_with fail
 refine wpIn_rangeFunc_ownF rfl (by omega) (gf:=163) (lb:=#[.pointer (some ⟨s1+1,0,none⟩),.pointer (some ⟨s1,0,none⟩)]) rfl trivial (enters_of Tryz.func163 (by kernel_rfl) rfl)
  (QlE (Subtype.val:PlX d->Int × Int) L 8 (by omega) o (s1+1) s1 a cap l d w3 (by rw[Qa Z3.out];rfl) (by rw[Qa Z2.out];rfl) (H.out.below ZB.out) hl HD16.out HU.out ZS.out hL)
  KpO.trans (λ W l9 x x' _ hl hx _=>KpO.putObj o W l9 x x' hl hx) (Below.refl _ _) (λ _=>rfl)
  (λ pre W=>(∃v,Boxed W o 36 v/\W.ownsRow w.heap.size 9 1 v (len (Vf els (pre.map Subtype.val))) ((Vf els (pre.map Subtype.val)).map Value.string)/\True)/\W.heap[ab]?=some (.cells #[.func (.func 100) #[.pointer (some ⟨b,0,none⟩)] #[]] 128 (0,0))/\Below w.heap.size w W) (λ _ _ _=>False)
  (OwnFrom.and (Own.from (holdsRow_own w.heap.size o 36 9 1 (λ pre:List (PlX d)=>len (Vf els (pre.map Subtype.val))) (λ pre=>(Vf els (pre.map Subtype.val)).map Value.string) (λ _ _=>True)) _) (OwnFrom.and (QsJ _ ab 128 (λ _:List (PlX d)=>.func (.func 100) #[.pointer (some ⟨b,0,none⟩)] #[])) (ownFrom_below (Nat.le_refl _) ZB.out.size))) (λ _ _ _ _ _ h _ _=>h)
  ⟨⟨_,Z0.out,World.ownsRow_nil _ _ _ _,trivial⟩,Z1.out,ZB.out⟩ ?a1 ?assign ?body ?done ?stop
 case assign=>
  intro l9 x W K hK
  gi_wp2
  exact hK
 case body=>
  rintro l9 pre ⟨x,i,k,rfl,hi9,hk9⟩ W ⟨⟨v,hv,hrow,-⟩,hO,hB⟩ hlt;have ca:W.cell? ⟨ab,0,none⟩=some (.func (.func 100) #[.pointer (some ⟨b,0,none⟩)] #[]):=by rw[Qa hO];rfl
  have HV:=QLh hv;have HRW:=QLh hrow;have HO:=QLh hO;have HB:=QLh hB;have HAT:=QLh (QsY els b i k W (HT.out.below hB) HN.out (by rw[HDD.out];omega) (by rw[HDD.out];exact hk9));rw[HDD.out]at HAT;have HPB:Hid (len (Vf els (pre.map Subtype.val))<=1600):=QLh (by unfold Vf;rw[Qy,List.length_map,List.length_map];have:=HLB.out;omega);have HSN:Hid (Vf els ((pre++[(⟨((i:Int),(k:Int)),i,k,rfl,hi9,hk9⟩:PlX d)]).map Subtype.val)=Vf els (pre.map Subtype.val)++[plD els d i k]):=QLh (by
   rw[List.map_append];show Vf els (pre.map Subtype.val++[((i:Int),(k:Int))])=_;rw[QhO,HDD.out];simp)
  obtain⟨P9,hP9⟩:∃P9,Vf els (pre.map Subtype.val)=P9:=⟨_,rfl⟩;rw[hP9]at HRW HPB HSN;obtain⟨X9,hX9⟩:∃X9,plD els d i k=X9:=⟨_,rfl⟩;rw[hX9]at HAT HSN;clear hv hrow hO hB hlt hP9 hX9
  dsimp only
  gi_wp2_with fail
  refine⟨trivial,(CallsIn.inRound l9 (callsIn_wide.2 HAT.out)).mono ?_⟩;rintro e W2 ⟨rfl,hb2⟩;have HV2:Hid (Boxed W2 o 36 v):=QLh ((hb2.block _ HV.out.lt).trans HV.out);have HR2:Hid (W2.ownsRow w.heap.size 9 1 v (len P9) (P9.map Value.string)):=QLh (Qs HRW.out hb2);have HO2:Hid (W2.heap[ab]?=some (.cells #[.func (.func 100) #[.pointer (some ⟨b,0,none⟩)] #[]] 128 (0,0))):=QLh ((hb2.block _ (lt_of_block HO.out)).trans HO.out);have HB2:Hid (Below w.heap.size w W2):=QLh (Qj HB.out hb2);have HWW:=QLh hb2;have hc:=HV2.out.cell;have hpb:=HPB.out;clear hb2 ca HAT
  gi_wp2_with (gi_at_builtin;refine wpListIn_append_own _ rfl _ _ 36 rfl w.heap.size 9 i0 (.string ⟨#[]⟩) 1 16 Tryz.underlying36 hi HZ.out hz1 hz2 rfl (by decide) _ _ _ rfl (HR2.out.alloc _) ⟨W2.heap.size,0,none⟩ 1 1 [.string X9] rfl rfl (World.news_of_block (heap_alloc_new _ _)) (by intro u hu9;simp at hu9;subst hu9;rfl) (by unfold maxLen;omega) (by omega) (by have:=HB2.out.size;simp;omega) ?_;intro v' w4 hown' hgrow _;obtain⟨g',cap',rfl⟩:=ownsRow_succ hown';obtain⟨hv1,hv2,hr2,hk2,hb3⟩:=HV2.out.appended (by decide) HR2.out HB2.out.size (by have:=VS.out;omega) hown' hgrow;have hc1:=hv1.cell;have hf1:=hv1.frozen;have HQ1:=QLh hv2;have HQ2:=QLh hr2;have HQ3:=QLh hk2;have HQ4:=QLh hb3;have HQ5:=QLh (QkQ (o:=o) (v':=.slice (some ⟨g',0,none⟩) (len P9+1) cap') HR2.out hgrow);clear hv2 hr2 hk2 hb3 hown' hgrow)
  have HKO:Hid (KeepsOthers W W2):=QLh (KeepsOthers.of_grownBy (QbP HWW.out) (λ j o h=>by cases h));have HKP:Hid (KpO o W W2):=QLh ⟨HWW.out.size,λ b9 cs t fr _ _ hc9=>(HWW.out.block _ (lt_of_block hc9)).trans hc9⟩;refine⟨HKO.out.trans HQ3.out,HKP.out.trans HQ5.out,⟨_,HQ1.out,?_,trivial⟩,?_,HB2.out.trans HQ4.out⟩
  ·have e9:len (P9++[X9])=len P9+1:=by rw[Qy,List.length_append];rfl
   rw[HSN.out,List.map_append,e9];exact HQ2.out
  ·exact HQ5.out.same _ _ _ _ (by have:=VS.out;omega) (by decide) HO2.out
 case done=>
  rintro D ys W hD rfl ⟨⟨v,hv,hrow,-⟩,hO,hB⟩ hK;have hc:=hv.cell;rw[HLL.out]at hrow;have HR:=QLh (ownsRow_putObj hrow (.deferred none) hK rfl);have HB:Hid (Below w.heap.size w (W.putObj D (.deferred none))):=QLh (hB.trans (belowK_b (w:=w) (Nat.le_refl _) W D _ _ (Nat.le_trans ZB.out.size hD) hK rfl rfl));have HK:=QLh hK;clear hO hB hrow
  gi_wp2
  refine⟨by simp,.inl ⟨_,_,rfl,run_takeDeferred HK.out,?_⟩⟩;refine⟨_,results_tmp2 rfl _ _ _,v,rfl,?_,HB.out⟩;rw[HPL.out];exact HR.out
 case stop=>intro D c pre W _ _ h _;exact h.elim
end
theorem QqI{w:World}{base n:Nat}{v:Value}{l:List ByteArray}(h:w.ownsRow base 9 1 v n (l.map Value.string)):∃a cap,v=.slice a (len l) cap/\Jk w a l:=by
 have hn:len l=n:=by have:=h.1;rw[Qy];simpa using this
 rcases h.2 with⟨rfl,h2⟩ | ⟨g,cap,cur,rfl,hg,hh,hc1,hc2,hc3,hc4⟩
 ·obtain rfl:l=[]:=List.eq_nil_of_length_eq_zero (by rw[<-Qy];omega)
  exact⟨none,0,rfl,Jk.nil _ _⟩
 ·refine⟨some ⟨g,0,none⟩,cap,by rw[hn],λ i hi=>⟨g,0,rfl,?_⟩⟩
  have:=h.cellAt i (by omega);have hi2:i<l.length:=hi;rw[Nat.zero_add,this,List.getElem?_map,List.getElem?_eq_getElem hi2,Y9 l i hi];rfl
theorem Yq(a b:ByteArray):(a.toList == b.toList)=decide (a=b):=by
 rw[ByteArray.toList_eq,ByteArray.toList_eq]
 by_cases h:a=b
 ·subst h;simp
 ·rw[decide_eq_false h]
  rw[beq_eq_false_iff_ne];intro h2;exact h (ByteArray.ext (Array.ext' h2))
theorem Qn7(tag s:ByteArray)(w:World)(h1:1<=tag.size)(h2:tag.size<=16)(hs:s.size<=1000000):Calls Tryz.prog 45 #[.string tag,.slice (some ⟨w.heap.size,0,none⟩) 1 1] (w.alloc (.cells #[.string s] 9)) λ e w'=>e=.returned (.string (Xi tag [s]))/\Below w.heap.size w w':=by
 have hw1:Jk (w.alloc (.cells #[.string s] 9)) (some ⟨w.heap.size,0,none⟩) [s]:=QaX (heap_alloc_new _ _) [s] (λ i hi=>by
  have:i=0:=by have:i<1:=hi;omega
  subst this;rfl)
 refine(Qah tag [s] (some ⟨w.heap.size,0,none⟩) 1 _ h1 h2 hw1 (by show((Qay s)++[]).length<=_;rw[List.append_nil,Jm];omega)).mono ?_;rintro e w2 ⟨rfl,hb2⟩;exact⟨rfl,Qj (Qf (Below.refl _ _) _) hb2⟩
theorem QnO(tag s t:ByteArray)(w:World)(h1:1<=tag.size)(h2:tag.size<=16)(hs:s.size<=1000000)(ht:t.size<=1000000):Calls Tryz.prog 45 #[.string tag,.slice (some ⟨w.heap.size,0,none⟩) 2 2] (w.alloc (.cells #[.string s,.string t] 9)) λ e w'=>e=.returned (.string (Xi tag [s,t]))/\Below w.heap.size w w':=by
 have hw1:Jk (w.alloc (.cells #[.string s,.string t] 9)) (some ⟨w.heap.size,0,none⟩) [s,t]:=QaX (heap_alloc_new _ _) [s,t] (λ i hi=>by
  have:i=0 \/ i=1:=by have:i<2:=hi;omega
  rcases this with rfl | rfl <;> rfl)
 refine(Qah tag [s,t] (some ⟨w.heap.size,0,none⟩) 2 _ h1 h2 hw1 (by show((Qay s)++((Qay t)++[])).length<=_;rw[List.append_nil,List.length_append,Jm,Jm];omega)).mono ?_;rintro e w2 ⟨rfl,hb2⟩;exact⟨rfl,Qj (Qf (Below.refl _ _) _) hb2⟩
theorem Qsz{la lb:List ByteArray}(hl:len la=len lb)(h:∀i,i<len la->tth la i=tth lb i):la=lb:=by
 apply List.ext_getElem hl;intro i h1 h2;have:=h i h1
 rwa [Y9 la i h1,Y9 lb i h2]at this
theorem Qhc(n:Int)(l:List Int)(a:Option Addr)(cap:Nat)(w:World)(h:QaO w a l)(hn:len l<=1000000000)(h0:-9223372036854775808<=n)(h1:n<=9223372036854775807):Calls Tryz.prog 166 #[.int .i64 n,.slice a (len l) cap] w λ e w'=>e=.returned (.bool (decide (Ki n l)))/\Below w.heap.size w w':=by
 have H:=QLh h;have HN:=QLh hn
 by_cases c1:n<0
 ·have E:Hid (decide (Ki n l)=false):=QLh (decide_eq_false (λ h9=>by have:=h9.1;omega))
  clear h hn h0 h1
  go_enter Tryz.func166,Tryz.ntmps166
  go_wp2;go_ret;exact⟨by(rw[E.out];try rfl),Below.refl _ _⟩
 ·by_cases c2:65536<n
  ·have E:Hid (decide (Ki n l)=false):=QLh (decide_eq_false (λ h9=>by have:=h9.2.1;omega))
   clear h hn h0 h1
   go_enter Tryz.func166,Tryz.ntmps166
   go_wp2;go_ret;exact⟨by(rw[E.out];try rfl),Below.refl _ _⟩
  ·by_cases c3:len l=0
   ·have E:Hid (decide (Ki n l)=false):=QLh (decide_eq_false (λ h9=>by have:=h9.2.2.1;omega))
    have z1:((len l:Nat):Int)=0:=by omega
    clear h hn h0 h1 c3
    go_enter Tryz.func166,Tryz.ntmps166
    go_wp2;go_ret;exact⟨by(rw[E.out];try rfl),Below.refl _ _⟩
   ·have z1:¬((len l:Nat):Int)=0:=by omega
    have n1:IntKind.u64.wrap n=n:=IntWalk.u64_in _ (by omega);have HC:=QLh (And.intro c1 (And.intro c2 c3));clear h hn h0 h1 c3
    go_enter Tryz.func166,Tryz.ntmps166
    go_upto_region 4 with fail;clear c1 c2 z1
    go_loopg [20] (len l) (λ g i wr=>∃m:Nat,g+m=len l/\i=.int .i64 m/\Hid (Qtm n l m)/\Hid (Below w.heap.size w wr))
    case atStart=>exact⟨0,rfl,rfl,QLh (λ i hi=>by omega),QLh (Below.refl _ _)⟩
    case round=>
     obtain⟨m,hm,rfl,HR,HW⟩:=hrel;have HNN:=HN.out
     by_cases hlt:m<len l
     ·have b0:(m:Int)<len l:=by omega
      obtain⟨b,off,hra,e1⟩:=(H.out.below HW.out) m hlt;subst hra;have l1:=Ql e1
      cases hge:decide (n<=nth l m)with
      | true=>
       have HGE:=QLh hge;go_wp2;go_ret;refine⟨?_,HW.out⟩;have:¬Ki n l:=λ h9=>by have h1:=(h9.2.2.2 m hlt).1;have h2:=of_decide_eq_true HGE.out;omega
       rw[decide_eq_false this];try rfl
      | false=>
       have HGE:=QLh hge
       cases m with
       | zero=>
        have e1:wr.cell? ⟨b,off,none⟩=some (.int .u64 (nth l 0)):=e1;have hge0:decide (n<=nth l 0)=false:=HGE.out;go_wp2
        go_roundg (len l - 1)
        case rel=>exact⟨1,by omega,by go_num,QLh (HR.out.next (by have:=of_decide_eq_false HGE.out;omega) (λ h=>by omega)),HW⟩
        case measure=>omega
       | succ n3=>
        obtain⟨b6,off6,hpa6,e2⟩:=(H.out.below HW.out) n3 (by omega)
        cases hpa6
        cases hris:decide (nth l (n3+1)<=nth l n3)with
        | true=>
         have HRIS:=QLh hris;have i1:IntKind.i64.wrap (n3:Int)=n3:=(IntWalk.i64_in _ (by omega));have i2:0<=(n3:Int)+1:=(by omega);have i3:((n3:Int)+1).toNat=n3+1:=(by omega);go_wp2;clear i1 i2 i3;go_ret;refine⟨?_,HW.out⟩;have:¬Ki n l:=λ h9=>by have h1:=(h9.2.2.2 (n3+1) hlt).2 (by omega);have h2:=of_decide_eq_true HRIS.out;rw[Nat.add_sub_cancel]at h1;omega
         rw[decide_eq_false this];try rfl
        | false=>
         have HRIS:=QLh hris;have i1:IntKind.i64.wrap (n3:Int)=n3:=(IntWalk.i64_in _ (by omega));have i2:0<=(n3:Int)+1:=(by omega);have i3:((n3:Int)+1).toNat=n3+1:=(by omega);go_wp2;clear i1 i2 i3
         go_roundg (len l - (n3+1+1))
         case rel=>exact⟨n3+1+1,by omega,by go_num,QLh (HR.out.next (by have:=of_decide_eq_false HGE.out;omega) (λ _=>by
          have h2:=of_decide_eq_false HRIS.out;rw[Nat.add_sub_cancel];omega)),HW⟩
         case measure=>omega
     ·obtain rfl:m=len l:=by omega
      have b0:¬((len l:Nat):Int)<len l:=by omega
      have E:Hid (decide (Ki n l)=true):=QLh (decide_eq_true ⟨by have:=HC.out.1;omega,by have:=HC.out.2.1;omega,by have:=HC.out.2.2;omega,HR.out⟩);go_wp2;go_ret;exact⟨by(rw[E.out];try rfl),HW.out⟩
def Qmq(ds:List ByteArray):Bool:=decide (∃d ∈ ds,d.size≠32)
theorem Qnt(s:ByteArray)(w:World):Calls Tryz.prog 168 #[.string s] w λ e w'=>e=.returned (.bool (!decide ((s.size:Int)=32)))/\w=w':=by
 go_enter Tryz.func168,Tryz.ntmps168
 go_wp2;go_ret;exact⟨by first | rfl | simp,rfl⟩
def Qu7(ds:List ByteArray)(w:World)(e:Ending)(w':World):Prop:=∃j:Int,e=.returned (.int .i64 j)/\(0<=j ↔ ∃d ∈ ds,d.size≠32)/\w=w'
theorem QlQ(a:Option Addr)(cap:Nat)(ds:List ByteArray)(w:World)(hl:Jk w a ds)(hlen:len ds<=9223372036854775807):
  Calls Tryz.prog 227 #[.slice a (len ds) cap,.func (.func 168) #[] #[]] w (Qu7 ds w):=by
 have HL:=QLh hl;clear hl
 go_enter Tryz.func227,Tryz.ntmps227
 go_wp2
 go_loop [8] (λ i=>∃m:Nat,m<=len ds/\i=.int .i64 m/\Hid (∀j,j<m->(tth ds j).size=32)) (λ i=>len ds - (intOf i).toNat)
 case atStart=>exact⟨0,Nat.zero_le _,rfl,λ j hj=>by omega⟩
 case round=>
  obtain⟨m,hm,rfl,hn⟩:=hrel
  by_cases hlt:m<len ds
  ·obtain⟨b,off,rfl,hcell⟩:=HL.out m hlt
   have b0:(m:Int)<len ds:=by omega
   obtain⟨s,hs⟩:∃s,tth ds m=s:=⟨_,rfl⟩;rw[hs]at hcell;have HS:=QLh hs;have HM:Hid (s ∈ ds):=QLh (by rw[<-hs,Y9 ds m hlt];exact List.getElem_mem _);clear hs;go_wp2_with fail;refine(Qnt s w).mono ?_;rintro e w' ⟨rfl,rfl⟩
   by_cases hf:s.size=32
   ·have HF:=QLh hf
    rw[decide_eq_true (show((s.size:Nat):Int)=32 by omega)];clear hf hcell;go_wp2
    go_round
    case rel=>exact⟨m+1,by omega,by go_num,λ j hj=>by
     by_cases e:j=m
     ·subst e;rw[HS.out];exact HF.out
     ·exact hn.out j (by omega)⟩
    case measure=>simp[intOf];omega
   ·have HF:=QLh hf
    rw[decide_eq_false (show ¬((s.size:Nat):Int)=32 by omega)];clear hf hcell;go_wp2;go_ret;exact⟨m,rfl,⟨λ _=>⟨s,HM.out,HF.out⟩,λ _=>by omega⟩,rfl⟩
  ·obtain rfl:m=len ds:=by omega
   go_wp2;go_ret;refine⟨-1,rfl,⟨λ h=>by omega,fun ⟨k,hk,hf⟩=>?_⟩,rfl⟩;obtain⟨j,hj,rfl⟩:=List.getElem_of_mem hk;have h1:=hn.out j hj;rw[Y9 ds j hj]at h1;exact absurd h1 hf
theorem QoH(a:Option Addr)(cap:Nat)(ds:List ByteArray)(w:World)(hl:Jk w a ds)(hlen:len ds<=9223372036854775807):
  Calls Tryz.prog 167 #[.slice a (len ds) cap,.func (.func 168) #[] #[]] w λ e w'=>e=.returned (.bool (Qmq ds))/\w=w':=by
 have HL:=QLh hl;clear hl
 go_enter Tryz.func167,Tryz.ntmps167
 go_wp2_with fail;refine(QlQ a cap ds w HL.out hlen).mono ?_;rintro e w' ⟨j,rfl,hj,rfl⟩;have HJ:=QLh hj;clear hj
 by_cases h:0<=j
 ·have E:Hid (Qmq ds=true):=QLh (decide_eq_true (HJ.out.1 h))
  go_wp2;go_ret;exact⟨by(rw[E.out];try rfl),rfl⟩
 ·have E:Hid (Qmq ds=false):=QLh (decide_eq_false (λ hh=>h (HJ.out.2 hh)))
  go_wp2;go_ret;exact⟨Xv (by rw[E.out];simp;omega),rfl⟩
theorem QkH(n:Int)(l:List Int)(a:Option Addr)(cap:Nat)(w:World)(h:QaO w a l)(hn:len l<=1000000000)(h0:-9223372036854775808<=n)(h1:n<=9223372036854775807):Calls Tryz.prog 242 #[.int .i64 n,.slice a (len l) cap] w λ e w'=>e=.returned (.bool (decide (Ki n l)))/\Below w.heap.size w w':=by
 have H:=QLh h;have HN:=QLh hn
 by_cases c1:n<0
 ·have E:Hid (decide (Ki n l)=false):=QLh (decide_eq_false (λ h9=>by have:=h9.1;omega))
  clear h hn h0 h1
  go_enter Tryz.func242,Tryz.ntmps242
  go_wp2;go_ret;exact⟨by(rw[E.out];try rfl),Below.refl _ _⟩
 ·by_cases c2:65536<n
  ·have E:Hid (decide (Ki n l)=false):=QLh (decide_eq_false (λ h9=>by have:=h9.2.1;omega))
   clear h hn h0 h1
   go_enter Tryz.func242,Tryz.ntmps242
   go_wp2;go_ret;exact⟨by(rw[E.out];try rfl),Below.refl _ _⟩
  ·have HC:Hid (0<=n/\n<=65536):=QLh (by omega)
   have n1:IntKind.u64.wrap n=n:=IntWalk.u64_in _ (by omega);clear h hn h0 h1
   go_enter Tryz.func242,Tryz.ntmps242
   go_upto_region 4 with fail;clear c1 c2
   go_loopg [5] (len l) (λ g i wr=>∃m:Nat,g+m=len l/\i=.int .i64 m/\Hid (Qtm n l m)/\Hid (Below w.heap.size w wr))
   case atStart=>exact⟨0,rfl,rfl,QLh (λ i hi=>by omega),QLh (Below.refl _ _)⟩
   case round=>
    obtain⟨m,hm,rfl,HR,HW⟩:=hrel;have HNN:=HN.out
    by_cases hlt:m<len l
    ·have b0:(m:Int)<len l:=by omega
     obtain⟨b,off,hra,e1⟩:=(H.out.below HW.out) m hlt;subst hra;have l1:=Ql e1
     cases hge:decide (n<=nth l m)with
     | true=>
      have HGE:=QLh hge;go_wp2
      go_quiet (fail)
      go_wp2;go_ret;refine⟨?_,Qj HW.out (by(repeat (first | exact Below.refl _ _ | assumption | (refine Zy ?_) | (refine Zg ?_ _) | (refine Qf ?_ _) | (refine Ji ?_ (by first | omega | (simp;done) | (simp;omega)) _) | (refine Qj ?_ (by assumption)))))⟩
      have:¬Ki n l:=λ h8=>by have h9:=h8.2.2;have h1:=(h9.2 m hlt).1;have h2:=of_decide_eq_true HGE.out;omega
      rw[decide_eq_false this];try rfl
     | false=>
      have HGE:=QLh hge
      cases m with
      | zero=>
       have e1:wr.cell? ⟨b,off,none⟩=some (.int .u64 (nth l 0)):=e1;have hge0:decide (n<=nth l 0)=false:=HGE.out;go_wp2
       go_quiet (fail)
       go_wp2
       go_roundg (len l - 1)
       case rel=>exact⟨1,by omega,by go_num,QLh (HR.out.next (by have:=of_decide_eq_false HGE.out;omega) (λ h=>by omega)),by(repeat (first | exact Below.refl _ _ | assumption | (refine Zy ?_) | (refine Zg ?_ _) | (refine Qf ?_ _) | (refine Ji ?_ (by first | omega | (simp;done) | (simp;omega)) _) | (refine Qj ?_ (by assumption))))⟩
       case measure=>omega
      | succ n3=>
       obtain⟨b6,off6,hpa6,e2⟩:=(H.out.below HW.out) n3 (by omega)
       cases hpa6
       cases hris:decide (nth l (n3+1)<=nth l n3)with
       | true=>
        have HRIS:=QLh hris;go_wp2;have i1:IntKind.i64.wrap (n3:Int)=n3:=(IntWalk.i64_in _ (by omega));have i2:0<=(n3:Int)+1:=(by omega);have i3:((n3:Int)+1).toNat=n3+1:=(by omega)
        go_quiet (fail)
        clear i1 i2 i3;go_wp2;go_ret;refine⟨?_,Qj HW.out (by(repeat (first | exact Below.refl _ _ | assumption | (refine Zy ?_) | (refine Zg ?_ _) | (refine Qf ?_ _) | (refine Ji ?_ (by first | omega | (simp;done) | (simp;omega)) _) | (refine Qj ?_ (by assumption)))))⟩
        have:¬Ki n l:=λ h8=>by have h9:=h8.2.2;have h1:=(h9.2 (n3+1) hlt).2 (by omega);have h2:=of_decide_eq_true HRIS.out;rw[Nat.add_sub_cancel]at h1;omega
        rw[decide_eq_false this];try rfl
       | false=>
        have HRIS:=QLh hris;go_wp2;have i1:IntKind.i64.wrap (n3:Int)=n3:=(IntWalk.i64_in _ (by omega));have i2:0<=(n3:Int)+1:=(by omega);have i3:((n3:Int)+1).toNat=n3+1:=(by omega)
        go_quiet (fail)
        clear i1 i2 i3;go_wp2
        go_roundg (len l - (n3+1+1))
        case rel=>exact⟨n3+1+1,by omega,by go_num,QLh (HR.out.next (by have:=of_decide_eq_false HGE.out;omega) (λ _=>by
         have h2:=of_decide_eq_false HRIS.out;rw[Nat.add_sub_cancel];omega)),by(repeat (first | exact Below.refl _ _ | assumption | (refine Zy ?_) | (refine Zg ?_ _) | (refine Qf ?_ _) | (refine Ji ?_ (by first | omega | (simp;done) | (simp;omega)) _) | (refine Qj ?_ (by assumption))))⟩
        case measure=>omega
    ·obtain rfl:m=len l:=by omega
     have b0:¬((len l:Nat):Int)<len l:=by omega
     go_wp2;go_ret;refine⟨?_,HW.out⟩;rw[show decide (Ki n l)=decide (0<len l)from decide_eq_decide.2 ⟨λ h=>h.2.2.1,λ h=>⟨HC.out.1,HC.out.2,h,HR.out⟩⟩];simp
theorem Ql4(ks:List Int):(Qat ks).Nodup:=by unfold Qat srt;exact(List.mergeSort_perm _ _).nodup_iff.2 (Vr ks)
theorem QpF(ks:List Int)(k:Int):k ∈ Qat ks ↔ (∃j ∈ ks,k=sib j)/\k ∉ ks:=by unfold Qat;rw[Qen,Ut]
theorem Qpy(ks:List Int):(Qat ks).length=(QcS ks).length:=by unfold Qat srt;exact(List.mergeSort_perm _ _).length_eq
theorem Quk(y:Int):sib y≠y:=by unfold sib;split <;> omega
theorem Qjn(y:Int):(Qat [y]).length=1:=by
 rw[Qpy];unfold QcS;have h:([y].map sib).filter (λ s=>!decide (s ∈ [y]))=[sib y]:=by simp[Quk y]
 rw[h];rfl
theorem QqX(L:List Int)(d i:Nat)(hi:i<d):Jj (Za L d) i=Qat (Ke (L.map (· / 2 ^ i))):=by rw[K7 _ i (by unfold Za;simpa using hi)];unfold Za;simp only[List.getElem_map,List.getElem_range]
theorem Qk0(L:List Int)(d:Nat):(Za L d).length=d:=by unfold Za;simp
theorem Us{l:List Int}{d:Nat}(hd:d<=16)(h0:0<len l):Z4 (Qr l (d:Nat)) (d:Nat)=Za (Qr l (d:Nat)) d:=by unfold Z4;rw[Int.toNat_natCast,if_pos];refine⟨by omega,by omega,by rw[Xf];exact h0,?_⟩;unfold Qo9;rw[decide_eq_false];rintro⟨k,hk,h9⟩;have:=(Kc hd k hk).2;omega
theorem QhW:∀(s:Nat) (c:List (List Int)),(∀i,i<c.length->(Jj c i).length=1)->(Xj s c).length=c.length
 | _,[],_=>rfl
 | s,z :: c,h=>by
  have h1:=QhW (s+1) c (λ i hi=>by
   have:=h (i+1) (by simp;omega)
   simpa [Jj] using this)
  have h2:=h 0 (by simp);simp only[Jj,List.getD_cons_zero]at h2;simp only[Xj,List.length_append,List.length_map,List.length_cons];omega
theorem Qor{n:Int}{l:List Int}{d:Nat}(hd:Xy n=(d:Nat))(hd16:d<=16)(h0:0<len l):Qf8 n l=Xu (Za (Qr l (d:Nat)) d):=by unfold Qf8;rw[hd,Us hd16 h0]
theorem Qs2{n:Int}{d:Nat}{x:Int}(hd:Xy n=(d:Nat))(hd16:d<=16):(Qf8 n [x]).length=d:=by
 rw[Qor (l:=[x]) hd hd16 (show 0<len [x]from Nat.zero_lt_one)];have h:=QhW 0 (Za (Qr [x] (d:Nat)) d) (λ i hi=>by
  rw[Qk0]at hi;rw[QqX _ _ _ hi];exact Qjn _)
 rw[Qk0]at h;exact h
theorem Qsy(els:List ByteArray)(L:List (Int × Int)):len (Vf els L)=L.length:=by unfold Vf;rw[Qy,List.length_map]
theorem Uw:∀(ks:List Int) (g:KnF) (ds:List ByteArray) (k:Int),(Vx g ks ds k).isSome ↔ (g k).isSome \/ k ∈ ks
 | [],g,ds,k=>by simp[Vx]
 | x :: ks,g,ds,k=>by
  show(Vx (QcF g x (tth ds 0)) ks (ds.drop 1) k).isSome ↔ _;rw[Uw ks]
  by_cases e:k=x
  ·subst e;rw[Y5];simp
  ·rw[Jt g _ e,List.mem_cons];simp[e]
theorem Qdb(g:KnF)(p:Int):(Kq g p).isSome ↔ (g (2 * p)).isSome \/ (g (2 * p+1)).isSome:=by
 unfold Kq
 by_cases e:(g (2 * p)).isSome \/ (g (2 * p+1)).isSome
 ·rw[if_pos e];simp[e]
 ·rw[if_neg e];simp only[e];simp
def SmF(g:KnF):Prop:=∀k d,g k=some d->d.size<=1000
theorem SmF.no:SmF noF:=λ k d h=>by cases h
theorem SmF.put{g:KnF}(h:SmF g)(k:Int)(d:ByteArray)(hd:d.size<=1000):SmF (QcF g k d):=λ j x hx=>by
 by_cases e:j=k
 ·subst e;rw[Y5]at hx;cases hx;exact hd
 ·rw[Jt g d e]at hx;exact h j x hx
theorem SmF.over(g:KnF):SmF (Kq g):=λ k d hx=>by
 by_cases e:(g (2 * k)).isSome \/ (g (2 * k+1)).isSome
 ·have:Kq g k=some (Xi QaB [Vv g (2 * k),Vv g (2 * k+1)]):=QaA e
  rw[this]at hx;cases hx;rw[Kl];omega
 ·exact absurd ((Qdb g k).1 (by rw[hx];rfl)) e
def Qc0(es:List ByteArray):List ByteArray:=es.map λ s=>Xi Kf [s]
theorem Qgy(es:List ByteArray)(i:Nat)(h:i<len es):tth (Qc0 es) i=Xi Kf [tth es i]:=by have h2:i<es.length:=h;rw[Y9 es i h];unfold tth Qc0;rw[List.getD_eq_getElem?_getD,List.getElem?_map,List.getElem?_eq_getElem h2];rfl
def g0F(lv:List Int)(es:List ByteArray):KnF:=Vx noF lv (Qc0 es)
theorem Qpl(lv:List Int)(es:List ByteArray)(k:Int):(g0F lv es k).isSome ↔ k ∈ lv:=by unfold g0F;rw[Uw];simp[noF]
theorem Qiq(lv:List Int)(d i:Nat)(h:i<d):Jj (Za lv d) i=Qat (Ke (lv.map (· / 2 ^ i))):=by rw[K7 _ i (by unfold Za;simpa using h)];unfold Za;simp
theorem Ui(lv:List Int)(d:Nat):len (Za lv d)=d:=by unfold Za;rw[Qy];simp
theorem QbE(lv:List Int)(d i:Nat)(h:i<d)(k:Int):k ∈ Jj (Za lv d) i ↔ (∃y ∈ lv,k=sib (y / 2 ^ i))/\¬∃y ∈ lv,k=y / 2 ^ i:=by
 rw[Qiq lv d i h,QpF];have e:∀j,j ∈ Ke (lv.map (· / 2 ^ i)) ↔ ∃y ∈ lv,j=y / 2 ^ i:=λ j=>by
  rw[(Yf _).2.1,List.mem_map]
  constructor
  ·rintro⟨y,h1,rfl⟩;exact⟨y,h1,rfl⟩
  ·rintro⟨y,h1,rfl⟩;exact⟨y,h1,rfl⟩
 rw[e]
 constructor
 ·rintro⟨⟨j,hj,rfl⟩,h2⟩
  obtain⟨y,hy,rfl⟩:=(e j).1 hj;exact⟨⟨y,hy,rfl⟩,h2⟩
 ·rintro⟨⟨y,hy,rfl⟩,h2⟩
  exact⟨⟨_,(e _).2 ⟨y,hy,rfl⟩,rfl⟩,h2⟩
theorem QjS(k:Int):sib k / 2=k / 2:=by unfold sib;split <;> omega
theorem Qi6(lv:List Int)(d:Nat)(g:KnF)(ds:List ByteArray)(hg:∀k,(g k).isSome ↔ k ∈ lv):∀i,i<=d->∀k,(Qal g (Za lv d) ds i k).isSome ↔ ∃y ∈ lv,k=y / 2 ^ i
 | 0,_,k=>by
  show(g k).isSome ↔ _;rw[hg]
  constructor
  ·intro h;exact⟨k,h,by simp⟩
  ·rintro⟨y,h,rfl⟩;simpa using h
 | i+1,hi,p=>by
  have IH:=Qi6 lv d g ds hg i (by omega);rw[Qbg _ _ _ _ (by rw[Ui];omega),Qdb,Uw,Uw,IH,IH,QbE lv d i (by omega),QbE lv d i (by omega)];have half:∀y:Int,y / 2 ^ (i+1)=y / 2 ^ i / 2:=λ y=>by rw[Int.pow_succ,Int.ediv_ediv_of_nonneg (Int.le_of_lt (Int.pow_pos (by decide)))]
  constructor
  ·rintro((⟨y,hy,e⟩ | ⟨⟨y,hy,e⟩,_⟩) | (⟨y,hy,e⟩ | ⟨⟨y,hy,e⟩,_⟩))
   ·exact⟨y,hy,by rw[half];omega⟩
   ·exact⟨y,hy,by rw[half,<-QjS,<-e];omega⟩
   ·exact⟨y,hy,by rw[half];omega⟩
   ·exact⟨y,hy,by rw[half,<-QjS,<-e];omega⟩
  ·rintro⟨y,hy,rfl⟩
   rw[half]
   by_cases e:y / 2 ^ i % 2=0
   ·exact .inl (.inl ⟨y,hy,by omega⟩)
   ·exact .inr (.inl ⟨y,hy,by omega⟩)
theorem Qdt{l:List Int}(hn:l.Nodup){m:Nat}(h:m<len l):nth l m ∉ l.take m:=λ hm=>by have h2:m<l.length:=h;rw[Jb l m h2]at hm;obtain⟨i,hi,e⟩:=List.getElem_of_mem hm;rw[List.length_take]at hi;rw[List.getElem_take]at e;have:=QhD hn e;omega
theorem Qnx{o:Option ByteArray}(h:¬o.isSome):o=none:=by simpa using h
theorem QnQ(lv:List Int)(d:Nat)(g:KnF)(ds ds2:List ByteArray)(hg:∀k,(g k).isSome ↔ k ∈ lv)(i:Nat)(hi:i<d)(m:Nat)(hm:m<len (Jj (Za lv d) i)):
  Vx (Qal g (Za lv d) ds i) ((Jj (Za lv d) i).take m) ds2 (nth (Jj (Za lv d) i) m)=none:=by
 apply Qnx;rw[Uw,Qi6 lv d g ds hg i (by omega)];have h1:=(QbE lv d i hi _).1 (Vk hm);have hn:(Jj (Za lv d) i).Nodup:=by rw[Qiq lv d i hi];exact Ql4 _
 have h2:=Qdt hn hm;rintro(h3 | h3)
 ·exact h1.2 h3
 ·exact h2 h3
theorem QlY{lv:List Int}(hn:lv.Nodup)(ds:List ByteArray)(m:Nat)(hm:m<len lv):Vx noF (lv.take m) ds (nth lv m)=none:=by
 apply Qnx;rw[Uw];rintro(h | h)
 ·simp[noF]at h
 ·exact Qdt hn hm h
theorem Qai{k:Int}{d n:Nat}(hd:d<=16)(h0:0<=k)(hk:k<n)(hn:n<=2 ^ d):Zt k d=((Xr k.toNat d:Nat):Int):=by unfold Zt;rw[if_pos ⟨by omega,by omega,by rw[Int.toNat_natCast,Zr];omega⟩,Int.toNat_natCast]
theorem Qid{ps:List Int}{d n:Nat}(hd:d<=16)(hn:n<=2 ^ d)(hu:∀k ∈ ps,U64 k)(h:Qa0 n ps):(Qr ps (d:Nat)).Nodup:=by
 have hb:∀i,i<len ps->0<=nth ps i/\nth ps i<n:=λ i hi=>⟨(hu _ (Vk hi)).1,(h.2 i hi).1⟩;have hr:QdB ps:=λ i hi h0=>(h.2 i hi).2 h0;unfold Qr;rw[List.Nodup,List.pairwise_map,List.pairwise_iff_getElem];intro i j hi hj hij e;have hi2:=hb i hi;have hj2:=hb j hj;rw[Jb ps i hi]at hi2;rw[Jb ps j hj]at hj2;rw[Qai hd hi2.1 hi2.2 hn,Qai hd hj2.1 hj2.2 hn]at e;have e2:Xr ps[i].toNat d=Xr ps[j].toNat d:=by exact_mod_cast e
 have hl:∀k:Int,0<=k->k<n->k.toNat<2 ^ d:=λ k h1 h2=>by omega
 have e3:ps[i].toNat=ps[j].toNat:=by rw[<-Qaq (hl _ hi2.1 hi2.2),<-Qaq (hl _ hj2.1 hj2.2),e2]
 have hjl:j<len ps:=hj;have h3:=QdB.le hr (i+1) j (by omega) hjl;have h4:=hr (i+1) (by omega) (by omega);rw[Nat.add_sub_cancel,Jb ps i hi]at h4;rw[Jb ps j hj]at h3;omega
theorem Qek{ps:List Int}{d n:Nat}(hd:d<=16)(h:Qa0 n ps):Z4 (Qr ps (d:Nat)) (d:Nat)=Za (Qr ps (d:Nat)) d:=Us hd h.1
def Qd7(n:Int)(ps:List Int):List (List Int):=Z4 (Qr ps (Xy n)) (Xy n)
def U4(n:Int)(ps:List Int):Nat:=Xp (Qd7 n ps) (len (Qd7 n ps))
def QrZ(n:Int)(ps:List Int)(es ds:List ByteArray):ByteArray:=Vv (Qfi (g0F (Qr ps (Xy n)) es) (Qd7 n ps) ds) 0
def QdG(n:Int)(ps:List Int)(es:List ByteArray):Prop:=Ki n ps/\len es=len ps
instance (n:Int) (ps:List Int) (es:List ByteArray):Decidable (QdG n ps es):=by unfold QdG;exact inferInstance
def X4(n:Int)(ps:List Int)(es ds:List ByteArray):Int:=
 if ¬QdG n ps es then 2 else if Qmq ds=true then 5 else if len ds<U4 n ps then 4 else if U4 n ps<len ds then 3 else 0
def Yl(n:Int)(ps:List Int)(es ds:List ByteArray):ByteArray:=if X4 n ps es ds=0 then QrZ n ps es ds else⟨#[]⟩
def Qeu(n:Int)(ps:List Int)(es ds:List ByteArray)(w:World)(e:Ending)(w':World):Prop:=e=.returned (.tuple #[.string (Yl n ps es ds),.int .i64 (X4 n ps es ds)])/\Below w.heap.size w w'
def Qrv(k:Int)(l:List Int):Bool:=decide (k ∈ l)
theorem QoX{k:Int}{l:List Int}{n:Nat}(h:n<len l)(e:nth l n=k):Qrv k l=true:=by unfold Qrv;rw[Jb l n h]at e;simp only[<-e,decide_eq_true_eq];exact List.getElem_mem _
theorem Qmp{k:Int}{l:List Int}(h:∀j,j<len l->nth l j≠k):Qrv k l=false:=by unfold Qrv;simp only[decide_eq_false_iff_not];intro hm;obtain⟨i,hi,e⟩:=List.getElem_of_mem hm;exact h i hi (by rw[Jb l i hi];exact e)
theorem QsH(a:Option Addr)(cap:Nat)(k:Int)(l:List Int)(w:World)(hlen:len l<=9223372036854775807)(hc:QaO w a l):
  Calls Tryz.prog 231 #[.slice a (len l) cap,.int .u64 k] w λ e w'=>e=.returned (.bool (Qrv k l))/\w'=w:=by
 have HC:=QLh hc;clear hc
 go_enter Tryz.func231,Tryz.ntmps231
 go_wp2
 go_loop [5] (λ i=>∃n:Nat,n<=len l/\i=.int .i64 n/\Hid (∀j,j<n->nth l j≠k)) (λ i=>len l - (intOf i).toNat)
 case atStart=>exact⟨0,Nat.zero_le _,rfl,λ j hj=>by omega⟩
 case round=>
  obtain⟨n,hn,rfl,hk⟩:=hrel
  by_cases hlt:n<len l
  ·obtain⟨b,off,rfl,hcell⟩:=HC.out n hlt
   by_cases hh:nth l n=k
   ·have hh':(nth l n == k)=true:=by simpa using hh
    have HH:=QLh hh;clear hh;go_wp2;go_ret;exact⟨Xv (QoX hlt HH.out).symm,rfl⟩
   ·have hh':(nth l n == k)=false:=by simpa using hh
    have HH:=QLh hh;clear hh;go_wp2
    go_round
    case rel=>exact⟨n+1,by omega,by go_num,λ j hj=>by
     by_cases e:j=n
     ·subst e;exact HH.out
     ·exact hk.out j (by omega)⟩
    case measure=>simp[intOf];omega
  ·go_wp2
   go_ret;exact⟨Xv (Qmp (λ j hj=>hk.out j (by omega))).symm,rfl⟩
abbrev QeH(l:List Int):Prop:=l.Pairwise (λ x y=>x<y)
theorem Ql0{l:List Int}{k:Int}{m:Nat}(hr:QeH l)(h1:∀j,j<m->nth l j<k)(hm:m<=len l)(h2:m<len l->k<nth l m):QeH (l.take m++[k]++l.drop m):=by
 have h3:∀x ∈ l.take m,x<k:=by
  intro x hx;obtain⟨i,hi,rfl⟩:=List.getElem_of_mem hx;have hi':i<m:=by simp at hi;omega
  have:=h1 i hi';rw[Jb l i (by rw[Qy]at hm;omega)]at this
  simpa using this
 have h4:∀x ∈ l.drop m,k<x:=by
  intro x hx
  by_cases hlt:m<len l
  ·have hlt':m<l.length:=hlt
   rw[List.drop_eq_getElem_cons hlt']at hx;have h5:=h2 hlt;rw[Jb l m hlt']at h5
   rcases List.mem_cons.1 hx with rfl | hx
   ·exact h5
   ·have h6:(l.drop m).Pairwise (λ x y=>x<y):=List.Pairwise.drop hr
    rw[List.drop_eq_getElem_cons hlt',List.pairwise_cons]at h6;have:=h6.1 x hx;omega
  ·rw[List.drop_eq_nil_of_le (by rw[<-Qy];omega)]at hx;cases hx
 refine List.pairwise_append.2 ⟨List.pairwise_append.2 ⟨hr.take,List.pairwise_singleton ..,λ x hx y hy=>?_⟩,hr.drop,λ x hx y hy=>?_⟩
 ·rw[List.mem_singleton]at hy;subst hy;exact h3 x hx
 ·rcases List.mem_append.1 hx with hx | hx
  ·have:=h3 x hx;have:=h4 y hy;omega
  ·rw[List.mem_singleton]at hx;subst hx;exact h4 y hy
theorem Qsr(l:List Int)(k:Int)(m:Nat)(x:Int):x ∈ l.take m++[k]++l.drop m ↔ x ∈ l \/ x=k:=by
 have h:x ∈ l ↔ x ∈ l.take m \/ x ∈ l.drop m:=by rw[<-List.mem_append,List.take_append_drop]
 rw[h,List.mem_append,List.mem_append,List.mem_singleton]
 constructor
 ·rintro((h | h) | h)
  ·exact .inl (.inl h)
  ·exact .inr h
  ·exact .inl (.inr h)
 ·rintro((h | h) | h)
  ·exact .inl (.inl h)
  ·exact .inr h
  ·exact .inl (.inr h)
theorem Qs1(l:List Int)(k:Int)(m:Nat):len (l.take m++[k]++l.drop m)=len l+1:=by rw[Qy,Qy];simp;omega
def QlC(base:Nat)(l:List Int)(k:Int)(w:World)(e:Ending)(w':World):Prop:=
 ∃(v:Value) (l':List Int),e=.returned v/\QeH l'/\(∀x,x ∈ l' ↔ x ∈ l \/ x=k)/\len l'<=len l+1/\w'.ownsRow base 23 1 v (len l') (l'.map (Value.int .u64))/\Below w.heap.size w w'
theorem Qc1{w:World}{base b' e size n:Nat}{v:Value}{xs:List Value}(h:w.ownsRow base e size v n xs)(hb:b'<=base):w.ownsRow b' e size v n xs:=
 QgH h (Below.refl _ _) hb
theorem Qaj(l:List Int)(a n:Nat)(h:a+n<=len l):(((l.drop a).take n).map (Value.int .u64)).length=n:=by have:l.length=len l:=rfl;simp;omega
theorem QaZ(l:List Int):∀u ∈ l.map (Value.int .u64),u.oneCell'=true:=by intro u hu;obtain⟨x,_,rfl⟩:=List.mem_map.1 hu;rfl
theorem Qcn(w:World)(g:Nat)(l:List Int)(h:∀j,j<len l->w.cell? ⟨g,j,none⟩=some (.int .u64 (nth l j)))(a n:Nat)(han:a+n<=len l):∀j u,(((l.drop a).take n).map (Value.int .u64))[j]?=some u->w.cell? ((⟨g,a,none⟩:Addr).add j)=some u:=by
 intro j u hu;have hj:j<n:=by have h1:=(List.getElem?_eq_some_iff.1 hu).1;rw[Qaj l a n han]at h1;exact h1
 have hjl:a+j<l.length:=by have:l.length=len l:=rfl;omega
 rw[List.getElem?_map,List.getElem?_take_of_lt hj,List.getElem?_drop,List.getElem?_eq_getElem hjl]at hu
 cases hu
 have h2:=h (a+j) hjl;rw[Jb l (a+j) hjl]at h2;have h3:(⟨g,a,none⟩:Addr).add j=⟨g,a+j,none⟩:=by
  by_cases hj0:j=0
  ·subst hj0;rfl
  ·simp[Addr.add,hj0]
 rw[h3];exact h2
theorem Qgo(w:World)(v:Value)(t:TypeId):∀j u,[v][j]?=some u->(w.alloc (.cells #[v] t)).cell? ((⟨w.heap.size,0,none⟩:Addr).add j)=some u:=by
 intro j u hu
 cases j with
 | zero=>simp at hu;subst hu;exact Qa (heap_alloc_new _ _) 0
 | succ j=>simp at hu
theorem QoY(l:List Int)(k:Int)(m:Nat)(h:len l - m=0):List.take m (l.map (Value.int .u64))++[.int .u64 k]=(l.take m++[k]++l.drop m).map (Value.int .u64):=by rw[List.drop_eq_nil_of_le (by rw[<-Qy];omega)];simp
theorem QoW(l:List Int)(k:Int)(m:Nat):List.take m (l.map (Value.int .u64))++.int .u64 k :: List.take (len l - m) (List.drop m (l.map (Value.int .u64)))=(l.take m++[k]++l.drop m).map (Value.int .u64):=by rw[List.take_of_length_le (l:=List.drop m _) (by rw[List.length_drop,List.length_map];exact Nat.le_refl _)];simp
theorem QgD{base:Nat}{l:List Int}{k:Int}{m n:Nat}{w w':World}{v:Value}(hm:m<=len l)(hr:QeH l)(hk:∀j,j<m->nth l j<k)(h2:m<len l->k<nth l m)(hbase:base<=w.heap.size)
  {xs:List Value} (hx:xs=(l.take m++[k]++l.drop m).map (Value.int .u64)) (hown:w'.ownsRow w.heap.size 23 1 v n xs) (hb:Below w.heap.size w w'):QlC base l k w (.returned v) w':=by
 subst hx;have hn:n=len (l.take m++[k]++l.drop m):=by have:=hown.1;rw[List.length_map,Nat.mul_one]at this;rw[Qy];exact this.symm
 subst hn;exact⟨v,_,rfl,Ql0 hr hk hm h2,Qsr l k m,by rw[Qs1];exact Nat.le_refl _,Qc1 hown hbase,hb⟩
theorem QsE(base:Nat)(v0:Value)(l:List Int)(k:Int)(w:World)(hown:w.ownsRow base 23 1 v0 (len l) (l.map (Value.int .u64)))(hr:QeH l)(hlen:len l<=1000)(hbase:base<=w.heap.size):
  Calls Tryz.prog 229 #[v0,.int .u64 k] w (QlC base l k w):=by
 obtain⟨i0,hi,hz0,hz1,hz2⟩:=info_parts Qbh;have HR:=QLh hr;have HOWN:=QLh hown;clear hr
 rcases hown.2 with⟨rfl,h2⟩ | ⟨g,cap,cur,rfl,hg,hh,hc1,hc2,hc3,hc4⟩
 ·obtain rfl:l=[]:=List.eq_nil_of_length_eq_zero (by rw[<-Qy];omega)
  clear hown h2;have W0:w.ownsRow w.heap.size 23 1 (.slice none 0 0) 0 []:=World.ownsRow_nil _ _ _ _;have HW0:=QLh W0;clear W0;show Calls Tryz.prog 229 #[.slice none 0 0,.int .u64 k] w _;have l0:len ([]:List Int)=0:=rfl
  go_enter Tryz.func229,Tryz.ntmps229
  go_wp2_with fail;refine wp_loop_rounds 1 ?_;rw[rounds_succ]
  go_wp2_with (first | (at_builtin;refine wpList_append_own_none rfl _ _ 64 rfl w.heap.size 23 i0 1 Tryz.underlying64 hi _ _ _ rfl HW0.out rfl ?_) | (at_builtin;refine wpList_append_own _ rfl _ _ 64 rfl w.heap.size 23 i0 (.int .u64 0) 1 8 Tryz.underlying64 hi hz0 hz1 hz2 rfl (by decide) _ _ _ rfl (HW0.out.alloc _) ⟨w.heap.size,0,none⟩ 1 1 [.int .u64 k] rfl rfl ?c1 ?c2 ?c3 ?c4 ?c5 ?_))
  case c1=>
   intro j u hu
   cases j with
   | zero=>simp at hu;subst hu;exact Qa (heap_alloc_new _ _) 0
   | succ j=>simp at hu
  case c2=>intro u hu;simp at hu;subst hu;rfl
  case c3=>unfold maxLen;omega
  case c4=>omega
  case c5=>simp
  intro v' w2 hown' hgrow _;have hb2:Below w.heap.size w w2:=Qq (Qf (Below.refl _ _) _) hgrow (λ k hk'=>by simp[Value.ownBlock]at hk');obtain⟨g',cap',rfl⟩:=ownsRow_succ hown';have HO2:=QLh hown';clear hown' hgrow
  go_wp2_with (at_builtin;refine wpList_append_own_none rfl _ _ 64 rfl w.heap.size 23 i0 1 Tryz.underlying64 hi _ _ _ rfl HO2.out rfl ?_)
  go_wp2;go_ret;exact⟨_,[k],rfl,List.pairwise_singleton ..,λ x=>by simp,Nat.le_refl _,Qc1 HO2.out hbase,hb2⟩
 ·have hlc:len l<=cap:=by omega
  have HC:Hid (∀j,j<len l->w.cell? ⟨g,j,none⟩=some (.int .u64 (nth l j))):=QLh (λ j hj=>by
   have:=hown.cellAt j (by omega);rw[this,List.getElem?_map,List.getElem?_eq_getElem (by simpa [Qy] using hj),Jb l j (by simpa [Qy] using hj)];rfl)
  have hgl:g<w.heap.size:=(Array.getElem?_eq_some_iff.1 hh).1;clear hown hh hc3 hc4 hc1;have W0:w.ownsRow w.heap.size 23 1 (.slice none 0 0) 0 []:=World.ownsRow_nil _ _ _ _;have HW0:=QLh W0;clear W0;have HZ:=QLh hz0
  go_enter Tryz.func229,Tryz.ntmps229
  go_wp2
  go_loopg [5] (len l) (λ g i wr=>∃m:Nat,g+m=len l/\i=.int .i64 m/\Hid (∀j,j<m->nth l j<k)/\w=wr)
  case atStart=>exact⟨0,rfl,rfl,λ j hj=>by omega,rfl⟩
  case round=>
   obtain⟨m,hm,rfl,hk,rfl⟩:=hrel
   by_cases hlt:m<len l
   ·have hcell:=HC.out m hlt
    by_cases h1:nth l m<k
    ·go_wp2
     go_roundg (len l - (m+1))
     case rel=>exact⟨m+1,by omega,by go_num,QLh (λ j hj=>by
      by_cases e:j=m
      ·subst e;exact h1
      ·exact hk.out j (by omega)),rfl⟩
     case measure=>omega
    ·by_cases h3:nth l m=k
     ·have h3':(nth l m == k)=true:=by simpa using h3
      have H3:=QLh h3;clear h3;go_wp2;go_ret;exact⟨_,l,rfl,HR.out,λ x=>⟨.inl,λ h=>by
       rcases h with h | h
       ·exact h
       ·rw[h,<-H3.out,Jb l m hlt];exact List.getElem_mem _⟩,by omega,HOWN.out,Below.refl _ _⟩
     ·have h3':(nth l m == k)=false:=by simpa using h3
      have H4:Hid (m<len l->k<nth l m):=QLh (λ _=>by omega);have HK:=QLh hk.out;clear h3 hk;have hmc:m<=cap:=by omega
      have hml:m<=len l:=by omega
      go_wp2_with (at_builtin;refine wpList_append_own _ rfl _ _ 64 rfl w.heap.size 23 i0 (.int .u64 0) 1 8 Tryz.underlying64 hi HZ.out hz1 hz2 rfl (by decide) _ _ _ rfl HW0.out ⟨g,0,none⟩ _ _ (((l.drop 0).take m).map (Value.int .u64)) rfl (by rw[Qaj l 0 m (by omega)];simp) (Qcn w g l HC.out 0 m (by omega)) (QaZ _) (by unfold maxLen;omega) (by omega) (Nat.le_refl _) ?_)
      intro v1 w1 hown1 hgrow1 _;have HB1:Hid (Below w.heap.size w w1):=QLh (Qq (Below.refl _ _) hgrow1 (λ k hk'=>by simp[Value.ownBlock]at hk'));have HO1:=QLh hown1;clear hown1 hgrow1
      go_wp2_with (at_builtin;refine wpList_append_own _ rfl _ _ 64 rfl w.heap.size 23 i0 (.int .u64 0) 1 8 Tryz.underlying64 hi HZ.out hz1 hz2 rfl (by decide) _ _ _ rfl (HO1.out.alloc _) ⟨w1.heap.size,0,none⟩ 1 1 [.int .u64 k] rfl rfl (Qgo _ _ _) (by intro u hu;simp at hu;subst hu;rfl) (by unfold maxLen;omega) (by omega) (by have:=HB1.out.size;simp;omega) ?_)
      intro v2 w2 hown2 hgrow2 _;have HB2:Hid (Below w.heap.size w w2):=QLh (Qq (Qf HB1.out _) hgrow2 (λ k hk'=>(HO1.out.lt k hk').1));have HO2:=QLh hown2;clear hown2 hgrow2;have HC2:Hid (∀j,j<len l->w2.cell? ⟨g,j,none⟩=some (.int .u64 (nth l j))):=QLh (λ j hj=>by rw[HB2.out.cell (p:=⟨g,j,none⟩) hgl];exact HC.out j hj);have HE:Hid (QlC base l k w=QlC base l k w):=QLh rfl
      by_cases hcm:cap=m
      ·have hz:len l - m=0:=by omega
       go_wp2_with (at_builtin;refine wpList_append_own _ rfl _ _ 64 rfl w.heap.size 23 i0 (.int .u64 0) 1 8 Tryz.underlying64 hi HZ.out hz1 hz2 rfl (by decide) _ _ _ rfl HO2.out _ _ _ (((l.drop m).take (len l - m)).map (Value.int .u64)) rfl (by rw[Qaj l m (len l - m) (by omega)];omega) (by intro j u hu;rw[hz]at hu;simp at hu) (QaZ _) (by unfold maxLen;omega) (by omega) HB2.out.size ?_)
       intro v3 w3 hown3 hgrow3 _;have HB3:Hid (Below w.heap.size w w3):=QLh (Qq HB2.out hgrow3 (λ k hk'=>(HO2.out.lt k hk').1));have HO3:=QLh hown3;clear hown3 hgrow3;go_wp2;go_ret;exact QgD hml HR.out HK.out H4.out hbase (QoY l k m hz) HO3.out HB3.out
      ·have hcm2:m<cap:=by omega
       go_wp2_with (at_builtin;refine wpList_append_own _ rfl _ _ 64 rfl w.heap.size 23 i0 (.int .u64 0) 1 8 Tryz.underlying64 hi HZ.out hz1 hz2 rfl (by decide) _ _ _ rfl HO2.out ⟨g,m,none⟩ _ _ (((l.drop m).take (len l - m)).map (Value.int .u64)) rfl (by rw[Qaj l m (len l - m) (by omega)];omega) (Qcn w2 g l HC2.out m (len l - m) (by omega)) (QaZ _) (by unfold maxLen;omega) (by omega) HB2.out.size ?_)
       intro v3 w3 hown3 hgrow3 _;have HB3:Hid (Below w.heap.size w w3):=QLh (Qq HB2.out hgrow3 (λ k hk'=>(HO2.out.lt k hk').1));have HO3:=QLh hown3;clear hown3 hgrow3;go_wp2;go_ret;exact QgD hml HR.out HK.out H4.out hbase (QoW l k m) HO3.out HB3.out
   ·have H4:Hid (m<len l->k<nth l m):=QLh (λ h=>absurd h hlt)
    have HK:=QLh hk.out;clear hk;have hmc:m<=cap:=by omega
    have hml:m<=len l:=by omega
    go_wp2_with (at_builtin;refine wpList_append_own _ rfl _ _ 64 rfl w.heap.size 23 i0 (.int .u64 0) 1 8 Tryz.underlying64 hi HZ.out hz1 hz2 rfl (by decide) _ _ _ rfl HW0.out ⟨g,0,none⟩ _ _ (((l.drop 0).take m).map (Value.int .u64)) rfl (by rw[Qaj l 0 m (by omega)];simp) (Qcn w g l HC.out 0 m (by omega)) (QaZ _) (by unfold maxLen;omega) (by omega) (Nat.le_refl _) ?_)
    intro v1 w1 hown1 hgrow1 _;have HB1:Hid (Below w.heap.size w w1):=QLh (Qq (Below.refl _ _) hgrow1 (λ k hk'=>by simp[Value.ownBlock]at hk'));have HO1:=QLh hown1;clear hown1 hgrow1
    go_wp2_with (at_builtin;refine wpList_append_own _ rfl _ _ 64 rfl w.heap.size 23 i0 (.int .u64 0) 1 8 Tryz.underlying64 hi HZ.out hz1 hz2 rfl (by decide) _ _ _ rfl (HO1.out.alloc _) ⟨w1.heap.size,0,none⟩ 1 1 [.int .u64 k] rfl rfl (Qgo _ _ _) (by intro u hu;simp at hu;subst hu;rfl) (by unfold maxLen;omega) (by omega) (by have:=HB1.out.size;simp;omega) ?_)
    intro v2 w2 hown2 hgrow2 _;have HB2:Hid (Below w.heap.size w w2):=QLh (Qq (Qf HB1.out _) hgrow2 (λ k hk'=>(HO1.out.lt k hk').1));have HO2:=QLh hown2;clear hown2 hgrow2;have HC2:Hid (∀j,j<len l->w2.cell? ⟨g,j,none⟩=some (.int .u64 (nth l j))):=QLh (λ j hj=>by rw[HB2.out.cell (p:=⟨g,j,none⟩) hgl];exact HC.out j hj);have HE:Hid (QlC base l k w=QlC base l k w):=QLh rfl
    by_cases hcm:cap=m
    ·have hz:len l - m=0:=by omega
     go_wp2_with (at_builtin;refine wpList_append_own _ rfl _ _ 64 rfl w.heap.size 23 i0 (.int .u64 0) 1 8 Tryz.underlying64 hi HZ.out hz1 hz2 rfl (by decide) _ _ _ rfl HO2.out _ _ _ (((l.drop m).take (len l - m)).map (Value.int .u64)) rfl (by rw[Qaj l m (len l - m) (by omega)];omega) (by intro j u hu;rw[hz]at hu;simp at hu) (QaZ _) (by unfold maxLen;omega) (by omega) HB2.out.size ?_)
     intro v3 w3 hown3 hgrow3 _;have HB3:Hid (Below w.heap.size w w3):=QLh (Qq HB2.out hgrow3 (λ k hk'=>(HO2.out.lt k hk').1));have HO3:=QLh hown3;clear hown3 hgrow3;go_wp2;go_ret;exact QgD hml HR.out HK.out H4.out hbase (QoY l k m hz) HO3.out HB3.out
    ·have hcm2:m<cap:=by omega
     go_wp2_with (at_builtin;refine wpList_append_own _ rfl _ _ 64 rfl w.heap.size 23 i0 (.int .u64 0) 1 8 Tryz.underlying64 hi HZ.out hz1 hz2 rfl (by decide) _ _ _ rfl HO2.out ⟨g,m,none⟩ _ _ (((l.drop m).take (len l - m)).map (Value.int .u64)) rfl (by rw[Qaj l m (len l - m) (by omega)];omega) (Qcn w2 g l HC2.out m (len l - m) (by omega)) (QaZ _) (by unfold maxLen;omega) (by omega) HB2.out.size ?_)
     intro v3 w3 hown3 hgrow3 _;have HB3:Hid (Below w.heap.size w w3):=QLh (Qq HB2.out hgrow3 (λ k hk'=>(HO2.out.lt k hk').1));have HO3:=QLh hown3;clear hown3 hgrow3;go_wp2;go_ret;exact QgD hml HR.out HK.out H4.out hbase (QoW l k m) HO3.out HB3.out
def Kn(W:World)(base:Nat)(v:Value)(l:List Int):Prop:=QeH l/\W.ownsRow base 23 1 v (len l) (l.map (Value.int .u64))
theorem Kn.nil(W:World)(base:Nat):Kn W base (.slice none 0 0) []:=⟨List.Pairwise.nil,World.ownsRow_nil _ _ _ _⟩
theorem Kn.below{W W':World}{base:Nat}{v:Value}{l:List Int}(h:Kn W base v l)(hb:Below W.heap.size W W'):Kn W' base v l:=⟨h.1,Qs h.2 hb⟩
theorem Kn.shape{W:World}{base:Nat}{v:Value}{l:List Int}(h:Kn W base v l):∃a cap,v=.slice a (len l) cap/\QaO W a l:=by obtain⟨a,cap,h1,h2,_⟩:=Qb7 h.2;exact⟨a,cap,h1,h2⟩
theorem QdQ(base:Nat)(v0:Value)(l:List Int)(k:Int)(w:World)(h:Kn w base v0 l)(hlen:len l<=1000)(hbase:base<=w.heap.size):
  Calls Tryz.prog 229 #[v0,.int .u64 k] w λ e w'=>∃v l',e=.returned v/\Kn w' base v l'/\(∀x,x ∈ l' ↔ x ∈ l \/ x=k)/\len l'<=len l+1/\Below w.heap.size w w':=
 (QsE base v0 l k w h.2 h.1 hlen hbase).mono (λ e w' ⟨v,l',h1,h2,h3,h4,h5,h6⟩=>⟨v,l',h1,⟨h2,h5⟩,h3,h4,h6⟩)
theorem Qtd(a:Option Addr)(cap:Nat)(k:Int)(l:List Int)(w:World)(hlen:len l<=9223372036854775807)(hc:QaO w a l):
  Calls Tryz.prog 231 #[.slice a (len l) cap,.int .u64 k] w λ e w'=>e=.returned (.bool (Qrv k l))/\w=w':=
 (QsH a cap k l w hlen hc).mono (λ e w' h=>⟨h.1,h.2.symm⟩)
theorem X8{l:List Int}{m:Nat}(h:m<len l)(x:Int):x ∈ l.take (m+1) ↔ x ∈ l.take m \/ x=nth l m:=by have h':m<l.length:=h;rw[List.take_succ_eq_append_getElem h',List.mem_append,List.mem_singleton,Jb l m h']
theorem QdT(l:List Int):l.take (len l)=l:=List.take_length
def Qph(kn nd nx:List Int)(m:Nat):Prop:=(∀x,x ∈ nd ↔ (∃j ∈ kn.take m,x=sib j)/\x ∉ kn)/\(∀x,x ∈ nx ↔ ∃j ∈ kn.take m,x=j / 2)/\len nd<=m/\len nx<=m
theorem Qph.start(kn:List Int):Qph kn [] [] 0:=⟨λ x=>by simp,λ x=>by simp,Nat.le_refl _,Nat.le_refl _⟩
theorem Qph.step{kn nd nx nd' nx':List Int}{m:Nat}(h:Qph kn nd nx m)(hm:m<len kn)(h1:∀x,x ∈ nd' ↔ x ∈ nd \/ (x=sib (nth kn m)/\x ∉ kn))(h2:∀x,x ∈ nx' ↔ x ∈ nx \/ x=nth kn m / 2)(l1:len nd'<=len nd+1)(l2:len nx'<=len nx+1):Qph kn nd' nx' (m+1):=by
 refine⟨λ x=>?_,λ x=>?_,by have:=h.2.2.1;omega,by have:=h.2.2.2;omega⟩
 ·rw[h1,h.1]
  constructor
  ·rintro(⟨⟨j,hj,e⟩,hx⟩ | ⟨e,hx⟩)
   ·exact⟨⟨j,(X8 hm j).2 (.inl hj),e⟩,hx⟩
   ·exact⟨⟨_,(X8 hm _).2 (.inr rfl),e⟩,hx⟩
  ·rintro⟨⟨j,hj,e⟩,hx⟩
   rcases(X8 hm j).1 hj with hj | rfl
   ·exact .inl ⟨⟨j,hj,e⟩,hx⟩
   ·exact .inr ⟨e,hx⟩
 ·rw[h2,h.2.1]
  constructor
  ·rintro(⟨j,hj,e⟩ | e)
   ·exact⟨j,(X8 hm j).2 (.inl hj),e⟩
   ·exact⟨_,(X8 hm _).2 (.inr rfl),e⟩
  ·rintro⟨j,hj,e⟩
   rcases(X8 hm j).1 hj with hj | rfl
   ·exact .inl ⟨j,hj,e⟩
   ·exact .inr e
theorem Qph.row{kn nd nx:List Int}(h:Qph kn nd nx (len kn))(hr:QeH nd):nd=Qat kn:=by refine Qe9 hr (QcI (Vr kn)) (λ k=>?_);rw[h.1,QdT];unfold Qat;rw[Qen,Ut]
def At(leaves:List Int)(lv:Nat)(kn:List Int):Prop:=∀x,x ∈ kn ↔ ∃j ∈ leaves,x=j / 2 ^ lv
theorem At.row{leaves kn:List Int}{lv:Nat}(h:At leaves lv kn):Qat kn=Qat (Ke (leaves.map (· / 2 ^ lv))):=Qif (λ k=>by
 rw[h k,(Yf _).2.1,List.mem_map]
 constructor
 ·rintro⟨j,hj,e⟩;exact⟨j,hj,e.symm⟩
 ·rintro⟨j,hj,e⟩;exact⟨j,hj,e.symm⟩)
theorem At.next{leaves kn nd nx:List Int}{lv:Nat}(h:At leaves lv kn)(hf:Qph kn nd nx (len kn)):At leaves (lv+1) nx:=λ x=>by
 have hp:∀j:Int,j / 2 ^ lv / 2=j / 2 ^ (lv+1):=λ j=>by rw[Int.pow_succ,Int.ediv_ediv_of_nonneg (Int.pow_nonneg (by decide))]
 rw[hf.2.1,QdT]
 constructor
 ·rintro⟨j,hj,rfl⟩
  obtain⟨i,hi,rfl⟩:=(h j).1 hj;exact⟨i,hi,hp i⟩
 ·rintro⟨i,hi,rfl⟩
  exact⟨i / 2 ^ lv,(h _).2 ⟨i,hi,rfl⟩,(hp i).symm⟩
theorem At.u64{leaves kn:List Int}{lv:Nat}(h:At leaves lv kn)(hu:∀k ∈ leaves,U64 k):∀k ∈ kn,U64 k:=by intro k hk;obtain⟨j,hj,rfl⟩:=(h k).1 hk;have:=hu j hj;unfold U64 at this ⊢;have hp:(0:Int)<2 ^ lv:=Int.pow_pos (by decide);exact⟨Int.ediv_nonneg this.1 (by omega),Int.le_trans (Int.ediv_le_self _ this.1) this.2⟩
theorem Qjj(leaves:List Int)(lv:Nat):Za leaves (lv+1)=Za leaves lv++[Qat (Ke (leaves.map (· / 2 ^ lv)))]:=by simp[Za,List.range_succ]
theorem Qti{W X w1:World}{base b2 n:Nat}{v vo:Value}{l:List Int}{xs:List Value}(h:Kn W base v l)(hb:Below W.heap.size W X)(hq:X.ownsRow b2 64 1 vo n xs)(hg:X.grownBy w1 vo.ownBlock):Kn w1 base v l:=
 ⟨h.1,(Qs h.2 hb).kept hg (QbU (Qs h.2 hb) hq (by decide))⟩
theorem QoE{X w1:World}{base b2 n:Nat}{vo:Value}{xs vals:List Value}{rs:List (List Int)}(h:Z7 X base vals rs)(hq:X.ownsRow b2 64 1 vo n xs)(hg:X.grownBy w1 vo.ownBlock):Z7 w1 base vals rs:=
 h.kept hg (λ i u hu=>by
  rcases hq.2 with⟨e,_⟩ | ⟨g,cap,cur,e,_,hgb,_⟩
  ·rw[e];cases h:u.ownBlock <;> simp[Value.ownBlock]
  ·rw[e];exact h.apart hgb (by decide) i u hu)
def Qb6(W:World)(base:Nat)(v:Value)(rs:List (List Int)):Prop:=∃vals:List Value,W.ownsRow base 64 1 v vals.length vals/\Z7 W base vals rs
theorem Qb6.nil(W:World)(base:Nat):Qb6 W base (.slice none 0 0) []:=⟨[],World.ownsRow_nil _ _ _ _,Z7.nil _ _⟩
theorem Qb6.below{W W':World}{base:Nat}{v:Value}{rs:List (List Int)}(h:Qb6 W base v rs)(hb:Below W.heap.size W W'):Qb6 W' base v rs:=by obtain⟨vals,h1,h2⟩:=h;exact⟨vals,Qs h1 hb,h2.below hb⟩
def Lev8(leaves:List Int)(w:World)(lv:Nat)(vk vo:Value)(wr:World):Prop:=∃kn,Kn wr w.heap.size vk kn/\At leaves lv kn/\len kn<=100/\Qb6 wr w.heap.size vo (Za leaves lv)/\Below w.heap.size w wr
def In8(w W:World)(kn:List Int)(m:Nat)(vd vx:Value)(wr:World):Prop:=∃nd nx,Kn wr w.heap.size vd nd/\Kn wr w.heap.size vx nx/\Qph kn nd nx m/\Below W.heap.size W wr
theorem Qdy(a:Option Addr)(cap:Nat)(leaves:List Int)(d:Int)(w:World)(hl:QaO w a leaves)(hlen:len leaves<=100)(hu:∀k ∈ leaves,U64 k):
  Calls Tryz.prog 172 #[.slice a (len leaves) cap,.int .i64 d] w (QgU (Z4 leaves d) w):=by
 have HL:=QLh hl;have HU:=QLh hu;clear hl hu
 by_cases hd:d<0 \/ 16<d \/ len leaves=0
 ·have E:Hid (Z4 leaves d=[]):=QLh (by unfold Z4;rw[if_neg (λ h=>by have:=h.1;have:=h.2.1;have:=h.2.2.1;omega)])
  by_cases h1:d<0
  ·have e1:decide (d<0)=true:=decide_eq_true h1
   go_enter Tryz.func172,Tryz.ntmps172
   go_wp2;go_ret;exact Yp E.out (Below.refl _ _)
  ·by_cases h2:16<d
   ·have e1:decide (d<0)=false:=decide_eq_false h1
    have e2:decide (16<d)=true:=decide_eq_true h2
    go_enter Tryz.func172,Tryz.ntmps172
    go_wp2;go_ret;exact Yp E.out (Below.refl _ _)
   ·have e1:decide (d<0)=false:=decide_eq_false h1
    have e2:decide (16<d)=false:=decide_eq_false h2;have e3:((len leaves:Int) == 0)=true:=by simp;omega
    go_enter Tryz.func172,Tryz.ntmps172
    go_wp2;go_ret;exact Yp E.out (Below.refl _ _)
 obtain⟨e,rfl⟩:=Int.eq_ofNat_of_zero_le (a:=d) (by omega);have he16:e<=16:=by omega
 have hl0:0<len leaves:=by omega
 have p16:2 ^ e<=65536:=Nat.pow_le_pow_right (n:=2) (by decide) he16;have e1:decide ((e:Int)<0)=false:=decide_eq_false (by omega);have e2:decide ((16:Int)<(e:Int))=false:=decide_eq_false (by omega);have e3:((len leaves:Int) == 0)=false:=by simp;omega
 have N1:Hid (Qo9 leaves e=true->Z4 leaves e=[]):=QLh (λ h=>by unfold Z4;rw[Int.toNat_natCast,if_neg (λ hh=>by rw[h]at hh;exact absurd hh.2.2.2 (by decide))]);have N2:Hid (Qo9 leaves e=false->Z4 leaves e=Za leaves e):=QLh (λ h=>by unfold Z4;rw[Int.toNat_natCast,if_pos ⟨by omega,by omega,hl0,h⟩]);have F1:Hid ((∃k ∈ leaves,((2 ^ e:Nat):Int)<=k)->Qo9 leaves e=true):=QLh (fun ⟨k,hk,h⟩=>decide_eq_true ⟨k,hk,by rw[Zr];exact h⟩);have F2:Hid ((∀k ∈ leaves,k<((2 ^ e:Nat):Int))->Qo9 leaves e=false):=QLh (λ h=>decide_eq_false (fun ⟨k,hk,h2⟩=>by rw[Zr]at h2;have:=h k hk;omega));obtain⟨p,hp⟩:∃p:Nat,2 ^ e=p:=⟨_,rfl⟩;have hw:IntKind.u64.wrap ((2:Int) ^ e)=(p:Int):=by rw[Zr,IntKind.wrap_u64,hp];omega
 rw[hp]at p16 F1 F2;clear hp hd
 go_enter Tryz.func172,Tryz.ntmps172
 go_wp2
 go_loopg [5,6] (len leaves) (λ g v i wr=>∃m:Nat,g+m=len leaves/\i=.int .i64 m/\Below w.heap.size w wr/\Hid (∃kn,Kn wr w.heap.size v kn/\(∀x,x ∈ kn ↔ x ∈ leaves.take m)/\len kn<=m/\∀x ∈ leaves.take m,x<(p:Int)))
 case atStart=>exact⟨0,rfl,rfl,Below.refl _ _,⟨[],Kn.nil _ _,λ x=>by simp,Nat.le_refl _,λ x h=>by simp at h⟩⟩
 case round=>
  obtain⟨m,hm,rfl,hb,hk⟩:=hrel
  by_cases hlt:m<len leaves
  ·obtain⟨b,off,rfl,hcell⟩:=(HL.out.below hb) m hlt
   have hmem:nth leaves m ∈ leaves:=by rw[Jb leaves m hlt];exact List.getElem_mem _
   by_cases hf:(p:Int)<=nth leaves m
   ·have hf':decide ((p:Int)<=nth leaves m)=true:=decide_eq_true hf
    have E:Hid (Z4 leaves e=[]):=QLh (N1.out (F1.out ⟨_,hmem,hf⟩));clear hmem;go_wp2_with fail
    go_quiet (fail)
    go_wp2;go_ret;exact Yp E.out (by(repeat (first | exact Below.refl _ _ | assumption | (refine Zy ?_) | (refine Zg ?_ _) | (refine Qf ?_ _) | (refine Ji ?_ (by first | omega | (simp;done) | (simp;omega)) _) | (refine Qj ?_ (by assumption)))))
   ·have hf':decide ((p:Int)<=nth leaves m)=false:=decide_eq_false hf
    have HF:=QLh hf;clear hmem hf
    go_upto_region 9 with(go_quiet (fail))
    obtain⟨kn,h1,h2,h3,h4⟩:=hk.out;clear hk;have hdw:=λ n=>Kn.below h1 (QbA (Below.refl _ wr) n);go_wp2_with fail;refine(QdQ w.heap.size _ kn (nth leaves m) _ (by first | exact h1 | exact hdw _ | exact Kn.below h1 (by(repeat (first | exact Below.refl _ _ | assumption | (refine Zy ?_) | (refine Zg ?_ _) | (refine Qf ?_ _) | (refine Ji ?_ (by first | omega | (simp;done) | (simp;omega)) _) | (refine Qj ?_ (by assumption)))))) (by omega) (by first | exact hb.size | (have:=hb.size;simp;omega))).mono ?_
    rintro x w1 ⟨v1,kn1,rfl,k1,k2,k3,k4⟩;have B1:Hid (Below w.heap.size w w1):=QLh (Qj (by(repeat (first | exact Below.refl _ _ | assumption | (refine Zy ?_) | (refine Zg ?_ _) | (refine Qf ?_ _) | (refine Ji ?_ (by first | omega | (simp;done) | (simp;omega)) _) | (refine Qj ?_ (by assumption))))) k4)
    have K1:Hid (∃kn,Kn w1 w.heap.size v1 kn/\(∀x,x ∈ kn ↔ x ∈ leaves.take (m+1))/\len kn<=m+1/\∀x ∈ leaves.take (m+1),x<(p:Int)):=QLh ⟨kn1,k1,λ x=>by rw[k2,h2,X8 hlt],by omega,λ x hx=>by
     rcases(X8 hlt x).1 hx with hx | rfl
     ·exact h4 x hx
     ·have:=HF.out;omega⟩
    clear k1 k2 k3 k4 h1 h2 h3 h4 hdw;go_wp2
    go_roundg (len leaves - (m+1))
    case rel=>exact⟨m+1,by omega,by go_num,B1.out,K1.out⟩
    case measure=>omega
  ·obtain rfl:m=len leaves:=by omega
   obtain⟨kn,h1,h2,h3,h4⟩:=hk.out;have K:=QLh (show _/\At leaves 0 kn/\len kn<=100 from⟨h1,λ x=>by rw[h2,QdT];simp,by omega⟩);have E:Hid (Z4 leaves e=Za leaves e):=QLh (N2.out (F2.out (by intro k hk2;exact h4 k (by rw[QdT];exact hk2))));clear h1 h2 h3 h4 hk hw N1 N2 F1 F2;go_wp2
   go_loopg [5,7,8] e (λ g vk vo i wx=>∃lv:Nat,g+lv=e/\i=.int .i64 lv/\Hid (Lev8 leaves w lv vk vo wx))
   case atStart=>exact⟨0,rfl,rfl,⟨kn,K.out.1,K.out.2.1,K.out.2.2,Qb6.nil _ _,hb⟩⟩
   case round=>
    clear K;obtain⟨lv,hlv,rfl,hk⟩:=hrel;obtain⟨kn,k1,k2,k3,k4,k5⟩:=hk.out
    by_cases hle:lv<e
    ·obtain⟨GK,hGK⟩:∃G,G=gk:=⟨_,rfl⟩
     subst hGK;obtain⟨W1,hW1⟩:∃W,W=wr:=⟨_,rfl⟩;subst hW1;obtain⟨ak,ck,hvk,hku⟩:=k1.shape;subst hvk;have K1:=QLh k1;have K2:=QLh k2;have K4:=QLh k4;have K5:=QLh k5;have KU:=QLh hku;have KI:=QLh (k2.u64 HU.out);clear k1 k2 k4 k5 hk hku;go_wp2
     go_loopg [9,10,11] (len kn) (λ g vd vx i wy=>∃m:Nat,g+m=len kn/\i=.int .i64 m/\Hid (In8 w W1 kn m vd vx wy))
     case atStart=>exact⟨0,rfl,rfl,⟨[],[],Kn.nil _ _,Kn.nil _ _,Qph.start kn,Below.refl _ _⟩⟩
     case round=>
      obtain⟨m,hm2,rfl,hin⟩:=hrel;obtain⟨nd,nx,n1,n2,n3,n4⟩:=hin.out;have M1:=QLh n1;have M2:=QLh n2;have M3:=QLh n3;have M4:=QLh n4;clear hin n1 n2 n3 n4
      by_cases hltm:m<len kn
      ·obtain⟨bk,ok,rfl,hcellk⟩:=(KU.out.below M4.out) m hltm
       have hu:=KI.out (nth kn m) (by rw[Jb kn m hltm];exact List.getElem_mem _);obtain⟨x,hx⟩:=Int.eq_ofNat_of_zero_le hu.1;have hx1:(x:Int)<=18446744073709551615:=by rw[<-hx];exact hu.2
       rw[hx]at hcellk;have HX:=QLh hx;have HCK:=QLh hcellk;clear hx hu;go_wp2_with fail;refine(Qfj (x:Int) _ (by omega) hx1).mono ?_;rintro y w' ⟨rfl,rfl⟩;go_wp2_with fail;refine(Qtd (some ⟨bk,ok,none⟩) ck (sib (x:Int)) kn _ (by omega) (KU.out.below M4.out)).mono ?_;rintro y w' ⟨rfl,rfl⟩;have ML3:len nd<=100:=by have:=M3.out.2.2.1;omega
       have ML4:len nx<=100:=by have:=M3.out.2.2.2;omega
       have HS2:w.heap.size<=wr.heap.size:=by have:=M4.out.size;have:=K5.out.size;omega
       by_cases hmem:sib (x:Int) ∈ kn
       ·rw[show Qrv (sib (x:Int)) kn=true from decide_eq_true hmem]
        have HM:=QLh hmem;clear hmem;go_wp2_with fail;refine(QdQ w.heap.size _ nx ((x:Int) / 2) _ M2.out (by omega) HS2).mono ?_;rintro y w1 ⟨v1,nx1,rfl,t1,t2,t3,t4⟩;have R:Hid (In8 w W1 kn (m+1) _ v1 w1):=QLh ⟨nd,nx1,M1.out.below t4,t1,M3.out.step hltm (λ y=>⟨.inl,λ h=>by
         rcases h with h | ⟨h,h2⟩
         ·exact h
         ·rw[HX.out]at h;rw[h]at h2;exact absurd HM.out h2⟩) (λ y=>by rw[t2,HX.out]) (by omega) t3,Qj M4.out t4⟩
        clear t1 t2 t3 t4;go_wp2
        go_roundg (len kn - (m+1))
        case rel=>exact⟨m+1,by omega,by go_num,R.out⟩
        case measure=>omega
       ·rw[show Qrv (sib (x:Int)) kn=false from decide_eq_false hmem]
        have HM:=QLh hmem;clear hmem;go_wp2_with fail;refine(QdQ w.heap.size _ nd (sib (x:Int)) _ M1.out (by omega) HS2).mono ?_;rintro y w1 ⟨v1,nd1,rfl,t1,t2,t3,t4⟩;have T1:=QLh t1;have T2:=QLh t2;have T3:=QLh t3;have T4:=QLh t4;have hcell1:w1.cell? ⟨bk,ok+m,none⟩=some (.int .u64 (x:Int)):=by rw[t4.cell (p:=⟨bk,ok+m,none⟩) (Ql HCK.out)];exact HCK.out
        have HS3:w.heap.size<=w1.heap.size:=by have:=t4.size;omega
        clear t1 t2 t3 t4 hcellk;go_wp2_with fail;refine(QdQ w.heap.size _ nx ((x:Int) / 2) _ (M2.out.below T4.out) (by omega) HS3).mono ?_;rintro y w2 ⟨v2,nx1,rfl,t1,t2,t3,t4⟩;have R:Hid (In8 w W1 kn (m+1) v1 v2 w2):=QLh ⟨nd1,nx1,T1.out.below t4,t1,M3.out.step hltm (λ y=>by
         rw[T2.out,HX.out]
         constructor
         ·rintro(h | rfl)
          ·exact .inl h
          ·exact .inr ⟨rfl,HM.out⟩
         ·rintro(h | ⟨h,_⟩)
          ·exact .inl h
          ·exact .inr h) (λ y=>by rw[t2,HX.out]) T3.out t3,Qj (Qj M4.out T4.out) t4⟩
        clear t1 t2 t3 t4;go_wp2
        go_roundg (len kn - (m+1))
        case rel=>exact⟨m+1,by omega,by go_num,R.out⟩
        case measure=>omega
      ·obtain rfl:m=len kn:=by omega
       obtain⟨vals,q1,q2⟩:=K4.out.below M4.out;have hlv:vals.length=lv:=by rw[q2.1];simp[Za]
       have Q1:=QLh q1;have Q2:=QLh q2;have hrow:=M3.out.row M1.out.1;have RW:Hid (Za leaves (lv+1)=Za leaves lv++[nd]):=QLh (by rw[Qjj,hrow,K2.out.row]);have HLV:=QLh hlv;have BY:Hid (Below w.heap.size w wr):=QLh (Qj K5.out M4.out);have ML4:len nx<=100:=by have:=M3.out.2.2.2;omega
       obtain⟨ad,cd,hvd,hud⟩:=M1.out.shape;subst hvd;clear q1 q2 hrow hlv hud;obtain⟨i0,hi,hz0,hz1,hz2⟩:=info_parts QhE
       go_wp2_with (at_builtin;refine wpList_append_own _ rfl _ _ 196 rfl w.heap.size 64 i0 (.slice none 0 0) 1 24 Tryz.underlying196 hi hz0 hz1 hz2 rfl (by decide) _ vals.length vals rfl (Q1.out.alloc _) ⟨wr.heap.size,0,none⟩ 1 1 [.slice ad (len nd) cd] rfl rfl (Qgo _ _ _) (by intro u hu;simp at hu;subst hu;rfl) (by have:=HLV.out;unfold maxLen;omega) (by have:=HLV.out;omega) (by have:=BY.out.size;simp;omega) ?_)
       intro v' w1 hown' hgrow _;have B1:Hid (Below w.heap.size w w1):=QLh (Qq (Qf BY.out _) hgrow (λ k hk=>(Q1.out.lt k hk).1));have X1:=QLh (Qti M2.out (Qf (Below.refl _ _) _) (Q1.out.alloc _) hgrow);have X2:Hid (Z7 w1 w.heap.size (vals++[.slice ad (len nd) cd]) (Za leaves (lv+1))):=QLh (by
        rw[RW.out];exact QoE ((Q2.out.below (Qf (Below.refl _ _) _)).snoc (Qs M1.out.2 (Qf (Below.refl _ _) _))) (Q1.out.alloc _) hgrow)
       have X3:=QLh hown';clear hown' hgrow hi hz0 hz1 hz2;go_wp2
       go_roundg (e - (lv+1))
       case rel=>exact⟨lv+1,by omega,by go_num,⟨nx,X1.out,K2.out.next M3.out,ML4,⟨_,by simpa using X3.out,X2.out⟩,B1.out⟩⟩
       case measure=>omega
    ·obtain rfl:lv=e:=by omega
     have K:=QLh k4;have K5:=QLh k5;clear k1 k2 k3 k4 k5 hk;go_wp2;go_ret;obtain⟨vals,q1,q2⟩:=K.out;exact⟨_,vals,rfl,q1,by rw[E.out];exact q2,K5.out⟩
section
open Go.RowKit Go.ChangeMaps
def QqQ(l:List Int)(d:Int)(w:World)(e:Ending)(w':World):Prop:=∃a c,e=.returned (.slice a (len l) c)/\QaO w' a (Qr l d)/\Below w.heap.size w w'
theorem Qjt(l:List Int)(a:Option Addr)(cap:Nat)(d:Int)(w:World)(hl:QaO w a l)(hn:len l<=1000000)(hu:∀k ∈ l,U64 k)(hd64:-9223372036854775808<=d)(hd65:d<=9223372036854775807):
  Calls Tryz.prog 173 #[.slice a (len l) cap,.int .i64 d] w (QqQ l d w):=by
 have HL:=QLh hl;have HU:=QLh hu;have HN:=QLh hn;have HD1:=QLh hd64;have HD2:=QLh hd65;obtain⟨i0,hi,hz0,hz1,hz2⟩:=info_parts Qbh;have HZ:=QLh hz0;clear hl hn hu hz0 hd64 hd65
 go_enter Tryz.func173,Tryz.ntmps173
 go_wp2
 go_loopg [6,5] (len l) (λ g i v wr=>∃m:Nat,g+m=len l/\i=.int .i64 m/\Hid (wr.ownsRow w.heap.size 23 1 v m ((Qr (l.take m) d).map (Value.int .u64)))/\Hid (Below w.heap.size w wr))
 case atStart=>exact⟨0,rfl,rfl,QLh (World.ownsRow_nil _ _ _ _),QLh (Below.refl _ _)⟩
 case round=>
  obtain⟨m,hm,rfl,HR,HB⟩:=hrel;have HNN:=HN.out
  by_cases hlt:m<len l
  ·obtain⟨b,off,rfl,hcell⟩:=HL.out.below HB.out m hlt
   have b0:(m:Int)<len l:=by omega
   obtain⟨k,hk⟩:∃k,nth l m=k:=⟨_,rfl⟩;have hku:U64 k:=by rw[<-hk];exact HU.out _ (Vk hlt)
   rw[hk]at hcell;have HK:=QLh hk;have HLF:=QLh (QeI k d wr hku.1 hku.2 HD1.out HD2.out);clear hk hku;go_wp2_with fail;refine HLF.out.mono ?_;rintro e w1 ⟨rfl,rfl⟩
   go_wp2_with (at_builtin;refine wpList_append_own _ rfl _ _ 64 rfl w.heap.size 23 i0 (.int .u64 0) 1 8 Tryz.underlying64 hi HZ.out hz1 hz2 rfl (by decide) _ _ _ rfl (HR.out.alloc _) ⟨wr.heap.size,0,none⟩ 1 1 [.int .u64 (Zt k d)] rfl rfl (World.news_of_block (heap_alloc_new _ _)) (by intro u hu9;simp at hu9;subst hu9;rfl) (by unfold maxLen;omega) (by omega) (by have:=HB.out.size;simp;omega) ?_;intro v2 w4 hown2 hgrow2 _)
   have HO2:Hid (w4.ownsRow w.heap.size 23 1 v2 (m+1) ((Qr (l.take (m+1)) d).map (Value.int .u64))):=QLh (by
    rw[Qd1 l d m hlt,HK.out,List.map_append];exact hown2)
   have HB2:Hid (Below w.heap.size w w4):=QLh (Qq (Qf HB.out _) hgrow2 (λ k hk'=>(HR.out.lt k hk').1));clear hown2 hgrow2 HLF hcell;go_wp2
   go_roundg (len l - (m+1))
   case rel=>exact⟨m+1,by omega,by go_num,HO2,HB2⟩
   case measure=>omega
  ·obtain rfl:m=len l:=by omega
   have b0:¬((len l:Nat):Int)<len l:=by omega
   have HR2:Hid (wr.ownsRow w.heap.size 23 1 u5 (len l) ((Qr l d).map (Value.int .u64))):=QLh (by have h:=HR.out;rw[Xh]at h;exact h);obtain⟨a2,cap2,hv,hL2,hc2,hc3⟩:=Qb7 HR2.out;rw[Xf]at hv;subst hv;have HL2:=QLh hL2;clear hL2 hc2 hc3 HR2 HR hlt;go_wp2;go_ret;exact⟨a2,cap2,rfl,HL2.out,HB.out⟩
theorem QhC(rs:List (List Int))(i:Nat)(hi:i<len rs):(Xg rs (i+1) 0).length=(Xg rs i 0).length+len (Jj rs i):=by rw[<-Qde rs i hi];unfold Xg;rw[Xh,List.take_zero,List.map_nil,List.append_nil,List.length_append,List.length_map];rfl
end
def AtK(lv:List Int)(i:Nat)(k:Int):Prop:=∃y ∈ lv,k=y / 2 ^ i
instance (lv:List Int) (i:Nat) (k:Int):Decidable (AtK lv i k):=by unfold AtK;exact List.decidableBEx _ _
def trF(els:List ByteArray)(d:Nat)(lv:List Int)(i:Nat):KnF:=λ k=>if AtK lv i k then some (plD els d i k.toNat)else none
theorem Qm1{els:List ByteArray}{d:Nat}{lv:List Int}{i:Nat}{k:Int}(h:AtK lv i k):trF els d lv i k=some (plD els d i k.toNat):=by unfold trF;rw[if_pos h]
theorem QmP{els:List ByteArray}{d:Nat}{lv:List Int}{i:Nat}{k:Int}(h:¬AtK lv i k):trF els d lv i k=none:=by unfold trF;rw[if_neg h]
theorem QjJ{lv:List Int}{i:Nat}(p:Int):AtK lv (i+1) p ↔ AtK lv i (2 * p) \/ AtK lv i (2 * p+1):=by
 have half:∀y:Int,y / 2 ^ (i+1)=y / 2 ^ i / 2:=λ y=>by rw[Int.pow_succ,Int.ediv_ediv_of_nonneg (Int.le_of_lt (Int.pow_pos (by decide)))]
 constructor
 ·rintro⟨y,hy,rfl⟩
  rw[half]
  by_cases e:y / 2 ^ i % 2=0
  ·exact .inl ⟨y,hy,by omega⟩
  ·exact .inr ⟨y,hy,by omega⟩
 ·rintro(⟨y,hy,e⟩ | ⟨y,hy,e⟩)
  ·exact⟨y,hy,by rw[half];omega⟩
  ·exact⟨y,hy,by rw[half];omega⟩
theorem Qns(els:List ByteArray)(d i:Nat)(p:Nat):plD els d (i+1) p=Xi QaB [plD els d i (2 * p),plD els d i (2 * p+1)]:=rfl
theorem QcB(lv:List Int)(d i:Nat)(h:i<d)(k:Int):k ∈ Jj (Za lv d) i ↔ AtK lv i (sib k)/\¬AtK lv i k:=by
 rw[QbE lv d i h];have ss:∀x,sib (sib x)=x:=λ x=>by unfold sib;split <;> split <;> omega
 constructor
 ·rintro⟨⟨y,hy,rfl⟩,h2⟩
  exact⟨⟨y,hy,by rw[ss]⟩,h2⟩
 ·rintro⟨⟨y,hy,e⟩,h2⟩
  exact⟨⟨y,hy,by rw[<-e,ss]⟩,h2⟩
theorem Qei(rs:List (List Int)):∀i,i<=len rs->(Xg rs i 0).length=Xp rs i
 | 0,_=>rfl
 | i+1,hi=>by rw[QhC rs i (by omega),Qei rs i (by omega),Jw rs i (by omega)]
theorem QfZ(rs:List (List Int))(i:Nat)(hi:i<len rs):∀j,j<=len (Jj rs i)->(Xg rs i j).length=Xp rs i+j
 | 0,_=>Qei rs i (by omega)
 | j+1,hj=>by rw[Qb5 rs i j (by omega),List.length_append,QfZ rs i hi j (by omega)];rfl
theorem Qt0(els:List ByteArray)(rs:List (List Int))(i j:Nat)(hi:i<len rs)(hj:j<len (Jj rs i)):tth (Vf els (Xu rs)) (Xp rs i+j)=plD els (Qa1 els) i (nth (Jj rs i) j).toNat:=by have h:=Qjf rs i j hi hj;rw[QfZ rs i hi j (by omega)]at h;unfold Vf tth;rw[List.getD_eq_getElem?_getD,List.getElem?_map,h];simp
theorem Qsl(els:List ByteArray)(rs:List (List Int)):len (Vf els (Xu rs))=Xp rs (len rs):=by unfold Vf;rw[Qy,List.length_map,<-QcJ,Qei rs (len rs) (Nat.le_refl _)]
theorem Qun{ds:List ByteArray}(h:∀d ∈ ds,d.size=32):Qmq ds=false:=decide_eq_false (by rintro⟨d,hd,h9⟩;exact h9 (h d hd))
theorem QqD{n:Int}{ps:List Int}{es ds:List ByteArray}(h1:QdG n ps es)(h2:Qmq ds=false)(h3:len ds=U4 n ps):X4 n ps es ds=0/\Yl n ps es ds=QrZ n ps es ds:=by
 have h9:X4 n ps es ds=0:=by unfold X4;rw[if_neg (λ h=>h h1),if_neg (by rw[h2];simp),if_neg (by omega),if_neg (by omega)]
 exact⟨h9,by unfold Yl;rw[if_pos h9]⟩
structure Qlw(els own:List ByteArray)(ps:List Int):Prop where
 len_:len own=len els
 off:∀i:Nat,((i:Nat):Int) ∉ ps->tth els i=tth own i
theorem Qlw.refl(els:List ByteArray)(ps:List Int):Qlw els els ps:=⟨rfl,λ _ _=>rfl⟩
theorem QgR{els own:List ByteArray}{d:Nat}(hl:len own=len els):∀(i k:Nat),i<=d->k<2 ^ (d - i)->(∀j,j<2 ^ d->j / 2 ^ i=k->tth els (Xr j d)=tth own (Xr j d))->plD els d i k=plD own d i k
 | 0,k,_,hk,h=>by have h1:=h k (by simpa using hk) (by simp);show(if Xr k d<len els then Xi Kf [tth els (Xr k d)]else Xi QdC [])=(if Xr k d<len own then Xi Kf [tth own (Xr k d)]else Xi QdC []);rw[h1,hl]
 | i+1,k,hi,hk,h=>by
  have hp:2 ^ (d - i)=2 * 2 ^ (d - (i+1)):=by rw[show d - i=d - (i+1)+1 by omega,Nat.pow_succ];omega
  have half:∀j,j / 2 ^ (i+1)=j / 2 ^ i / 2:=λ j=>by rw[Nat.pow_succ,Nat.div_div_eq_div_mul]
  rw[Qns,Qns,QgR hl i (2 * k) (by omega) (by omega) (λ j hj e=>h j hj (by rw[half];omega)),QgR hl i (2 * k+1) (by omega) (by omega) (λ j hj e=>h j hj (by rw[half];omega))]
theorem QqV{els own:List ByteArray}{ps:List Int}{d n i:Nat}{x:Int}(hd:d<=16)(hn:n<=2 ^ d)(hu:∀k ∈ ps,U64 k)(hm:Qa0 n ps)(ha:Qlw els own ps)(hi:i<d)(hx:x ∈ Jj (Za (Qr ps (d:Nat)) d) i):plD els d i x.toNat=plD own d i x.toNat:=by
 have h1:=(QcB _ d i hi x).1 hx;obtain⟨⟨y,hy,e⟩,_⟩:=(QbE _ d i hi x).1 hx;have hb:=Kc hd y hy;have h3:=QgX hb.1 hb.2 (Nat.le_of_lt hi);obtain⟨q,hq⟩:∃q,d - i=q+1:=⟨d - i - 1,by omega⟩;have h4:0<=x/\x<2 ^ (q+1):=by rw[e];rw[hq]at h3;exact Qkc h3.1 h3.2
 obtain⟨xn,rfl⟩:=Int.eq_ofNat_of_zero_le h4.1;refine QgR ha.len_ i xn (by omega) (by rw[hq];have:=h4.2;rw[Zr]at this;omega) (λ j hj hjx=>ha.off _ (λ hp=>h1.2 ?_));have hk:=hu _ hp;obtain⟨m,hml,hme⟩:=List.getElem_of_mem hp;have hr:((Xr j d:Nat):Int)<n:=by have:=(hm.2 m hml).1;rw[Jb ps m hml,hme]at this;exact this
 refine⟨((j:Nat):Int),?_,?_⟩
 ·unfold Qr
  refine List.mem_map.2 ⟨_,hp,?_⟩;rw[Qai hd (Int.natCast_nonneg _) hr hn,Int.toNat_natCast,Qaq hj]
 ·rw[Zr,<-hjx]
  exact(Int.natCast_ediv j (2 ^ i))
theorem Qkp(g:KnF)(ks:List Int)(ds:List ByteArray)(f:Int->ByteArray):∀m,m<=len ks->(∀j,j<m->tth ds j=f (nth ks j))->∀k,Vx g (ks.take m) ds k=if k ∈ ks.take m then some (f k)else g k
 | 0,_,_,k=>by simp[Vx]
 | m+1,hm,h,k=>by
  have hm2:m<ks.length:=hm;have hs:ks.take (m+1)=ks.take m++[nth ks m]:=by rw[List.take_succ_eq_append_getElem hm2,Jb ks m hm2]
  rw[Qa4 g ks ds m hm]
  by_cases e:k=nth ks m
  ·subst e
   rw[Y5,h m (Nat.lt_succ_self m),hs,if_pos (by simp)]
  ·rw[Jt _ _ e,Qkp g ks ds f m (by omega) (λ j hj=>h j (by omega)) k,hs]
   by_cases e2:k ∈ ks.take m
   ·rw[if_pos e2,if_pos (by simp[e2])]
   ·rw[if_neg e2,if_neg (by simp[e2,e])]
theorem Qil(g:KnF)(ks:List Int)(ds:List ByteArray)(f:Int->ByteArray)(h:∀j,j<len ks->tth ds j=f (nth ks j))(k:Int):Vx g ks ds k=if k ∈ ks then some (f k)else g k:=by have:=Qkp g ks ds f (len ks) (Nat.le_refl _) h k;rw[Xh]at this;exact this
theorem QhZ{els own es:List ByteArray}{ps:List Int}{d:Nat}(hdd:Qa1 els=d)(hd:d<=16)(hn:len els<=2 ^ d)(hu:∀k ∈ ps,U64 k)(hm:Qa0 (len els:Nat) ps)(ha:Qlw els own ps)
  (hel:len es=len ps) (hes:∀m,m<len ps->tth es m=tth own (nth ps m).toNat):∀i,i<=d->
  Qal (g0F (Qr ps (d:Nat)) es) (Za (Qr ps (d:Nat)) d) (Vf els (Xu (Za (Qr ps (d:Nat)) d))) i=trF own d (Qr ps (d:Nat)) i
 | 0,_=>by
  funext k
  show g0F (Qr ps (d:Nat)) es k=_;unfold g0F;rw[Qil noF _ _ (λ k=>plD own d 0 k.toNat) (λ m hm2=>?_) k]
  ·unfold trF noF
   by_cases e:k ∈ Qr ps (d:Nat)
   ·rw[if_pos e,if_pos ⟨k,e,by simp⟩]
   ·rw[if_neg e,if_neg]
    rintro⟨y,hy,rfl⟩;exact e (by simpa using hy)
  ·rw[Xf]at hm2
   rw[Qgy es m (by omega),hes m hm2];have h1:=(hm.2 m hm2).1;have h2:=(hu _ (Vk hm2)).1;have h3:nth (Qr ps (d:Nat)) m=Zt (nth ps m) (d:Nat):=by have h9:m<ps.length:=hm2;unfold Qr nth;simp[h9]
   rw[h3,Qai hd h2 h1 hn];show _=plD own d 0 (((Xr (nth ps m).toNat d:Nat):Int).toNat);rw[Int.toNat_natCast];show _=(if Xr (Xr (nth ps m).toNat d) d<len own then Xi Kf [tth own (Xr (Xr (nth ps m).toNat d) d)]else Xi QdC []);rw[Qaq (show(nth ps m).toNat<2 ^ d by omega),if_pos (by rw[ha.len_];omega)]
 | i+1,hi=>by
  have IH:=QhZ hdd hd hn hu hm ha hel hes i (by omega);have hil:i<len (Za (Qr ps (d:Nat)) d):=by rw[Ui];omega
  rw[Qbg _ _ _ i hil,IH];have hH:∀k,Vx (trF own d (Qr ps (d:Nat)) i) (Jj (Za (Qr ps (d:Nat)) d) i) ((Vf els (Xu (Za (Qr ps (d:Nat)) d))).drop (Xp (Za (Qr ps (d:Nat)) d) i)) k=if AtK (Qr ps (d:Nat)) i k \/ k ∈ Jj (Za (Qr ps (d:Nat)) d) i then some (plD own d i k.toNat)else none:=λ k=>by
   rw[Qil _ _ _ (λ k=>plD els d i k.toNat) (λ j hj=>by rw[Ud,Qt0 els _ i j hil hj,hdd]) k]
   by_cases e:k ∈ Jj (Za (Qr ps (d:Nat)) d) i
   ·rw[if_pos e,if_pos (.inr e),QqV hd hn hu hm ha (by omega) e]
   ·rw[if_neg e]
    by_cases e2:AtK (Qr ps (d:Nat)) i k
    ·rw[Qm1 e2,if_pos (.inl e2)]
    ·rw[QmP e2,if_neg (λ h9=>h9.elim e2 e)]
  funext p
  by_cases hp:AtK (Qr ps (d:Nat)) (i+1) p
  ·rw[Qm1 hp]
   have hk:=(QjJ p).1 hp;have s0:sib (2 * p)=2 * p+1:=by unfold sib;split <;> omega
   have s1:sib (2 * p+1)=2 * p:=by unfold sib;split <;> omega
   have h0:AtK (Qr ps (d:Nat)) i (2 * p) \/ 2 * p ∈ Jj (Za (Qr ps (d:Nat)) d) i:=by
    by_cases e:AtK (Qr ps (d:Nat)) i (2 * p)
    ·exact .inl e
    ·exact .inr ((QcB _ d i (by omega) _).2 ⟨by rw[s0];exact hk.resolve_left e,e⟩)
   have h1:AtK (Qr ps (d:Nat)) i (2 * p+1) \/ 2 * p+1 ∈ Jj (Za (Qr ps (d:Nat)) d) i:=by
    by_cases e:AtK (Qr ps (d:Nat)) i (2 * p+1)
    ·exact .inl e
    ·exact .inr ((QcB _ d i (by omega) _).2 ⟨by rw[s1];exact hk.resolve_right e,e⟩)
   have hp0:0<=p:=by obtain⟨y,hy,rfl⟩:=hp;exact Int.ediv_nonneg (Kc hd y hy).1 (Int.le_of_lt (Int.pow_pos (by decide)))
   rw[QaA (show Qhh _ p from .inl (by rw[hH,if_pos h0];rfl))];unfold Vv;rw[hH,hH,if_pos h0,if_pos h1];show some (Xi QaB [plD own d i (2 * p).toNat,plD own d i (2 * p+1).toNat])=some (plD own d (i+1) p.toNat);rw[Qns,show(2 * p).toNat=2 * p.toNat by omega,show(2 * p+1).toNat=2 * p.toNat+1 by omega]
  ·rw[QmP hp]
   have hk:¬(AtK (Qr ps (d:Nat)) i (2 * p) \/ AtK (Qr ps (d:Nat)) i (2 * p+1)):=λ h9=>hp ((QjJ p).2 h9);rw[not_or]at hk;have s0:sib (2 * p)=2 * p+1:=by unfold sib;split <;> omega
   have s1:sib (2 * p+1)=2 * p:=by unfold sib;split <;> omega
   have n0:¬(AtK (Qr ps (d:Nat)) i (2 * p) \/ 2 * p ∈ Jj (Za (Qr ps (d:Nat)) d) i):=by
    rintro(h | h)
    ·exact hk.1 h
    ·exact hk.2 (by have:=((QcB _ d i (by omega) _).1 h).1;rw[s0]at this;exact this)
   have n1:¬(AtK (Qr ps (d:Nat)) i (2 * p+1) \/ 2 * p+1 ∈ Jj (Za (Qr ps (d:Nat)) d) i):=by
    rintro(h | h)
    ·exact hk.2 h
    ·exact hk.1 (by have:=((QcB _ d i (by omega) _).1 h).1;rw[s1]at this;exact this)
   have g0:=(hH (2 * p)).trans (if_neg n0);have g1:=(hH (2 * p+1)).trans (if_neg n1);unfold Kq;rw[g0,g1];simp
theorem QoT{els own es:List ByteArray}{ps:List Int}(hn:len els<=65536)(hu:∀k ∈ ps,U64 k)(hm:Qa0 (len els:Nat) ps)(ha:Qlw els own ps)
  (hel:len es=len ps) (hes:∀m,m<len ps->tth es m=tth own (nth ps m).toNat):
  X4 (len els:Nat) ps es (Vf els (Qf8 (len els:Nat) ps))=0/\Yl (len els:Nat) ps es (Vf els (Qf8 (len els:Nat) ps))=plD own (Qa1 own) (Qa1 own) 0:=by
 obtain⟨d,hdd⟩:∃d,Qa1 els=d:=⟨_,rfl⟩;have hd:d<=16:=by rw[<-hdd];exact QaG hn
 have hdz:Xy (len els:Nat)=((d:Nat):Int):=by rw[Yw hn,hdd]
 have hn2:len els<=2 ^ d:=by rw[<-hdd];exact(Qci (len els) hn).2.1
 have hdo:Qa1 own=d:=by unfold Qa1;rw[ha.len_];exact hdd
 have hrw:Qd7 (len els:Nat) ps=Za (Qr ps (d:Nat)) d:=by unfold Qd7;rw[hdz,Us hd hm.1]
 have hpl:Qf8 (len els:Nat) ps=Xu (Za (Qr ps (d:Nat)) d):=by unfold Qf8;rw[hdz,Us hd hm.1]
 have hA:QdG (len els:Nat) ps es:=⟨⟨by omega,by omega,hm⟩,hel⟩;have hB:Qmq (Vf els (Qf8 (len els:Nat) ps))=false:=Qun (λ x hx=>by
  unfold Vf at hx;obtain⟨y,_,rfl⟩:=List.mem_map.1 hx;exact Qaa _ _ _ _)
 have hN:len (Vf els (Qf8 (len els:Nat) ps))=U4 (len els:Nat) ps:=by unfold U4;rw[hrw,hpl,Qsl]
 have h:=QqD hA hB hN;refine⟨h.1,h.2.trans ?_⟩;unfold QrZ;rw[hrw,hpl,hdz,hdo];have hr:=QhZ hdd hd hn2 hu hm ha hel hes d (Nat.le_refl _);unfold Qal at hr;rw[List.take_of_length_le (by have:=Ui (Qr ps (d:Nat)) d;rw[Qy]at this;omega)]at hr;rw[hr];have hk:AtK (Qr ps (d:Nat)) d 0:=by
  have h1:0<(Qr ps (d:Nat)).length:=by have h5:(Qr ps (d:Nat)).length=len ps:=Xf ps (d:Nat);have h6:=hm.1;omega
  refine⟨(Qr ps (d:Nat))[0],List.getElem_mem h1,?_⟩;have h2:=Kc hd _ (List.getElem_mem h1);exact(Int.ediv_eq_zero_of_lt h2.1 h2.2).symm
 unfold Vv;rw[Qm1 hk];rfl
end Go.Proofs.YtpobhbdomldecaaGreatDoor
