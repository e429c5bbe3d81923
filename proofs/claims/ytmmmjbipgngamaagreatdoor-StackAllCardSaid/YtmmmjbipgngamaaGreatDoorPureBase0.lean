/-
  What is proved here: what the plain functions behind base.Put come to: the signs of a list of bytes, three by three. Cond the plain statement behind rotuluslaw14.BaseLen: four signs for each three bytes, and as many fill s the reference's encoder writes what base.Put writes. Conditions: the bytes are bytes, and not too ma the reference's encoder, its last two loops. Conditions: the bits are bits, and not too many. values of signs; the first loops of both decoders. Conditions: texts are not too long. the reference's encoder writes what base.Put writes. Conditions: the text is not too long. base.Get of any text: the bytes whose signs the text is, or none. Conditions: the text is not too lo the reference's decoder of any text; the plain statement behind rotuluslaw14.BaseAll. Conditions: no No conditions but those that the theorems state.
-/
import Derived.Test.YtmmmjbipgngamaaGreatDoorKBa
import Derived.Laws.Strings
set_option linter.unusedVariables false
set_option linter.unusedSimpArgs false
namespace Go.Proofs.YtmmmjbipgngamaaGreatDoor.Pure
open Go.RowKit Go.Proofs.YtmmmjbipgngamaaGreatDoor.PBase Go.Proofs.YtmmmjbipgngamaaGreatDoorW.PrintWords Go.Proofs.YtmmmjbipgngamaaGreatDoorW.PrintLast Go.Proofs.YtmmmjbipgngamaaGreatDoorW.PrintMore
def sgI (n:Int):Int:=if n<26 then 65+n else if n<52 then 71+n else if n<62 then n - 4 else if n=62 then 43 else 47
theorem sign_f {n:Int} (h0:0≤n) (h1:n<64):base_sign.f n=some (sgI n):=by
 unfold base_sign.f sgI
 by_cases a:n<26
 · rw [if_pos a,if_pos a];congr 1;omega
 ·
  rw [if_neg a,if_neg a]
  by_cases b:n<52
  · rw [if_pos b,if_pos b];congr 1;omega
  ·
   rw [if_neg b,if_neg b]
   by_cases c:n<62
   · rw [if_pos c,if_pos c];congr 1;omega
   ·
    rw [if_neg c,if_neg c]
    by_cases d:n=62
    · rw [if_pos d,if_pos d]
    · rw [if_neg d,if_neg d]
theorem sgI_range {n:Int} (h0:0≤n) (h1:n<64):43≤sgI n∧sgI n≤122∧sgI n≠61:=by unfold sgI;split<;>(try split)<;>(try split)<;>(try split)<;>omega
def quad (n:Int) (k:Int):List Int:=[sgI (n / 262144 % 64),sgI (n / 4096 % 64),if 2≤k then sgI (n / 64 % 64)else 61,if 3≤k then sgI (n % 64)else 61]
def enc:List Int→List Int
 | []=>[]
 | [a]=>quad (a*65536) 1
 | [a,b]=>quad (a*65536+b*256) 2
 | a::b::c::r=>quad (a*65536+b*256+c) 3++enc r
def rest (s:ByteArray) (i:Nat):List Int:=(s.data.toList.drop i).map fun b=>(b.toNat:Int)
theorem rest_cons {s:ByteArray} {i:Nat} (h:i<s.size):rest s i=bt s i::rest s (i+1):=by
 unfold rest
 rw [List.drop_eq_getElem_cons (by simpa using h)]
 simp only [List.map_cons,List.cons.injEq,and_true]
 unfold bt
 rw [dif_pos (by simpa using h)]
 rfl
theorem rest_end {s:ByteArray} {i:Nat} (h:s.size≤i):rest s i=[]:=by
 unfold rest
 rw [List.drop_of_length_le (by simpa using h)];rfl
theorem rest_length (s:ByteArray) (i:Nat):(rest s i).length=s.size - i:=by
 unfold rest;rw [List.length_map,List.length_drop];rfl
theorem w64 {n:Int} (h0 : -9223372036854775808≤n) (h1:n≤9223372036854775807):wrap64 n=n:=by unfold wrap64;omega
theorem wr31 (n:Int) (h0:0≤n) (h1:n<2 ^ 31):IntKind.i64.wrap n=n:=by rw [IntKind.wrap_i64];omega
theorem or_byte {x y:Int} (h0:0≤x) (h1:x<65536) (h2:0≤y) (h3:y<256):Go.bits .or .i64 (x*256) y=x*256+y :=
 bits_join .i64 31 (by decide) wr31 8 (x*256) y (by omega) (show x*256 % 256=0 by omega) (show x*256<2147483648 by omega) h2 (show y<256 from h3) (show y<2147483648 by omega)
theorem and_six {x:Int} (h0:0≤x) (h1:x<16777216):Go.bits .and .i64 x 63=x % 64 :=
 bits_mask .i64 31 (by decide) wr31 6 (by decide) x h0 (show x<2147483648 by omega)
theorem six_at {n j:Int} {e:Nat} (h0:0≤n) (h1:n<16777216) (he:wrap64 (18 - wrap64 (6*j))=(e:Int)) (hs:e≤64):(Go.bits .and .i64 (shr .i64 n (wrap64 (18 - (wrap64 (6*j))))) 63) % 256=n / 2 ^ e % 64:=by
 rw [he]
 unfold shr
 have hm:min ((e:Int).toNat) IntKind.i64.bits=e:=by
  have:IntKind.i64.bits=64:=rfl
  rw [this];omega
 rw [hm]
 have hp:(0:Int)<2 ^ e:=Int.pow_pos (by decide)
 have hd0:0≤n / 2 ^ e:=Int.ediv_nonneg h0 (Int.le_of_lt hp)
 have hd1:n / 2 ^ e≤n:=Int.ediv_le_self _ h0
 rw [and_six hd0 (by omega)]
 omega
theorem put_l2 {k:Nat} {x0:ByteArray} {acc:List Int} {i n r:Int} (h0:0≤n) (h1:n<16777216) (r1:1≤r) (r3:r≤3) (hl:acc.length+4≤1000000) :
  base_Put.l2 (k+5) x0 acc i n r 0=base_Put.l0 k x0 (acc++quad n r) (wrap64 (i+3)):=by
 have q0:=six_at h0 h1 (j:=0) (e:=18) (by unfold wrap64;omega) (by decide)
 have q1:=six_at h0 h1 (j:=1) (e:=12) (by unfold wrap64;omega) (by decide)
 have q2:=six_at h0 h1 (j:=2) (e:=6) (by unfold wrap64;omega) (by decide)
 have q3:=six_at h0 h1 (j:=3) (e:=0) (by unfold wrap64;omega) (by decide)
 have b1:wrap64 ((0:Int)+1)=1:=by unfold wrap64;omega
 have b2:wrap64 ((1:Int)+1)=2:=by unfold wrap64;omega
 have b3:wrap64 ((2:Int)+1)=3:=by unfold wrap64;omega
 have b4:wrap64 ((3:Int)+1)=4:=by unfold wrap64;omega
 have m (x:Int):0≤x % 64∧x % 64<64:=by omega
 rw [base_Put.l2,if_pos (by decide),if_pos (by omega),if_pos (by unfold wrap64;omega),q0,sign_f (m _).1 (m _).2,Option.bind_some,if_pos (by omega),b1]
 rw [base_Put.l2,if_pos (by decide),if_pos (by omega),if_pos (by unfold wrap64;omega),q1,sign_f (m _).1 (m _).2,Option.bind_some,if_pos (by simp;omega),b2]
 have e18:(2:Int) ^ 18=262144:=by decide
 have e12:(2:Int) ^ 12=4096:=by decide
 have e6:(2:Int) ^ 6=64:=by decide
 have e0:n / (2:Int) ^ 0=n:=by simp
 unfold quad
 by_cases c2:2≤r
 ·
  rw [base_Put.l2,if_pos (by decide),if_pos (by omega),if_pos (by unfold wrap64;omega),q2,sign_f (m _).1 (m _).2,Option.bind_some,if_pos (by simp;omega),b3,if_pos c2]
  by_cases c3:3≤r
  ·
   rw [base_Put.l2,if_pos (by decide),if_pos (by omega),if_pos (by unfold wrap64;omega),q3,sign_f (m _).1 (m _).2,Option.bind_some,if_pos (by simp;omega),b4,if_pos c3]
   rw [base_Put.l2,if_neg (by decide),e18,e12,e6,e0]
   simp
  ·
   rw [base_Put.l2,if_pos (by decide),if_neg (by omega),if_pos (by simp;omega),b4,if_neg c3]
   rw [base_Put.l2,if_neg (by decide),e18,e12,e6]
   simp
 ·
  rw [base_Put.l2,if_pos (by decide),if_neg (by omega),if_pos (by simp;omega),b3,if_neg c2,if_neg (by omega)]
  rw [base_Put.l2,if_pos (by decide),if_neg (by omega),if_pos (by simp;omega),b4]
  rw [base_Put.l2,if_neg (by decide),e18,e12]
  simp
theorem mn3 {a:Int} (h:3≤a):mn a 3=3:=by unfold mn;split<;>omega
theorem mn_lt {a:Int} (h:a≤3):mn a 3=a:=by unfold mn;split<;>omega
theorem l1_in {k:Nat} {x0:ByteArray} {acc:List Int} {i:Nat} {n r j:Int} (hj:j<3) (hj0:0≤j) (hr:j<r) (hlt:(i:Int)+j<(x0.size:Int)) (hsz:x0.size≤1000) (hn0:0≤n) (hn1:n<65536) :
  base_Put.l1 (k+1) x0 acc i n r j=base_Put.l1 k x0 acc i (n*256+bt x0 ((i:Int)+j)) r (j+1):=by
 have hb:=bt_range x0 ((i:Int)+j)
 rw [base_Put.l1,if_pos hj,if_pos hr,w64 (n:=(i:Int)+j) (by omega) (by omega),if_pos (by omega),if_pos hlt,w64 (n:=n*256) (by omega) (by omega),w64 (n:=bt x0 ((i:Int)+j)) (by omega) (by omega),w64 (n:=j+1) (by omega) (by omega),or_byte hn0 hn1 hb.1 (by omega)]
theorem l1_out {k:Nat} {x0:ByteArray} {acc:List Int} {i:Nat} {n r j:Int} (hj:j<3) (hj0:0≤j) (hr:¬ j<r) (hn0:0≤n) (hn1:n<65536) :
  base_Put.l1 (k+1) x0 acc i n r j=base_Put.l1 k x0 acc i (n*256) r (j+1):=by
 rw [base_Put.l1,if_pos hj,if_neg hr,w64 (n:=n*256) (by omega) (by omega),w64 (n:=j+1) (by omega) (by omega)]
theorem l1_end {k:Nat} {x0:ByteArray} {acc:List Int} {i:Int} {n r:Int}:base_Put.l1 (k+1) x0 acc i n r 3=base_Put.l2 k x0 acc i n r 0:=by
 rw [base_Put.l1,if_neg (by decide)]
theorem put_l0 {x0:ByteArray} (hsz:x0.size≤1000):∀ (m i:Nat) (acc:List Int) (k:Nat),x0.size - i≤m→i≤x0.size+3→acc.length+4*m+8≤100000→10*m+1≤k →
  base_Put.l0 k x0 acc i=some (strOfNums (acc++enc (rest x0 i))):=by
 intro m
 induction m using Nat.strongRecOn with
 | _ m ih =>
 intro i acc k hm hi hl hk
 by_cases hlt:i<x0.size
 ·
  obtain⟨k,rfl⟩:∃ q,k=q+10:=⟨k - 10,by omega⟩
  have B:∀ j:Int,0≤bt x0 j∧bt x0 j<256:=fun j=>⟨(bt_range x0 j).1,by have:=(bt_range x0 j).2;omega⟩
  have e0:((i:Int)+0)=(i:Int):=by omega
  have e1:((i:Int)+1)=((i+1:Nat):Int):=by omega
  have e2:((i:Int)+2)=((i+2:Nat):Int):=by omega
  have z1:((0:Int)+1)=1:=by decide
  have z2:((1:Int)+1)=2:=by decide
  have z3:((2:Int)+1)=3:=by decide
  have hB0:=B (i:Int)
  have hB1:=B ((i+1:Nat):Int)
  have hB2:=B ((i+2:Nat):Int)
  rw [base_Put.l0,if_pos (by omega),w64 (n:=(x0.size:Int) - (i:Int)) (by omega) (by omega)]
  have hw3:wrap64 ((i:Int)+3)=((i+3:Nat):Int):=by rw [w64 (by omega) (by omega)];omega
  have hql:∀ n r,(quad n r).length=4:=fun n r=>rfl
  by_cases h3:i+3≤x0.size
  ·
   rw [mn3 (by omega)]
   rw [l1_in (by decide) (by decide) (by decide) (by omega) hsz (by decide) (by decide),e0,z1]
   rw [l1_in (by decide) (by decide) (by decide) (by omega) hsz (by omega) (by omega),e1,z2]
   rw [l1_in (by decide) (by decide) (by decide) (by omega) hsz (by omega) (by omega),e2,z3,l1_end]
   rw [put_l2 (by omega) (by omega) (by decide) (by decide) (by omega),hw3]
   rw [ih (m - 3) (by omega) (i+3) _ k (by omega) (by omega) (by rw [List.length_append,hql];omega) (by omega)]
   rw [rest_cons hlt,rest_cons (show i+1<x0.size by omega),show i+1+1=i+2 from rfl,rest_cons (show i+2<x0.size by omega),show i+2+1=i+3 from rfl,enc]
   rw [show((0:Int)*256+bt x0 ↑i)*256+bt x0 ↑(i+1)=bt x0 ↑i*256+bt x0 ↑(i+1)from by omega]
   rw [show(bt x0 ↑i*256+bt x0 ↑(i+1))*256+bt x0 ↑(i+2)=bt x0 ↑i*65536+bt x0 ↑(i+1)*256+bt x0 ↑(i+2)from by omega]
   simp
  ·
   by_cases h2:i+2≤x0.size
   ·
    rw [mn_lt (by omega)]
    have hr:(x0.size:Int) - (i:Int)=2:=by omega
    rw [hr]
    rw [l1_in (by decide) (by decide) (by decide) (by omega) hsz (by decide) (by decide),e0,z1]
    rw [l1_in (by decide) (by decide) (by decide) (by omega) hsz (by omega) (by omega),e1,z2]
    rw [l1_out (by decide) (by decide) (by decide) (by omega) (by omega),z3,l1_end]
    rw [put_l2 (by omega) (by omega) (by decide) (by decide) (by omega),hw3]
    rw [ih (m - 2) (by omega) (i+3) _ k (by omega) (by omega) (by rw [List.length_append,hql];omega) (by omega)]
    rw [rest_cons hlt,rest_cons (show i+1<x0.size by omega),rest_end (show x0.size≤i+1+1 by omega),rest_end (show x0.size≤i+3 by omega),enc,enc]
    rw [show(((0:Int)*256+bt x0 ↑i)*256+bt x0 ↑(i+1))*256=bt x0 ↑i*65536+bt x0 ↑(i+1)*256 from by omega]
    simp
   ·
    rw [mn_lt (by omega)]
    have hr:(x0.size:Int) - (i:Int)=1:=by omega
    rw [hr]
    rw [l1_in (by decide) (by decide) (by decide) (by omega) hsz (by decide) (by decide),e0,z1]
    rw [l1_out (by decide) (by decide) (by decide) (by omega) (by omega),z2]
    rw [l1_out (by decide) (by decide) (by decide) (by omega) (by omega),z3,l1_end]
    rw [put_l2 (by omega) (by omega) (by decide) (by decide) (by omega),hw3]
    rw [ih (m - 1) (by omega) (i+3) _ k (by omega) (by omega) (by rw [List.length_append,hql];omega) (by omega)]
    rw [rest_cons hlt,rest_end (show x0.size≤i+1 by omega),rest_end (show x0.size≤i+3 by omega),enc,enc]
    rw [show(((0:Int)*256+bt x0 ↑i)*256)*256=bt x0 ↑i*65536 from by omega]
    simp
 ·
  obtain⟨k,rfl⟩:∃ q,k=q+1:=⟨k - 1,by omega⟩
  rw [base_Put.l0,if_neg (by omega),rest_end (by omega)]
  simp [enc]
theorem put_f {x0:ByteArray} (hsz:x0.size≤1000) {k:Nat} (hk:10001≤k):base_Put.f k x0=some (strOfNums (enc (rest x0 0))):=by
 unfold base_Put.f
 have:=put_l0 hsz x0.size 0 [] k (by omega) (by omega) (by simp;omega) (by omega)
 simpa using this
end Go.Proofs.YtmmmjbipgngamaaGreatDoor.Pure
namespace Go.Proofs.YtmmmjbipgngamaaGreatDoor.Pure
open Go.RowKit Go.Proofs.YtmmmjbipgngamaaGreatDoor.PBase Go.Proofs.YtmmmjbipgngamaaGreatDoorW.PrintWords Go.Proofs.YtmmmjbipgngamaaGreatDoorW.PrintLast Go.Proofs.YtmmmjbipgngamaaGreatDoorW.PrintMore
def fills (l:List Int):Nat:=(l.filter fun x=>x == 61).length
theorem fills_append (l m:List Int):fills (l++m)=fills l+fills m:=by unfold fills;rw [List.filter_append,List.length_append]
theorem quad_len (n k:Int):(quad n k).length=4:=rfl
theorem quad_fills {n k:Int}:fills (quad n k)=(if 2≤k then 0 else 1)+(if 3≤k then 0 else 1):=by
 have m (x:Int):sgI (x % 64)≠61:=(sgI_range (n:=x % 64) (by omega) (by omega)).2.2
 have b (x:Int):(sgI (x % 64) == 61)=false:=by simpa using m x
 unfold quad fills
 by_cases h2:2≤k<;>by_cases h3:3≤k<;>simp [List.filter_cons,b,h2,h3]
theorem enc_len:∀ (m:Nat) (l:List Int),l.length≤m→(enc l).length=(l.length+2) / 3*4∧fills (enc l)=(3 - l.length % 3) % 3:=by
 intro m
 induction m using Nat.strongRecOn with
 | _ m ih =>
 intro l hl
 match l with
 | []=>exact⟨rfl,rfl⟩
 | [a]=>exact⟨by rw [enc,quad_len];simp,by rw [enc,quad_fills];rfl⟩
 | [a,b]=>exact⟨by rw [enc,quad_len];simp,by rw [enc,quad_fills];rfl⟩
 | a::b::c::r =>
  simp only [List.length_cons]at hl ⊢
  obtain⟨h1,h2⟩:=ih (m - 3) (by omega) r (by omega)
  rw [enc,List.length_append,quad_len,fills_append,quad_fills,h1,h2]
  constructor
  · omega
  · rw [if_pos (by decide),if_pos (by decide)];omega
theorem enc_range:∀ (m:Nat) (l:List Int),l.length≤m→∀ x∈enc l,43≤x∧x≤122:=by
 intro m
 have sq:∀ n k,∀ x∈quad n k,43≤x∧x≤122:=by
  intro n k x hx
  have r (y:Int):=sgI_range (n:=y % 64) (by omega) (by omega)
  unfold quad at hx
  simp only [List.mem_cons,List.mem_nil_iff,or_false]at hx
  rcases hx with rfl | rfl | rfl | rfl
  · exact⟨(r _).1,(r _).2.1⟩
  · exact⟨(r _).1,(r _).2.1⟩
  ·
   split
   · exact⟨(r _).1,(r _).2.1⟩
   · decide
  ·
   split
   · exact⟨(r _).1,(r _).2.1⟩
   · decide
 induction m using Nat.strongRecOn with
 | _ m ih =>
 intro l hl x hx
 match l with
 | []=>simp [enc]at hx
 | [a]=>exact sq _ _ x hx
 | [a,b]=>exact sq _ _ x hx
 | a::b::c::r =>
  simp only [List.length_cons]at hl
  rw [enc,List.mem_append]at hx
  rcases hx with hx | hx
  · exact sq _ _ x hx
  · exact ih (m - 3) (by omega) r (by omega) x hx
theorem rest_str {l:List Int} (h:∀ x∈l,0≤x∧x≤255):rest (strOfNums l) 0=l:=by
 unfold rest
 rw [List.drop_zero,strOfNums_data,List.map_map]
 conv=>rhs;rw [← List.map_id l]
 refine List.map_congr_left fun x hx=>?_
 obtain⟨h0,h1⟩:=h x hx
 simp only [Function.comp,id]
 have e:(UInt8.ofNat x.toNat).toNat=x.toNat % 256:=UInt8.toNat_ofNat'
 rw [e]
 omega
end Go.Proofs.YtmmmjbipgngamaaGreatDoor.Pure
namespace Go.Proofs.YtmmmjbipgngamaaGreatDoor.Pure
open Go.RowKit Go.Proofs.YtmmmjbipgngamaaGreatDoor.PBase Go.Proofs.YtmmmjbipgngamaaGreatDoorW.PrintWords Go.Proofs.YtmmmjbipgngamaaGreatDoorW.PrintLast Go.Proofs.YtmmmjbipgngamaaGreatDoorW.PrintMore
def bits8 (a:Int):List Int:=[a / 128 % 2,a / 64 % 2,a / 32 % 2,a / 16 % 2,a / 8 % 2,a / 4 % 2,a / 2 % 2,a % 2]
def bitL:List Int→List Int
 | []=>[]
 | a::r=>bits8 a++bitL r
theorem bitL_length (l:List Int):(bitL l).length=8*l.length:=by
 induction l with
 | nil=>rfl
 | cons a r ih=>simp only [bitL,List.length_append,List.length_cons,ih];simp [bits8];omega
def six (l:List Int):Int:=(((((l.getD 0 0)*2+l.getD 1 0)*2+l.getD 2 0)*2+l.getD 3 0)*2+l.getD 4 0)*2+l.getD 5 0
theorem put_bits {k:Nat} {x0:ByteArray} {acc:List Int} {i:Nat} (hi:i<x0.size) (hs:x0.size≤1000) (hl:acc.length≤100000) :
  rotulusref22_Put.l1 (k+9) x0 acc i 128=rotulusref22_Put.l0 k x0 (acc++bits8 (bt x0 i)) ((i+1:Nat):Int):=by
 obtain⟨b0,b1⟩:=bt_range x0 (i:Int)
 have step:∀ (k:Nat) (acc:List Int) (d d':Int),0<d→d≤128→wrap64 (Int.tdiv d 2)=d'→acc.length≤200000 →
   rotulusref22_Put.l1 (k+1) x0 acc i d=rotulusref22_Put.l1 k x0 (acc++[bt x0 i / d % 2]) i d':=by
  intro k acc d d' h0 h1 hd ha
  have q0:0≤bt x0 i / d:=Int.ediv_nonneg b0 (by omega)
  have q1:bt x0 i / d≤bt x0 i:=Int.ediv_le_self _ b0
  rw [rotulusref22_Put.l1,if_pos (by omega),if_pos (by omega),if_pos (by omega),if_neg (by omega),if_pos (by omega),w64 (n:=bt x0 i) (by omega) (by omega),Int.tdiv_eq_ediv_of_nonneg b0,w64 (n:=bt x0 i / d) (by omega) (by omega),Int.tmod_eq_emod_of_nonneg q0,hd]
 have t (a b:Int) (h:a / 2=b) (h0:0≤a) (h1:a≤128):wrap64 (Int.tdiv a 2)=b:=by
  rw [Int.tdiv_eq_ediv_of_nonneg h0,w64 (by omega) (by omega),h]
 rw [step _ acc 128 64 (by decide) (by decide) (t _ _ (by decide) (by decide) (by decide)) (by omega)]
 rw [step _ _ 64 32 (by decide) (by decide) (t _ _ (by decide) (by decide) (by decide)) (by simp;omega)]
 rw [step _ _ 32 16 (by decide) (by decide) (t _ _ (by decide) (by decide) (by decide)) (by simp;omega)]
 rw [step _ _ 16 8 (by decide) (by decide) (t _ _ (by decide) (by decide) (by decide)) (by simp;omega)]
 rw [step _ _ 8 4 (by decide) (by decide) (t _ _ (by decide) (by decide) (by decide)) (by simp;omega)]
 rw [step _ _ 4 2 (by decide) (by decide) (t _ _ (by decide) (by decide) (by decide)) (by simp;omega)]
 rw [step _ _ 2 1 (by decide) (by decide) (t _ _ (by decide) (by decide) (by decide)) (by simp;omega)]
 rw [step _ _ 1 0 (by decide) (by decide) (t _ _ (by decide) (by decide) (by decide)) (by simp;omega)]
 rw [rotulusref22_Put.l1,if_neg (by decide),w64 (n:=(i:Int)+1) (by omega) (by omega)]
 have e1:bt x0 i / 1=bt x0 i:=Int.ediv_one _
 rw [e1]
 simp [bits8]
theorem put_l0r {x0:ByteArray} (hs:x0.size≤1000):∀ (m i:Nat) (acc:List Int) (k:Nat),x0.size - i=m→i≤x0.size→acc.length+8*m≤100000 →
  rotulusref22_Put.l0 (k+10*m+1) x0 acc i=rotulusref22_Put.l2 k (acc++bitL (rest x0 i)) ⟨#[]⟩ 0:=by
 intro m
 induction m with
 | zero =>
  intro i acc k hm hi hl
  rw [rotulusref22_Put.l0,if_neg (by omega),rest_end (by omega)]
  simp [bitL]
 | succ m ih =>
  intro i acc k hm hi hl
  rw [show k+10*(m+1)+1=(k+10*m+1)+9+1 from by omega]
  rw [rotulusref22_Put.l0,if_pos (by omega),put_bits (by omega) hs (by omega)]
  rw [ih (i+1) _ k (by omega) (by omega) (by simp [bits8];omega),rest_cons (show i<x0.size by omega)]
  simp [bitL]
def signsS:ByteArray:=⟨#[65,66,67,68,69,70,71,72,73,74,75,76,77,78,79,80,81,82,83,84,85,86,87,88,89,90,97,98,99,100,101,102,103,104,105,106,107,108,109,110,111,112,113,114,115,116,117,118,119,120,121,122,48,49,50,51,52,53,54,55,56,57,43,47]⟩
theorem signs_f:rotulusref22_signs.f=some signsS:=rfl
theorem signs_all:∀ n:Fin 64,(signsS.data.toList.drop n.val).take 1=[UInt8.ofNat (sgI n.val).toNat]:=by decide +kernel
theorem signs_at {n:Nat} (h:n<64):signsS.extract n (n+1)=strOfNums [sgI n]:=by
 have:=signs_all ⟨n,h⟩
 have e:(signsS.extract n (n+1)).data.toList=(strOfNums [sgI n]).data.toList:=by
  rw [strOfNums_data]
  simp only [ByteArray.data_extract,Array.toList_extract,List.extract_eq_take_drop,List.map_cons,List.map_nil]
  rw [show n+1 - n=1 from by omega]
  exact this
 have e2:=Array.toList_inj.1 e
 cases hx:signsS.extract n (n+1)with
 | mk d=>rw [hx]at e2;simp only at e2;rw [e2]
theorem str_append (l m:List Int):strOfNums l++strOfNums m=strOfNums (l++m):=by
 have e:(strOfNums l++strOfNums m).data.toList=(strOfNums (l++m)).data.toList:=by
  rw [strOfNums_data]
  simp [ByteArray.data_append,strOfNums_data]
 have e2:=Array.toList_inj.1 e
 cases hx:strOfNums l++strOfNums m with
 | mk d=>rw [hx]at e2;simp only at e2;rw [e2]
def Bin (l:List Int):Prop:=∀ x∈l,0≤x∧x≤1
theorem rd_getD (l:List Int) (i:Nat):rd l (i:Int)=l.getD i 0:=by unfold rd;rw [Int.toNat_natCast]
theorem bin_getD {l:List Int} (h:Bin l) (i:Nat):0≤l.getD i 0∧l.getD i 0≤1:=by
 rw [List.getD_eq_getElem?_getD]
 cases e:l[i]? with
 | none=>simp
 | some x=>exact h x (List.mem_of_getElem? e)
theorem six_range {l:List Int} (h:Bin l):0≤six l∧six l<64:=by
 have a:=bin_getD h 0;have b:=bin_getD h 1;have c:=bin_getD h 2;have d:=bin_getD h 3;have e:=bin_getD h 4;have f:=bin_getD h 5
 unfold six;omega
theorem getD_drop (l:List Int) (i j:Nat):(l.drop i).getD j 0=l.getD (i+j) 0:=by
 rw [List.getD_eq_getElem?_getD,List.getD_eq_getElem?_getD,List.getElem?_drop]
theorem bin_drop {l:List Int} (h:Bin l) (i:Nat):Bin (l.drop i):=fun x hx=>h x (List.mem_of_mem_drop hx)
theorem l3_step {k:Nat} {bs:List Int} {x6:ByteArray} {i j:Nat} {n:Int} (hb:Bin bs) (hj:j<i+6) (hn0:0≤n) (hn1:n<64) (hi:i≤100000) :
  rotulusref22_Put.l3 (k+1) bs x6 i n j=rotulusref22_Put.l3 k bs x6 i (n*2+bs.getD j 0) ((j+1:Nat):Int):=by
 have g:=bin_getD hb j
 rw [rotulusref22_Put.l3,w64 (n:=(i:Int)+6) (by omega) (by omega),if_pos (by omega)]
 by_cases hl:j<bs.length
 ·
  rw [if_pos (by omega),if_pos (by omega),rd_getD,w64 (n:=n*2) (by omega) (by omega),w64 (n:=n*2+bs.getD j 0) (by omega) (by omega),w64 (n:=(j:Int)+1) (by omega) (by omega)]
  rfl
 ·
  rw [if_neg (by omega),w64 (n:=n*2) (by omega) (by omega),w64 (n:=(j:Int)+1) (by omega) (by omega)]
  have:bs.getD j 0=0:=by rw [List.getD_eq_getElem?_getD,List.getElem?_eq_none (by omega)];rfl
  rw [this,Int.add_zero];rfl
def sixes:Nat→List Int→List Int
 | 0,_=>[]
 | m+1,bs=>if bs=[]then[]else sgI (six bs)::sixes m (bs.drop 6)
theorem sixes_le:∀ (m:Nat) (l:List Int),(sixes m l).length≤m:=by
 intro m
 induction m with
 | zero=>intro l;simp [sixes]
 | succ m ih =>
  intro l
  rw [sixes]
  split
  · simp
  · simp;exact ih _
theorem l3_six {k:Nat} {bs:List Int} (hb:Bin bs) {i:Nat} {x6:ByteArray} (hi:i≤90000):rotulusref22_Put.l3 (k+6) bs x6 i 0 i=rotulusref22_Put.l3 k bs x6 i (six (bs.drop i)) ((i+6:Nat):Int):=by
 have g0:=bin_getD hb i;have g1:=bin_getD hb (i+1);have g2:=bin_getD hb (i+2);have g3:=bin_getD hb (i+3);have g4:=bin_getD hb (i+4);have g5:=bin_getD hb (i+5)
 have e6:six (bs.drop i)=(((((bs.getD i 0)*2+bs.getD (i+1) 0)*2+bs.getD (i+2) 0)*2+bs.getD (i+3) 0)*2+bs.getD (i+4) 0)*2+bs.getD (i+5) 0:=by
  unfold six
  rw [getD_drop,getD_drop,getD_drop,getD_drop,getD_drop,getD_drop,Nat.add_zero]
 rw [e6]
 rw [l3_step hb (j:=i) (by omega) (by omega) (by omega) (by omega)]
 obtain⟨n1,hn1⟩:∃ z,z=0*2+bs.getD (i) 0:=⟨_,rfl⟩
 rw [← hn1]
 rw [l3_step hb (j:=i+1) (by omega) (by omega) (by omega) (by omega)]
 obtain⟨n2,hn2⟩:∃ z,z=n1*2+bs.getD (i+1) 0:=⟨_,rfl⟩
 rw [← hn2]
 rw [show i+1+1=i+2 from rfl]
 rw [l3_step hb (j:=i+2) (by omega) (by omega) (by omega) (by omega)]
 obtain⟨n3,hn3⟩:∃ z,z=n2*2+bs.getD (i+2) 0:=⟨_,rfl⟩
 rw [← hn3]
 rw [show i+2+1=i+3 from rfl]
 rw [l3_step hb (j:=i+3) (by omega) (by omega) (by omega) (by omega)]
 obtain⟨n4,hn4⟩:∃ z,z=n3*2+bs.getD (i+3) 0:=⟨_,rfl⟩
 rw [← hn4]
 rw [show i+3+1=i+4 from rfl]
 rw [l3_step hb (j:=i+4) (by omega) (by omega) (by omega) (by omega)]
 obtain⟨n5,hn5⟩:∃ z,z=n4*2+bs.getD (i+4) 0:=⟨_,rfl⟩
 rw [← hn5]
 rw [show i+4+1=i+5 from rfl]
 rw [l3_step hb (j:=i+5) (by omega) (by omega) (by omega) (by omega)]
 obtain⟨n6,hn6⟩:∃ z,z=n5*2+bs.getD (i+5) 0:=⟨_,rfl⟩
 rw [← hn6]
 rw [show i+5+1=i+6 from rfl]
 congr 1
 omega
theorem signs_bts:∀ n:Fin 64,bt signsS n.val=sgI n.val:=by decide +kernel
theorem signs_ex:∃ S,rotulusref22_signs.f=some S∧S.size=64∧(∀ n,n<64→S.extract n (n+1)=strOfNums [sgI n])∧(∀ n,n<64→bt S (n:Nat)=sgI (n:Nat)) :=
 ⟨signsS,signs_f,rfl,fun n h=>signs_at h,fun n h=>signs_bts ⟨n,h⟩⟩
theorem one_size (a:Int):(strOfNums [a]).size=1:=by rw [strOfNums_size];rfl
theorem l3_out0 {k:Nat} {bs:List Int} {x6:ByteArray} {i u:Nat} (hu:u<64) (hi:i≤90000) (ho:x6.size≤100000) :
  rotulusref22_Put.l3 (k+1) bs x6 i u ((i+6:Nat):Int)=rotulusref22_Put.l2 k bs (x6++strOfNums [sgI u]) ((i+6:Nat):Int):=by
 obtain⟨S,hf,hs,hx,-⟩:=signs_ex
 have e6:((i:Int)+6)=((i+6:Nat):Int):=by omega
 have e1:((u:Int)+1).toNat=u+1:=by omega
 have w1:wrap64 ((i:Int)+6)=((i+6:Nat):Int):=by rw [w64 (n:=(i:Int)+6) (by omega) (by omega)];omega
 have w2:wrap64 ((u:Int)+1)=(u:Int)+1:=w64 (by omega) (by omega)
 have c1:¬ ((i+6:Nat):Int)<((i+6:Nat):Int):=by omega
 have c2:(0:Int)≤(u:Int):=by omega
 have c3:(u:Int)≤(u:Int)+1:=by omega
 have c4:(u:Int)+1≤(S.size:Int):=by rw [hs];omega
 have o:=one_size (sgI u)
 obtain⟨Y,hY⟩:∃ Y,Y=strOfNums [sgI u]:=⟨_,rfl⟩
 have hx1:=hx u hu
 rw [← hY]at hx1 o ⊢
 have c5:x6.size+Y.size≤9223372036854775807:=by omega
 rw [rotulusref22_Put.l3,w1,if_neg c1,hf,Option.bind_some,w2,if_pos c2,if_pos c3,if_pos c4,e1,Int.toNat_natCast,hx1,if_pos c5]
theorem l3_out {k:Nat} {bs out:List Int} {i u:Nat} (hu:u<64) (hi:i≤90000) (ho:out.length≤100000) :
  rotulusref22_Put.l3 (k+1) bs (strOfNums out) i u ((i+6:Nat):Int)=rotulusref22_Put.l2 k bs (strOfNums (out++[sgI u])) ((i+6:Nat):Int):=by
 rw [l3_out0 hu hi (by rw [strOfNums_size];exact ho),str_append]
theorem l2_step {bs:List Int} (hb:Bin bs) (hbl:bs.length≤80000) {i:Nat} {out:List Int} {k:Nat} (hlt:i<bs.length) (ho:out.length≤100000) :
  rotulusref22_Put.l2 (k+1+6+1) bs (strOfNums out) i=rotulusref22_Put.l2 k bs (strOfNums (out++[sgI (six (bs.drop i))])) ((i+6:Nat):Int):=by
 obtain⟨r0,r1⟩:=six_range (bin_drop hb i)
 obtain⟨u,hu⟩:=Int.eq_ofNat_of_zero_le r0
 rw [rotulusref22_Put.l2,if_pos (by omega),l3_six hb (by omega)]
 rw [hu]at r1 ⊢
 exact l3_out (by omega) (by omega) ho
theorem l2_end {bs:List Int} {i:Nat} {out:List Int} {k:Nat} (hlt:¬ i<bs.length) :
  rotulusref22_Put.l2 (k+1) bs (strOfNums out) i=rotulusref22_Put.l4 k (strOfNums out):=by
 rw [rotulusref22_Put.l2,if_neg (by omega)]
theorem sixes_nil:∀ m,sixes m ([]:List Int)=[]
 | 0=>rfl
 | _+1=>rfl
end Go.Proofs.YtmmmjbipgngamaaGreatDoor.Pure
namespace Go.Proofs.YtmmmjbipgngamaaGreatDoor.Pure
open Go.RowKit Go.Proofs.YtmmmjbipgngamaaGreatDoor.PBase Go.Proofs.YtmmmjbipgngamaaGreatDoorW.PrintWords Go.Proofs.YtmmmjbipgngamaaGreatDoorW.PrintLast Go.Proofs.YtmmmjbipgngamaaGreatDoorW.PrintMore
theorem put_l2r {bs:List Int} (hb:Bin bs) (hbl:bs.length≤80000):∀ (m i:Nat) (out:List Int) (k:Nat),bs.length - i≤m→out.length+m≤100000→8*m+1≤k →
  ∃ k',k≤k'+8*m+1∧rotulusref22_Put.l2 k bs (strOfNums out) (i:Int)=rotulusref22_Put.l4 k' (strOfNums (out++sixes m (bs.drop i))):=by
 intro m
 induction m with
 | zero =>
  intro i out k hm hl hk
  obtain⟨q,hq⟩:∃ q,k=q+1:=⟨k - 1,by omega⟩
  refine⟨q,by omega,?_⟩
  have e:=@l2_end bs i out q (by omega)
  rw [hq,e]
  simp only [sixes,List.append_nil]
 | succ m ih =>
  intro i out k hm hl hk
  by_cases hlt:i<bs.length
  ·
   obtain⟨q,hq⟩:∃ q,k=q+1+6+1:=⟨k - 8,by omega⟩
   have hne:bs.drop i≠[]:=by intro h;have:=congrArg List.length h;simp at this;omega
   have hlen:(out++[sgI (six (bs.drop i))]).length=out.length+1:=by simp
   obtain⟨k',q1,q2⟩:=ih (i+6) (out++[sgI (six (bs.drop i))]) q (by omega) (by omega) (by omega)
   have st:=@l2_step bs hb hbl i out q hlt (by omega)
   have es:sixes (m+1) (bs.drop i)=sgI (six (bs.drop i))::sixes m (bs.drop (i+6)):=by
    rw [sixes,if_neg hne,List.drop_drop]
   have ea:out++sixes (m+1) (bs.drop i)=(out++[sgI (six (bs.drop i))])++sixes m (bs.drop (i+6)):=by
    rw [es];simp
   refine⟨k',by omega,?_⟩
   rw [hq,ea]
   exact st.trans q2
  ·
   have hd:bs.drop i=[]:=List.drop_of_length_le (by omega)
   obtain⟨q,hq⟩:∃ q,k=q+1:=⟨k - 1,by omega⟩
   refine⟨q,by omega,?_⟩
   have e:=@l2_end bs i out q hlt
   rw [hq,e,hd,sixes_nil,List.append_nil]
def pad4 (l:List Int):List Int:=l++List.replicate ((4 - l.length % 4) % 4) 61
theorem put_l4:∀ (m:Nat) (out:List Int) (k:Nat),(4 - out.length % 4) % 4=m→out.length≤100000→m<k→rotulusref22_Put.l4 k (strOfNums out)=some (strOfNums (pad4 out)):=by
 intro m
 induction m with
 | zero =>
  intro out k hm hl hk
  obtain⟨k,rfl⟩:∃ q,k=q+1:=⟨k - 1,by omega⟩
  rw [rotulusref22_Put.l4,strOfNums_size,if_pos (by omega)]
  unfold pad4
  rw [hm];simp
 | succ m ih =>
  intro out k hm hl hk
  obtain⟨k,rfl⟩:∃ q,k=q+1:=⟨k - 1,by omega⟩
  rw [rotulusref22_Put.l4,strOfNums_size,if_neg (by omega),if_pos (by omega)]
  have e:(⟨#[61]⟩:ByteArray)=strOfNums [61]:=rfl
  have hl2:(out++[(61:Int)]).length=out.length+1:=by simp
  rw [e,str_append,ih (out++[61]) k (by rw [hl2];omega) (by rw [hl2];omega) (by omega)]
  unfold pad4
  rw [hl2,hm,show(4 - (out.length+1) % 4) % 4=m from by omega,List.append_assoc]
  rfl
end Go.Proofs.YtmmmjbipgngamaaGreatDoor.Pure
namespace Go.Proofs.YtmmmjbipgngamaaGreatDoor.Pure
open Go.RowKit Go.Proofs.YtmmmjbipgngamaaGreatDoor.PBase Go.Proofs.YtmmmjbipgngamaaGreatDoorW.PrintWords Go.Proofs.YtmmmjbipgngamaaGreatDoorW.PrintLast Go.Proofs.YtmmmjbipgngamaaGreatDoorW.PrintMore
def vI (c:Int):Int:=if 65≤c∧c≤90 then c - 65 else if 97≤c∧c≤122 then c - 71 else if 48≤c∧c≤57 then c+4 else if c=43 then 62 else if c=47 then 63 else 64
def v0 (c:Int):Int:=if vI c<64 then vI c else 0
def qn (a b c d:Int):Int:=((v0 a*64+v0 b)*64+v0 c)*64+v0 d
end Go.Proofs.YtmmmjbipgngamaaGreatDoor.Pure
namespace Go.Proofs.YtmmmjbipgngamaaGreatDoor.Pure
open Go.RowKit Go.Proofs.YtmmmjbipgngamaaGreatDoor.PBase Go.Proofs.YtmmmjbipgngamaaGreatDoorW.PrintWords Go.Proofs.YtmmmjbipgngamaaGreatDoorW.PrintLast Go.Proofs.YtmmmjbipgngamaaGreatDoorW.PrintMore
def bits6 (v:Int):List Int:=[v / 32 % 2,v / 16 % 2,v / 8 % 2,v / 4 % 2,v / 2 % 2,v % 2]
def Byt (l:List Int):Prop:=∀ x∈l,0≤x∧x<256
theorem byt_cons {a:Int} {l:List Int} (h:Byt (a::l)):(0≤a∧a<256)∧Byt l:=⟨h a (by simp),fun x hx=>h x (by simp [hx])⟩
theorem quad_bits {a b c:Int} (ha:0≤a∧a<256) (hb:0≤b∧b<256) (hc:0≤c∧c<256) :
  bits8 a++(bits8 b++bits8 c)=bits6 ((a*65536+b*256+c) / 262144 % 64)++(bits6 ((a*65536+b*256+c) / 4096 % 64)++(bits6 ((a*65536+b*256+c) / 64 % 64)++bits6 ((a*65536+b*256+c) % 64))):=by
 unfold bits8 bits6
 simp only [List.cons_append,List.nil_append,List.cons.injEq,and_true]
 refine⟨?_,?_,?_,?_,?_,?_,?_,?_,?_,?_,?_,?_,?_,?_,?_,?_,?_,?_,?_,?_,?_,?_,?_,?_⟩<;>omega
theorem six_bits {v:Int} (h:0≤v∧v<64) (r:List Int):six (bits6 v++r)=v:=by
 unfold six bits6
 simp only [List.cons_append,List.getD_cons_zero,List.getD_cons_succ]
 omega
theorem sixes_bits {v:Int} (h:0≤v∧v<64) (r:List Int) (m:Nat):sixes (m+1) (bits6 v++r)=sgI v::sixes m r:=by
 have hne:bits6 v++r≠[]:=by unfold bits6;simp
 have hd:(bits6 v++r).drop 6=r:=rfl
 rw [sixes,if_neg hne,six_bits h,hd]
theorem pad4_quad (n:Int) (l:List Int):pad4 (quad n 3++l)=quad n 3++pad4 l:=by
 unfold pad4
 have e:(4 - (quad n 3++l).length % 4) % 4=(4 - l.length % 4) % 4:=by rw [List.length_append,quad_len];omega
 rw [e,List.append_assoc]
theorem mod64 (x:Int):0≤x % 64∧x % 64<64:=by omega
theorem enc_one {a:Int} (ha:0≤a∧a<256) (m:Nat):pad4 (sixes (m+2) (bits8 a))=quad (a*65536) 1:=by
 have e1:bits8 a=bits6 (a*65536 / 262144 % 64)++[a / 2 % 2,a % 2]:=by
  unfold bits8 bits6
  simp only [List.cons_append,List.nil_append,List.cons.injEq,and_true]
  refine⟨?_,?_,?_,?_,?_,?_⟩<;>omega
 have e2:six [a / 2 % 2,a % 2]=a*65536 / 4096 % 64:=by
  unfold six
  simp only [List.getD_cons_zero,List.getD_cons_succ,List.getD_nil]
  omega
 rw [e1,sixes_bits (mod64 _),sixes,if_neg (by simp),e2]
 have e3:List.drop 6 [a / 2 % 2,a % 2]=[]:=rfl
 rw [e3,sixes_nil]
 rfl
theorem enc_two {a b:Int} (ha:0≤a∧a<256) (hb:0≤b∧b<256) (m:Nat):pad4 (sixes (m+3) (bits8 a++bits8 b))=quad (a*65536+b*256) 2:=by
 have e1:bits8 a++bits8 b=bits6 ((a*65536+b*256) / 262144 % 64)++(bits6 ((a*65536+b*256) / 4096 % 64)++[b / 8 % 2,b / 4 % 2,b / 2 % 2,b % 2]):=by
  unfold bits8 bits6
  simp only [List.cons_append,List.nil_append,List.cons.injEq,and_true]
  refine⟨?_,?_,?_,?_,?_,?_,?_,?_,?_,?_,?_,?_⟩<;>omega
 have e2:six [b / 8 % 2,b / 4 % 2,b / 2 % 2,b % 2]=(a*65536+b*256) / 64 % 64:=by
  unfold six
  simp only [List.getD_cons_zero,List.getD_cons_succ,List.getD_nil]
  omega
 rw [e1,sixes_bits (mod64 _),sixes_bits (mod64 _),sixes,if_neg (by simp),e2]
 have e3:List.drop 6 [b / 8 % 2,b / 4 % 2,b / 2 % 2,b % 2]=[]:=rfl
 rw [e3,sixes_nil]
 rfl
theorem sixes_enc:∀ (n:Nat) (l:List Int) (m:Nat),l.length≤n→Byt l→2*l.length≤m→pad4 (sixes m (bitL l))=enc l:=by
 intro n
 induction n using Nat.strongRecOn with
 | _ n ih =>
 intro l m hl hb hm
 match l with
 | []=>rw [bitL,sixes_nil];rfl
 | [a] =>
  obtain⟨q,hq⟩:∃ q,m=q+2:=⟨m - 2,by simp at hm;omega⟩
  rw [hq,bitL,bitL,List.append_nil,enc_one (byt_cons hb).1,enc]
 | [a,b] =>
  obtain⟨q,hq⟩:∃ q,m=q+3:=⟨m - 3,by simp at hm;omega⟩
  rw [hq,bitL,bitL,bitL,List.append_nil,enc_two (byt_cons hb).1 (byt_cons (byt_cons hb).2).1,enc]
 | a::b::c::r =>
  simp only [List.length_cons]at hl hm
  obtain⟨q,hq⟩:∃ q,m=q+1+1+1+1:=⟨m - 4,by omega⟩
  have h3:=byt_cons (byt_cons (byt_cons hb).2).2
  have e:bitL (a::b::c::r)=bits6 ((a*65536+b*256+c) / 262144 % 64)++(bits6 ((a*65536+b*256+c) / 4096 % 64)++(bits6 ((a*65536+b*256+c) / 64 % 64)++(bits6 ((a*65536+b*256+c) % 64)++bitL r))):=by
   have:=congrArg (·++bitL r) (quad_bits (byt_cons hb).1 (byt_cons (byt_cons hb).2).1 h3.1)
   simpa only [bitL,List.append_assoc]using this
  rw [hq,e,sixes_bits (mod64 _),sixes_bits (mod64 _),sixes_bits (mod64 _),sixes_bits (mod64 _),enc]
  have e2:∀ s,sgI ((a*65536+b*256+c) / 262144 % 64)::sgI ((a*65536+b*256+c) / 4096 % 64)::sgI ((a*65536+b*256+c) / 64 % 64)::sgI ((a*65536+b*256+c) % 64)::s=quad (a*65536+b*256+c) 3++s:=fun s=>rfl
  rw [e2,pad4_quad,ih (n - 3) (by omega) r q (by omega) h3.2 (by omega)]
theorem bin_bitL:∀ l:List Int,Bin (bitL l)
 | []=>fun x hx=>by simp [bitL]at hx
 | a::l=>fun x hx=>by
  rw [bitL,List.mem_append]at hx
  rcases hx with hx | hx
  ·
   unfold bits8 at hx
   simp only [List.mem_cons,List.mem_nil_iff,or_false]at hx
   rcases hx with rfl | rfl | rfl | rfl | rfl | rfl | rfl | rfl<;>omega
  · exact bin_bitL l x hx
theorem byt_rest (s:ByteArray) (i:Nat):Byt (rest s i):=by
 intro x hx
 unfold rest at hx
 obtain⟨b,-,rfl⟩:=List.mem_map.1 hx
 have:=b.toNat_lt
 omega
theorem str_nil:(⟨#[]⟩:ByteArray)=strOfNums []:=rfl
theorem put_rf {t:ByteArray} (hs:t.size≤1000) {k:Nat} (hk:100000≤k):rotulusref22_Put.f k t=some (strOfNums (enc (rest t 0))):=by
 have hbl:(bitL (rest t 0)).length=8*t.size:=by rw [bitL_length,rest_length];rfl
 obtain⟨q,hq⟩:∃ q,k=q+10*t.size+1:=⟨k - 10*t.size - 1,by omega⟩
 unfold rotulusref22_Put.f
 have h1:=@put_l0r t hs t.size 0 [] q rfl (Nat.zero_le _) (by rw [List.length_nil];omega)
 have h1':rotulusref22_Put.l0 (q+10*t.size+1) t [] 0=rotulusref22_Put.l2 q ([]++bitL (rest t 0)) ⟨#[]⟩ 0:=h1
 rw [hq,h1',List.nil_append,str_nil]
 obtain⟨k',g1,g2⟩:=put_l2r (bin_bitL (rest t 0)) (by omega) (8*t.size) 0 [] q (by omega) (by rw [List.length_nil];omega) (by omega)
 have g2':rotulusref22_Put.l2 q (bitL (rest t 0)) (strOfNums []) 0=rotulusref22_Put.l4 k' (strOfNums ([]++sixes (8*t.size) ((bitL (rest t 0)).drop 0))):=g2
 rw [g2',List.nil_append,List.drop_zero]
 have hl:=sixes_le (8*t.size) (bitL (rest t 0))
 have h4:=put_l4 _ (sixes (8*t.size) (bitL (rest t 0))) k' rfl (by omega) (by omega)
 rw [h4,sixes_enc _ (rest t 0) (8*t.size) (Nat.le_refl _) (byt_rest t 0) (by rw [rest_length];omega)]
end Go.Proofs.YtmmmjbipgngamaaGreatDoor.Pure
namespace Go.Proofs.YtmmmjbipgngamaaGreatDoor.Pure
open Go.RowKit Go.Proofs.YtmmmjbipgngamaaGreatDoor.PBase Go.Proofs.YtmmmjbipgngamaaGreatDoorW.PrintWords Go.Proofs.YtmmmjbipgngamaaGreatDoorW.PrintLast Go.Proofs.YtmmmjbipgngamaaGreatDoorW.PrintMore
end Go.Proofs.YtmmmjbipgngamaaGreatDoor.Pure
namespace Go.Proofs.YtmmmjbipgngamaaGreatDoor.Pure
open Go.RowKit Go.Proofs.YtmmmjbipgngamaaGreatDoor.PBase Go.Proofs.YtmmmjbipgngamaaGreatDoorW.PrintWords Go.Proofs.YtmmmjbipgngamaaGreatDoorW.PrintLast Go.Proofs.YtmmmjbipgngamaaGreatDoorW.PrintMore
end Go.Proofs.YtmmmjbipgngamaaGreatDoor.Pure
