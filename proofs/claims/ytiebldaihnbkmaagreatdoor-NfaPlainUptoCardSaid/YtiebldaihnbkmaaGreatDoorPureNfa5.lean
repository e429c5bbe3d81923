/-
  What is proved here: the program's way to count a pattern's nodes (it stops above a bound) says just whether the pattern is neither too great nor too deep, nor out of form; the two ways to weigh a pattern (each stops above a bound of its own) tell the same, up to the lesser bound. No conditions. (No program in sight.)
-/
import Derived.Test.YtiebldaihnbkmaaGreatDoorPureNfa1
set_option linter.unusedVariables false
set_option linter.unusedSimpArgs false
namespace Go.Nfa
section
variable (loc:Nd→Bool)
mutual
/-- As the program counts. -/
def cnt:Nd→Nat→Nat
 | .mk kind set no kids mn mx,d=>if 40<d∨loc (.mk kind set no kids mn mx)=false then 2001 else XB9 kids d 1
def XB9:List Nd→Nat→Nat→Nat
 | [],_,all=>all
 | k::ks,d,all=>if 2000<all+cnt k (d+1)then 2001 else XB9 ks d (all+cnt k (d+1))
end
mutual
def size:Nd→Nat
 | .mk _ _ _ kids _ _=>1+X1O kids
def X1O:List Nd→Nat
 | []=>0
 | k::ks=>size k+X1O ks
end
mutual
def XEY:Nd→Nat
 | .mk _ _ _ kids _ _=>X5W kids+1
def X5W:List Nd→Nat
 | []=>0
 | k::ks=>max (XEY k) (X5W ks)
end
mutual
def X0L:Nd→Prop
 | .mk kind set no kids mn mx=>loc (.mk kind set no kids mn mx)=true∧X0V kids
def X0V:List Nd→Prop
 | []=>True
 | k::ks=>X0L k∧X0V ks
end
theorem XEZ (n:Nd):1≤XEY n:=by cases n;unfold XEY;omega
theorem X58 (n:Nd):1≤size n:=by cases n;unfold size;omega
mutual
theorem XAG:∀ (n:Nd) (d:Nat),(d+XEY n≤41∧size n≤2000∧X0L loc n→cnt loc n d=size n)∧(cnt loc n d≤2000→d+XEY n≤41∧size n≤2000∧X0L loc n)
 | .mk kind set no kids mn mx,d=>by
  obtain⟨h1,h2⟩:=X9L kids d 1 (by omega)
  unfold cnt XEY size X0L
  constructor
  ·
   rintro⟨q1,q2,q3,q4⟩
   rw [if_neg (by rw [q3];simp;omega)]
   exact h1 ⟨by omega,by omega,q4⟩
  ·
   intro h
   split at h
   · omega
   ·
    rename_i hc
    have hd:¬ 40<d:=fun x=>hc (.inl x)
    have hl:loc (.mk kind set no kids mn mx)=true:=by
     cases hx:loc (.mk kind set no kids mn mx)with
     | true=>rfl
     | false=>exact absurd (.inr hx) hc
    obtain⟨q1,q2,q3⟩:=h2 h
    exact⟨by rcases q1 with q1 | q1<;>omega,by omega,hl,q3⟩
theorem X9L:∀ (ks:List Nd) (d all:Nat),all≤2000→((ks=[]∨d+X5W ks≤40)∧all+X1O ks≤2000∧X0V loc ks→XB9 loc ks d all=all+X1O ks) ∧
  (XB9 loc ks d all≤2000→(X5W ks=0∨d+X5W ks≤40)∧all+X1O ks≤2000∧X0V loc ks)
 | [],d,all,ha=>by
  unfold XB9 X1O X5W X0V
  exact⟨fun _=>rfl,fun _=>⟨.inl rfl,by omega,trivial⟩⟩
 | k::ks,d,all,ha=>by
  obtain⟨k1,k2⟩:=XAG k (d+1)
  have hdk:=XEZ k
  unfold XB9 X1O X5W X0V
  constructor
  ·
   rintro⟨q1,q2,q3,q4⟩
   have q1:d+max (XEY k) (X5W ks)≤40:=by
    rcases q1 with q | q
    · cases q
    · exact q
   have e:=k1 ⟨by omega,by omega,q3⟩
   rw [e,if_neg (by omega)]
   obtain⟨h1,_⟩:=X9L ks d (all+size k) (by omega)
   rw [h1 ⟨.inr (by omega),by omega,q4⟩]
   omega
  ·
   intro h
   split at h
   · omega
   ·
    rename_i hc
    obtain⟨a1,a2,a3⟩:=k2 (by omega)
    have e:=k1 ⟨a1,a2,a3⟩
    rw [e]at h hc
    obtain⟨_,h2⟩:=X9L ks d (all+size k) (by omega)
    obtain⟨b1,b2,b3⟩:=h2 h
    refine⟨.inr ?_,by omega,a3,b3⟩
    rcases b1 with b1 | b1<;>omega
end
end
section
variable (K:X47)
mutual
/-- The weight,without a bound. -/
def wt:Nd→Nat
 | .mk kind _ _ kids mn mx =>
  if kind=K.cat then wtL kids else if kind=K.alt then wtL kids+1 else if kind=K.rep then wtL kids*(if mx<0 then mn+1 else mx).toNat+1 else 1
def wtL:List Nd→Nat
 | []=>0
 | k::ks=>wt k+wtL ks
end
mutual
/-- As the program weighs: bound at each node. -/
def wp (c:Nat):Nd→Nat
 | .mk kind _ _ kids mn mx =>
  min (if kind=K.cat then wpL c kids 0 else if kind=K.alt then wpL c kids 0+1 else if kind=K.rep then wpL c kids 0*(if mx<0 then mn+1 else mx).toNat+1 else 1) c
def wpL (c:Nat):List Nd→Nat→Nat
 | [],w=>w
 | k::ks,w=>wpL c ks (w+wp c k)
end
mutual
/-- As the document weighs: bound at each sum. -/
def wr (c:Nat):Nd→Nat
 | .mk kind _ _ kids mn mx =>
  if kind=K.cat then wrL c kids 0 else if kind=K.alt then wrL c kids 0+1 else if kind=K.rep then min (wrL c kids 0*(if mx<0 then mn+1 else mx).toNat+1) c else 1
def wrL (c:Nat):List Nd→Nat→Nat
 | [],w=>w
 | k::ks,w=>wrL c ks (min (w+wr c k) c)
end
theorem XCM {c x y t:Nat} (h:min x c=min y c):min (x*t+1) c=min (y*t+1) c:=by
 cases t with
 | zero=>simp
 | succ t =>
  by_cases hx:x<c
  ·
   have:x=y:=by omega
   rw [this]
  ·
   have hy:c≤y:=by omega
   have h1:c≤x*(t+1):=Nat.le_trans (by omega) (Nat.le_mul_of_pos_right x (by omega))
   have h2:c≤y*(t+1):=Nat.le_trans hy (Nat.le_mul_of_pos_right y (by omega))
   omega
mutual
theorem XEa (c:Nat):∀ n:Nd,wp K c n=min (wt K n) c
 | .mk kind _ _ kids mn mx=>by
  have h:=XFg c kids 0 0 rfl
  unfold wp wt
  split
  · rw [Nat.zero_add]at h;exact h
  ·
   split
   · rw [Nat.zero_add]at h;omega
   ·
    split
    · rw [Nat.zero_add]at h;exact XCM h
    · rfl
theorem XFg (c:Nat):∀ (ks:List Nd) (w v:Nat),min w c=min v c→min (wpL K c ks w) c=min (v+wtL K ks) c
 | [],w,v,h=>by unfold wpL wtL;exact h
 | k::ks,w,v,h=>by
  have h1:=XEa c k
  unfold wpL wtL
  rw [XFg c ks (w+wp K c k) (v+wt K k) (by rw [h1];omega)]
  congr 1;omega
end
mutual
theorem XId (c:Nat):∀ n:Nd,min (wr K c n) c=min (wt K n) c
 | .mk kind _ _ kids mn mx=>by
  have h:=X6m c kids 0 0 rfl
  unfold wr wt
  split
  · rw [Nat.zero_add]at h;exact h
  ·
   split
   · rw [Nat.zero_add]at h;omega
   ·
    split
    · rw [Nat.zero_add]at h;have:=XCM (t:=(if mx<0 then mn+1 else mx).toNat) h;omega
    · rfl
theorem X6m (c:Nat):∀ (ks:List Nd) (w v:Nat),min w c=min v c→min (wrL K c ks w) c=min (v+wtL K ks) c
 | [],w,v,h=>by unfold wrL wtL;exact h
 | k::ks,w,v,h=>by
  have h1:=XId c k
  unfold wrL wtL
  rw [X6m c ks (min (w+wr K c k) c) (v+wt K k) (by omega)]
  congr 1;omega
end
theorem XGm {c d:Nat} (h:c<d) (n:Nd):(wp K (c+1) n≤c↔wr K d n≤c)∧(wp K (c+1) n≤c→wp K (c+1) n=wr K d n):=by
 have h1:=XEa K (c+1) n
 have h2:=XId K d n
 omega
end
end Go.Nfa
