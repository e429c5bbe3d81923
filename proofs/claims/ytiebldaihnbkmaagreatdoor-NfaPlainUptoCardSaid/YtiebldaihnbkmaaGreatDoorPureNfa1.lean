/-
  What is proved here: patterns as trees; what they match (from a place to a place); machines of states that are built of t the search through a machine, place by place: which states are reached without a sign, and which wit No conditions but those that the theorems state.
-/
set_option linter.unusedVariables false
set_option linter.unusedSimpArgs false
namespace Go.Nfa
inductive Nd where
 | mk (kind:Int) (set:List (Int×Int)) (no:Bool) (kids:List Nd) (min max:Int):Nd
def X2k (set:List (Int×Int)) (no:Bool) (r:Int):Bool:=if set.any (fun x=>decide (x.1≤r) && decide (r≤x.2))then !no else no
def X1d (R:Nat→Nat→Prop):Nat→Nat→Nat→Prop
 | 0,i,j=>i=j
 | k+1,i,j=>∃ m,R i m∧X1d R k m j
structure X47 where
 set:Int
 cat:Int
 alt:Int
 rep:Int
 beg:Int
 fin:Int
 ne:[set,cat,alt,rep,beg,fin].Nodup
section
variable (K:X47) (l:List Int)
mutual
/-- From place i to place j. -/
def M:Nd→Nat→Nat→Prop
 | .mk kind set no kids mn mx,i,j =>
  (kind=K.set∧j=i+1∧∃ r,l[i]?=some r∧X2k set no r=true) ∨
  (kind=K.beg∧i=0∧j=i)∨(kind=K.fin∧i=l.length∧j=i) ∨
  (kind=K.cat∧X89 kids i j)∨(kind=K.alt∧XB3 kids i j) ∨
  (kind=K.rep∧∃ k:Nat,mn≤k∧(mx<0∨(k:Int)≤mx)∧X1d (X8A kids) k i j)
def X89:List Nd→Nat→Nat→Prop
 | [],i,j=>i=j
 | n::ns,i,j=>∃ m,M n i m∧X89 ns m j
def XB3:List Nd→Nat→Nat→Prop
 | [],_,_=>False
 | n::ns,i,j=>M n i j∨XB3 ns i j
def X8A:List Nd→Nat→Nat→Prop
 | [],_,_=>False
 | n::_,i,j=>M n i j
end
end
inductive Sta where
 | takes (set:List (Int×Int)) (no:Bool) (x:Nat)
 | splits (x y:Nat)
 | begins (x:Nat)
 | ends (x:Nat)
 | done
inductive XDs (L:List Sta) (l:List Int):Nat×Nat→Nat×Nat→Prop
 | takes {s i x r set no} (h:L[s]?=some (.takes set no x)) (hr:l[i]?=some r) (hs:X2k set no r=true):XDs L l (s,i) (x,i+1)
 | left {s i x y} (h:L[s]?=some (.splits x y)):XDs L l (s,i) (x,i)
 | right {s i x y} (h:L[s]?=some (.splits x y)):XDs L l (s,i) (y,i)
 | begins {s x} (h:L[s]?=some (.begins x)):XDs L l (s,0) (x,0)
 | ends {s x} (h:L[s]?=some (.ends x)):XDs L l (s,l.length) (x,l.length)
inductive Acc (L:List Sta) (l:List Int) (j:Nat):Nat→Nat→Nat→Prop
 | done {s} (h:L[s]?=some .done):Acc L l j 0 s j
 | step {s i t m n} (h:XDs L l (s,i) (t,m)) (k:Acc L l j n t m):Acc L l j (n+1) s i
structure X3g (L:List Sta) (l:List Int) (R:Nat→Nat→Prop) (first next:Nat):Prop where
 snd:∀ j n i,Acc L l j n first i→∃ m n',n'≤n∧R i m∧Acc L l j n' next m
 cpl:∀ j n i m,R i m→Acc L l j n next m→∃ n',Acc L l j n' first i
theorem X3g.id {L:List Sta} {l:List Int} {s:Nat}:X3g L l (fun i j=>i=j) s s :=
 ⟨fun j n i h=>⟨i,n,Nat.le_refl _,rfl,h⟩,fun j n i m h k=>by subst h;exact⟨n,k⟩⟩
theorem X3g.comp {L:List Sta} {l:List Int} {R S:Nat→Nat→Prop} {a b c:Nat} (h:X3g L l R a b) (k:X3g L l S b c):X3g L l (fun i j=>∃ m,R i m∧S m j) a c:=by
 refine⟨fun j n i ha=>?_,fun j n i m ⟨p,hr,hs⟩ hc=>?_⟩
 ·
  obtain⟨m,n',h1,h2,h3⟩:=h.snd j n i ha
  obtain⟨p,n2,k1,k2,k3⟩:=k.snd j n' m h3
  exact⟨p,n2,Nat.le_trans k1 h1,⟨m,h2,k2⟩,k3⟩
 ·
  obtain⟨n1,h1⟩:=k.cpl j n p m hs hc
  exact h.cpl j n1 i p hr h1
theorem X3g.congr {L:List Sta} {l:List Int} {R S:Nat→Nat→Prop} {a b:Nat} (h:X3g L l R a b) (e:∀ i j,R i j↔S i j):X3g L l S a b :=
 ⟨fun j n i ha=>by obtain⟨m,n',h1,h2,h3⟩:=h.snd j n i ha;exact⟨m,n',h1,(e _ _).1 h2,h3⟩,fun j n i m hr=>h.cpl j n i m ((e _ _).2 hr)⟩
theorem X3g.takes {L:List Sta} {l:List Int} {s x:Nat} {set:List (Int×Int)} {no:Bool} (h:L[s]?=some (.takes set no x)):X3g L l (fun i j=>j=i+1∧∃ r,l[i]?=some r∧X2k set no r=true) s x:=by
 refine⟨fun j n i ha=>?_,fun j n i m ⟨hm,r,hr,hs⟩ hc=>?_⟩
 ·
  cases ha with
  | done hd=>rw [h]at hd;cases hd
  | step hs hk =>
   cases hs with
   | takes h' hr hs=>rw [h]at h';cases h';exact⟨_,_,Nat.le_succ _,⟨rfl,_,hr,hs⟩,hk⟩
   | left h'=>rw [h]at h';cases h'
   | right h'=>rw [h]at h';cases h'
   | begins h'=>rw [h]at h';cases h'
   | ends h'=>rw [h]at h';cases h'
 · subst hm;exact⟨_,.step (.takes h hr hs) hc⟩
theorem X3g.begins {L:List Sta} {l:List Int} {s x:Nat} (h:L[s]?=some (.begins x)):X3g L l (fun i j=>i=0∧j=i) s x:=by
 refine⟨fun j n i ha=>?_,fun j n i m ⟨h0,hm⟩ hc=>?_⟩
 ·
  cases ha with
  | done hd=>rw [h]at hd;cases hd
  | step hs hk =>
   cases hs with
   | takes h' hr hs=>rw [h]at h';cases h'
   | left h'=>rw [h]at h';cases h'
   | right h'=>rw [h]at h';cases h'
   | begins h'=>rw [h]at h';cases h';exact⟨0,_,Nat.le_succ _,⟨rfl,rfl⟩,hk⟩
   | ends h'=>rw [h]at h';cases h'
 · subst h0 hm;exact⟨_,.step (.begins h) hc⟩
theorem X3g.ends {L:List Sta} {l:List Int} {s x:Nat} (h:L[s]?=some (.ends x)):X3g L l (fun i j=>i=l.length∧j=i) s x:=by
 refine⟨fun j n i ha=>?_,fun j n i m ⟨h0,hm⟩ hc=>?_⟩
 ·
  cases ha with
  | done hd=>rw [h]at hd;cases hd
  | step hs hk =>
   cases hs with
   | takes h' hr hs=>rw [h]at h';cases h'
   | left h'=>rw [h]at h';cases h'
   | right h'=>rw [h]at h';cases h'
   | begins h'=>rw [h]at h';cases h'
   | ends h'=>rw [h]at h';cases h';exact⟨_,_,Nat.le_succ _,⟨rfl,rfl⟩,hk⟩
 · subst h0 hm;exact⟨_,.step (.ends h) hc⟩
theorem X3g.split {L:List Sta} {l:List Int} {R S:Nat→Nat→Prop} {s x y next:Nat} (h:L[s]?=some (.splits x y)) (hx:X3g L l R x next) (hy:X3g L l S y next):X3g L l (fun i j=>R i j∨S i j) s next:=by
 refine⟨fun j n i ha=>?_,fun j n i m hr hc=>?_⟩
 ·
  cases ha with
  | done hd=>rw [h]at hd;cases hd
  | step hs hk =>
   cases hs with
   | takes h' hr hs=>rw [h]at h';cases h'
   | left h' =>
    rw [h]at h';cases h'
    obtain⟨m,n',h1,h2,h3⟩:=hx.snd _ _ _ hk
    exact⟨m,n',Nat.le_succ_of_le h1,.inl h2,h3⟩
   | right h' =>
    rw [h]at h';cases h'
    obtain⟨m,n',h1,h2,h3⟩:=hy.snd _ _ _ hk
    exact⟨m,n',Nat.le_succ_of_le h1,.inr h2,h3⟩
   | begins h'=>rw [h]at h';cases h'
   | ends h'=>rw [h]at h';cases h'
 ·
  rcases hr with hr | hr
  · obtain⟨n',h1⟩:=hx.cpl j n i m hr hc;exact⟨_,.step (.left h) h1⟩
  · obtain⟨n',h1⟩:=hy.cpl j n i m hr hc;exact⟨_,.step (.right h) h1⟩
theorem X3g.star {L:List Sta} {l:List Int} {R:Nat→Nat→Prop} {s x next:Nat} (h:L[s]?=some (.splits x next)) (hx:X3g L l R x s):X3g L l (fun i j=>∃ k,X1d R k i j) s next:=by
 constructor
 ·
  intro j n
  induction n using Nat.strongRecOn with
  | _ n ih =>
   intro i ha
   cases ha with
   | done hd=>rw [h]at hd;cases hd
   | step hs hk =>
    cases hs with
    | takes h' hr hs=>rw [h]at h';cases h'
    | left h' =>
     rw [h]at h';cases h'
     obtain⟨m,n',h1,h2,h3⟩:=hx.snd _ _ _ hk
     obtain⟨p,n2,k1,⟨k,k2⟩,k3⟩:=ih n' (by omega) m h3
     exact⟨p,n2,by omega,⟨k+1,m,h2,k2⟩,k3⟩
    | right h'=>rw [h]at h';cases h';exact⟨_,_,Nat.le_succ _,⟨0,rfl⟩,hk⟩
    | begins h'=>rw [h]at h';cases h'
    | ends h'=>rw [h]at h';cases h'
 ·
  intro j n i m ⟨k,hk⟩ hc
  induction k generalizing i with
  | zero=>cases hk;exact⟨_,.step (.right h) hc⟩
  | succ k ih =>
   obtain⟨p,h1,h2⟩:=hk
   obtain⟨n1,h3⟩:=ih p h2
   obtain⟨n2,h4⟩:=hx.cpl j n1 i p h1 h3
   exact⟨_,.step (.left h) h4⟩
theorem X1d.append {R:Nat→Nat→Prop}:∀ {a b i m j:Nat},X1d R a i m→X1d R b m j→X1d R (a+b) i j:=by
 intro a
 induction a with
 | zero=>intro b i m j h k;cases h;rw [Nat.zero_add];exact k
 | succ a ih =>
  intro b i m j h k
  obtain⟨p,h1,h2⟩:=h
  rw [Nat.succ_add]
  exact⟨p,h1,ih h2 k⟩
theorem X1d.split {R:Nat→Nat→Prop}:∀ {a b i j:Nat},X1d R (a+b) i j→∃ m,X1d R a i m∧X1d R b m j:=by
 intro a
 induction a with
 | zero=>intro b i j h;rw [Nat.zero_add]at h;exact⟨i,rfl,h⟩
 | succ a ih =>
  intro b i j h
  rw [Nat.succ_add]at h
  obtain⟨p,h1,h2⟩:=h
  obtain⟨m,h3,h4⟩:=ih h2
  exact⟨m,⟨p,h1,h3⟩,h4⟩
section
variable (K:X47)
mutual
def build:Nd→List Sta→Nat→List Sta×Nat
 | .mk kind set no kids mn mx,L,next =>
  if kind=K.set then(L++[.takes set no next],L.length)
  else if kind=K.beg then(L++[.begins next],L.length)
  else if kind=K.fin then(L++[.ends next],L.length)
  else if kind=K.cat then X0Y kids L next
  else if kind=K.alt then X1N kids L next
  else if kind=K.rep then X15 kids mn mx L next
  else(L,next)
def X0Y:List Nd→List Sta→Nat→List Sta×Nat
 | [],L,next=>(L,next)
 | n::ns,L,next=>build n (X0Y ns L next).1 (X0Y ns L next).2
/-- The first kid;each further one is one more way. -/
def X1N:List Nd→List Sta→Nat→List Sta×Nat
 | [],L,next=>(L,next)
 | n::ns,L,next=>X1C ns next (build n L next)
def X1C:List Nd→Nat→List Sta×Nat→List Sta×Nat
 | [],_,r=>r
 | n::ns,next,r=>X1C ns next ((build n r.1 next).1++[.splits r.2 (build n r.1 next).2],(build n r.1 next).1.length)
def X15:List Nd→Int→Int→List Sta→Nat→List Sta×Nat
 | [],_,_,L,next=>(L,next)
 | n::_,mn,mx,L,next =>
  let r:=if mx<0 then
    let q:=build n (L++[.splits 0 next]) L.length
    (q.1.set L.length (.splits q.2 next),L.length)
   else(L,next)
  let out:=r.2
  let r:=(List.range (mx - mn).toNat).foldl (fun r _=>((build n r.1 r.2).1++[.splits (build n r.1 r.2).2 out],(build n r.1 r.2).1.length)) r
  (List.range mn.toNat).foldl (fun r _=>build n r.1 r.2) r
end
end
def X1X (l:List Int) (L:List Sta) (r:List Sta×Nat) (next:Nat) (R:Nat→Nat→Prop):Prop :=
 (∃ E,r.1=L++E)∧∀ F:List Sta,(∀ k,L.length≤k→k<r.1.length→F[k]?=r.1[k]?)→X3g F l R r.2 next
theorem X1X.id {l:List Int} {L:List Sta} {next:Nat}:X1X l L (L,next) next (fun i j=>i=j):=⟨⟨[],by simp⟩,fun F _=>X3g.id⟩
theorem X1X.congr {l:List Int} {L:List Sta} {r:List Sta×Nat} {next:Nat} {R S:Nat→Nat→Prop} (h:X1X l L r next R) (e:∀ i j,R i j↔S i j):X1X l L r next S:=⟨h.1,fun F hF=>(h.2 F hF).congr e⟩
theorem X48 {L₁ E F:List Sta} {a:Nat} (h:∀ k,a≤k→k<(L₁++E).length→F[k]?=(L₁++E)[k]?):∀ k,a≤k→k<L₁.length→F[k]?=L₁[k]?:=by
 intro k h1 h2
 rw [h k h1 (by simp;omega),List.getElem?_append_left h2]
theorem X1X.comp {l:List Int} {L:List Sta} {r₁ r₂:List Sta×Nat} {next:Nat} {R S:Nat→Nat→Prop} (h:X1X l L r₁ next R) (k:X1X l r₁.1 r₂ r₁.2 S):X1X l L r₂ next (fun i j=>∃ m,S i m∧R m j):=by
 obtain⟨⟨E₁,e₁⟩,f₁⟩:=h
 obtain⟨⟨E₂,e₂⟩,f₂⟩:=k
 refine⟨⟨E₁++E₂,by rw [e₂,e₁,List.append_assoc]⟩,fun F hF=>?_⟩
 have hlow:∀ k,L.length≤k→k<r₁.1.length→F[k]?=r₁.1[k]?:=by
  rw [e₂]at hF;exact X48 hF
 have hhigh:∀ k,r₁.1.length≤k→k<r₂.1.length→F[k]?=r₂.1[k]?:=fun k h1 h2=>hF k (by rw [e₁]at h1;simp at h1;omega) h2
 exact(f₂ F hhigh).comp (f₁ F hlow)
theorem X1X.one {l:List Int} {L:List Sta} {s:Sta} {next:Nat} {R:Nat→Nat→Prop} (h:∀ F:List Sta,F[L.length]?=some s→X3g F l R L.length next):X1X l L (L++[s],L.length) next R:=by
 refine⟨⟨[s],rfl⟩,fun F hF=>h F ?_⟩
 rw [hF L.length (Nat.le_refl _) (by simp)];simp
def Opt (R:Nat→Nat→Prop) (c:Nat) (i j:Nat):Prop:=∃ k,k≤c∧X1d R k i j
theorem XCI {l:List Int} {R:Nat→Nat→Prop} (b:List Sta→Nat→List Sta×Nat) (hb:∀ L next,X1X l L (b L next) next R) (L₀:List Sta) (out:Nat) (r:List Sta×Nat) :
  ∀ c c₀,X1X l L₀ r out (Opt R c₀) →
   X1X l L₀ ((List.range c).foldl (fun r _=>((b r.1 r.2).1++[.splits (b r.1 r.2).2 out],(b r.1 r.2).1.length)) r) out (Opt R (c₀+c)):=by
 intro c
 induction c with
 | zero=>intro c₀ h;exact h
 | succ c ih =>
  intro c₀ h
  rw [List.range_succ,List.foldl_append]
  simp only [List.foldl_cons,List.foldl_nil]
  have h1:=ih c₀ h
  generalize (List.range c).foldl _ r=r₁ at h1 ⊢
  have h2:=h1.comp (hb r₁.1 r₁.2)
  obtain⟨⟨E,e⟩,f⟩:=h2
  refine⟨⟨E++[.splits (b r₁.1 r₁.2).2 out],by rw [e,List.append_assoc]⟩,fun F hF=>?_⟩
  have hx:=f F (X48 hF)
  have hs:F[(b r₁.1 r₁.2).1.length]?=some (.splits (b r₁.1 r₁.2).2 out):=by
   rw [hF _ (by rw [e];simp) (by simp)];simp
  refine(X3g.split hs hx X3g.id).congr fun i j=>?_
  constructor
  ·
   rintro(⟨m,h1,k,h2,h3⟩ | rfl)
   · exact⟨k+1,by omega,m,h1,h3⟩
   · exact⟨0,by omega,rfl⟩
  ·
   rintro⟨k,h1,h2⟩
   cases k with
   | zero=>exact .inr h2
   | succ k=>obtain⟨m,h3,h4⟩:=h2;exact .inl ⟨m,h3,k,by omega,h4⟩
theorem X5S {l:List Int} {R:Nat→Nat→Prop} (b:List Sta→Nat→List Sta×Nat) (hb:∀ L next,X1X l L (b L next) next R) (L₀:List Sta) (next:Nat) (S:Nat→Nat→Prop) (r:List Sta×Nat) (h:X1X l L₀ r next S) :
  ∀ c,X1X l L₀ ((List.range c).foldl (fun r _=>b r.1 r.2) r) next (fun i j=>∃ m,X1d R c i m∧S m j):=by
 intro c
 induction c with
 | zero=>exact h.congr fun i j=>⟨fun x=>⟨i,rfl,x⟩,fun⟨m,h1,h2⟩=>by cases h1;exact h2⟩
 | succ c ih =>
  rw [List.range_succ,List.foldl_append]
  simp only [List.foldl_cons,List.foldl_nil]
  generalize (List.range c).foldl _ r=r₁ at ih ⊢
  refine(ih.comp (hb r₁.1 r₁.2)).congr fun i j=>?_
  constructor
  · rintro⟨p,h1,m,h2,h3⟩;exact⟨m,⟨p,h1,h2⟩,h3⟩
  · rintro⟨m,⟨p,h1,h2⟩,h3⟩;exact⟨p,h1,m,h2,h3⟩
section
variable (K:X47)
mutual
/-- The patterns of which machines are made. -/
def Ok:Nd→Prop
 | .mk kind _ _ kids mn mx=>kind=K.set∨kind=K.beg∨kind=K.fin∨(kind=K.cat∧OkL kids)∨(kind=K.alt∧kids≠[]∧OkL kids)∨(kind=K.rep∧0≤mn∧(mx<0∨mn≤mx)∧kids≠[]∧OkL kids)
def OkL:List Nd→Prop
 | []=>True
 | n::ns=>Ok n∧OkL ns
end
end
theorem X47.dist (K:X47):K.set≠K.cat∧K.set≠K.alt∧K.set≠K.rep∧K.set≠K.beg∧K.set≠K.fin∧K.cat≠K.alt∧K.cat≠K.rep∧K.cat≠K.beg∧K.cat≠K.fin∧K.alt≠K.rep∧K.alt≠K.beg∧K.alt≠K.fin∧K.rep≠K.beg∧K.rep≠K.fin∧K.beg≠K.fin:=by
 have:=K.ne
 simp at this
 obtain⟨⟨a1,a2,a3,a4,a5⟩,⟨b1,b2,b3,b4⟩,⟨c1,c2,c3⟩,⟨d1,d2⟩,e1⟩:=this
 exact⟨a1,a2,a3,a4,a5,b1,b2,b3,b4,c1,c2,c3,d1,d2,e1⟩
section
variable (K:X47) (l:List Int)
theorem X6g (kind:Int) (set:List (Int×Int)) (no:Bool) (kids:List Nd) (mn mx:Int) (i j:Nat):M K l (.mk kind set no kids mn mx) i j↔(
  (kind=K.set∧j=i+1∧∃ r,l[i]?=some r∧X2k set no r=true) ∨
  (kind=K.beg∧i=0∧j=i)∨(kind=K.fin∧i=l.length∧j=i) ∨
  (kind=K.cat∧X89 K l kids i j)∨(kind=K.alt∧XB3 K l kids i j) ∨
  (kind=K.rep∧∃ k:Nat,mn≤k∧(mx<0∨(k:Int)≤mx)∧X1d (X8A K l kids) k i j)):=by
 unfold M;exact Iff.rfl
mutual
theorem X3N:∀ (n:Nd),Ok K n→∀ (L:List Sta) (next:Nat),X1X l L (build K n L next) next (M K l n)
 | .mk kind set no kids mn mx,ho,L,next=>by
  obtain⟨a1,a2,a3,a4,a5,b1,b2,b3,b4,c1,c2,c3,d1,d2,e1⟩:=K.dist
  have hl:kids≠[]→OkL K kids→True:=fun _ _=>trivial
  unfold Ok at ho
  rcases ho with h | h | h | ⟨h,hk⟩ | ⟨h,hne,hk⟩ | ⟨h,hm,hmx,hne,hk⟩
  ·
   subst h
   have e:build K (.mk K.set set no kids mn mx) L next=(L++[.takes set no next],L.length):=by unfold build;rw [if_pos rfl]
   rw [e]
   refine(X1X.one fun F hF=>X3g.takes hF).congr fun i j=>?_
   rw [X6g]
   constructor
   · exact fun x=>.inl ⟨rfl,x⟩
   ·
    rintro(⟨_,x⟩ | ⟨x,_⟩ | ⟨x,_⟩ | ⟨x,_⟩ | ⟨x,_⟩ | ⟨x,_⟩)
    · exact x
    · exact absurd x a4
    · exact absurd x a5
    · exact absurd x a1
    · exact absurd x a2
    · exact absurd x a3
  ·
   subst h
   have e:build K (.mk K.beg set no kids mn mx) L next=(L++[.begins next],L.length):=by unfold build;rw [if_neg (Ne.symm a4),if_pos rfl]
   rw [e]
   refine(X1X.one fun F hF=>X3g.begins hF).congr fun i j=>?_
   rw [X6g]
   constructor
   · exact fun x=>.inr (.inl ⟨rfl,x⟩)
   ·
    rintro(⟨x,_⟩ | ⟨_,x⟩ | ⟨x,_⟩ | ⟨x,_⟩ | ⟨x,_⟩ | ⟨x,_⟩)
    · exact absurd x.symm a4
    · exact x
    · exact absurd x e1
    · exact absurd x.symm b3
    · exact absurd x.symm c2
    · exact absurd x.symm d1
  ·
   subst h
   have e:build K (.mk K.fin set no kids mn mx) L next=(L++[.ends next],L.length):=by unfold build;rw [if_neg (Ne.symm a5),if_neg (Ne.symm e1),if_pos rfl]
   rw [e]
   refine(X1X.one fun F hF=>X3g.ends hF).congr fun i j=>?_
   rw [X6g]
   constructor
   · exact fun x=>.inr (.inr (.inl ⟨rfl,x⟩))
   ·
    rintro(⟨x,_⟩ | ⟨x,_⟩ | ⟨_,x⟩ | ⟨x,_⟩ | ⟨x,_⟩ | ⟨x,_⟩)
    · exact absurd x.symm a5
    · exact absurd x.symm e1
    · exact x
    · exact absurd x.symm b4
    · exact absurd x.symm c3
    · exact absurd x.symm d2
  ·
   subst h
   have e:build K (.mk K.cat set no kids mn mx) L next=X0Y K kids L next:=by unfold build;rw [if_neg (Ne.symm a1),if_neg b3,if_neg b4,if_pos rfl]
   rw [e]
   refine(X5T kids hk L next).congr fun i j=>?_
   rw [X6g]
   constructor
   · exact fun x=>.inr (.inr (.inr (.inl ⟨rfl,x⟩)))
   ·
    rintro(⟨x,_⟩ | ⟨x,_⟩ | ⟨x,_⟩ | ⟨_,x⟩ | ⟨x,_⟩ | ⟨x,_⟩)
    · exact absurd x.symm a1
    · exact absurd x b3
    · exact absurd x b4
    · exact x
    · exact absurd x b1
    · exact absurd x b2
  ·
   subst h
   have e:build K (.mk K.alt set no kids mn mx) L next=X1N K kids L next:=by unfold build;rw [if_neg (Ne.symm a2),if_neg c2,if_neg c3,if_neg (Ne.symm b1),if_pos rfl]
   rw [e]
   refine(X9F kids hne hk L next).congr fun i j=>?_
   rw [X6g]
   constructor
   · exact fun x=>.inr (.inr (.inr (.inr (.inl ⟨rfl,x⟩))))
   ·
    rintro(⟨x,_⟩ | ⟨x,_⟩ | ⟨x,_⟩ | ⟨x,_⟩ | ⟨_,x⟩ | ⟨x,_⟩)
    · exact absurd x.symm a2
    · exact absurd x c2
    · exact absurd x c3
    · exact absurd x.symm b1
    · exact x
    · exact absurd x c1
  ·
   subst h
   have e:build K (.mk K.rep set no kids mn mx) L next=X15 K kids mn mx L next:=by unfold build;rw [if_neg (Ne.symm a3),if_neg d1,if_neg d2,if_neg (Ne.symm b2),if_neg (Ne.symm c1),if_pos rfl]
   rw [e]
   refine(X9G kids hne hk mn mx hm hmx L next).congr fun i j=>?_
   rw [X6g]
   constructor
   · exact fun x=>.inr (.inr (.inr (.inr (.inr ⟨rfl,x⟩))))
   ·
    rintro(⟨x,_⟩ | ⟨x,_⟩ | ⟨x,_⟩ | ⟨x,_⟩ | ⟨x,_⟩ | ⟨_,x⟩)
    · exact absurd x.symm a3
    · exact absurd x d1
    · exact absurd x d2
    · exact absurd x.symm b2
    · exact absurd x.symm c1
    · exact x
theorem X5T:∀ (ns:List Nd),OkL K ns→∀ (L:List Sta) (next:Nat),X1X l L (X0Y K ns L next) next (X89 K l ns)
 | [],_,L,next=>by
  unfold X0Y
  exact X1X.id.congr fun i j=>by unfold X89;exact Iff.rfl
 | n::ns,ho,L,next=>by
  unfold OkL at ho
  have h1:=X5T ns ho.2 L next
  have h2:=X3N n ho.1 (X0Y K ns L next).1 (X0Y K ns L next).2
  unfold X0Y
  exact(h1.comp h2).congr fun i j=>by rw [X89]
theorem X9F:∀ (ns:List Nd),ns≠[]→OkL K ns→∀ (L:List Sta) (next:Nat),X1X l L (X1N K ns L next) next (XB3 K l ns)
 | [],h,_,_,_=>absurd rfl h
 | n::ns,_,ho,L,next=>by
  unfold OkL at ho
  have h1:=X3N n ho.1 L next
  unfold X1N
  exact(X6h ns ho.2 L next (build K n L next) (M K l n) h1).congr fun i j=>by rw [XB3]
theorem X6h:∀ (ns:List Nd),OkL K ns→∀ (L:List Sta) (next:Nat) (r:List Sta×Nat) (R:Nat→Nat→Prop),X1X l L r next R→X1X l L (X1C K ns next r) next (fun i j=>R i j∨XB3 K l ns i j)
 | [],_,L,next,r,R,h=>by
  unfold X1C
  exact h.congr fun i j=>by rw [XB3];simp
 | n::ns,ho,L,next,r,R,h=>by
  unfold OkL at ho
  have h2:=X3N n ho.1 r.1 next
  unfold X1C
  refine(X6h ns ho.2 L next _ (fun i j=>R i j∨M K l n i j) ?_).congr fun i j=>by rw [XB3];exact or_assoc
  obtain⟨⟨E₁,e₁⟩,f₁⟩:=h
  obtain⟨⟨E₂,e₂⟩,f₂⟩:=h2
  have hlen:r.1.length≤(build K n r.1 next).1.length:=by rw [e₂];simp
  have hlen0:L.length≤r.1.length:=by rw [e₁];simp
  refine⟨⟨E₁++E₂++[.splits r.2 (build K n r.1 next).2],by rw [e₂,e₁];simp⟩,fun F hF=>?_⟩
  have hs:F[(build K n r.1 next).1.length]?=some (.splits r.2 (build K n r.1 next).2):=by
   rw [hF _ (by omega) (by simp)];simp
  have hmid:∀ k,L.length≤k→k<(build K n r.1 next).1.length→F[k]?=(build K n r.1 next).1[k]?:=X48 hF
  have hlow:∀ k,L.length≤k→k<r.1.length→F[k]?=r.1[k]?:=by
   rw [e₂]at hmid;exact X48 hmid
  exact X3g.split hs (f₁ F hlow) (f₂ F fun k h1 h2=>hmid k (by omega) h2)
theorem X9G:∀ (ns:List Nd),ns≠[]→OkL K ns→∀ (mn mx:Int),0≤mn→(mx<0∨mn≤mx)→∀ (L:List Sta) (next:Nat),
  X1X l L (X15 K ns mn mx L next) next (fun i j=>∃ k:Nat,mn≤k∧(mx<0∨(k:Int)≤mx)∧X1d (X8A K l ns) k i j)
 | [],h,_,_,_,_,_,_,_=>absurd rfl h
 | n::ns,_,ho,mn,mx,hmn,hmx,L,next=>by
  unfold OkL at ho
  have hb:∀ L next,X1X l L (build K n L next) next (M K l n):=fun L next=>X3N n ho.1 L next
  have hh:X8A K l (n::ns)=M K l n:=by funext i j;rw [X8A]
  rw [hh]
  unfold X15
  by_cases hneg:mx<0
  ·
   simp only [hneg,if_true]
   have hz:(mx - mn).toNat=0:=by omega
   rw [hz]
   simp only [List.range_zero,List.foldl_nil]
   have h1:X1X l L ((build K n (L++[.splits 0 next]) L.length).1.set L.length (.splits (build K n (L++[.splits 0 next]) L.length).2 next),L.length) next (fun i j=>∃ k,X1d (M K l n) k i j):=by
    obtain⟨⟨E,e⟩,f⟩:=hb (L++[.splits 0 next]) L.length
    refine⟨⟨.splits (build K n (L++[.splits 0 next]) L.length).2 next::E,?_⟩,fun F hF=>?_⟩
    ·
     show(build K n (L++[.splits 0 next]) L.length).1.set L.length (.splits (build K n (L++[.splits 0 next]) L.length).2 next)=_
     generalize (build K n (L++[.splits 0 next]) L.length).2=q
     rw [e];simp
    ·
     have hlen:L.length<(build K n (L++[.splits 0 next]) L.length).1.length:=by rw [e];simp
     have hs:F[L.length]?=some (.splits (build K n (L++[.splits 0 next]) L.length).2 next):=by
      rw [hF L.length (Nat.le_refl _) (by simp;exact hlen)]
      simp [hlen]
     refine X3g.star hs (f F fun k h1 h2=>?_)
     simp at h1
     rw [hF k (by omega) (by simp;exact h2)]
     simp only
     rw [List.getElem?_set_ne (by omega)]
   have h2:=X5S (build K n) hb L next _ _ h1 mn.toNat
   refine h2.congr fun i j=>?_
   constructor
   ·
    rintro⟨m,h3,k,h4⟩
    exact⟨mn.toNat+k,by omega,.inl trivial,h3.append h4⟩
   ·
    rintro⟨k,h3,_,h4⟩
    have:k=mn.toNat+(k - mn.toNat):=by omega
    rw [this]at h4
    obtain⟨m,h5,h6⟩:=h4.split
    exact⟨m,h5,_,h6⟩
  ·
   simp only [hneg,if_false]
   have hle:mn≤mx:=hmx.resolve_left hneg
   have h0:X1X l L (L,next) next (Opt (M K l n) 0):=X1X.id.congr fun i j=>⟨fun h=>⟨0,Nat.le_refl _,h⟩,fun⟨k,h1,h2⟩=>by cases (Nat.le_zero.1 h1);exact h2⟩
   have h1:=XCI (build K n) hb L next (L,next) (mx - mn).toNat 0 h0
   have h2:=X5S (build K n) hb L next _ _ h1 mn.toNat
   refine h2.congr fun i j=>?_
   constructor
   ·
    rintro⟨m,h3,k,h4,h5⟩
    exact⟨mn.toNat+k,by omega,.inr (by omega),h3.append h5⟩
   ·
    rintro⟨k,h3,h4,h5⟩
    have h4:(k:Int)≤mx:=h4.resolve_left id
    have:k=mn.toNat+(k - mn.toNat):=by omega
    rw [this]at h5
    obtain⟨m,h6,h7⟩:=h5.split
    exact⟨m,h6,k - mn.toNat,by omega,h7⟩
end
def X0x (n:Nd):List Sta×Nat:=build K n [.done] 0
theorem XB4 {n:Nd} (h:Ok K n) {i j:Nat}:(∃ m,Acc (X0x K n).1 l j m (X0x K n).2 i)↔M K l n i j:=by
 obtain⟨⟨E,e⟩,f⟩:=X3N K l n h [.done] 0
 have hF:=f (X0x K n).1 (fun k _ _=>rfl)
 have h0:(X0x K n).1[0]?=some .done:=by unfold X0x;rw [e];rfl
 constructor
 ·
  rintro⟨m,hm⟩
  obtain⟨p,n',_,h1,h2⟩:=hF.snd j m i hm
  cases h2 with
  | done hd=>exact h1
  | step hs _ =>
   cases hs with
   | takes h' _ _=>rw [h0]at h';cases h'
   | left h'=>rw [h0]at h';cases h'
   | right h'=>rw [h0]at h';cases h'
   | begins h'=>rw [h0]at h';cases h'
   | ends h'=>rw [h0]at h';cases h'
 ·
  intro hm
  exact hF.cpl j 0 i j hm (.done h0)
end
end Go.Nfa
namespace Go.Nfa
def Eps (L:List Sta) (len at_:Nat) (s t:Nat):Prop :=
 (∃ x y,L[s]?=some (.splits x y)∧(t=x∨t=y))∨(∃ x,L[s]?=some (.begins x)∧at_=0∧t=x)∨(∃ x,L[s]?=some (.ends x)∧at_=len∧t=x)
inductive Rch (L:List Sta) (len at_:Nat) (X:Nat→Prop):Nat→Prop
 | base {s} (h:X s):Rch L len at_ X s
 | step {s t} (h:Rch L len at_ X s) (e:Eps L len at_ s t):Rch L len at_ X t
theorem XAE {L:List Sta} {l:List Int} {s t i:Nat} (h:Eps L l.length i s t):XDs L l (s,i) (t,i):=by
 rcases h with⟨x,y,h,rfl | rfl⟩ | ⟨x,h,rfl,rfl⟩ | ⟨x,h,rfl,rfl⟩
 · exact .left h
 · exact .right h
 · exact .begins h
 · exact .ends h
theorem X2T {L:List Sta} {l:List Int} {s t i j:Nat} (h:XDs L l (s,i) (t,j)):(j=i∧Eps L l.length i s t)∨(j=i+1∧∃ r set no,L[s]?=some (.takes set no t)∧l[i]?=some r∧X2k set no r=true):=by
 cases h with
 | takes h hr hs=>exact .inr ⟨rfl,_,_,_,h,hr,hs⟩
 | left h=>exact .inl ⟨rfl,.inl ⟨_,_,h,.inl rfl⟩⟩
 | right h=>exact .inl ⟨rfl,.inl ⟨_,_,h,.inr rfl⟩⟩
 | begins h=>exact .inl ⟨rfl,.inr (.inl ⟨_,h,rfl,rfl⟩)⟩
 | ends h=>exact .inl ⟨rfl,.inr (.inr ⟨_,h,rfl,rfl⟩)⟩
inductive RC (L:List Sta) (l:List Int) (s₀ i₀:Nat):Nat→Nat→Prop
 | base:RC L l s₀ i₀ s₀ i₀
 | step {s i t j} (h:RC L l s₀ i₀ s i) (k:XDs L l (s,i) (t,j)):RC L l s₀ i₀ t j
theorem RC.le {L:List Sta} {l:List Int} {s₀ i₀ s i:Nat} (h:RC L l s₀ i₀ s i):i₀≤i:=by
 induction h with
 | base=>exact Nat.le_refl _
 | step h k ih=>rcases X2T k with⟨rfl,_⟩ | ⟨rfl,_⟩<;>omega
theorem RC.len {L:List Sta} {l:List Int} {s₀ i₀ s i:Nat} (h0:i₀≤l.length) (h:RC L l s₀ i₀ s i):i≤l.length:=by
 induction h with
 | base=>exact h0
 | step h k ih =>
  rcases X2T k with⟨rfl,_⟩ | ⟨rfl,r,_,_,_,hr,_⟩
  · exact ih
  · exact(List.getElem?_eq_some_iff.1 hr).1
theorem RC.front {L:List Sta} {l:List Int} {s₀ i₀ s₁ i₁ s i:Nat} (k:XDs L l (s₀,i₀) (s₁,i₁)) (h:RC L l s₁ i₁ s i):RC L l s₀ i₀ s i:=by
 induction h with
 | base=>exact .step .base k
 | step h q ih=>exact .step ih q
theorem XIb {L:List Sta} {l:List Int} {j n s i:Nat} (h:Acc L l j n s i):∃ t,RC L l s i t j∧L[t]?=some .done:=by
 induction h with
 | done h=>exact⟨_,.base,h⟩
 | step h k ih=>obtain⟨t,h1,h2⟩:=ih;exact⟨t,h1.front h,h2⟩
theorem XEV {L:List Sta} {l:List Int} {j s₀ i₀ s i n:Nat} (h:RC L l s₀ i₀ s i) (k:Acc L l j n s i):∃ n,Acc L l j n s₀ i₀:=by
 induction h generalizing n with
 | base=>exact⟨n,k⟩
 | step h q ih=>exact ih (.step q k)
theorem XGf {L:List Sta} {l:List Int} {j s i:Nat}:(∃ n,Acc L l j n s i)↔∃ t,RC L l s i t j∧L[t]?=some .done :=
 ⟨fun⟨_,h⟩=>XIb h,fun⟨_,h1,h2⟩=>XEV h1 (.done h2)⟩
theorem XGg {L:List Sta} {l:List Int} {s₀ i₀ s:Nat}:RC L l s₀ i₀ s i₀↔Rch L l.length i₀ (fun x=>x=s₀) s:=by
 constructor
 ·
  intro h
  have key:∀ t j,RC L l s₀ i₀ t j→j=i₀→Rch L l.length i₀ (fun x=>x=s₀) t:=by
   intro t j h
   induction h with
   | base=>intro _;exact .base rfl
   | step h k ih =>
    intro e
    have hle:=h.le
    rcases X2T k with⟨e1,q⟩ | ⟨e1,_⟩
    ·
     have e2:=e1.symm.trans e
     subst e2
     exact .step (ih rfl) q
    · omega
  exact key s i₀ h rfl
 ·
  intro h
  induction h with
  | base h=>subst h;exact .base
  | step h e ih=>exact .step ih (XAE e)
def XGh (L:List Sta) (l:List Int) (s₀ i₀ i:Nat) (x:Nat):Prop:=∃ s r set no,RC L l s₀ i₀ s i∧L[s]?=some (.takes set no x)∧l[i]?=some r∧X2k set no r=true
theorem XGi {L:List Sta} {l:List Int} {s₀ i₀ i s:Nat} (h0:i₀≤i):RC L l s₀ i₀ s (i+1)↔Rch L l.length (i+1) (XGh L l s₀ i₀ i) s:=by
 constructor
 ·
  intro h
  have key:∀ t j,RC L l s₀ i₀ t j→j=i+1→Rch L l.length (i+1) (XGh L l s₀ i₀ i) t:=by
   intro t j h
   induction h with
   | base=>intro e;omega
   | step hh k ih =>
    intro e
    rcases X2T k with⟨e1,q⟩ | ⟨e1,r,set,no,q1,q2,q3⟩
    ·
     have e2:=e1.symm.trans e
     subst e2
     exact .step (ih rfl) q
    ·
     have e2:_=i:=Nat.succ.inj (e1.symm.trans e)
     subst e2
     exact .base ⟨_,r,set,no,hh,q1,q2,q3⟩
  exact key s (i+1) h rfl
 ·
  intro h
  induction h with
  | base h =>
   obtain⟨s,r,set,no,h1,h2,h3,h4⟩:=h
   exact .step h1 (.takes h2 h3 h4)
  | step h e ih=>exact .step ih (XAE e)
def plain (L:List Sta) (s:Nat):Prop:=(∃ set no x,L[s]?=some (.takes set no x))∨L[s]?=some .done
structure Ent (L:List Sta) (len at_:Nat) (X:Nat→Prop) (seen:List Int) (now todo:List Nat):Prop where
 sz:seen.length=L.length
 in_:∀ s∈todo,s<L.length
 rs:∀ s:Nat,seen[s]?=some ((at_:Int)+1)→Rch L len at_ X s
 rt:∀ s∈todo,Rch L len at_ X s
 cl:∀ s t:Nat,seen[s]?=some ((at_:Int)+1)→Eps L len at_ s t→seen[t]?=some ((at_:Int)+1)∨t∈todo
 nw:∀ s,s∈now↔seen[s]?=some ((at_:Int)+1)∧plain L s
section
variable {L:List Sta} {len at_:Nat} {X:Nat→Prop} {seen:List Int} {now todo:List Nat} {s:Nat}
theorem Ent.skip (h:Ent L len at_ X seen now (todo++[s])) (hs:seen[s]?=some ((at_:Int)+1)):Ent L len at_ X seen now todo:=by
 refine⟨h.sz,fun t ht=>h.in_ t (by simp [ht]),h.rs,fun t ht=>h.rt t (by simp [ht]),fun a t ha e=>?_,h.nw⟩
 rcases h.cl a t ha e with q | q
 · exact .inl q
 ·
  rcases List.mem_append.1 q with q | q
  · exact .inr q
  · simp at q;subst q;exact .inl hs
theorem X4T (seen:List Int) (s t:Nat) (v:Int) (hs:s<seen.length):(seen.set s v)[t]?=if t=s then some v else seen[t]?:=by
 by_cases e:t=s
 · subst e;simp [hs]
 · rw [if_neg e,List.getElem?_set_ne (fun x=>e x.symm)]
theorem Ent.enter (h:Ent L len at_ X seen now (todo++[s])) (hs:seen[s]?≠some ((at_:Int)+1)) (more now':List Nat) (hm:∀ t,t∈more↔Eps L len at_ s t) (hin:∀ t∈more,t<L.length)
  (hn:∀ t,t∈now'↔t∈now∨(t=s∧plain L s)):Ent L len at_ X (seen.set s ((at_:Int)+1)) now' (todo++more):=by
 have hsl:s<seen.length:=by rw [h.sz];exact h.in_ s (by simp)
 have hr:Rch L len at_ X s:=h.rt s (by simp)
 refine⟨by simp [h.sz],?_,?_,?_,?_,?_⟩
 ·
  intro t ht
  rcases List.mem_append.1 ht with q | q
  · exact h.in_ t (by simp [q])
  · exact hin t q
 ·
  intro t ht
  rw [X4T _ _ _ _ hsl]at ht
  split at ht
  · rename_i e;subst e;exact hr
  · exact h.rs t ht
 ·
  intro t ht
  rcases List.mem_append.1 ht with q | q
  · exact h.rt t (by simp [q])
  · exact .step hr ((hm t).1 q)
 ·
  intro a t ha e
  rw [X4T _ _ _ _ hsl]at ha ⊢
  by_cases et:t=s
  · exact .inl (by rw [if_pos et])
  ·
   rw [if_neg et]
   split at ha
   ·
    rename_i ea;subst ea
    exact .inr (List.mem_append.2 (.inr ((hm t).2 e)))
   ·
    rcases h.cl a t ha e with q | q
    · exact .inl q
    ·
     rcases List.mem_append.1 q with q | q
     · exact .inr (List.mem_append.2 (.inl q))
     · simp at q;exact absurd q et
 ·
  intro t
  rw [hn,X4T _ _ _ _ hsl,h.nw]
  by_cases et:t=s
  ·
   subst et
   rw [if_pos rfl]
   constructor
   ·
    rintro(⟨q,_⟩ | ⟨_,q⟩)
    · exact absurd q hs
    · exact⟨rfl,q⟩
   · exact fun q=>.inr ⟨rfl,q.2⟩
  ·
   rw [if_neg et]
   constructor
   ·
    rintro(q | ⟨q,_⟩)
    · exact q
    · exact absurd q et
   · exact fun q=>.inl q
theorem Ent.all (h:Ent L len at_ X seen now []) (hX:∀ s,X s→seen[s]?=some ((at_:Int)+1)):∀ s,seen[s]?=some ((at_:Int)+1)↔Rch L len at_ X s:=by
 intro s
 refine⟨h.rs s,fun q=>?_⟩
 induction q with
 | base q=>exact hX _ q
 | step _ e ih =>
  rcases h.cl _ _ ih e with q | q
  · exact q
  · cases q
theorem Ent.first (h:Ent L len at_ X seen now []) (hs:s<L.length):Ent L len at_ (fun x=>X x∨x=s) seen now [s]:=by
 have mono:∀ t,Rch L len at_ X t→Rch L len at_ (fun x=>X x∨x=s) t:=by
  intro t q
  induction q with
  | base q=>exact .base (.inl q)
  | step _ e ih=>exact .step ih e
 refine⟨h.sz,fun t ht=>by simp at ht;subst ht;exact hs,fun t ht=>mono t (h.rs t ht),fun t ht=>by simp at ht;subst ht;exact .base (.inr rfl),fun a t ha e=>?_,h.nw⟩
 rcases h.cl a t ha e with q | q
 · exact .inl q
 · cases q
theorem Ent.fresh (hsz:seen.length=L.length) (hlo:∀ (s:Nat) (v:Int),seen[s]?=some v→v≤(at_:Int)):Ent L len at_ (fun _=>False) seen [] []:=by
 have no:∀ s:Nat,seen[s]?≠some ((at_:Int)+1):=fun s e=>by have:=hlo s _ e;omega
 exact⟨hsz,by simp,fun s e=>absurd e (no s),by simp,fun s t e=>absurd e (no s),fun s=>by simp [no s]⟩
end
end Go.Nfa
