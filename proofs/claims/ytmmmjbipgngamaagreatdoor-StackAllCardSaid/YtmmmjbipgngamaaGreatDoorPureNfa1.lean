/-
  What is proved here: patterns as trees; what they match (from a place to a place); machines of states that are built of them reach their last state just where the pattern matches. No conditions. (No program in sight.)
-/
set_option linter.unusedVariables false
set_option linter.unusedSimpArgs false
namespace Go.Nfa
inductive Nd where
 | mk (kind:Int) (set:List (Int×Int)) (no:Bool) (kids:List Nd) (min max:Int):Nd
def XGW (set:List (Int×Int)) (no:Bool) (r:Int):Bool:=if set.any (fun x=>decide (x.1≤r) && decide (r≤x.2))then !no else no
def XB7 (R:Nat→Nat→Prop):Nat→Nat→Nat→Prop
 | 0,i,j=>i=j
 | k+1,i,j=>∃ m,R i m∧XB7 R k m j
structure XB8 where
 set:Int
 cat:Int
 alt:Int
 rep:Int
 beg:Int
 fin:Int
 ne:[set,cat,alt,rep,beg,fin].Nodup
section
variable (K:XB8) (l:List Int)
end
inductive Sta where
 | takes (set:List (Int×Int)) (no:Bool) (x:Nat)
 | splits (x y:Nat)
 | begins (x:Nat)
 | ends (x:Nat)
 | done
inductive XGG (L:List Sta) (l:List Int):Nat×Nat→Nat×Nat→Prop
 | takes {s i x r set no} (h:L[s]?=some (.takes set no x)) (hr:l[i]?=some r) (hs:XGW set no r=true):XGG L l (s,i) (x,i+1)
 | left {s i x y} (h:L[s]?=some (.splits x y)):XGG L l (s,i) (x,i)
 | right {s i x y} (h:L[s]?=some (.splits x y)):XGG L l (s,i) (y,i)
 | begins {s x} (h:L[s]?=some (.begins x)):XGG L l (s,0) (x,0)
 | ends {s x} (h:L[s]?=some (.ends x)):XGG L l (s,l.length) (x,l.length)
inductive Acc (L:List Sta) (l:List Int) (j:Nat):Nat→Nat→Nat→Prop
 | done {s} (h:L[s]?=some .done):Acc L l j 0 s j
 | step {s i t m n} (h:XGG L l (s,i) (t,m)) (k:Acc L l j n t m):Acc L l j (n+1) s i
structure X5w (L:List Sta) (l:List Int) (R:Nat→Nat→Prop) (first next:Nat):Prop where
 snd:∀ j n i,Acc L l j n first i→∃ m n',n'≤n∧R i m∧Acc L l j n' next m
 cpl:∀ j n i m,R i m→Acc L l j n next m→∃ n',Acc L l j n' first i
theorem X5w.id {L:List Sta} {l:List Int} {s:Nat}:X5w L l (fun i j=>i=j) s s :=
 ⟨fun j n i h=>⟨i,n,Nat.le_refl _,rfl,h⟩,fun j n i m h k=>by subst h;exact⟨n,k⟩⟩
theorem X5w.comp {L:List Sta} {l:List Int} {R S:Nat→Nat→Prop} {a b c:Nat} (h:X5w L l R a b) (k:X5w L l S b c):X5w L l (fun i j=>∃ m,R i m∧S m j) a c:=by
 refine⟨fun j n i ha=>?_,fun j n i m ⟨p,hr,hs⟩ hc=>?_⟩
 ·
  obtain⟨m,n',h1,h2,h3⟩:=h.snd j n i ha
  obtain⟨p,n2,k1,k2,k3⟩:=k.snd j n' m h3
  exact⟨p,n2,Nat.le_trans k1 h1,⟨m,h2,k2⟩,k3⟩
 ·
  obtain⟨n1,h1⟩:=k.cpl j n p m hs hc
  exact h.cpl j n1 i p hr h1
theorem X5w.congr {L:List Sta} {l:List Int} {R S:Nat→Nat→Prop} {a b:Nat} (h:X5w L l R a b) (e:∀ i j,R i j↔S i j):X5w L l S a b :=
 ⟨fun j n i ha=>by obtain⟨m,n',h1,h2,h3⟩:=h.snd j n i ha;exact⟨m,n',h1,(e _ _).1 h2,h3⟩,fun j n i m hr=>h.cpl j n i m ((e _ _).2 hr)⟩
theorem X5w.takes {L:List Sta} {l:List Int} {s x:Nat} {set:List (Int×Int)} {no:Bool} (h:L[s]?=some (.takes set no x)):X5w L l (fun i j=>j=i+1∧∃ r,l[i]?=some r∧XGW set no r=true) s x:=by
 refine⟨fun j n i ha=>?_,fun j n i m ⟨hm,r,hr,hs⟩ hc=>?_⟩
 ·
  cases ha with
  | done hd=>rw [h]at hd;cases hd
  | step hs hk =>
   cases hs with
   | takes h' hr hs=>rw [h]at h';cases h';exact⟨_,_,Nat.le_succ _,⟨rfl,_,hr,hs⟩,hk⟩
   | left h'=>rw [h]at h';cases h'
   | right h'=>rw [h]at h';cases h'
   | begins h'=>rw [h]at h';cases h'
   | ends h'=>rw [h]at h';cases h'
 · subst hm;exact⟨_,.step (.takes h hr hs) hc⟩
theorem X5w.begins {L:List Sta} {l:List Int} {s x:Nat} (h:L[s]?=some (.begins x)):X5w L l (fun i j=>i=0∧j=i) s x:=by
 refine⟨fun j n i ha=>?_,fun j n i m ⟨h0,hm⟩ hc=>?_⟩
 ·
  cases ha with
  | done hd=>rw [h]at hd;cases hd
  | step hs hk =>
   cases hs with
   | takes h' hr hs=>rw [h]at h';cases h'
   | left h'=>rw [h]at h';cases h'
   | right h'=>rw [h]at h';cases h'
   | begins h'=>rw [h]at h';cases h';exact⟨0,_,Nat.le_succ _,⟨rfl,rfl⟩,hk⟩
   | ends h'=>rw [h]at h';cases h'
 · subst h0 hm;exact⟨_,.step (.begins h) hc⟩
theorem X5w.ends {L:List Sta} {l:List Int} {s x:Nat} (h:L[s]?=some (.ends x)):X5w L l (fun i j=>i=l.length∧j=i) s x:=by
 refine⟨fun j n i ha=>?_,fun j n i m ⟨h0,hm⟩ hc=>?_⟩
 ·
  cases ha with
  | done hd=>rw [h]at hd;cases hd
  | step hs hk =>
   cases hs with
   | takes h' hr hs=>rw [h]at h';cases h'
   | left h'=>rw [h]at h';cases h'
   | right h'=>rw [h]at h';cases h'
   | begins h'=>rw [h]at h';cases h'
   | ends h'=>rw [h]at h';cases h';exact⟨_,_,Nat.le_succ _,⟨rfl,rfl⟩,hk⟩
 · subst h0 hm;exact⟨_,.step (.ends h) hc⟩
theorem X5w.split {L:List Sta} {l:List Int} {R S:Nat→Nat→Prop} {s x y next:Nat} (h:L[s]?=some (.splits x y)) (hx:X5w L l R x next) (hy:X5w L l S y next):X5w L l (fun i j=>R i j∨S i j) s next:=by
 refine⟨fun j n i ha=>?_,fun j n i m hr hc=>?_⟩
 ·
  cases ha with
  | done hd=>rw [h]at hd;cases hd
  | step hs hk =>
   cases hs with
   | takes h' hr hs=>rw [h]at h';cases h'
   | left h' =>
    rw [h]at h';cases h'
    obtain⟨m,n',h1,h2,h3⟩:=hx.snd _ _ _ hk
    exact⟨m,n',Nat.le_succ_of_le h1,.inl h2,h3⟩
   | right h' =>
    rw [h]at h';cases h'
    obtain⟨m,n',h1,h2,h3⟩:=hy.snd _ _ _ hk
    exact⟨m,n',Nat.le_succ_of_le h1,.inr h2,h3⟩
   | begins h'=>rw [h]at h';cases h'
   | ends h'=>rw [h]at h';cases h'
 ·
  rcases hr with hr | hr
  · obtain⟨n',h1⟩:=hx.cpl j n i m hr hc;exact⟨_,.step (.left h) h1⟩
  · obtain⟨n',h1⟩:=hy.cpl j n i m hr hc;exact⟨_,.step (.right h) h1⟩
theorem XB7.split {R:Nat→Nat→Prop}:∀ {a b i j:Nat},XB7 R (a+b) i j→∃ m,XB7 R a i m∧XB7 R b m j:=by
 intro a
 induction a with
 | zero=>intro b i j h;rw [Nat.zero_add]at h;exact⟨i,rfl,h⟩
 | succ a ih =>
  intro b i j h
  rw [Nat.succ_add]at h
  obtain⟨p,h1,h2⟩:=h
  obtain⟨m,h3,h4⟩:=ih h2
  exact⟨m,⟨p,h1,h3⟩,h4⟩
section
variable (K:XB8)
mutual
def build:Nd→List Sta→Nat→List Sta×Nat
 | .mk kind set no kids mn mx,L,next =>
  if kind=K.set then(L++[.takes set no next],L.length)
  else if kind=K.beg then(L++[.begins next],L.length)
  else if kind=K.fin then(L++[.ends next],L.length)
  else if kind=K.cat then X6i kids L next
  else if kind=K.alt then XCx kids L next
  else if kind=K.rep then XCy kids mn mx L next
  else(L,next)
def X6i:List Nd→List Sta→Nat→List Sta×Nat
 | [],L,next=>(L,next)
 | n::ns,L,next=>build n (X6i ns L next).1 (X6i ns L next).2
/-- The first kid;each further one is one more way. -/
def XCx:List Nd→List Sta→Nat→List Sta×Nat
 | [],L,next=>(L,next)
 | n::ns,L,next=>XB9 ns next (build n L next)
def XB9:List Nd→Nat→List Sta×Nat→List Sta×Nat
 | [],_,r=>r
 | n::ns,next,r=>XB9 ns next ((build n r.1 next).1++[.splits r.2 (build n r.1 next).2],(build n r.1 next).1.length)
def XCy:List Nd→Int→Int→List Sta→Nat→List Sta×Nat
 | [],_,_,L,next=>(L,next)
 | n::_,mn,mx,L,next =>
  let r:=if mx<0 then
    let q:=build n (L++[.splits 0 next]) L.length
    (q.1.set L.length (.splits q.2 next),L.length)
   else(L,next)
  let out:=r.2
  let r:=(List.range (mx - mn).toNat).foldl (fun r _=>((build n r.1 r.2).1++[.splits (build n r.1 r.2).2 out],(build n r.1 r.2).1.length)) r
  (List.range mn.toNat).foldl (fun r _=>build n r.1 r.2) r
end
end
def X54 (l:List Int) (L:List Sta) (r:List Sta×Nat) (next:Nat) (R:Nat→Nat→Prop):Prop :=
 (∃ E,r.1=L++E)∧∀ F:List Sta,(∀ k,L.length≤k→k<r.1.length→F[k]?=r.1[k]?)→X5w F l R r.2 next
theorem X54.id {l:List Int} {L:List Sta} {next:Nat}:X54 l L (L,next) next (fun i j=>i=j):=⟨⟨[],by simp⟩,fun F _=>X5w.id⟩
theorem X54.congr {l:List Int} {L:List Sta} {r:List Sta×Nat} {next:Nat} {R S:Nat→Nat→Prop} (h:X54 l L r next R) (e:∀ i j,R i j↔S i j):X54 l L r next S:=⟨h.1,fun F hF=>(h.2 F hF).congr e⟩
theorem XBA {L₁ E F:List Sta} {a:Nat} (h:∀ k,a≤k→k<(L₁++E).length→F[k]?=(L₁++E)[k]?):∀ k,a≤k→k<L₁.length→F[k]?=L₁[k]?:=by
 intro k h1 h2
 rw [h k h1 (by simp;omega),List.getElem?_append_left h2]
theorem X54.comp {l:List Int} {L:List Sta} {r₁ r₂:List Sta×Nat} {next:Nat} {R S:Nat→Nat→Prop} (h:X54 l L r₁ next R) (k:X54 l r₁.1 r₂ r₁.2 S):X54 l L r₂ next (fun i j=>∃ m,S i m∧R m j):=by
 obtain⟨⟨E₁,e₁⟩,f₁⟩:=h
 obtain⟨⟨E₂,e₂⟩,f₂⟩:=k
 refine⟨⟨E₁++E₂,by rw [e₂,e₁,List.append_assoc]⟩,fun F hF=>?_⟩
 have hlow:∀ k,L.length≤k→k<r₁.1.length→F[k]?=r₁.1[k]?:=by
  rw [e₂]at hF;exact XBA hF
 have hhigh:∀ k,r₁.1.length≤k→k<r₂.1.length→F[k]?=r₂.1[k]?:=fun k h1 h2=>hF k (by rw [e₁]at h1;simp at h1;omega) h2
 exact(f₂ F hhigh).comp (f₁ F hlow)
theorem X54.one {l:List Int} {L:List Sta} {s:Sta} {next:Nat} {R:Nat→Nat→Prop} (h:∀ F:List Sta,F[L.length]?=some s→X5w F l R L.length next):X54 l L (L++[s],L.length) next R:=by
 refine⟨⟨[s],rfl⟩,fun F hF=>h F ?_⟩
 rw [hF L.length (Nat.le_refl _) (by simp)];simp
section
variable (K:XB8)
end
section
variable (K:XB8) (l:List Int)
end
end Go.Nfa
