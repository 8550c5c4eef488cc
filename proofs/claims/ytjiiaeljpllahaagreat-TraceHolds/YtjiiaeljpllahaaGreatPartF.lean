/- Primes, and arithmetic modulo one; Numbers of limbs: what the functions on them come to -/
import Derived.Test.YtjiiaeljpllahaaGreatPartE
import Derived.KernelRfl
namespace Go.NT
def Pr (p:Nat):Prop:=1<p∧∀d,d∣p→d=1∨d=p
theorem xN:∀n:Nat,1<n→∃p,Pr p∧p∣n:=by
 intro n
 induction n using Nat.strongRecOn with
 |ind n ih=>
  intro hn
  by_cases hp:Pr n
  ·exact ⟨n,hp,Nat.dvd_refl n⟩
  ·have:∃d,d∣n∧d≠1∧d≠n:=by
    apply Classical.byContradiction
    intro hne
    apply hp
    refine ⟨hn,fun d hd=> ?_⟩
    apply Classical.byContradiction
    intro h
    exact hne ⟨d,hd,fun e=>h (.inl e),fun e=>h (.inr e)⟩
   obtain ⟨d,hd,h1,h2⟩:=this
   have hd0:d≠0:=by
    rintro rfl
    have:=Nat.eq_zero_of_zero_dvd hd
    omega
   have hle:=Nat.le_of_dvd (by omega) hd
   obtain ⟨p,hp1,hp2⟩:=ih d (by omega) (by omega)
   exact ⟨p,hp1,Nat.dvd_trans hp2 hd⟩
theorem FL {p a b:Nat} (hp:Pr p) (h:p∣a*b):p∣a∨p∣b:=by
 rcases hp.2 (Nat.gcd p a) (Nat.gcd_dvd_left p a) with h1|h1
 ·exact .inr (Nat.Coprime.dvd_of_dvd_mul_left h1 h)
 ·exact .inl (by rw[←h1];exact Nat.gcd_dvd_right p a)
theorem wk {p a:Nat} (hp:Pr p):∀{e:Nat},p∣a^e→p∣a
 |0,h=>by
  rw[Nat.pow_zero] at h
  have:=Nat.le_of_dvd (by omega) h
  have:=hp.1
  omega
 |e+1,h=>by
  rw[Nat.pow_succ] at h
  rcases FL hp h with h|h
  ·exact wk hp h
  ·exact h
def oX:List (Nat×Nat)→Nat
 |[]=>1
 |(q,e)::r=>q^e*oX r
def nM:List (Nat×Nat)→Prop
 |[]=>True
 |(q,_)::r=>Pr q∧nM r
def DL (q:Nat):List (Nat×Nat)→Prop
 |[]=>False
 |(p,_)::r=>q=p∨DL q r
theorem xh {r:Nat} (hr:Pr r):∀{L:List (Nat×Nat)},nM L→r∣oX L→DL r L
 |[],_,h=>by
  have:=Nat.le_of_dvd (by simp[oX]) h
  have:=hr.1
  simp[oX] at*
  omega
 |(q,e)::L,hL,h=>by
  rcases FL hr h with h|h
  ·have:=wk hr h
   rcases hL.1.2 r this with h1|h1
   ·have:=hr.1;omega
   ·exact .inl h1
  ·exact .inr (xh hr hL.2 h)
theorem s7 {x y n:Nat} (hx:x%n=1):x*y%n=y%n:=by
 rw[Nat.mul_mod,hx,Nat.one_mul,Nat.mod_mod]
theorem n5 {x n:Nat} (hn:1<n) (hx:x%n=1) (k:Nat):x^k%n=1:=by
 rw[Nat.pow_mod,hx,Nat.one_pow,Nat.mod_eq_of_lt hn]
theorem UQ {g n:Nat} (hn:1<n) (a b:Nat):g^a%n=1→g^b%n=1→g^Nat.gcd a b%n=1:=by
 induction a,b using Nat.gcd.induction with
 |H0 b=>intro _ h;rwa[Nat.gcd_zero_left]
 |H1 m b hm ih=>
  intro h1 h2
  rw[Nat.gcd_rec]
  refine ih ?_ h1
  have e:g^b=(g^m)^(b/m)*g^(b%m):=by rw[←Nat.pow_mul,←Nat.pow_add,Nat.div_add_mod]
  rw[e,s7 (n5 hn h1 _)] at h2
  exact h2
theorem B9:∀(N:Nat) (f:Nat→Nat),(∀i,i<N→f i<N)→(∀i j,i<N→j<N→f i=f j→i=j)→∀y,y<N→∃i,i<N∧f i=y
 |0,_,_,_,y,hy=>by omega
 |N+1,f,hf,hi,y,hy=>by
  by_cases hyv:y=f N
  ·exact ⟨N,by omega,hyv.symm⟩
  ·have hvle:=hf N (by omega)
   have hv:∀i,i<N→f i=N→f N<N:=by
    intro i hiN h
    have:f N≠N:=fun e=>by have:=hi i N (by omega) (by omega) (h.trans e.symm);omega
    omega
   have ih:=B9 N (fun i=>if f i=N then f N else f i)
    (fun i hiN=>by
     have:=hf i (by omega)
     split
     ·rename_i h;exact hv i hiN h
     ·omega)
    (fun i j hiN hjN h=>by
     split at h
     ·rename_i h1
      split at h
      ·rename_i h2;exact hi i j (by omega) (by omega) (h1.trans h2.symm)
      ·have:=hi N j (by omega) (by omega) h;omega
     ·split at h
      ·have:=hi i N (by omega) (by omega) h;omega
      ·exact hi i j (by omega) (by omega) h)
   by_cases hyN:y=N
   ·have hvN:f N<N:=by omega
    obtain ⟨i,h1,h2⟩:=ih (f N) hvN
    split at h2
    ·rename_i h3;exact ⟨i,by omega,by omega⟩
    ·have:=hi i N (by omega) (by omega) h2;omega
   ·obtain ⟨i,h1,h2⟩:=ih y (by omega)
    split at h2
    ·exact absurd h2.symm hyv
    ·exact ⟨i,by omega,h2⟩
section
variable {n g:Nat} {L:List (Nat×Nat)}
theorem JX (hn:1<n) (hL:nM L) (hp:oX L=n-1) (h1:g^(n-1)%n=1) (h2:∀q,DL q L→g^((n-1)/q)%n≠1) {e:Nat} (h0:0<e) (he:e<n-1):g^e%n≠1:=by
 intro h
 have hd:=UQ hn e (n-1) h h1
 obtain ⟨c,hc⟩:=Nat.gcd_dvd_right e (n-1)
 have hdl:=Nat.le_of_dvd h0 (Nat.gcd_dvd_left e (n-1))
 generalize Nat.gcd e (n-1)=d at*
 have hc1:1<c:=by
  rcases c with _|_|c
  ·omega
  ·omega
  ·omega
 obtain ⟨r,hr,c',hc'⟩:=xN c hc1
 have hrn:r∣n-1:=⟨d*c',by rw[hc,hc',Nat.mul_left_comm]⟩
 have hm:=xh hr hL (by rw[hp];exact hrn)
 apply h2 r hm
 have:(n-1)/r=d*c':=by
  rw[hc,hc',Nat.mul_left_comm]
  exact Nat.mul_div_cancel_left _ (by have:=hr.1;omega)
 rw[this,Nat.pow_mul]
 exact n5 hn hd _
theorem ahG (hn:1<n) (hL:nM L) (hp:oX L=n-1) (h1:g^(n-1)%n=1) (h2:∀q,DL q L→g^((n-1)/q)%n≠1) {a:Nat} (ha:0<a) (han:a<n):∃k,g^k%n=a:=by
 have hne:∀i,i<n-1→g^i%n≠0:=by
  intro i hi h
  have:g^(n-1)%n=0:=by
   rw[show n-1=i+(n-1-i) by omega,Nat.pow_add,Nat.mul_mod,h,Nat.zero_mul,Nat.zero_mod]
  omega
 have hinj:∀i j,i<j→j<n-1→g^i%n≠g^j%n:=by
  intro i j hij hj h
  apply JX hn hL hp h1 h2 (show 0<j-i by omega) (show j-i<n-1 by omega)
  have e1:g^(n-1-i)*g^i%n=1:=by rw[←Nat.pow_add,show n-1-i+i=n-1 by omega,h1]
  rw[Nat.mul_mod,h,←Nat.mul_mod,←Nat.pow_add,show n-1-i+j=(n-1)+(j-i) by omega,Nat.pow_add,s7 h1] at e1
  exact e1
 obtain ⟨i,hi,h⟩:=B9 (n-1) (fun i=>g^i%n-1)
  (fun i hi=>by
   have:=Nat.mod_lt (g^i) (show n>0 by omega)
   have:=hne i hi
   omega)
  (fun i j hi hj h=>by
   have h3:=hne i hi
   have h4:=hne j hj
   have h5:g^i%n=g^j%n:=by omega
   rcases Nat.lt_trichotomy i j with h6|h6|h6
   ·exact absurd h5 (hinj i j h6 hj)
   ·exact h6
   ·exact absurd h5.symm (hinj j i h6 hi))
  (a-1) (by omega)
 have:=hne i hi
 exact ⟨i,by omega⟩
theorem rq (hn:1<n) (hL:nM L) (hp:oX L=n-1) (h1:g^(n-1)%n=1) (h2:∀q,DL q L→g^((n-1)/q)%n≠1) {a:Nat} (ha:0<a) (han:a<n):a^(n-1)%n=1:=by
 obtain ⟨k,rfl⟩:=ahG hn hL hp h1 h2 ha han
 rw[←Nat.pow_mod,←Nat.pow_mul,Nat.mul_comm,Nat.pow_mul]
 exact n5 hn h1 k
theorem Cv (hn:1<n) (hL:nM L) (hp:oX L=n-1) (h1:g^(n-1)%n=1) (h2:∀q,DL q L→g^((n-1)/q)%n≠1):Pr n:=by
 refine ⟨hn,fun d hd=> ?_⟩
 have hle:=Nat.le_of_dvd (by omega) hd
 by_cases hdn:d=n
 ·exact .inr hdn
 ·left
  have h0:0<d:=by
   rcases d with _|d
   ·have:=Nat.eq_zero_of_zero_dvd hd;omega
   ·omega
  have h:=rq hn hL hp h1 h2 h0 (by omega)
  have hd2:d∣d^(n-1):=by
   rw[show n-1=(n-2)+1 by omega,Nat.pow_succ]
   exact Nat.dvd_mul_left _ _
  have:=(Nat.dvd_mod_iff hd).2 hd2
  rw[h] at this
  exact Nat.eq_one_of_dvd_one this
end
def powK:Nat→Nat→Nat→Nat→Nat
 |0,_,_,n=>1%n
 |f+1,b,e,n=>match Nat.beq e 0 with
  |true=>1%n
  |false=>match Nat.beq (e%2) 1 with
   |true=>b*powK f (b*b%n) (e/2) n%n
   |false=>powK f (b*b%n) (e/2) n
theorem IX (n:Nat):∀(f b e:Nat),e<2^f→powK f b e n=b^e%n
 |0,b,e,h=>by
  obtain rfl:e=0:=by simpa using h
  simp[powK]
 |f+1,b,e,h=>by
  rw[Nat.pow_succ] at h
  have ih:=IX n f (b*b%n) (e/2) (by omega)
  have e2:(b*b)^(e/2)=b^(2*(e/2)):=by rw[Nat.pow_mul,Nat.pow_two]
  unfold powK
  split
  ·rename_i h0
   have:=Nat.eq_of_beq_eq_true h0
   subst this;simp
  ·split
   ·rename_i h1
    have h1:=Nat.eq_of_beq_eq_true h1
    have h3:b^e=b*(b*b)^(e/2):=by
     rw[e2,Nat.mul_comm,←Nat.pow_succ];congr 1;omega
    rw[ih,←Nat.pow_mod,h3,Nat.mul_mod b ((b*b)^(e/2)%n),Nat.mod_mod,←Nat.mul_mod]
   ·rename_i h1
    have h1:=Nat.ne_of_beq_eq_false h1
    have h3:b^e=(b*b)^(e/2):=by rw[e2];congr 1;omega
    rw[ih,←Nat.pow_mod,h3]
def uj (n g:Nat):List (Nat×Nat)→Bool
 |[]=>true
 |(q,_)::r=> !Nat.beq (powK 256 g ((n-1)/q) n) 1&&uj n g r
def GQ (n g:Nat) (L:List (Nat×Nat)):Bool:=
 Nat.blt 1 n&&(Nat.blt n (2^256)&&(Nat.beq (oX L) (n-1)&&(Nat.beq (powK 256 g (n-1) n) 1&&uj n g L)))
theorem powK_256 {g e n:Nat} (hn:n<2^256) (he:e<n):powK 256 g e n=g^e%n:=
 IX n 256 g e (Nat.lt_trans he hn)
theorem qS {n g:Nat} (hn:1<n) (hn2:n<2^256):∀{L:List (Nat×Nat)},uj n g L=true→∀q,DL q L→g^((n-1)/q)%n≠1
 |[],_,q,h=>h.elim
 |(p,e)::L,h,q,hq=>by
  simp only[uj,Bool.and_eq_true,Bool.not_eq_true'] at h
  rcases hq with rfl|hq
  ·have:=Nat.ne_of_beq_eq_false h.1
   rwa[powK_256 hn2 (Nat.lt_of_le_of_lt (Nat.div_le_self _ _) (by omega))] at this
  ·exact qS hn hn2 h.2 q hq
theorem yz {n g:Nat} {L:List (Nat×Nat)} (h:GQ n g L=true):1<n∧oX L=n-1∧g^(n-1)%n=1∧∀q,DL q L→g^((n-1)/q)%n≠1:=by
 simp only[GQ,Bool.and_eq_true] at h
 obtain ⟨h1,h2,h3,h4,h5⟩:=h
 have h1:1<n:=Nat.le_of_ble_eq_true h1
 have h2:n<2^256:=Nat.le_of_ble_eq_true h2
 have h4:=Nat.eq_of_beq_eq_true h4
 rw[powK_256 h2 (by omega)] at h4
 exact ⟨h1,Nat.eq_of_beq_eq_true h3,h4,qS h1 h2 h5⟩
theorem WS (n g:Nat) (L:List (Nat×Nat)) (h:GQ n g L=true) (hL:nM L):Pr n:=by
 obtain ⟨h1,h2,h3,h4⟩:=yz h
 exact Cv h1 hL h2 h3 h4
theorem aaI (n g:Nat) (L:List (Nat×Nat)) (h:GQ n g L=true) (hL:nM L) {a:Nat} (ha:0<a) (han:a<n):a^(n-1)%n=1:=by
 obtain ⟨h1,h2,h3,h4⟩:=yz h
 exact rq h1 hL h2 h3 h4 ha han
theorem pr2:Pr 2:=by
 refine ⟨by decide,fun d hd=> ?_⟩
 have:=Nat.le_of_dvd (by decide) hd
 rcases d with _|_|_|d
 ·have:=Nat.eq_zero_of_zero_dvd hd;omega
 ·exact .inl rfl
 ·exact .inr rfl
 ·omega
end Go.NT
namespace Go.NT
def modP (k:Nat):Nat:=
 match k with
 |0=>57896044618658097711785492504343953926634992332820282019728792003956564819949
 |1=>115792089210356248762697446949407573530086143415290314195533631308867097853951
 |2=>7237005577332262213973186563042994240857116359379907606001950938285454250989
 |_=>115792089210356248762697446949407573529996955224135760342422259061068512044369
abbrev Ent:Type:=Nat×Nat×List (Nat×Nat)
def inL (p:Nat):List Nat→Bool
 |[]=>false
 |q::l=>Nat.beq p q||inL p l
def HY (ks:List Nat):List (Nat×Nat)→Bool
 |[]=>true
 |(p,_)::l=>inL p ks&&HY ks l
def chk:List Ent→List Nat→Bool
 |[],_=>true
 |(n,g,l)::r,ks=>GQ n g l&&(HY ks l&&chk r (n::ks))
theorem Ix {p:Nat}:∀{ks:List Nat},inL p ks=true→p∈ks
 |[],h=>by simp[inL] at h
 |q::l,h=>by
  simp only[inL,Bool.or_eq_true] at h
  rcases h with h|h
  ·rw[Nat.eq_of_beq_eq_true h];exact List.mem_cons_self
  ·exact List.mem_cons_of_mem _ (Ix h)
theorem DC {ks:List Nat} (hk:∀q∈ks,Pr q):∀{l:List (Nat×Nat)},HY ks l=true→nM l
 |[],_=>trivial
 |(p,_)::l,h=>by
  simp only[HY,Bool.and_eq_true] at h
  exact ⟨hk p (Ix h.1),DC hk h.2⟩
theorem Oz:∀{r:List Ent} {ks:List Nat},chk r ks=true→(∀q∈ks,Pr q)→∀e∈r,GQ e.1 e.2.1 e.2.2=true∧nM e.2.2
 |[],_,_,_,_,he=>nomatch he
 |(n,g,l)::r,ks,h,hk,e,he=>by
  simp only[chk,Bool.and_eq_true] at h
  obtain ⟨h1,h2,h3⟩:=h
  have ha:=DC hk h2
  rcases List.mem_cons.1 he with rfl|he
  ·exact ⟨h1,ha⟩
  ·refine Oz h3 (fun q hq=> ?_) e he
   rcases List.mem_cons.1 hq with rfl|hq
   ·exact WS _ g l h1 ha
   ·exact hk q hq
def af':List Ent:=[
 (3,2,[(2,1)]),
 (17,3,[(2,4)]),
 (7,3,[(2,1),(3,1)]),
 (239,7,[(2,1),(7,1),(17,1)]),
 (479,13,[(2,1),(239,1)]),
 (32573,2,[(2,2),(17,1),(479,1)]),
 (65147,2,[(2,1),(32573,1)]),
 (5,2,[(2,2)]),
 (11,2,[(2,1),(5,1)]),
 (353,3,[(2,5),(11,1)]),
 (29,2,[(2,2),(7,1)]),
 (59,2,[(2,1),(29,1)]),
 (487,3,[(2,1),(3,5)]),
 (57467,2,[(2,1),(59,1),(487,1)]),
 (13,2,[(2,2),(3,1)]),
 (131,2,[(2,1),(5,1),(13,1)]),
 (132049,26,[(2,4),(3,2),(7,1),(131,1)]),
 (43,3,[(2,1),(3,1),(7,1)]),
 (23,5,[(2,1),(11,1)]),
 (3727,3,[(2,1),(3,4),(23,1)]),
 (1923133,2,[(2,2),(3,1),(43,1),(3727,1)]),
 (31,3,[(2,1),(3,1),(5,1)]),
 (53,2,[(2,2),(13,1)]),
 (107,2,[(2,1),(53,1)]),
 (37,2,[(2,2),(3,2)]),
 (223,3,[(2,1),(3,1),(37,1)]),
 (173,2,[(2,2),(43,1)]),
 (4153,5,[(2,3),(3,1),(173,1)]),
 (41,6,[(2,3),(5,1)]),
 (1723,3,[(2,1),(3,1),(7,1),(41,1)]),
 (430751,17,[(2,1),(5,3),(1723,1)]),
 (31757755568855353,10,[(2,3),(3,1),(31,1),(107,1),(223,1),(4153,1),(430751,1)]),
 (19,2,[(2,1),(3,2)]),
 (83,2,[(2,1),(41,1)]),
 (9463,3,[(2,1),(3,1),(19,1),(83,1)]),
 (37853,2,[(2,2),(9463,1)]),
 (75707,2,[(2,1),(37853,1)]),
 (47,5,[(2,1),(23,1)]),
 (127,3,[(2,1),(3,2),(7,1)]),
 (103,5,[(2,1),(3,1),(17,1)]),
 (991,6,[(2,1),(3,2),(5,1),(11,1)]),
 (8574133,2,[(2,2),(3,1),(7,1),(103,1),(991,1)]),
 (1919519569386763,2,[(2,1),(3,1),(7,1),(19,1),(47,2),(127,1),(8574133,1)]),
 (2437,2,[(2,2),(3,1),(7,1),(29,1)]),
 (97,5,[(2,5),(3,1)]),
 (419,2,[(2,1),(11,1),(19,1)]),
 (569003,2,[(2,1),(7,1),(97,1),(419,1)]),
 (2773320623,5,[(2,1),(2437,1),(569003,1)]),
 (72106336199,7,[(2,1),(13,1),(2773320623,1)]),
 (75445702479781427272750846543864801,7,[(2,5),(3,2),(5,2),(75707,1),(72106336199,1),(1919519569386763,1)]),
 (74058212732561358302231226437062788676166966415465897661863160754340907,2,[(2,1),(3,1),(353,1),(57467,1),(132049,1),(1923133,1),(31757755568855353,1),(75445702479781427272750846543864801,1)]),
 (57896044618658097711785492504343953926634992332820282019728792003956564819949,2,[(2,2),(3,1),(65147,1),(74058212732561358302231226437062788676166966415465897661863160754340907,1)]),
 (257,3,[(2,8)]),
 (641,3,[(2,7),(5,1)]),
 (1531,2,[(2,1),(3,2),(5,1),(17,1)]),
 (65537,3,[(2,16)]),
 (241,7,[(2,4),(3,1),(5,1)]),
 (2411,6,[(2,1),(5,1),(241,1)]),
 (757,2,[(2,2),(3,3),(7,1)]),
 (18169,11,[(2,3),(3,1),(757,1)]),
 (181,2,[(2,2),(3,2),(5,1)]),
 (1087,3,[(2,1),(3,1),(181,1)]),
 (4349,2,[(2,2),(1087,1)]),
 (78283,3,[(2,1),(3,2),(4349,1)]),
 (313,10,[(2,3),(3,1),(13,1)]),
 (704251,2,[(2,1),(3,2),(5,3),(313,1)]),
 (46076956964474543,5,[(2,1),(23,1),(18169,1),(78283,1),(704251,1)]),
 (197,2,[(2,2),(7,2)]),
 (919,7,[(2,1),(3,3),(17,1)]),
 (3677,2,[(2,2),(919,1)]),
 (66417393611,6,[(2,1),(5,1),(53,1),(173,1),(197,1),(3677,1)]),
 (11290956913871,13,[(2,1),(5,1),(17,1),(66417393611,1)]),
 (157,5,[(2,2),(3,1),(13,1)]),
 (3769,7,[(2,3),(3,1),(157,1)]),
 (204061199,11,[(2,1),(11,1),(23,1),(107,1),(3769,1)]),
 (34282281433,17,[(2,3),(3,1),(7,1),(204061199,1)]),
 (774023187263532362759620327192479577272145303,3,[(2,1),(3,2),(2411,1),(34282281433,1),(11290956913871,1),(46076956964474543,1)]),
 (835945042244614951780389953367877943453916927241,11,[(2,3),(3,3),(5,1),(774023187263532362759620327192479577272145303,1)]),
 (727,5,[(2,1),(3,1),(11,2)]),
 (17449,14,[(2,3),(3,1),(727,1)]),
 (6700417,5,[(2,7),(3,1),(17449,1)]),
 (661,2,[(2,2),(3,1),(5,1),(11,1)]),
 (490463,14,[(2,1),(7,1),(53,1),(661,1)]),
 (115792089210356248762697446949407573530086143415290314195533631308867097853951,6,[(2,1),(3,1),(5,2),(17,1),(257,1),(641,1),(1531,1),(65537,1),(490463,1),(6700417,1),(835945042244614951780389953367877943453916927241,1)]),
 (30703,3,[(2,1),(3,1),(7,1),(17,1),(43,1)]),
 (79,3,[(2,1),(3,1),(13,1)]),
 (41081,3,[(2,3),(5,1),(13,1),(79,1)]),
 (82163,2,[(2,1),(41081,1)]),
 (67,2,[(2,1),(3,1),(11,1)]),
 (22111,6,[(2,1),(3,1),(5,1),(11,1),(67,1)]),
 (132667,5,[(2,1),(3,1),(22111,1)]),
 (17231,13,[(2,1),(5,1),(1723,1)]),
 (137849,3,[(2,3),(17231,1)]),
 (3044861653679985063343,5,[(2,1),(3,1),(11,1),(30703,1),(82163,1),(132667,1),(137849,1)]),
 (34123,2,[(2,1),(3,1),(11,2),(47,1)]),
 (409477,2,[(2,2),(3,1),(34123,1)]),
 (14741173,2,[(2,2),(3,2),(409477,1)]),
 (58964693,2,[(2,2),(14741173,1)]),
 (198211423230930754013084525763697,5,[(2,4),(3,1),(23,1),(58964693,1),(3044861653679985063343,1)]),
 (269,2,[(2,2),(67,1)]),
 (1361,3,[(2,4),(5,1),(17,1)]),
 (2851,2,[(2,1),(3,1),(5,2),(19,1)]),
 (73,5,[(2,3),(3,2)]),
 (3797,2,[(2,2),(13,1),(73,1)]),
 (531581,2,[(2,2),(5,1),(7,1),(3797,1)]),
 (2551,6,[(2,1),(3,1),(5,2),(17,1)]),
 (1224481,13,[(2,5),(3,1),(5,1),(2551,1)]),
 (1257559732178653,2,[(2,2),(3,1),(7,1),(23,1),(531581,1),(1224481,1)]),
 (4434155615661930479,17,[(2,1),(41,1),(43,1),(1257559732178653,1)]),
 (172054593956031949258510691,2,[(2,1),(5,1),(1361,1),(2851,1),(4434155615661930479,1)]),
 (307,5,[(2,1),(3,2),(17,1)]),
 (113,3,[(2,4),(7,1)]),
 (2939,2,[(2,1),(13,1),(113,1)]),
 (5879,11,[(2,1),(2939,1)]),
 (292386187,2,[(2,1),(3,4),(307,1),(5879,1)]),
 (213441916511,13,[(2,1),(5,1),(73,1),(292386187,1)]),
 (19757330305831588566944191468367130476339,2,[(2,1),(269,1),(213441916511,1),(172054593956031949258510691,1)]),
 (276602624281642239937218680557139826668747,2,[(2,1),(7,1),(19757330305831588566944191468367130476339,1)]),
 (7237005577332262213973186563042994240857116359379907606001950938285454250989,2,[(2,2),(3,1),(11,1),(198211423230930754013084525763697,1),(276602624281642239937218680557139826668747,1)]),
 (71,7,[(2,1),(5,1),(7,1)]),
 (373,2,[(2,2),(3,1),(31,1)]),
 (3407,5,[(2,1),(13,1),(131,1)]),
 (9547,2,[(2,1),(3,1),(37,1),(43,1)]),
 (38189,2,[(2,2),(9547,1)]),
 (337,10,[(2,4),(3,1),(7,1)]),
 (104471,11,[(2,1),(5,1),(31,1),(337,1)]),
 (3969899,2,[(2,1),(19,1),(104471,1)]),
 (263,5,[(2,1),(131,1)]),
 (126241,7,[(2,5),(3,1),(5,1),(263,1)]),
 (1002328039319,19,[(2,1),(126241,1),(3969899,1)]),
 (1297,10,[(2,4),(3,4)]),
 (16879,3,[(2,1),(3,1),(29,1),(97,1)]),
 (151,6,[(2,1),(3,1),(5,2)]),
 (1511,11,[(2,1),(5,1),(151,1)]),
 (3023,5,[(2,1),(1511,1)]),
 (155317,5,[(2,2),(3,1),(7,1),(43,2)]),
 (191039911,3,[(2,1),(3,1),(5,1),(41,1),(155317,1)]),
 (208150935158385979,2,[(2,1),(3,1),(11,1),(43,1),(127,1),(3023,1),(191039911,1)]),
 (2624747550333869278416773953,7,[(2,6),(3,2),(1297,1),(16879,1),(208150935158385979,1)]),
 (311,17,[(2,1),(5,1),(31,1)]),
 (311245691,2,[(2,1),(5,1),(7,1),(17,1),(29,2),(311,1)]),
 (622491383,5,[(2,1),(311245691,1)]),
 (229,6,[(2,2),(3,1),(19,1)]),
 (1201,11,[(2,4),(3,1),(5,2)]),
 (9350987,2,[(2,1),(17,1),(229,1),(1201,1)]),
 (187019741,2,[(2,2),(5,1),(9350987,1)]),
 (115792089210356248762697446949407573529996955224135760342422259061068512044369,7,[(2,4),(3,1),(71,1),(131,1),(373,1),(3407,1),(17449,1),(38189,1),(187019741,1),(622491383,1),(1002328039319,1),(2624747550333869278416773953,1)])]
theorem TE:chk af' [2]=true:=by kernel_rfl
def lkE (n:Nat):List Ent→Option Ent
 |[]=>none
 |e::r=>match Nat.beq e.1 n with
  |true=>some e
  |false=>lkE n r
theorem Af {n:Nat} {e:Ent}:∀{r:List Ent},lkE n r=some e→e∈r∧e.1=n
 |[],h=>by simp[lkE] at h
 |x::r,h=>by
  simp only[lkE] at h
  split at h
  ·rename_i hb
   simp only[Option.some.injEq] at h
   subst h
   exact ⟨List.mem_cons_self,Nat.eq_of_beq_eq_true hb⟩
  ·exact ⟨List.mem_cons_of_mem _ (Af h).1,(Af h).2⟩
def Hp (n:Nat):Bool:=match lkE n af' with
 |some _=>true
 |none=>false
theorem aop:Hp (modP 0)=true:=by kernel_rfl
theorem aqB:Hp (modP 1)=true:=by kernel_rfl
theorem aoM:Hp (modP 2)=true:=by kernel_rfl
theorem al2:Hp (modP 3)=true:=by kernel_rfl
theorem Xl {n:Nat} (h:Hp n=true):∃g l,GQ n g l=true∧nM l:=by
 unfold Hp at h
 split at h
 ·rename_i e he
  obtain ⟨h1,h2⟩:=Af he
  obtain ⟨h3,h4⟩:=Oz TE (fun q hq=>by rw[List.mem_singleton.1 hq];exact pr2) e h1
  rw[h2] at h3
  exact ⟨_,_,h3,h4⟩
 ·cases h
theorem agk {k:Nat} (hk:k<4):Hp (modP k)=true:=by
 rcases k with _|_|_|_|k
 ·exact aop
 ·exact aqB
 ·exact aoM
 ·exact al2
 ·omega
theorem fermatK {k a:Nat} (hk:k<4) (ha:0<a) (h:a<modP k):a^(modP k-1)%modP k=1:=by
 obtain ⟨g,l,h1,h2⟩:=Xl (agk hk)
 exact aaI _ g l h1 h2 ha h
theorem primeK {k:Nat} (hk:k<4):Pr (modP k):=by
 obtain ⟨g,l,h1,h2⟩:=Xl (agk hk)
 exact WS _ g l h1 h2
end Go.NT
namespace Go.Ev
open Go Go.Proofs Go.RowKit
theorem aK {k:Nat} (hk:k<4):bc (ab k) (aT k):=by
 match k,hk with
 |0,_=>unfold bc;decide+kernel
 |1,_=>unfold bc;decide+kernel
 |2,_=>unfold bc;decide+kernel
 |3,_=>unfold bc;decide+kernel
 |n+4,h=>exact absurd h (by omega)
theorem Ba {m q a:Nat} (hR:m<4294967296^8) (hq:bc m q):fj (aq m a) m=a%m:=by
 unfold fj aq dY co
 rw[Nat.zero_add]
 have h1:Cg m (4294967296^8*a%m*gG m) (4294967296^8*a*gG m):=(Cg.mod m _).mul (Cg.refl _ _)
 have h2:4294967296^8*a*gG m=a*(4294967296^8*gG m):=by
  generalize (4294967296:Nat)^8=R
  ac_rfl
 have h3:Cg m (a*(4294967296^8*gG m)) (a*1):=(Cg.refl _ _).mul (jP hR hq)
 rw[Nat.mul_one] at h3
 exact h1.trans ((Cg.of_eq h2).trans h3)
noncomputable def EFp:Env:={E0 with
 fn:=fun f vs=>match f with
  |135=>Ln g39 vs
  |78=>Ln g52 vs
  |138=>mT J8 vs
  |81=>NM vs
  |142=>V6 am vs
  |79=>Ov ci vs
  |141=>mT qQ vs
  |_=>none
 S:=fun f t=>match f with
  |77=>bf t [17]
  |_=>false}
theorem aa0:EnvOK EFp:=by
 refine ⟨mixed,?_,fun _ _ _ _ _ h=>by simp[EFp,E0] at h,fun _ _ _ h=>by simp[EFp,E0] at h,fun _ _ _ _ _ _ h=>by simp[EFp,E0] at h⟩
 intro f vs ob r h ho
 simp only[EFp] at h
 split at h
 ·exact lX Pc h ho
 ·exact lX rC h ho
 ·exact de Pz h ho
 ·exact A0 h ho
 ·exact IH Bq h ho
 ·exact zR NK h ho
 ·exact de wO h ho
 ·simp at h
theorem ajt (m q a:Nat):al EFp 1000 80 [xx m q,N8 a] []=some ([m<4294967296^8,2<4294967296,0<4294967296,0<4294967296,0<4294967296,0<4294967296,0<4294967296,0<4294967296,0<4294967296,
  m<4294967296^8,a<m,bc m q,a<4294967296^8,bh m 2<4294967296^8],.val (N8 (am m a (bh m 2)))):=by kernel_rfl
noncomputable def cI (m a:Nat):Nat:=am m a (bh m 2)
theorem aaT:GU 80 cI:=by
 intro m q a hm ha hq
 have h0:(0:Nat)<4294967296:=by decide
 have h2:(2:Nat)<4294967296:=by decide
 exact af aa0 rfl (ajt m q a) ⟨hm,h2,h0,h0,h0,h0,h0,h0,h0,hm,ha,hq,by omega,cJ _ _,trivial⟩ rfl rfl
theorem en (k:Nat):2<ab k:=by unfold ab;split<;>decide
def KO (a:Nat→Nat) (i:Nat):Nat:=
 match Nat.blt i 7 with
 |true=>a i/2%4294967296|||a (i+1)*2147483648%4294967296%4294967296
 |false=>a i/2
def acx (a:Nat→Nat):Bool:=decide (a 0%4294967296&&&1%4294967296=1)
theorem ajI (a:Nat→Nat):al E0 1000 220 [C8 a] []=some ([],.tup [C8 (KO a),.one (.v (.bool (acx a)))]):=by kernel_rfl
def hfC (a:Nat→Nat) (i:Nat):Nat:=match Nat.blt i 8 with|true=>a i%2|false=>0
theorem Zg (x c:Nat) (hx:x<2147483648):x|||c*2147483648=x+c*2147483648:=by
 have:=Nat.two_pow_add_eq_or_of_lt (i:=31) (b:=x) hx c
 rw[show (2:Nat)^31=2147483648 from rfl] at this
 rw[Nat.or_comm,Nat.mul_comm,←this,Nat.add_comm]
theorem Dr {a:Nat→Nat} (ha:∀i,a i<4294967296):2*aW 8 0 (KO a)+a 0%2=aW 8 0 a∧∀i,KO a i<4294967296:=by
 have d:∀i,i<7→KO a i=a i/2+(a (i+1)%2)*2147483648:=by
  intro i hi
  unfold KO
  rw[j9 hi]
  simp only
  have h1:=ha i
  have h2:=ha (i+1)
  rw[show a i/2%4294967296=a i/2 by omega,show a (i+1)*2147483648%4294967296%4294967296=(a (i+1)%2)*2147483648 by omega]
  exact Zg _ _ (by omega)
 have d7:KO a 7=a 7/2:=rfl
 refine ⟨?_,?_⟩
 ·have h:=i0 (d:=a) (t:=fun i=>2*KO a i) (c:=hfC a) 8 (fun i hi=>by
   unfold hfC
   rw[j9 hi]
   by_cases h7:i=7
   ·subst h7
    rw[kh (show ¬7+1<8 by omega)]
    simp only[d7]
    omega
   ·rw[j9 (show i+1<8 by omega)]
    simp only[d i (by omega)]
    have h2:=ha (i+1)
    omega)
  rw[q8,show hfC a 8=0 from rfl,show hfC a 0=a 0%2 from rfl] at h
  omega
 ·intro i
  unfold KO
  split
  ·exact ud (Nat.mod_lt _ (by decide)) (Nat.mod_lt _ (by decide))
  ·have:=ha i;omega
def y7 (a:Nat):AV:= .tup [N8 (a/2),.one (.v (.bool (acx (ak a))))]
theorem YV (a:Nat) (ha:a<4294967296^8):Spec 220 [N8 a] (y7 a):=by
 obtain ⟨h1,h2⟩:=Dr (ba a)
 rw[ce a 8 ha] at h1
 refine (af envE0 rfl (ajI (ak a)) trivial rfl rfl).congr (fun φ=>by simp only[List.map_cons,List.map_nil,c8]) (fun φ=> ?_)
 simp only[y7,AV.conc,List.map_cons,List.map_nil]
 rw[ew φ (u:=KO (ak a)) (fun i _=>h2 i) (show aW 8 0 (KO (ak a))=a/2 by omega)]
def Rk (a b:Nat→Nat):Nat→Nat
 |0=>0
 |i+1=>((Rk a b i+a i%18446744073709551616)%18446744073709551616+b i%18446744073709551616)%18446744073709551616/4294967296
def adD (a b:Nat→Nat) (i:Nat):Nat:=((Rk a b i+a i%18446744073709551616)%18446744073709551616+b i%18446744073709551616)%18446744073709551616%4294967296
theorem ajB (a b:Nat→Nat):al E0 1000 101 [C8 a,C8 b] []=some ([],.tup [C8 (adD a b),u32 (Rk a b 8%4294967296)]):=by kernel_rfl
theorem Bv {a b:Nat→Nat} (ha:∀i,a i<4294967296) (hb:∀i,b i<4294967296):∀i,Rk a b i=qa a b i∧Rk a b i≤1
 |0=>by simp[Rk,qa]
 |i+1=>by
  obtain ⟨h1,h2⟩:=Bv ha hb i
  have:=ha i
  have:=hb i
  simp only[Rk,qa]
  omega
theorem Gs (a b:Nat) (ha:a<4294967296^8) (hb:b<4294967296^8):Spec 101 [N8 a,N8 b] (AX a b):=by
 have h:=af envE0 rfl (ajB (ak a) (ak b)) trivial rfl rfl
 obtain ⟨h1,h2⟩:=CC a b ha hb
 obtain ⟨h4,h3⟩:=Bv (ba a) (ba b) 8
 have h5:aW 8 0 (adD (ak a) (ak b))=(a+b)%4294967296^8:=by
  rw[←h1]
  refine cv 8 0 (fun i _ _=> ?_)
  have e:=(Bv (ba a) (ba b) i).1
  have e2:=(Bv (ba a) (ba b) i).2
  have e3:=ba a i
  have e4:=ba b i
  simp only[adD,Fi,←e]
  omega
 refine h.congr (fun φ=>by simp only[List.map_cons,List.map_nil,c8]) (fun φ=> ?_)
 simp only[AX,aD,lb,AV.conc,List.map_cons,List.map_nil]
 rw[ew φ (u:=adD (ak a) (ak b)) (fun i _=>Nat.mod_lt _ (by decide)) h5,show Rk (ak a) (ak b) 8%4294967296=Rk (ak a) (ak b) 8 from Nat.mod_eq_of_lt (by omega),h4,h2]
end Go.Ev
