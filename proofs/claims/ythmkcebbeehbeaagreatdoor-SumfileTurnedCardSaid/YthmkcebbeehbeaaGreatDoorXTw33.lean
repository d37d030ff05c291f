/- Part 33 of the proof of the laws of the queries: KrW2, DecM, WkM, CodeC, RdA, RdB. -/
import Derived.Test.YthmkcebbeehbeaaGreatDoorXTw17
import Derived.Test.YthmkcebbeehbeaaGreatDoorXTw19
import Derived.Test.YthmkcebbeehbeaaGreatDoorXTw27
import Derived.Test.YthmkcebbeehbeaaGreatDoorXTw31
import Derived.Test.YthmkcebbeehbeaaGreatDoorXTw32
set_option linter.unusedSimpArgs false
set_option linter.unusedVariables false
namespace Go.Proofs.YthmkcebbeehbeaaGreatDoor
open Am C
def ybx (bs:List UInt8):List UInt8:=bs++yo4 (yce 11994318 bs)
@[simp] theorem yel (bs:List UInt8):(ybx bs).length=bs.length+3:=by simp [ybx,yo4]
def y9o (bs:List UInt8):List UInt8 × Bool:=
  if bs.length<3 then ([],false) else if ybx (bs.take (bs.length-3))=bs then (bs.take (bs.length-3),true) else ([],false)
theorem yl6 (bs:List UInt8) (hb:bs.length≤140737488351232) (H:Hp):AC Tryz.prog yec [.s bs] H (fun r H'=>r=.tup [.s (y9o bs).1,.b (y9o bs).2]∧H'=H):=by
  refine AC.code y39.at y39.ok ?_
  simp only [y39]
  apply jA
  simp [y39.r0]
  apply jB
  simp [y39.r1]
  refine AX.pcond rfl (fun hlt=>jA ?_) (fun hge=>AX.skip ?_)
  · simp at hlt
    simp [y39.r2]
    apply jD
    simp [y9o,hlt]
  · simp at hge
    simp
    apply jA
    have e1:IntKind.i64.wrap ((bs.length:Int)-3)=((bs.length-3:Nat):Int):=by rw [y2w (by omega) (by omega)];omega
    simp [y39.r3,e1]
    apply jB
    simp [y39.r4]
    refine AC.fix (yg6 (bs.take (bs.length-3)) (by simp;omega) H) ?_
    simp
    refine AX.pcond rfl (fun hne=>jA ?_) (fun heq=>AX.skip ?_)
    · simp at hne
      simp [y39.r5]
      apply jD
      simp [y9o,ybx,hne]
    · simp at heq
      simp
      apply jA
      simp [y39.r6]
      apply jD
      simp [y9o,ybx,heq,show ¬bs.length<3 by omega]
def decR (l:List Str) (x:Str):Su × Int:=
  if (y9h l x).2≠0 then (su0,(y9h l x).2) else if suE (y9h l x).1≠0 then (su0,suE (y9h l x).1) else if y3i (y9h l x).1≠l then (su0,3) else ((y9h l x).1,0)
def ybz (u:Str):Rd:=if (y3f u ⟨0,0⟩).1≠1 then y5k (y3f u ⟨0,0⟩).2 5 else (y3f u ⟨0,0⟩).2
def decX (u:Str) (l:List Str × Rd):Su × Int:=
  if l.2.e≠0 then (su0,l.2.e) else if y78 u (y7c u l.2).2≠0 then (su0,y78 u (y7c u l.2).2) else decR l.1 (y7c u l.2).1
def decU (u:Str):Su × Int:=if (ybz u).e≠0 then (su0,(ybz u).e) else decX u (y6x u (ybz u))
def decT (t:Str):Su × Int:=if t.take 4≠y6u then (su0,5) else decU (t.drop 4)
def ymm (b:Str):Su × Int:=if 200000<b.length then (su0,9) else if (y9o b).2=false then (su0,14) else decT (y9o b).1
theorem rdVer_ok (u:Str):y6y u (ybz u):=by
  have h:=(y5d (t:=u) (σ:=⟨0,0⟩) ⟨by simp,by simp,by simp,by simp⟩).1
  unfold ybz
  split
  · exact yc5 h (by omega) (by omega) (by omega)
  · exact h
theorem ynd (x:Str):y9o (yfl x)=(x,true):=by
  have e:yfl x=ybx x:=rfl
  unfold y9o
  rw [e,if_neg (by simp),yel,show x.length+3-3=x.length by omega]
  have:(ybx x).take x.length=x:=by simp [ybx]
  rw [this,if_pos rfl]
theorem ypn {b:Str} (h:(y9o b).2=true):b=yfl (y9o b).1∧(y9o b).1.length≤b.length:=by
  unfold y9o at *
  by_cases h1:b.length<3
  · rw [if_pos h1] at h;simp at h
  rw [if_neg h1] at h ⊢
  by_cases h2:ybx (b.take (b.length-3))=b
  · rw [if_pos h2];exact ⟨h2.symm,by simp⟩
  · rw [if_neg h2] at h;simp at h
theorem su_size {s:Su} {k:Nat} (hk:k≤140737488355328) (hb:(evS s).length≤1000000) (h:∀t,Ev.txt t∈evS s→t.length≤k):suF s:=by
  have hsz:(evS s).length=1+((evL evW s.gives).length+((evL evW s.wants).length+((evL evW s.keeps).length+((evL evO s.sys.objs).length+((evL evF s.sys.fns).length+(evL evC s.sys.cons).length))))):=by simp [evS];omega
  have lw:∀l:List Str,l.length≤(evL evW l).length:=fun l=>yau evW l (fun x=>by simp [evW])
  have lo:=yau evO s.sys.objs (fun x=>by simp [evO])
  have lf:=yau evF s.sys.fns (fun x=>by simp [evF])
  have lc:=yau evC s.sys.cons (fun x=>by simp [evC])
  have w1:=lw s.gives
  have w2:=lw s.wants
  have w3:=lw s.keeps
  have hn:Ev.txt s.name∈evS s:=by simp [evS]
  have hin:∀{α:Type} (f:α→List Ev) (l:List α) (a:α) (t:Str),a∈l→Ev.txt t∈f a→Ev.txt t∈evL f l:=fun f l a t ha ht=>by simp only [evL,List.mem_cons,List.mem_flatMap];exact .inr ⟨a,ha,ht⟩
  have hkp:∀t∈s.keeps,Ev.txt t∈evS s:=fun t ht=>by
    have:=hin evW s.keeps t t ht (by simp [evW])
    simp only [evS,List.mem_cons,List.mem_append];exact .inr (.inr (.inr (.inl this)))
  have ho:∀o∈s.sys.objs,∀t,Ev.txt t∈evO o→Ev.txt t∈evS s:=fun o ho t ht=>by
    have:=hin evO s.sys.objs o t ho ht
    simp only [evS,List.mem_cons,List.mem_append];exact .inr (.inr (.inr (.inr (.inl this))))
  have hf:∀f∈s.sys.fns,∀t,Ev.txt t∈evF f→Ev.txt t∈evS s:=fun f hf t ht=>by
    have:=hin evF s.sys.fns f t hf ht
    simp only [evS,List.mem_cons,List.mem_append];exact .inr (.inr (.inr (.inr (.inr (.inl this)))))
  have hc:∀c∈s.sys.cons,∀t,Ev.txt t∈evC c→Ev.txt t∈evS s:=fun c hc t ht=>by
    have:=hin evC s.sys.cons c t hc ht
    simp only [evS,List.mem_cons,List.mem_append];exact .inr (.inr (.inr (.inr (.inr (.inr this)))))
  refine ⟨⟨Nat.le_trans (h _ hn) hk,by omega,by omega,by omega,fun t ht=>Nat.le_trans (h _ (hkp t ht)) hk,by omega,by omega,by omega,fun o hom=>?_,fun f hfm=>?_,fun c hcm=>?_⟩,hb⟩
  · have hol:=yi1 (f:=evO) hom
    have hm1:=yau evM o.marks (fun x=>by simp [evM])
    have hm2:(evL evM o.marks).length≤(evO o).length:=by simp [evO];omega
    have q:=fun t ht=>h t (ho o hom t ht)
    refine ⟨Nat.le_trans (q _ (by simp [evO])) hk,Nat.le_trans (q _ (by simp [evO])) hk,by omega,fun m hm=>Nat.le_trans (q _ ?_) hk⟩
    have:=hin evM o.marks m m.tag hm (by simp [evM])
    simp only [evO,List.mem_cons];exact .inr (.inr this)
  · have q:=fun t ht=>h t (hf f hfm t ht)
    exact ⟨Nat.le_trans (q _ (by simp [evF])) hk,Nat.le_trans (q _ (by simp [evF])) hk⟩
  · have hcl:=yi1 (f:=evC) hcm
    have ha1:=lw c.args
    have ha2:(evL evW c.args).length≤(evC c).length:=by simp [evC];omega
    have q:=fun t ht=>h t (hc c hcm t ht)
    refine ⟨Nat.le_trans (q _ (by simp [evC])) hk,Nat.le_trans (q _ (by simp [evC])) hk,Nat.le_trans (q _ (by simp [evC])) hk,by omega,fun a ha=>Nat.le_trans (q _ ?_) hk⟩
    have:=hin evW c.args a a ha (by simp [evW])
    simp only [evC,List.mem_cons];exact .inr (.inr (.inr (.inr (.inr this))))
theorem ypa {l:List Str} {x:Str} (hr:y3o l) (h:(y9h l x).2=0):x=y4d l (evS (y9h l x).1)∧(∀e∈evS (y9h l x).1,yo6 l e):=by
  obtain ⟨o,g⟩:=sum_got (t:=x) (σ:=⟨0,0⟩) hr ⟨by simp,by simp,by simp,by simp⟩
  unfold y9h at *
  by_cases h1:y78 x (ydm l x ⟨0,0⟩).2≠0
  · rw [if_pos h1] at h;exact (h1 h).elim
  rw [if_neg h1]
  generalize ydm l x ⟨0,0⟩=S at *
  have he:S.2.e=0:=by
    unfold y78 at h1
    by_cases h2:S.2.e=0∧S.2.pos<x.length
    · exact h2.1
    · rw [if_neg h2] at h1;simpa using h1
  have hp:¬S.2.pos<x.length:=fun h3=>by
    unfold y78 at h1
    rw [if_pos ⟨he,h3⟩] at h1
    exact h1 (by decide)
  have g:=g he
  refine ⟨?_,g.ok⟩
  have:=g.bytes
  rw [List.drop_of_length_le (by omega:x.length≤S.2.pos)] at this
  simpa using this
theorem rec_size {l:List Str} {x:Str} (hr:y3o l) (hl:∀s∈l,s.length≤1000) (hx:x.length≤1000000) (h:(y9h l x).2=0):suF (y9h l x).1:=by
  obtain ⟨h1,h2⟩:=ypa hr h
  have h3:=yjm l (evS (y9h l x).1)
  rw [←h1] at h3
  exact su_size (k:=1000) (by omega) (by omega) (fun t ht=>hl t (h2 _ ht))
theorem yhy {pool:List Str} (hl:pool.length≤268435456) (hr:y3o pool):∀(es:List Ev) (τ:Qw),τ.e=0→(∀x∈es,yo6 pool x)→(ycw pool τ es).bs=τ.bs++y4d pool es∧(ycw pool τ es).e=0
  | [],τ,h,_=>by simp [h]
  | .num n::es,τ,h,ho=>by
    have h1:=ho _ (List.mem_cons_self ..)
    simp only [yo6] at h1
    rw [y9t]
    have e1:yk8 pool τ (.num n)={ τ with bs:=τ.bs++y6s n.toNat }:=by simp only [yk8,yb1];rw [if_neg (by simp [h]),if_neg (by omega)]
    rw [e1]
    have:=yhy hl hr es { τ with bs:=τ.bs++y6s n.toNat } h (fun x hx=>ho x (by simp [hx]))
    rw [this.1,yct,←List.append_assoc]
    exact ⟨rfl,this.2⟩
  | .txt s::es,τ,h,ho=>by
    have h1:=ho _ (List.mem_cons_self ..)
    simp only [yo6] at h1
    have hp:=(List.getElem?_eq_some_iff.1 ((ybf hr s).1 h1)).1
    rw [y9t]
    have e1:yk8 pool τ (.txt s)={ bs:=τ.bs++y6s (ybe pool s),all:=ya6 τ.all s,e:=0 }:=by
      simp only [yk8,yko,h1,not_true_eq_false,false_and,if_false,yb1,h,ne_eq,ybe,if_true]
      rw [if_neg (by omega)]
      simp
    rw [e1]
    have:=yhy hl hr es { bs:=τ.bs++y6s (ybe pool s),all:=ya6 τ.all s,e:=0 } rfl (fun x hx=>ho x (by simp [hx]))
    rw [this.1,yct,←List.append_assoc]
    exact ⟨rfl,this.2⟩
theorem ypb {pool:List Str} (hl:pool.length≤268435456) (hr:y3o pool) {s:Su} (ho:∀x∈evS s,yo6 pool x):yij pool s=(y4d pool (evS s),0):=by
  have:=yhy hl hr (evS s) qw0 rfl ho
  unfold yij
  rw [if_neg (by simp [this.2]),this.1]
  simp [qw0]
theorem evS_ok {s:Su} (he:suE s=0) (hb:(evS s).length≤1000000):∀x∈evS s,yo6 (y3i s) x:=fun x hx=>by
  cases x with
  | num n=>exact ymc s he hb n hx
  | txt t=>exact ybl.2 (yfg.1 hx)
theorem suG_of {pool:List Str} {s:Su} (h:suH s) (ho:∀x∈evS s,yo6 pool x):suG pool s:=by
  obtain ⟨_,h1,h2,h3,h4,h5,h6,h7,h8,h9⟩:=h
  have hin:∀{α:Type} (f:α→List Ev) (l:List α) (a:α) (x:Ev),a∈l→x∈f a→x∈evL f l:=fun f l a t ha ht=>by simp only [evL,List.mem_cons,List.mem_flatMap];exact .inr ⟨a,ha,ht⟩
  have hob:∀o∈s.sys.objs,∀x∈evO o,yo6 pool x:=fun o hom x hx=>ho x (by
    have:=hin evO s.sys.objs o x hom hx
    simp only [evS,List.mem_cons,List.mem_append];exact .inr (.inr (.inr (.inr (.inl this)))))
  have hfn:∀o∈s.sys.fns,∀x∈evF o,yo6 pool x:=fun o hom x hx=>ho x (by
    have:=hin evF s.sys.fns o x hom hx
    simp only [evS,List.mem_cons,List.mem_append];exact .inr (.inr (.inr (.inr (.inr (.inl this))))))
  have hcn:∀o∈s.sys.cons,∀x∈evC o,yo6 pool x:=fun o hom x hx=>ho x (by
    have:=hin evC s.sys.cons o x hom hx
    simp only [evS,List.mem_cons,List.mem_append];exact .inr (.inr (.inr (.inr (.inr (.inr this))))))
  refine ⟨ho (.txt s.name) (by simp [evS]),⟨by omega,fun a ha=>ho (.txt a) ?_⟩,⟨by omega,fun a ha=>ho (.txt a) ?_⟩,⟨by omega,fun a ha=>ho (.txt a) ?_⟩,⟨by omega,fun o hom=>?_⟩,⟨by omega,fun f hfm=>?_⟩,by omega,fun c hcm=>?_⟩
  · have:=hin evW s.gives a (.txt a) ha (by simp [evW])
    simp only [evS,List.mem_cons,List.mem_append];exact .inr (.inl this)
  · have:=hin evW s.wants a (.txt a) ha (by simp [evW])
    simp only [evS,List.mem_cons,List.mem_append];exact .inr (.inr (.inl this))
  · have:=hin evW s.keeps a (.txt a) ha (by simp [evW])
    simp only [evS,List.mem_cons,List.mem_append];exact .inr (.inr (.inr (.inl this)))
  · have q:=hob o hom
    refine ⟨q (.txt o.name) (by simp [evO]),q (.txt o.kinds) (by simp [evO]),by have:=h8 o hom;omega,fun m hm=>?_⟩
    have p1:=q (.num m.pos) (by have:=hin evM o.marks m (.num m.pos) hm (by simp [evM]);simp only [evO,List.mem_cons];exact .inr (.inr this))
    have p2:=q (.txt m.tag) (by have:=hin evM o.marks m (.txt m.tag) hm (by simp [evM]);simp only [evO,List.mem_cons];exact .inr (.inr this))
    exact ⟨p1.1,p1.2,p2⟩
  · have q:=hfn f hfm
    exact ⟨q (.txt f.name) (by simp [evF]),q (.txt f.kinds) (by simp [evF]),q (.txt f.ret) (by simp [evF])⟩
  · have q:=hcn c hcm
    refine ⟨q (.num c.op) (by simp [evC]),q (.txt c.a) (by simp [evC]),q (.txt c.b) (by simp [evC]),q (.num c.k) (by simp [evC]),q (.txt c.tag) (by simp [evC]),h9 c hcm,fun a ha=>q (.txt a) ?_⟩
    have:=hin evW c.args a (.txt a) ha (by simp [evW])
    simp only [evC,List.mem_cons];exact .inr (.inr (.inr (.inr (.inr this))))
theorem yh2 {t:Str} {σ:Rd} (he:σ.e=0) (hp:¬σ.pos<t.length):y78 t σ=0:=by unfold y78;rw [if_neg (fun h=>hp h.2)];exact he
theorem yqu {s:Su} (hs:suH s) (he:(ygl s).2=0):ymm (ygl s).1=(s,0):=by
  have hb:=hs.1.2
  have hsu:suE s=0:=by
    unfold ygl at he
    by_cases h:suE s=0
    · exact h
    · rw [if_pos h] at he;exact (h he).elim
  unfold ygl at he ⊢
  rw [if_neg (by simp [hsu])] at he ⊢
  by_cases h2:6000<(y3i s).length
  · rw [if_pos h2] at he;simp at he
  rw [if_neg h2] at he ⊢
  by_cases h3:((y3i s).any fun t=>decide (1000<t.length))=true
  · rw [if_pos h3] at he;simp at he
  rw [if_neg h3] at he ⊢
  by_cases h4:200000<(yb6 s).length
  · rw [if_pos h4] at he;simp at he
  rw [if_neg h4]
  have hr:y3o (y3i s):=y7w _
  have h1000:∀t∈y3i s,t.length≤1000:=fun t ht=>by
    by_cases h:t.length≤1000
    · exact h
    · exact (h3 (List.any_eq_true.2 ⟨t,ht,by simp;omega⟩)).elim
  have hok:=evS_ok hsu hb
  have hrec:=ypb (by omega) hr hok
  have hG:=suG_of hs hok
  unfold ymm
  rw [if_neg h4,yb6,ynd]
  rw [if_neg (by simp)]
  simp only
  unfold decT
  have e4:(y6u++yby (y3i s) (yij (y3i s) s).1).take 4=y6u:=by simp [y6u]
  have e5:(y6u++yby (y3i s) (yij (y3i s) s).1).drop 4=yby (y3i s) (yij (y3i s) s).1:=by simp [y6u]
  rw [if_neg (by simp [e4]),e5,hrec]
  have hlen:(y4d (y3i s) (evS s)).length≤200000:=by
    have:(yb6 s).length=(yfl (y6u++yby (y3i s) (yij (y3i s) s).1)).length:=rfl
    rw [hrec] at this
    simp only [yfl,yby,List.length_append] at this
    omega
  generalize hbody:y4d (y3i s) (evS s)=x at *
  generalize hu:yby (y3i s) x=u at *
  have d0:u.drop (⟨0,0⟩:Rd).pos=y6s 1++(yb3 (y3i s)++(y6s x.length++(x++[]))):=by simp [←hu,yby]
  have n1:=yd8 (t:=u) (σ:=⟨0,0⟩) rfl (by omega) d0
  have d1:=y5o d0
  have n2:=ypi (t:=u) (by omega) h1000 hr (by exact rfl) d1
  have d2:=y5o d1
  have n3:=yov (t:=u) (by exact rfl) (by omega) d2
  rw [←List.append_assoc] at d2
  have d3:=y5o d2
  have hv:ybz u=yac ⟨0,0⟩ (y6s 1):=by unfold ybz;rw [n1];simp
  unfold decU
  rw [hv,if_neg (by simp [yac]),n2]
  unfold decX
  rw [if_neg (by simp [yac]),n3]
  simp only
  have hend:=List.drop_eq_nil_iff.1 d3
  have hd:y78 u (yac (yac (yac ⟨0,0⟩ (y6s 1)) (yb3 (y3i s))) (y6s x.length++x))=0:=yh2 rfl (by omega)
  rw [if_neg (by simp [hd])]
  have n4:=sum_ful (t:=x) (σ:=⟨0,0⟩) hr (by omega) hG (rest:=[]) rfl (by simp [hbody])
  have hrd:y9h (y3i s) x=(s,0):=by
    unfold y9h
    rw [n4]
    have:y78 x (yac ⟨0,0⟩ (y4d (y3i s) (evS s)))=0:=yh2 rfl (by rw [hbody];simp [yac])
    rw [if_neg (by simp [this])]
  unfold decR
  rw [hrd]
  simp [hsu]
def suA:Su:=⟨[97],[],[],[],⟨[],[],[]⟩⟩
theorem suA_h:suH suA:=by
  refine ⟨⟨⟨by simp [suA],by simp [suA],by simp [suA],by simp [suA],by simp [suA],by simp [suA],by simp [suA],by simp [suA],by simp [suA],by simp [suA],by simp [suA]⟩,by simp [suA,evS,evL]⟩,by simp [suA],by simp [suA],by simp [suA],⟨by simp [suA],by simp [suA],by simp [suA],by simp [suA],by simp [suA],by simp [suA]⟩,by simp [suA],by simp [suA],by simp [suA],by simp [suA],by simp [suA]⟩
theorem suA_e:suE suA=0:=by kernel_rfl
theorem suA_t:y3i suA=[[97]]:=by kernel_rfl
theorem suA_r:yij [[97]] suA=([0,0,0,0,0,0,0],0):=by
  have h:=ypb (pool:=[[97]]) (by simp) (by simp [y3o]) (s:=suA) (by have:=evS_ok suA_e suA_h.1.2;rw [suA_t] at this;exact this)
  rw [h]
  have hp:ybe [[97]] [97]=0:=by kernel_rfl
  simp [y4d,yjn,evS,evL,evW,suA,hp,y8d]
theorem suA_enc:(ygl suA).2=0∧(ygl suA).1.length=20∧(ygl suA).1.take 9=[119,101,102,116,1,1,0,1,97]:=by
  have hs:shN [] [97]=0:=rfl
  have hf:yb6 suA=yfl [119,101,102,116,1,1,0,1,97,7,0,0,0,0,0,0,0]:=by
    rw [yb6,suA_t,suA_r]
    simp [y6u,yby,yb3,yb2,hs,y8d]
  have hl:(yb6 suA).length=20:=by rw [hf];simp [yfl,yo4]
  have he:ygl suA=(yb6 suA,0):=by
    unfold ygl
    rw [if_neg (by simp [suA_e]),suA_t,if_neg (by simp),if_neg (by simp),if_neg (by omega)]
  rw [he]
  refine ⟨rfl,hl,?_⟩
  rw [hf]
  simp [yfl]
open Go.Proofs
set_option maxRecDepth 100000
namespace C
def y2j.r0:jI:=[am 0]
def y2j.r1:jI:=[⟨some 6,none,.op (.build [.s [],.fs [],.fs [],.fs [],.fs [],.fs [],.fs []] [(0,1,.c (.s [97]))])⟩,⟨some 7,none,.call y83 [.t 6]⟩,ab 5 7,ah 8 0 5,ah 9 1 5,ab 1 8,ab 2 9]
def y2j.r2:jI:=[ab 11 1,⟨some 12,none,.call y84 [.t 11]⟩,ab 10 12,ah 13 0 10,ah 14 1 10,a1v 3 0 0 0 0 0 0 0 0 0 0 0 0,ai 7 3 13,ab 4 14]
def y2j.r3:jI:=[ab 15 2,ay 16 15 0,ab 17 16,aj 18 17 4,a1h 19 17 18 0,an 20 17 19,ab 21 20,aj 22 21 1,a1j 23 21 22,a1h 24 21 23 20,an 25 21 24,ab 26 25,aj 27 26 1,⟨some 28,(some (26,true)),.op (.sls (.t 27) none (some (.c (.i .i64 9))))⟩,⟨some 29,(some (26,true)),.op (.bin .eql (.t 28) (.c (.s [119,101,102,116,1,1,0,1,97])))⟩,an 30 26 29,ab 31 30,a14 32 31 0 3,a12 33 31 1 32,⟨some 34,(some (31,true)),.op (.bin .eql (.t 33) (.c (.s [97])))⟩,an 35 31 34,ab 0 35]
def y2j:AFunc:=⟨36,[.t 0],jJ [] y2j.r0 (jJ [1,2] y2j.r1 (jJ [1,2,3,4] y2j.r2 (jJ [0] y2j.r3 (.ret))))⟩
theorem y2j.ok:y1o Tryz.prog Tryz.f10 y2j=true:=by kernel_rfl
theorem y2j.at:Tryz.prog.funcs[y8w]?=some Tryz.f10:=Tryz.func10
end C
theorem u8_and (c:UInt8):ymu .u8 (c.toNat:Int) 127=((c.toNat % 128:Nat):Int)∧(ymu .u8 (c.toNat:Int) 128≠0↔128≤c.toNat):=by
  have key:∀n:Fin 256,ymu .u8 ((n.val:Nat):Int) 127=((n.val % 128:Nat):Int)∧(ymu .u8 ((n.val:Nat):Int) 128≠0↔128≤n.val):=by decide +kernel
  exact key ⟨c.toNat,c.toNat_lt⟩
theorem sh7 {d i:Nat} (hd:d<128) (hi:i≤4):Go.IntKind.i64.wrap ((d:Int)*2 ^ (min (Go.IntKind.i64.wrap (7*(i:Int))).toNat 64))=((d*128 ^ i:Nat):Int)∧0≤Go.IntKind.i64.wrap (7*(i:Int)):=by
  have h7:Go.IntKind.i64.wrap (7*(i:Int))=((7*i:Nat):Int):=by rw [y2w (by omega) (by omega)];omega
  rw [h7]
  match i,hi with
  | 0,_=>exact ⟨by rw [y2w (by simp <;> omega) (by simp <;> omega)];simp,by omega⟩
  | 1,_=>exact ⟨by rw [y2w (by simp <;> omega) (by simp <;> omega)];simp,by omega⟩
  | 2,_=>exact ⟨by rw [y2w (by simp <;> omega) (by simp <;> omega)];simp,by omega⟩
  | 3,_=>exact ⟨by rw [y2w (by simp <;> omega) (by simp <;> omega)];simp,by omega⟩
  | 4,_=>exact ⟨by rw [y2w (by simp <;> omega) (by simp <;> omega)];simp,by omega⟩
theorem pow128 {i:Nat} (hi:i≤4):128 ^ i≤268435456:=by
  match i,hi with
  | 0,_=>decide
  | 1,_=>decide
  | 2,_=>decide
  | 3,_=>decide
  | 4,_=>decide
theorem or_add {n d i:Nat} (hn:n<128 ^ i):n ||| d*128 ^ i=n+d*128 ^ i:=by
  have h:=Nat.two_pow_add_eq_or_of_lt (i:=7*i) (b:=n) (by rw [Nat.pow_mul];exact hn) d
  rw [Nat.pow_mul] at h
  rw [Nat.or_comm,Nat.mul_comm,←h,Nat.add_comm]
theorem rd_step {r:Str} {k n:Nat} {c:UInt8} {q:Str} (h:r.drop k=c::q):rdN k n (r.drop k)=if k=4∧1<c.toNat then (0,0,2) else if 128≤c.toNat then rdN (k+1) (n+c.toNat % 128*128 ^ k) (r.drop (k+1))
      else if c.toNat=0∧0<k then (0,0,3) else if 268435456<n+c.toNat % 128*128 ^ k then (0,0,2) else (n+c.toNat % 128*128 ^ k,k+1,0):=by
  have:r.drop (k+1)=q:=by rw [←List.drop_drop,h];rfl
  rw [h,this];rfl
theorem acc_lt {n k:Nat} (c:UInt8) (h:n<128 ^ k):n+c.toNat % 128*128 ^ k<128 ^ (k+1):=by
  have:c.toNat % 128*128 ^ k≤127*128 ^ k:=Nat.mul_le_mul_right _ (by omega)
  rw [Nat.pow_succ];omega
def LkInv (t:Str) (σ:Rd) (B:Str) (H:Hp) (m:Nat) (F:Fr) (X:Hp):Prop:=
  ∃i n,i≤4∧i≤B.length∧m=B.length-i∧n<128 ^ i∧rdL t σ=rdN i n ((t.drop σ.pos).drop i)∧X=H∧F=[(5,.i .i64 (n:Nat)),(28,.fs (bcl B)),(29,.i .i64 B.length),(30,.i .i64 i)]
theorem Look_ok (t:Str) (σ:Rd) (id:Nat) (hp:σ.pos≤t.length) (ht:t.length≤140737488351232) (H:Hp) {m:Nat} (hm:m≤3) (hg:H.get id=some (.cells [.s t,.i .i64 σ.pos,.i .i64 σ.e] m)):
    AC Tryz.prog y7s [.p (some (id,0,3))] H (fun v H'=>v=.tup [.i .i64 ((rdL t σ).1:Nat),.i .i64 ((rdL t σ).2.1:Nat),.i .i64 (rdL t σ).2.2]∧H'=H):=by
  refine AC.code ya.at ya.ok ?_
  simp only [ya]
  apply jA
  simp [ya.r0]
  apply jA
  simp [ya.r1]
  have hmin:min (t.length:Int) (Go.IntKind.i64.wrap ((σ.pos:Int)+5))=((min t.length (σ.pos+5):Nat):Int):=by rw [y2w (by omega) (by omega)];omega
  obtain ⟨B,hB⟩:∃B,B=(t.drop σ.pos).take 5:=⟨_,rfl⟩
  have hsl:(t.take (min t.length (σ.pos+5))).drop σ.pos=B:=by
    rw [hB]
    apply List.ext_getElem?
    intro j
    simp only [List.getElem?_drop,List.getElem?_take]
    by_cases h1:j<5
    · by_cases h2:σ.pos+j<t.length
      · rw [if_pos (by omega),if_pos h1]
      · rw [if_neg (by omega),if_pos h1,List.getElem?_eq_none (by omega)]
    · rw [if_neg (by omega),if_neg h1]
  have hBl:B.length=min 5 (t.length-σ.pos):=by rw [hB];simp
  refine AX.seq (AX.seq (AX.drw ?_))
  simp [ya.r2,hg,hm,hmin]
  rw [if_pos ⟨by omega,by omega⟩,hsl]
  simp
  refine AX.pblock (AX.loop (LkInv t σ B H) B.length ⟨_,_,.refl _ _,0,0,by omega,by omega,by omega,by simp,by simp [rdL],rfl,by simp [bcl]⟩ ?_)
  rintro m F X ⟨i,n,hi,hib,rfl,hn,hr,rfl,rfl⟩
  simp only [ya.l0]
  apply jA
  simp [ya.r3]
  refine AX.seq (AX.pcond rfl (fun hd=>AX.skip ?_) (fun hd=>AX.exit ?_))
  · simp at hd
    have hd':i<t.length-σ.pos:=by omega
    have hBi:B[i]?=(t.drop σ.pos)[i]?:=by rw [hB,List.getElem?_take,if_pos (by omega)]
    obtain ⟨q,hq⟩:∃q,(t.drop σ.pos).drop i=B[i]::q:=by
      rw [List.getElem?_eq_getElem hd] at hBi
      have h1:i<(t.drop σ.pos).length:=by rw [List.length_drop];omega
      rw [List.getElem?_eq_getElem h1] at hBi
      injection hBi with hBi
      exact ⟨_,by rw [List.drop_eq_getElem_cons h1,hBi]⟩
    have hs:=rd_step (k:=i) (n:=n) hq
    rw [←hr] at hs
    have hbc:(bcl B)[i]?=some [.i .u8 B[i].toNat]:=by simp [bcl,hd]
    generalize B[i]=c at *
    have hc:=c.toNat_lt
    simp
    apply jC
    simp [ya.r4,hbc]
    obtain ⟨s1,s2⟩:=sh7 (d:=c.toNat % 128) (i:=i) (by omega) hi
    obtain ⟨a1,a2⟩:=u8_and c
    have hp4:=pow128 hi
    have hadd:=acc_lt c hn
    have hp5:128 ^ (i+1)≤34359738368:=by rw [Nat.pow_succ];omega
    have hor:bOr .i64 (n:Int) ((c.toNat % 128*128 ^ i:Nat):Int)=((n+c.toNat % 128*128 ^ i:Nat):Int):=by
      rw [yra (by omega) (by omega),or_add hn]
    have e0:Go.IntKind.i64.wrap ((c.toNat:Int) % 128)=(c.toNat:Int) % 128:=y2w (by omega) (by omega)
    rw [show ((c.toNat % 128:Nat):Int)=(c.toNat:Int) % 128 by omega] at s1 a1
    have s3:¬Go.IntKind.i64.wrap (7*(i:Int))<0:=by omega
    obtain ⟨N2,hN2⟩:∃N2,N2=n+c.toNat % 128*128 ^ i:=⟨_,rfl⟩
    rw [←hN2] at hs hadd hor
    generalize c.toNat % 128*128 ^ i=D at *
    refine AX.seq (AX.test (decide (i=4)&&decide (1<c.toNat)) [(5,.i .i64 (n:Nat)),(6,.i .i64 i),(7,.i .u8 c.toNat),(28,.fs (bcl B)),(29,.i .i64 B.length),(30,.i .i64 i),(40,.b (decide (i=4)&&decide (1<c.toNat)))] ?_ rfl (fun h1=>?_) (fun h1=>AX.skip ?_))
    · by_cases h4:i=4
      · simp [ya.r5,h4]
      · simp [ya.r5,h4]
    · simp at h1
      rw [if_pos h1] at hs
      apply jA
      simp [ya.r6]
      apply jD
      simp [hs]
    simp at h1
    rw [if_neg (fun h=>by have:=h1 h.1;omega)] at hs
    simp
    apply jA
    simp [ya.r7,a1,e0,s1,s3,hor]
    refine AX.pblock (jA ?_)
    simp [ya.r8]
    by_cases h2:128≤c.toNat
    · rw [if_pos h2] at hs
      refine jG (by simpa using a2.2 h2) (AX.skip ?_)
      simp
      apply jE
      simp [ya.r14,y7a (show i≤9223372036854775000 by omega)]
      refine ⟨B.length-(i+1),by omega,_,_,.refl _ _,i+1,N2,?_,by omega,rfl,hadd,hs,rfl,by simp⟩
      have:i≠4:=fun h=>by have:=h1 h;omega
      omega
    rw [if_neg h2] at hs
    refine jF (by simpa using fun h=>h2 (a2.1 h)) ?_
    refine AX.test (decide (c.toNat=0)&&decide (0<i)) [(5,.i .i64 (N2:Nat)),(6,.i .i64 i),(56,.b (decide (c.toNat=0)&&decide (0<i)))] ?_ rfl (fun h3=>?_) (fun h3=>?_)
    · by_cases h4:c.toNat=0
      · simp [ya.r9,h4]
      · simp [ya.r9,h4]
    · simp at h3
      rw [if_pos h3] at hs
      apply jA
      simp [ya.r10]
      apply jD
      simp [hs]
    simp at h3
    rw [if_neg (fun h=>by have:=h3 h.1;omega)] at hs
    apply jA
    simp [ya.r11]
    by_cases h5:268435456<N2
    · rw [if_pos h5] at hs
      refine jG (by simp [h5]) ?_
      apply jA
      simp [ya.r12]
      apply jD
      simp [hs]
    · rw [if_neg h5] at hs
      refine jF (by simp [h5]) ?_
      apply jA
      simp [ya.r13,y7a (show i≤9223372036854775000 by omega)]
      apply jD
      simp [hs]
  · simp at hd
    have hnil:(t.drop σ.pos).drop i=[]:=by rw [List.drop_drop];exact List.drop_of_length_le (by omega)
    rw [hnil] at hr
    simp
    apply jA
    simp [ya.r15]
    apply jD
    simp [hr,rdN]
def rdc (t:Str) (σ:Rd):List V:=[.s t,.i .i64 σ.pos,.i .i64 σ.e]
def y9u (rest:Nat→Nat) (t:Str) (σ:Rd):Nat × Str × Rd:=
  if σ.e≠0 then (0,[],σ) else if (rdL t σ).2.2≠0 then (0,[],{ σ with e:=(rdL t σ).2.2 })
  else if t.length<σ.pos+(rdL t σ).2.1+rest (rdL t σ).1 then (0,[],{ σ with e:=1 })
  else ((rdL t σ).1,(t.drop (σ.pos+(rdL t σ).2.1)).take (rest (rdL t σ).1),{ σ with pos:=σ.pos+(rdL t σ).2.1+rest (rdL t σ).1 })
section
variable {t:Str} {σ:Rd} {id:Nat} {H:Hp}
theorem yrk (rest:Nat→Nat) (f:Go.FuncId) (hrest:∀(n:Nat) X,AC Tryz.prog f [.i .i64 (n:Nat)] X (fun v X'=>v=.i .i64 (rest n:Nat)∧X'=X)) (hrl:∀n,rest n≤n) (ho:y6y t σ) (ht:t.length≤140737488351232) (hg:H.get id=some (.cells (rdc t σ) 3)):
    AC Tryz.prog y6m [.p (some (id,0,3)),.fn f []] H (fun v H'=>v=.tup [.i .i64 ((y9u rest t σ).1:Nat),.s (y9u rest t σ).2.1]∧H'=H.upd id (.cells (rdc t (y9u rest t σ).2.2) 3)):=by
  obtain ⟨hp,he0,he1,he6⟩:=ho
  have hL:=ye7 t σ hp
  have hlook:=Look_ok t σ id hp ht H (by omega) hg
  unfold rdc at hg
  refine AC.code yk.at yk.ok ?_
  simp only [yk]
  apply jA
  simp [yk.r0]
  apply jB
  simp [yk.r1,hg]
  by_cases he:σ.e=0
  · refine jF (by simp [he]) (AX.skip ?_)
    simp
    apply jA
    simp [yk.r3]
    refine AC.fix hlook ?_
    have hr:=hrl (rdL t σ).1
    have hT:y9u rest t σ=if (rdL t σ).2.2≠0 then (0,[],{ σ with e:=(rdL t σ).2.2 })
      else if t.length<σ.pos+(rdL t σ).2.1+rest (rdL t σ).1 then (0,[],{ σ with e:=1 })
      else ((rdL t σ).1,(t.drop (σ.pos+(rdL t σ).2.1)).take (rest (rdL t σ).1),{ σ with pos:=σ.pos+(rdL t σ).2.1+rest (rdL t σ).1 }):=by
      unfold y9u;rw [if_neg (by simp [he])]
    generalize (rdL t σ).1=n at *
    generalize (rdL t σ).2.1=k at *
    generalize (rdL t σ).2.2=e at *
    have hs1:Go.IntKind.i64.wrap (Go.IntKind.i64.wrap ((t.length:Int)-σ.pos)-k)=((t.length-σ.pos-k:Nat):Int):=by
      rw [y2w (n:=(t.length:Int)-σ.pos) (by omega) (by omega),y2w (by omega) (by omega)];omega
    simp
    refine AX.seq (AX.testD (decide (e=0)&&decide (t.length-σ.pos-k<rest n)) [(0,.p (some (id,0,3))),(1,.fn f []),(6,.i .i64 (n:Nat)),(7,.i .i64 (k:Nat)),(8,.i .i64 e),(40,.b (decide (e=0)&&decide (t.length-σ.pos-k<rest n)))] ?_ rfl (fun h1=>?_) (fun h1=>AX.skip ?_))
    · by_cases h1:e=0
      · simp [yk.r4,h1]
        refine y5q _ (fun H2=>hrest n H2) ?_
        simp [hg,hs1]
      · simp [yk.r4,h1]
    · simp at h1
      obtain ⟨rfl,h1⟩:=h1
      apply jE
      simp [yk.r5]
      apply jB
      simp [yk.r6]
      refine jG rfl ?_
      apply jA
      simp [yk.r7,hg]
      apply jA
      simp [yk.r8]
      apply jD
      have hT2:y9u rest t σ=(0,[],{ σ with e:=1 }):=by rw [hT,if_neg (show ¬((0:Int)≠0) by simp),if_pos (by omega)]
      simp [rdc,hT2]
    simp at h1
    simp
    apply jB
    simp [yk.r6]
    by_cases h2:e=0
    · subst h2
      have h3:=h1 rfl
      refine jF (by simp) (AX.skip ?_)
      have hpk:Go.IntKind.i64.wrap ((σ.pos:Int)+k)=((σ.pos+k:Nat):Int):=by rw [y2w (by omega) (by omega)];omega
      have hpr:Go.IntKind.i64.wrap (((σ.pos+k:Nat):Int)+(rest n:Nat))=((σ.pos+k+rest n:Nat):Int):=by rw [y2w (by omega) (by omega)];omega
      have hT2:=hT
      rw [if_neg (show ¬((0:Int)≠0) by simp),if_neg (by omega)] at hT2
      rw [hT2]
      obtain ⟨p,hp'⟩:∃p,p=σ.pos+k:=⟨_,rfl⟩
      rw [←hp'] at hpk hpr ⊢
      obtain ⟨p2,hp2⟩:∃p2,p2=p+rest n:=⟨_,rfl⟩
      rw [←hp2] at hpr ⊢
      have hsl:(t.take p2).drop p=(t.drop p).take (rest n):=by
        rw [hp2,List.take_add,List.drop_append_of_le_length (by simp;omega),List.drop_eq_nil_of_le (by simp;omega)];rfl
      simp
      apply jA
      simp [yk.r9,hg,hpk]
      apply jA
      simp [yk.r10]
      refine AC.fix (hrest n _) ?_
      simp [hpr,hg]
      refine AX.seq (AX.drw ?_)
      simp [yk.r11,show p≤p2∧p2≤t.length by omega,hsl]
      apply jD
      simp [rdc]
    · refine jG (by simp [h2]) ?_
      have hT2:y9u rest t σ=(0,[],{ σ with e:=e }):=by rw [hT,if_pos h2]
      rw [hT2]
      apply jA
      simp [yk.r7,hg]
      apply jA
      simp [yk.r8]
      apply jD
      simp [rdc]
  · refine jG (by simp [he]) ?_
    apply jA
    simp [yk.r2]
    apply jD
    have hT:y9u rest t σ=(0,[],σ):=by unfold y9u;rw [if_pos he]
    simp [hT,rdc]
    exact (Hp.upd_self hg).symm
end
end Go.Proofs.YthmkcebbeehbeaaGreatDoor
