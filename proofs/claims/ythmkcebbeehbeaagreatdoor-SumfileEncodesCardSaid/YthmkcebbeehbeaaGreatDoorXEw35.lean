/- Part 35 of the proof of the laws of the queries: PsM, KrW, KrW2, DecM, WkM. -/
import Derived.Test.YthmkcebbeehbeaaGreatDoorXEw17
import Derived.Test.YthmkcebbeehbeaaGreatDoorXEw18
import Derived.Test.YthmkcebbeehbeaaGreatDoorXEw30
import Derived.Test.YthmkcebbeehbeaaGreatDoorXEw33
import Derived.Test.YthmkcebbeehbeaaGreatDoorXEw34
set_option linter.unusedSimpArgs false
set_option linter.unusedVariables false
namespace Go.Proofs.YthmkcebbeehbeaaGreatDoor
open Am C
structure Gb (t:Str) (σ σ':Rd) (bs:Str):Prop where
  e:σ.e=0
  le:σ.pos≤σ'.pos
  hi:σ'.pos≤t.length
  bytes:t.drop σ.pos=bs++t.drop σ'.pos
theorem Gb.trans {t:Str} {a b c:Rd} {x y:Str} (h:Gb t a b x) (k:Gb t b c y):Gb t a c (x++y):=⟨h.e,Nat.le_trans h.le k.le,k.hi,by rw [h.bytes,k.bytes,List.append_assoc]⟩
section
variable {t:Str} {σ:Rd}
theorem ytv (ho:y8u t σ) (he:(y4m t σ).2.e=0):Gb t σ (y4m t σ).2 (y7w (y4m t σ).1):=by
  have g:=ye5 (pool:=[]) ho he
  refine ⟨g.e,g.le,g.hi,?_⟩
  have:=g.bytes
  simpa [y5t,yna] using this
theorem txt_gb (ho:y8u t σ) (he:(y9c t σ).2.e=0):Gb t σ (y9c t σ).2 (y7w (y9c t σ).1.length++(y9c t σ).1)∧(y9c t σ).1.length≤268435456:=by
  have hb:=yhk t σ ho.1
  have hn:=ytv (t:=t) (σ:=σ) ho
  unfold y4m at hn
  unfold y9c at he ⊢
  by_cases h1:σ.e=0
  · rw [if_neg (by simp [h1])] at he hn ⊢
    by_cases h2:(rdL t σ).2.2=0
    · rw [if_neg (by simp [h2])] at he hn ⊢
      have hn:=hn h1
      by_cases h3:t.length<σ.pos+(rdL t σ).2.1+(rdL t σ).1
      · rw [if_pos h3] at he;simp at he
      rw [if_neg h3] at he ⊢
      generalize (rdL t σ).2.1=w at *
      generalize (rdL t σ).1=n at *
      have hl:(List.take n (t.drop (σ.pos+w))).length=n:=by simp;omega
      refine ⟨⟨h1,by simp;omega,by simp;omega,?_⟩,by simp only;rw [hl];exact hb.1⟩
      have:=hn.bytes
      simp only at this ⊢
      rw [hl,this,List.append_assoc,←List.drop_drop (i:=n),List.take_append_drop]
    · rw [if_pos h2] at he;exact (h2 he).elim
  · rw [if_pos h1] at he;exact (h1 he).elim
theorem ysy {x:Str} {rest:Str} (he:σ.e=0) (hx:x.length≤268435456) (h:t.drop σ.pos=y7w x.length++(x++rest)):y9c t σ=(x,yd8 σ (y7w x.length++x)):=by
  have hn:=yhj he hx h
  have hL:=yq1 x.length 0 0 (x++rest) (by omega) (fun h=>by omega) (by simpa using hx)
  rw [←h] at hL
  simp at hL
  have hL':rdL t σ=(x.length,(y7w x.length).length,0):=hL
  have hlen:t.length-σ.pos=(y7w x.length).length+(x.length+rest.length):=by have:=congrArg List.length h;simpa using this
  have hv:=List.length_pos_iff.2 (yo2 x.length)
  unfold y9c
  rw [if_neg (by simp [he]),hL',if_neg (by simp),if_neg (by simp only;omega)]
  simp only [yd8,List.length_append]
  have:t.drop (σ.pos+(y7w x.length).length)=x++rest:=by rw [←List.drop_drop,h];simp
  rw [this]
  simp [Nat.add_assoc]
theorem next_got {last:Str} {k:Nat} {rest:Str} {first:Bool} (h:(ycs last k rest first).2=0):∃s,ycs last k rest first=(s,0)∧s.length≤1000∧shN last s=k∧s.length-k=rest.length∧k≤s.length∧s.drop k=rest∧(first=false→ltB last s=true):=by
  unfold ycs at h ⊢
  by_cases h1:last.length<k
  · rw [if_pos h1] at h;simp at h
  rw [if_neg h1] at h ⊢
  by_cases h2:1000<(last.take k++rest).length
  · rw [if_pos h2] at h;simp at h
  rw [if_neg h2] at h ⊢
  by_cases h3:first=false∧(ltB (last.take k++rest) last||(last.take k++rest == last))=true
  · rw [if_pos h3] at h;simp at h
  rw [if_neg h3] at h ⊢
  by_cases h4:shN last (last.take k++rest)≠k
  · rw [if_pos h4] at h;simp at h
  rw [if_neg h4]
  have hk:(last.take k).length=k:=by rw [List.length_take];omega
  refine ⟨_,rfl,by omega,by simpa using h4,by rw [List.length_append,hk];omega,by rw [List.length_append,hk];omega,?_,fun hf=>?_⟩
  · have:=List.drop_left (l₁:=last.take k) (l₂:=rest)
    rw [hk] at this;exact this
  · rcases yon last (last.take k++rest) with q | q | q
    · exact q
    · exact (h3 ⟨hf,by simp [←q]⟩).elim
    · exact (h3 ⟨hf,by simp [q]⟩).elim
theorem next_ful {last s:Str} {first:Bool} (hs:s.length≤1000) (hf:first=false→ltB last s=true):ycs last (shN last s) (s.drop (shN last s)) first=(s,0):=by
  have h1:=yk9 last s
  have h2:=yps last s
  have e:last.take (shN last s)++s.drop (shN last s)=s:=by rw [h2,List.take_append_drop]
  unfold ycs
  rw [if_neg (by omega),e,if_neg (by omega),if_neg,if_neg (by simp)]
  rintro ⟨h3,h4⟩
  have h5:=hf h3
  have h6:=yif h5
  rw [h6] at h4
  simp at h4
  rw [h4] at h5
  exact yai _ h5
theorem yke:∀(n:Nat) {first:Bool} {last:Str} {acc:List Str} {σ:Rd},σ.e≠0→y9x t n first last acc σ=(acc,σ)
  | 0,_,_,_,_,_=>rfl
  | n+1,_,_,_,_,h=>by simp only [y9x];rw [if_pos h]
theorem yq2 {σ:Rd} {x:Int} (h:(y77 σ x).e=0):σ.e=0∧x=0∧y77 σ x=σ:=by
  unfold y77 at *
  by_cases h1:σ.e=0
  · rw [if_pos h1] at h ⊢
    simp at h
    refine ⟨h1,h,?_⟩
    cases σ;simp_all
  · rw [if_neg h1] at h;exact (h1 h).elim
theorem yq4:∀(n:Nat) {first:Bool} {last:Str} {acc:List Str} {σ:Rd},y8u t σ→(y9x t n first last acc σ).2.e=0→
    ∃l,(y9x t n first last acc σ).1=acc++l∧l.length=n∧Gb t σ (y9x t n first last acc σ).2 (ydn last l)∧(∀s∈l,s.length≤1000)∧y4g (if first then l else last::l)∧y8u t (y9x t n first last acc σ).2
  | 0,first,last,acc,σ,ho,he=>⟨[],by simp [y9x],rfl,by simpa [y9x,ydn] using ⟨he,Nat.le_refl _,ho.1,by simp⟩,by simp,by cases first <;> simp [y4g],by simpa [y9x] using ho⟩
  | n+1,first,last,acc,σ,ho,he=>by
    simp only [y9x] at he ⊢
    by_cases h1:σ.e=0
    · rw [if_neg (by simp [h1])] at he ⊢
      have g1:=ytv (t:=t) (σ:=σ) ho
      have o1:=(y6x ho).1
      generalize y4m t σ=k at *
      have g2:=txt_gb (t:=t) (σ:=k.2) o1
      have o2:=(yl8 o1).1
      generalize y9c t k.2=r at *
      by_cases h2:r.2.e=0
      · rw [if_neg (by simp [h2])] at he ⊢
        obtain ⟨g2,g2l⟩:=g2 h2
        have g1:=g1 g2.e
        by_cases h3:(y77 r.2 (ycs last k.1 r.1 first).2).e=0
        · obtain ⟨_,h4,h5⟩:=yq2 h3
          obtain ⟨s,q0,q1,q2,q3,q4,q5,q6⟩:=next_got h4
          rw [h5,q0] at he ⊢
          obtain ⟨l,p1,p2,p3,p4,p5,p6⟩:=yq4 n o2 he
          refine ⟨s::l,by rw [p1];simp,by simp [p2],?_,fun x hx=>(List.mem_cons.1 hx).elim (fun h=>h▸q1) (p4 x),?_,p6⟩
          · have:=g1.trans (g2.trans p3)
            simp only [ydn,q2,q3,q5]
            simpa [List.append_assoc] using this
          · simp at p5
            cases first with
            | true=>simpa using p5
            | false=>
              simp only [Bool.false_eq_true,if_false,y4g,List.pairwise_cons] at p5 ⊢
              refine ⟨fun x hx=>?_,p5⟩
              have h6:=q6 rfl
              rcases List.mem_cons.1 hx with rfl | hx
              · exact h6
              · exact yfa h6 (p5.1 x hx)
        · rw [yke n h3] at he
          exact (h3 he).elim
      · rw [if_pos h2] at he;exact (h2 he).elim
    · rw [if_pos h1] at he;exact (h1 he).elim
theorem yq5:∀(l:List Str) {first:Bool} {last:Str} {acc:List Str} {σ:Rd} {rest:Str},(∀s∈l,s.length≤1000)→y4g (if first then l else last::l)→σ.e=0→t.drop σ.pos=ydn last l++rest→
    y9x t l.length first last acc σ=(acc++l,yd8 σ (ydn last l))
  | [],first,last,acc,σ,rest,_,_,_,_=>by simp [y9x,yd8,ydn]
  | s::l,first,last,acc,σ,rest,hs,hr,he,hd=>by
    have hsl:=hs s (by simp)
    have hsh:=yk9 last s
    simp only [ydn,List.append_assoc] at hd
    have n1:=yge he (by omega) hd
    have d1:=y7b hd
    have hdl:(s.drop (shN last s)).length=s.length-shN last s:=by simp
    rw [←hdl] at d1
    have n2:=ysy (t:=t) (σ:=yd8 σ (y7w (shN last s))) he (by omega) d1
    rw [←List.append_assoc] at d1
    have d2:=y7b d1
    have hlt:first=false→ltB last s=true:=fun hf=>by
      subst hf
      simp only [Bool.false_eq_true,if_false,y4g,List.pairwise_cons] at hr
      exact hr.1 s (by simp)
    have hr2:y4g (s::l):=by
      cases first with
      | true=>simpa using hr
      | false=>
        simp only [Bool.false_eq_true,if_false,y4g,List.pairwise_cons] at hr
        simp only [y4g,List.pairwise_cons]
        exact hr.2
    simp only [List.length_cons,y9x]
    rw [if_neg (by simp [he]),n1]
    simp only
    rw [n2]
    simp only
    rw [if_neg (by simp [he,yd8]),next_ful hsl hlt]
    simp only
    have hf0:y77 (yd8 (yd8 σ (y7w (shN last s))) (y7w (s.drop (shN last s)).length++s.drop (shN last s))) 0=yd8 (yd8 σ (y7w (shN last s))) (y7w (s.drop (shN last s)).length++s.drop (shN last s)):=by
      unfold y77
      split
      · rename_i h;simp [yd8,he]
      · rfl
    rw [hf0,yq5 l (first:=false) (last:=s) (σ:=yd8 (yd8 σ (y7w (shN last s))) (y7w (s.drop (shN last s)).length++s.drop (shN last s))) (fun x hx=>hs x (by simp [hx])) (by simpa using hr2) he d2]
    simp [ydn,y7h]
theorem ytm (ho:y8u t σ) (he:(y8t t σ).2.e=0):Gb t σ (y8t t σ).2 (yc7 (y8t t σ).1)∧y4g (y8t t σ).1∧(∀s∈(y8t t σ).1,s.length≤1000)∧(y8t t σ).1.length≤6000∧y8u t (y8t t σ).2:=by
  have g1:=ytv (t:=t) (σ:=σ) ho
  have o1:=(y6x ho).1
  unfold y8t at he ⊢
  generalize y4m t σ=n at *
  by_cases h6:6000<n.1
  · simp only [if_pos h6] at he
    have:(y77 n.2 4).e≠0:=fun h=>by have:=(yq2 h).2.1;omega
    rw [yke _ this] at he
    exact (this he).elim
  · simp only [if_neg h6] at he ⊢
    obtain ⟨l,p1,p2,p3,p4,p5,p6⟩:=yq4 n.1 o1 he
    simp at p1 p5
    rw [p1]
    refine ⟨?_,p5,p4,by omega,p6⟩
    have:=(g1 p3.e).trans p3
    rw [←p2] at this
    simpa [yc7,p2] using this
theorem ytn {l:List Str} {rest:Str} (hl:l.length≤6000) (hs:∀s∈l,s.length≤1000) (hr:y4g l) (he:σ.e=0) (hd:t.drop σ.pos=yc7 l++rest):y8t t σ=(l,yd8 σ (yc7 l)):=by
  simp only [yc7,List.append_assoc] at hd
  have n1:=yge he (by omega) hd
  unfold y8t
  rw [n1]
  simp only
  rw [if_neg (by omega),yq5 l (σ:=yd8 σ (y7w l.length)) hs (by simpa using hr) he (y7b hd)]
  simp [yc7,y7h]
end
theorem yi4 (id:Nat) (v:Nat) (m:Nat) (hm:m≤1) (H:Hp) (hv:v<16777216) (hg:H.get id=some (.cells [.i .u32 ((v ^^^ 11994318:Nat):Int)] m)):
    AC Tryz.prog yb1 [.p (some (id,0,1))] H (fun r H'=>r=.i .u32 v∧H'=H):=by
  refine AC.code y5i.at y5i.ok ?_
  refine AX.of _ ?_
  have h1:v ^^^ 11994318<16777216:=Nat.xor_lt_two_pow (n:=24) hv (by decide)
  have h2:=yfw (a:=v ^^^ 11994318) (b:=11994318) (by omega) (by omega)
  rw [Nat.xor_assoc,Nat.xor_self,Nat.xor_zero] at h2
  simp [y5i,y5i.r0,y5i.r1,hg,hm]
  exact h2
theorem ync (id:Nat) (v:Nat) (m:Nat) (hm:m≤1) (H:Hp) (hv:v<16777216) (bs:List UInt8) (hb:bs.length≤140737488351232) (hg:H.get id=some (.cells [.i .u32 ((v ^^^ 11994318:Nat):Int)] m)):
    AC Tryz.prog yd0 [.p (some (id,0,1)),.s bs] H (fun r H'=>r=.tup []∧H'=H.upd id (.cells [.i .u32 ((yfz v bs ^^^ 11994318:Nat):Int)] 1)):=by
  refine AC.code y1a.at y1a.ok ?_
  simp only [y1a]
  apply jA
  simp [y1a.r0]
  refine AC.fix (yi4 id v m hm H hv hg) ?_
  apply jB
  simp [y1a.r1]
  refine AX.pblock (AX.loop (fun k F H'=>∃i:Nat,i≤bs.length∧k=bs.length-i∧H'=H∧
    F=[(0,.p (some (id,0,1))),(1,.s bs),(4,.i .u32 (yfz v (bs.take i))),(9,.i .i64 bs.length),(10,.i .i64 i)]) bs.length ⟨_,_,.refl _ _,0,by omega,by omega,rfl,by simp [yfz]⟩ ?_)
  rintro k F H' ⟨i,hi,rfl,rfl,rfl⟩
  have hw:=ylp (bs.take i) hv
  simp only [y1a.l0]
  apply jA
  simp [y1a.r2]
  refine AX.seq (AX.pcond rfl (fun hlt=>AX.skip ?_) (fun hge=>AX.exit ?_))
  · simp at hlt
    simp
    apply jC
    simp [y1a.r3]
    apply jA
    have hb1:=bs[i].toNat_lt
    have e1:IntKind.u32.wrap ((bs[i].toNat:Int))=((bs[i].toNat:Nat):Int):=yda (by omega) (by omega)
    have e2:IntKind.u32.wrap ((bs[i].toNat:Int)*65536)=((bs[i].toNat*65536:Nat):Int):=by rw [yda (by omega) (by omega)];simp
    have e3:=yfw (a:=yfz v (bs.take i)) (b:=bs[i].toNat*65536) (by omega) (by omega)
    simp at e3
    simp [y1a.r4,hlt,e1,e2,e3]
    have hx:=yp4 hw bs[i]
    apply jA
    simp [y1a.r5]
    refine AX.pblock (AX.loop (fun k F H''=>∃j:Nat,j≤8∧k=8-j∧H''=H'∧
      F=[(0,.p (some (id,0,1))),(1,.s bs),(4,.i .u32 (yqk j (yfz v (bs.take i) ^^^ bs[i].toNat*65536))),(9,.i .i64 bs.length),(10,.i .i64 i),(20,.i .i64 j)]) 8 ⟨_,_,.refl _ _,0,by omega,by omega,rfl,by simp [yqk]⟩ ?_)
    rintro k F H'' ⟨j,hj,rfl,rfl,rfl⟩
    have hn:=ylo j hx
    simp only [y1a.l1]
    apply jA
    simp [y1a.r6]
    refine AX.seq (AX.pcond rfl (fun hlt=>AX.skip ?_) (fun hge=>AX.exit ?_))
    · simp at hlt
      simp
      apply jC
      generalize hu:yqk j (yfz v (bs.take i) ^^^ bs[i].toNat*65536)=u at *
      have e4:IntKind.u32.wrap ((u:Int)*2)=((u*2:Nat):Int):=by rw [yda (by omega) (by omega)];simp
      have e5:=yqp (a:=u*2) (b:=16777216) (by omega) (by omega)
      have e6:=yfw (a:=u*2) (b:=25578747) (by omega) (by omega)
      simp at e5 e6
      simp [y1a.r7,e4]
      apply jA
      simp [y1a.r8,e5]
      have e7:IntKind.i64.wrap ((j:Int)+1)=((j+1:Nat):Int):=by rw [y3i (by omega) (by omega)];simp
      have hnext:yqk (j+1) (yfz v (bs.take i) ^^^ bs[i].toNat*65536)=crc1 u:=by rw [ynd,hu]
      refine AX.pcond rfl (fun hbit=>AX.reg ?_) (fun hbit=>AX.skip ?_)
      · simp at hbit
        have hbit':u*2 &&& 16777216≠0:=hbit
        simp [y1a.r9,e6]
        apply jE
        simp [y1a.r10,e7]
        exact ⟨8-(j+1),by omega,_,_,.refl _ _,j+1,by omega,rfl,rfl,by simp [hnext,crc1,hbit']⟩
      · simp at hbit
        simp
        apply jE
        simp [y1a.r10,e7]
        exact ⟨8-(j+1),by omega,_,_,.refl _ _,j+1,by omega,rfl,rfl,by simp [hnext,crc1,hbit]⟩
    · simp at hge
      have hj8:j=8:=by omega
      subst hj8
      simp
      apply jE
      have e8:IntKind.i64.wrap ((i:Int)+1)=((i+1:Nat):Int):=by rw [y3i (by omega) (by omega)];simp
      simp [y1a.r11,e8]
      exact ⟨bs.length-(i+1),by omega,_,_,.refl _ _,i+1,by omega,rfl,rfl,by simp [yne v bs i hlt,crcB]⟩
  · simp at hge
    have hi':i=bs.length:=by omega
    subst hi'
    simp
    apply jE
    have e3:=yfw (a:=yfz v bs) (b:=11994318) (by rw [List.take_length] at hw;omega) (by omega)
    simp at e3
    simp [y1a.r12,hg,e3,Am.Ends]
theorem yv0 (bs:List UInt8) (hb:bs.length≤140737488351232) (H:Hp):AC Tryz.prog yle [.s bs] H (fun r H'=>r=.i .u32 (yfz 11994318 bs)∧H'=H):=by
  refine AC.codeC y6p.at y6p.ok (by simp) fun hl=>?_
  simp only [y6p]
  apply jA
  simp [y6p.r0]
  apply jA
  simp [y6p.r1]
  apply jA
  simp [y6p.r2]
  refine AC.fix (ync H.next 11994318 1 (by omega) _ (by omega) bs hb (by simp)) ?_
  apply jA
  simp [y6p.r3]
  refine AC.fix (yi4 H.next (yfz 11994318 bs) 1 (by omega) _ (ylp bs (by omega)) (by simp)) ?_
  try simp
  apply jD
  simp
  intro id blk hg
  have:=hl id blk hg
  simp [show id≠H.next by omega,hg]
theorem ytb (bs:List UInt8) (hb:bs.length≤140737488351232) (H:Hp):AC Tryz.prog ydq [.s bs] H (fun r H'=>r=.i .u32 (yfz 11994318 bs)∧H'=H):=by
  refine AC.code y1k.at y1k.ok ?_
  simp only [y1k]
  apply jA
  simp [y1k.r0]
  apply jA
  simp [y1k.r1]
  apply jB
  simp [y1k.r2]
  refine AX.pblock (AX.loop (fun k F H'=>∃i:Nat,i≤bs.length∧k=bs.length-i∧H=H'∧
    F=[(0,.s bs),(3,.i .u32 (yfz 11994318 (bs.take i))),(4,.i .i64 i)]) bs.length ⟨_,_,.refl _ _,0,by omega,by omega,rfl,by simp [yfz]⟩ ?_)
  rintro k F H' ⟨i,hi,rfl,rfl,rfl⟩
  have hw:=ylp (bs.take i) (v:=11994318) (by omega)
  simp only [y1k.l0]
  apply jB
  simp [y1k.r3]
  refine AX.pcond rfl (fun hlt=>AX.skip ?_) (fun hge=>AX.exit ?_)
  · simp at hlt
    simp
    apply jC
    have hb1:=bs[i].toNat_lt
    have e1:IntKind.u32.wrap ((bs[i].toNat:Int))=((bs[i].toNat:Nat):Int):=yda (by omega) (by omega)
    have e2:IntKind.u32.wrap ((bs[i].toNat:Int)*65536)=((bs[i].toNat*65536:Nat):Int):=by rw [yda (by omega) (by omega)];simp
    have e3:=yfw (a:=yfz 11994318 (bs.take i)) (b:=bs[i].toNat*65536) (by omega) (by omega)
    simp at e3
    simp [y1k.r4,hlt,e1,e2,e3]
    have hx:=yp4 hw bs[i]
    apply jA
    simp [y1k.r5]
    refine AX.pblock (AX.loop (fun k F H''=>∃j:Nat,j≤8∧k=8-j∧H=H''∧
      F=[(0,.s bs),(3,.i .u32 (yqk j (yfz 11994318 (bs.take i) ^^^ bs[i].toNat*65536))),(4,.i .i64 i),(5,.i .i64 j)]) 8 ⟨_,_,.refl _ _,0,by omega,by omega,rfl,by simp [yqk]⟩ ?_)
    rintro k F H'' ⟨j,hj,rfl,rfl,rfl⟩
    have hn:=ylo j hx
    simp only [y1k.l1]
    apply jB
    simp [y1k.r6]
    refine AX.pcond rfl (fun hlt=>AX.skip ?_) (fun hge=>AX.exit ?_)
    · simp at hlt
      simp
      apply jC
      generalize hu:yqk j (yfz 11994318 (bs.take i) ^^^ bs[i].toNat*65536)=u at *
      have e4:IntKind.u32.wrap ((u:Int)*2)=((u*2:Nat):Int):=by rw [yda (by omega) (by omega)];simp
      have e5:=yqp (a:=u*2 / 16777216) (b:=1) (by omega) (by omega)
      have e6:=yfw (a:=u*2) (b:=25578747) (by omega) (by omega)
      have e9:((u:Int)*2).fdiv 16777216=((u*2 / 16777216:Nat):Int):=by
        rw [Int.fdiv_eq_ediv_of_nonneg _ (by omega)];simp
      simp at e5 e6 e9
      simp [y1k.r7,e4]
      apply jA
      simp [y1k.r8,e9,e5]
      have e7:IntKind.i64.wrap ((j:Int)+1)=((j+1:Nat):Int):=by rw [y3i (by omega) (by omega)];simp
      have hnext:yqk (j+1) (yfz 11994318 (bs.take i) ^^^ bs[i].toNat*65536)=crc1 u:=by rw [ynd,hu]
      have hbit:(u*2 &&& 16777216≠0)↔u*2 / 16777216=1:=by
        rw [yp9,yg7]
        simp;omega
      refine AX.pcond rfl (fun hb2=>AX.reg ?_) (fun hb2=>AX.skip ?_)
      · simp at hb2
        have hbit':u*2 &&& 16777216≠0:=hbit.2 (by omega)
        simp [y1k.r9,e6]
        apply jE
        simp [y1k.r10,e7]
        exact ⟨8-(j+1),by omega,_,_,.refl _ _,j+1,by omega,rfl,rfl,by simp [hnext,crc1,hbit']⟩
      · simp at hb2
        have hbit':¬(u*2 &&& 16777216≠0):=fun h=>by have:=hbit.1 h;omega
        simp
        apply jE
        simp [y1k.r10,e7]
        exact ⟨8-(j+1),by omega,_,_,.refl _ _,j+1,by omega,rfl,rfl,by simp [hnext,crc1,hbit']⟩
    · simp at hge
      have hj8:j=8:=by omega
      subst hj8
      simp
      apply jE
      have e8:IntKind.i64.wrap ((i:Int)+1)=((i+1:Nat):Int):=by rw [y3i (by omega) (by omega)];simp
      simp [y1k.r11,e8]
      exact ⟨bs.length-(i+1),by omega,_,_,.refl _ _,i+1,by omega,rfl,rfl,by simp [yne 11994318 bs i hlt,crcB]⟩
  · simp at hge
    have hi':i=bs.length:=by omega
    subst hi'
    simp
    apply jA
    simp [y1k.r12]
    apply jD
    simp
theorem yjh (bs:List UInt8) (hb:bs.length≤140737488351232) (H:Hp):AC Tryz.prog yfr [.s bs] H (fun r H'=>r=.s (bs++yr4 (yfz 11994318 bs))∧H'=H):=by
  refine AC.codeC y69.at y69.ok (by simp) fun hl=>?_
  simp only [y69]
  apply jA
  simp [y69.r0]
  apply jA
  simp [y69.r1]
  refine AC.fix (yv0 bs hb H) ?_
  try simp
  apply jA
  have e1:=ym6 (yfz 11994318 bs) 65536
  have e2:=ym6 (yfz 11994318 bs) 256
  have e3:=u8_all (yfz 11994318 bs)
  simp at e1 e2 e3
  simp [y69.r2,ydc,e1,e2,e3,yr4,show bs.length+3≤9223372036854775807 by omega]
  apply jD
  simp [yr4]
  intro id blk hg
  have:=hl id blk hg
  simp [show id≠H.next by omega,hg]
theorem yob (bs:List UInt8) (hb:bs.length≤140737488351232) (H:Hp):AC Tryz.prog ycb [.s bs] H (fun r H'=>r=.s (bs++yr4 (yfz 11994318 bs))∧H'=H):=by
  refine AC.codeC y4d.at y4d.ok (by simp) fun hl=>?_
  simp only [y4d]
  apply jA
  simp [y4d.r0]
  apply jA
  simp [y4d.r1]
  refine AC.fix (ytb bs hb H) ?_
  try simp
  apply jA
  have e1:=ym6 (yfz 11994318 bs) 65536
  have e2:=ym6 (yfz 11994318 bs) 256
  have e3:=u8_all (yfz 11994318 bs)
  simp at e1 e2 e3
  simp [y4d.r2,ydc,e1,e2,e3,yr4,show bs.length+3≤9223372036854775807 by omega]
  apply jD
  simp [yr4]
  intro id blk hg
  have:=hl id blk hg
  simp [show id≠H.next by omega,hg]
def yl4 (bs:List UInt8):List UInt8:=bs++yr4 (yfz 11994318 bs)
@[simp] theorem ymf (bs:List UInt8):(yl4 bs).length=bs.length+3:=by simp [yl4,yr4]
def yfx (bs:List UInt8):List UInt8 × Bool:=
  if bs.length<3 then ([],false) else if yl4 (bs.take (bs.length-3))=bs then (bs.take (bs.length-3),true) else ([],false)
theorem yov (bs:List UInt8) (hb:bs.length≤140737488351232) (H:Hp):AC Tryz.prog yho [.s bs] H (fun r H'=>r=.tup [.s (yfx bs).1,.b (yfx bs).2]∧H'=H):=by
  refine AC.code y4e.at y4e.ok ?_
  simp only [y4e]
  apply jA
  simp [y4e.r0]
  apply jB
  simp [y4e.r1]
  refine AX.pcond rfl (fun hlt=>jA ?_) (fun hge=>AX.skip ?_)
  · simp at hlt
    simp [y4e.r2]
    apply jD
    simp [yfx,hlt]
  · simp at hge
    simp
    apply jA
    have e1:IntKind.i64.wrap ((bs.length:Int)-3)=((bs.length-3:Nat):Int):=by rw [y3i (by omega) (by omega)];omega
    simp [y4e.r3,e1]
    apply jB
    simp [y4e.r4]
    refine AC.fix (yjh (bs.take (bs.length-3)) (by simp;omega) H) ?_
    simp
    refine AX.pcond rfl (fun hne=>jA ?_) (fun heq=>AX.skip ?_)
    · simp at hne
      simp [y4e.r5]
      apply jD
      simp [yfx,yl4,hne]
    · simp at heq
      simp
      apply jA
      simp [y4e.r6]
      apply jD
      simp [yfx,yl4,heq,show ¬bs.length<3 by omega]
def decR (l:List Str) (x:Str):Su × Int:=
  if (yc6 l x).2≠0 then (su0,(yc6 l x).2) else if suE (yc6 l x).1≠0 then (su0,suE (yc6 l x).1) else if y3r (yc6 l x).1≠l then (su0,3) else ((yc6 l x).1,0)
def yex (u:Str):Rd:=if (y4m u ⟨0,0⟩).1≠1 then y77 (y4m u ⟨0,0⟩).2 5 else (y4m u ⟨0,0⟩).2
def decX (u:Str) (l:List Str × Rd):Su × Int:=
  if l.2.e≠0 then (su0,l.2.e) else if y97 u (y9c u l.2).2≠0 then (su0,y97 u (y9c u l.2).2) else decR l.1 (y9c u l.2).1
def decU (u:Str):Su × Int:=if (yex u).e≠0 then (su0,(yex u).e) else decX u (y8t u (yex u))
def decT (t:Str):Su × Int:=if t.take 4≠y8p then (su0,5) else decU (t.drop 4)
def ys6 (b:Str):Su × Int:=if 200000<b.length then (su0,9) else if (yfx b).2=false then (su0,14) else decT (yfx b).1
theorem rdVer_ok (u:Str):y8u u (yex u):=by
  have h:=(y6x (t:=u) (σ:=⟨0,0⟩) ⟨by simp,by simp,by simp,by simp⟩).1
  unfold yex
  split
  · exact yf5 h (by omega) (by omega) (by omega)
  · exact h
theorem yrb (x:Str):yfx (yi6 x)=(x,true):=by
  have e:yi6 x=yl4 x:=rfl
  unfold yfx
  rw [e,if_neg (by simp),ymf,show x.length+3-3=x.length by omega]
  have:(yl4 x).take x.length=x:=by simp [yl4]
  rw [this,if_pos rfl]
theorem ytu {b:Str} (h:(yfx b).2=true):b=yi6 (yfx b).1∧(yfx b).1.length≤b.length:=by
  unfold yfx at *
  by_cases h1:b.length<3
  · rw [if_pos h1] at h;simp at h
  rw [if_neg h1] at h ⊢
  by_cases h2:yl4 (b.take (b.length-3))=b
  · rw [if_pos h2];exact ⟨h2.symm,by simp⟩
  · rw [if_neg h2] at h;simp at h
theorem su_size {s:Su} {k:Nat} (hk:k≤140737488355328) (hb:(evS s).length≤1000000) (h:∀t,Ev.txt t∈evS s→t.length≤k):suF s:=by
  have hsz:(evS s).length=1+((evL evW s.gives).length+((evL evW s.wants).length+((evL evW s.keeps).length+((evL evO s.sys.objs).length+((evL evF s.sys.fns).length+(evL evC s.sys.cons).length))))):=by simp [evS];omega
  have lw:∀l:List Str,l.length≤(evL evW l).length:=fun l=>ydx evW l (fun x=>by simp [evW])
  have lo:=ydx evO s.sys.objs (fun x=>by simp [evO])
  have lf:=ydx evF s.sys.fns (fun x=>by simp [evF])
  have lc:=ydx evC s.sys.cons (fun x=>by simp [evC])
  have w1:=lw s.gives
  have w2:=lw s.wants
  have w3:=lw s.keeps
  have hn:Ev.txt s.name∈evS s:=by simp [evS]
  have hin:∀{α:Type} (f:α→List Ev) (l:List α) (a:α) (t:Str),a∈l→Ev.txt t∈f a→Ev.txt t∈evL f l:=fun f l a t ha ht=>by simp only [evL,List.mem_cons,List.mem_flatMap];exact .inr ⟨a,ha,ht⟩
  have hkp:∀t∈s.keeps,Ev.txt t∈evS s:=fun t ht=>by
    have:=hin evW s.keeps t t ht (by simp [evW])
    simp only [evS,List.mem_cons,List.mem_append];exact .inr (.inr (.inr (.inl this)))
  have ho:∀o∈s.sys.objs,∀t,Ev.txt t∈evO o→Ev.txt t∈evS s:=fun o ho t ht=>by
    have:=hin evO s.sys.objs o t ho ht
    simp only [evS,List.mem_cons,List.mem_append];exact .inr (.inr (.inr (.inr (.inl this))))
  have hf:∀f∈s.sys.fns,∀t,Ev.txt t∈evF f→Ev.txt t∈evS s:=fun f hf t ht=>by
    have:=hin evF s.sys.fns f t hf ht
    simp only [evS,List.mem_cons,List.mem_append];exact .inr (.inr (.inr (.inr (.inr (.inl this)))))
  have hc:∀c∈s.sys.cons,∀t,Ev.txt t∈evC c→Ev.txt t∈evS s:=fun c hc t ht=>by
    have:=hin evC s.sys.cons c t hc ht
    simp only [evS,List.mem_cons,List.mem_append];exact .inr (.inr (.inr (.inr (.inr (.inr this)))))
  refine ⟨⟨Nat.le_trans (h _ hn) hk,by omega,by omega,by omega,fun t ht=>Nat.le_trans (h _ (hkp t ht)) hk,by omega,by omega,by omega,fun o hom=>?_,fun f hfm=>?_,fun c hcm=>?_⟩,hb⟩
  · have hol:=ylf (f:=evO) hom
    have hm1:=ydx evM o.marks (fun x=>by simp [evM])
    have hm2:(evL evM o.marks).length≤(evO o).length:=by simp [evO];omega
    have q:=fun t ht=>h t (ho o hom t ht)
    refine ⟨Nat.le_trans (q _ (by simp [evO])) hk,Nat.le_trans (q _ (by simp [evO])) hk,by omega,fun m hm=>Nat.le_trans (q _ ?_) hk⟩
    have:=hin evM o.marks m m.tag hm (by simp [evM])
    simp only [evO,List.mem_cons];exact .inr (.inr this)
  · have q:=fun t ht=>h t (hf f hfm t ht)
    exact ⟨Nat.le_trans (q _ (by simp [evF])) hk,Nat.le_trans (q _ (by simp [evF])) hk⟩
  · have hcl:=ylf (f:=evC) hcm
    have ha1:=lw c.args
    have ha2:(evL evW c.args).length≤(evC c).length:=by simp [evC];omega
    have q:=fun t ht=>h t (hc c hcm t ht)
    refine ⟨Nat.le_trans (q _ (by simp [evC])) hk,Nat.le_trans (q _ (by simp [evC])) hk,Nat.le_trans (q _ (by simp [evC])) hk,by omega,fun a ha=>Nat.le_trans (q _ ?_) hk⟩
    have:=hin evW c.args a a ha (by simp [evW])
    simp only [evC,List.mem_cons];exact .inr (.inr (.inr (.inr (.inr this))))
theorem ytc {l:List Str} {x:Str} (hr:y4g l) (h:(yc6 l x).2=0):x=y5t l (evS (yc6 l x).1)∧(∀e∈evS (yc6 l x).1,ys5 l e):=by
  obtain ⟨o,g⟩:=sum_got (t:=x) (σ:=⟨0,0⟩) hr ⟨by simp,by simp,by simp,by simp⟩
  unfold yc6 at *
  by_cases h1:y97 x (ygv l x ⟨0,0⟩).2≠0
  · rw [if_pos h1] at h;exact (h1 h).elim
  rw [if_neg h1]
  generalize ygv l x ⟨0,0⟩=S at *
  have he:S.2.e=0:=by
    unfold y97 at h1
    by_cases h2:S.2.e=0∧S.2.pos<x.length
    · exact h2.1
    · rw [if_neg h2] at h1;simpa using h1
  have hp:¬S.2.pos<x.length:=fun h3=>by
    unfold y97 at h1
    rw [if_pos ⟨he,h3⟩] at h1
    exact h1 (by decide)
  have g:=g he
  refine ⟨?_,g.ok⟩
  have:=g.bytes
  rw [List.drop_of_length_le (by omega:x.length≤S.2.pos)] at this
  simpa using this
theorem rec_size {l:List Str} {x:Str} (hr:y4g l) (hl:∀s∈l,s.length≤1000) (hx:x.length≤1000000) (h:(yc6 l x).2=0):suF (yc6 l x).1:=by
  obtain ⟨h1,h2⟩:=ytc hr h
  have h3:=yn9 l (evS (yc6 l x).1)
  rw [←h1] at h3
  exact su_size (k:=1000) (by omega) (by omega) (fun t ht=>hl t (h2 _ ht))
theorem ylb {pool:List Str} (hl:pool.length≤268435456) (hr:y4g pool):∀(es:List Ev) (τ:Qw),τ.e=0→(∀x∈es,ys5 pool x)→(y58 pool τ es).bs=τ.bs++y5t pool es∧(y58 pool τ es).e=0
  | [],τ,h,_=>by simp [h]
  | .num n::es,τ,h,ho=>by
    have h1:=ho _ (List.mem_cons_self ..)
    simp only [ys5] at h1
    rw [yak]
    have e1:yjy pool τ (.num n)={ τ with bs:=τ.bs++y7w n.toNat }:=by simp only [yjy,y5k];rw [if_neg (by simp [h]),if_neg (by omega)]
    rw [e1]
    have:=ylb hl hr es { τ with bs:=τ.bs++y7w n.toNat } h (fun x hx=>ho x (by simp [hx]))
    rw [this.1,yft,←List.append_assoc]
    exact ⟨rfl,this.2⟩
  | .txt s::es,τ,h,ho=>by
    have h1:=ho _ (List.mem_cons_self ..)
    simp only [ys5] at h1
    have hp:=(List.getElem?_eq_some_iff.1 ((ydd hr s).1 h1)).1
    rw [yak]
    have e1:yjy pool τ (.txt s)={ bs:=τ.bs++y7w (ycm pool s),all:=y9l τ.all s,e:=0 }:=by
      simp only [yjy,y5b,h1,not_true_eq_false,false_and,if_false,y5k,h,ne_eq,ycm,if_true]
      rw [if_neg (by omega)]
      simp
    rw [e1]
    have:=ylb hl hr es { bs:=τ.bs++y7w (ycm pool s),all:=y9l τ.all s,e:=0 } rfl (fun x hx=>ho x (by simp [hx]))
    rw [this.1,yft,←List.append_assoc]
    exact ⟨rfl,this.2⟩
theorem ytd {pool:List Str} (hl:pool.length≤268435456) (hr:y4g pool) {s:Su} (ho:∀x∈evS s,ys5 pool x):yiw pool s=(y5t pool (evS s),0):=by
  have:=ylb hl hr (evS s) qw0 rfl ho
  unfold yiw
  rw [if_neg (by simp [this.2]),this.1]
  simp [qw0]
theorem evS_ok {s:Su} (he:suE s=0) (hb:(evS s).length≤1000000):∀x∈evS s,ys5 (y3r s) x:=fun x hx=>by
  cases x with
  | num n=>exact yq8 s he hb n hx
  | txt t=>exact yel.2 (yip.1 hx)
theorem suG_of {pool:List Str} {s:Su} (h:suH s) (ho:∀x∈evS s,ys5 pool x):suG pool s:=by
  obtain ⟨_,h1,h2,h3,h4,h5,h6,h7,h8,h9⟩:=h
  have hin:∀{α:Type} (f:α→List Ev) (l:List α) (a:α) (x:Ev),a∈l→x∈f a→x∈evL f l:=fun f l a t ha ht=>by simp only [evL,List.mem_cons,List.mem_flatMap];exact .inr ⟨a,ha,ht⟩
  have hob:∀o∈s.sys.objs,∀x∈evO o,ys5 pool x:=fun o hom x hx=>ho x (by
    have:=hin evO s.sys.objs o x hom hx
    simp only [evS,List.mem_cons,List.mem_append];exact .inr (.inr (.inr (.inr (.inl this)))))
  have hfn:∀o∈s.sys.fns,∀x∈evF o,ys5 pool x:=fun o hom x hx=>ho x (by
    have:=hin evF s.sys.fns o x hom hx
    simp only [evS,List.mem_cons,List.mem_append];exact .inr (.inr (.inr (.inr (.inr (.inl this))))))
  have hcn:∀o∈s.sys.cons,∀x∈evC o,ys5 pool x:=fun o hom x hx=>ho x (by
    have:=hin evC s.sys.cons o x hom hx
    simp only [evS,List.mem_cons,List.mem_append];exact .inr (.inr (.inr (.inr (.inr (.inr this))))))
  refine ⟨ho (.txt s.name) (by simp [evS]),⟨by omega,fun a ha=>ho (.txt a) ?_⟩,⟨by omega,fun a ha=>ho (.txt a) ?_⟩,⟨by omega,fun a ha=>ho (.txt a) ?_⟩,⟨by omega,fun o hom=>?_⟩,⟨by omega,fun f hfm=>?_⟩,by omega,fun c hcm=>?_⟩
  · have:=hin evW s.gives a (.txt a) ha (by simp [evW])
    simp only [evS,List.mem_cons,List.mem_append];exact .inr (.inl this)
  · have:=hin evW s.wants a (.txt a) ha (by simp [evW])
    simp only [evS,List.mem_cons,List.mem_append];exact .inr (.inr (.inl this))
  · have:=hin evW s.keeps a (.txt a) ha (by simp [evW])
    simp only [evS,List.mem_cons,List.mem_append];exact .inr (.inr (.inr (.inl this)))
  · have q:=hob o hom
    refine ⟨q (.txt o.name) (by simp [evO]),q (.txt o.kinds) (by simp [evO]),by have:=h8 o hom;omega,fun m hm=>?_⟩
    have p1:=q (.num m.pos) (by have:=hin evM o.marks m (.num m.pos) hm (by simp [evM]);simp only [evO,List.mem_cons];exact .inr (.inr this))
    have p2:=q (.txt m.tag) (by have:=hin evM o.marks m (.txt m.tag) hm (by simp [evM]);simp only [evO,List.mem_cons];exact .inr (.inr this))
    exact ⟨p1.1,p1.2,p2⟩
  · have q:=hfn f hfm
    exact ⟨q (.txt f.name) (by simp [evF]),q (.txt f.kinds) (by simp [evF]),q (.txt f.ret) (by simp [evF])⟩
  · have q:=hcn c hcm
    refine ⟨q (.num c.op) (by simp [evC]),q (.txt c.a) (by simp [evC]),q (.txt c.b) (by simp [evC]),q (.num c.k) (by simp [evC]),q (.txt c.tag) (by simp [evC]),h9 c hcm,fun a ha=>q (.txt a) ?_⟩
    have:=hin evW c.args a (.txt a) ha (by simp [evW])
    simp only [evC,List.mem_cons];exact .inr (.inr (.inr (.inr (.inr this))))
theorem ykf {t:Str} {σ:Rd} (he:σ.e=0) (hp:¬σ.pos<t.length):y97 t σ=0:=by unfold y97;rw [if_neg (fun h=>hp h.2)];exact he
theorem dec_ful {s:Su} (hs:suH s) (he:(yih s).2=0):ys6 (yih s).1=(s,0):=by
  have hb:=hs.1.2
  have hsu:suE s=0:=by
    unfold yih at he
    by_cases h:suE s=0
    · exact h
    · rw [if_pos h] at he;exact (h he).elim
  unfold yih at he ⊢
  rw [if_neg (by simp [hsu])] at he ⊢
  by_cases h2:6000<(y3r s).length
  · rw [if_pos h2] at he;simp at he
  rw [if_neg h2] at he ⊢
  by_cases h3:((y3r s).any fun t=>decide (1000<t.length))=true
  · rw [if_pos h3] at he;simp at he
  rw [if_neg h3] at he ⊢
  by_cases h4:200000<(ycj s).length
  · rw [if_pos h4] at he;simp at he
  rw [if_neg h4]
  have hr:y4g (y3r s):=ya4 _
  have h1000:∀t∈y3r s,t.length≤1000:=fun t ht=>by
    by_cases h:t.length≤1000
    · exact h
    · exact (h3 (List.any_eq_true.2 ⟨t,ht,by simp;omega⟩)).elim
  have hok:=evS_ok hsu hb
  have hrec:=ytd (by omega) hr hok
  have hG:=suG_of hs hok
  unfold ys6
  rw [if_neg h4,ycj,yrb]
  rw [if_neg (by simp)]
  simp only
  unfold decT
  have e4:(y8p++ydm (y3r s) (yiw (y3r s) s).1).take 4=y8p:=by simp [y8p]
  have e5:(y8p++ydm (y3r s) (yiw (y3r s) s).1).drop 4=ydm (y3r s) (yiw (y3r s) s).1:=by simp [y8p]
  rw [if_neg (by simp [e4]),e5,hrec]
  have hlen:(y5t (y3r s) (evS s)).length≤200000:=by
    have:(ycj s).length=(yi6 (y8p++ydm (y3r s) (yiw (y3r s) s).1)).length:=rfl
    rw [hrec] at this
    simp only [yi6,ydm,List.length_append] at this
    omega
  generalize hbody:y5t (y3r s) (evS s)=x at *
  generalize hu:ydm (y3r s) x=u at *
  have d0:u.drop (⟨0,0⟩:Rd).pos=y7w 1++(yc7 (y3r s)++(y7w x.length++(x++[]))):=by simp [←hu,ydm]
  have n1:=yge (t:=u) (σ:=⟨0,0⟩) rfl (by omega) d0
  have d1:=y7b d0
  have n2:=ytn (t:=u) (by omega) h1000 hr (by exact rfl) d1
  have d2:=y7b d1
  have n3:=ysy (t:=u) (by exact rfl) (by omega) d2
  rw [←List.append_assoc] at d2
  have d3:=y7b d2
  have hv:yex u=yd8 ⟨0,0⟩ (y7w 1):=by unfold yex;rw [n1];simp
  unfold decU
  rw [hv,if_neg (by simp [yd8]),n2]
  unfold decX
  rw [if_neg (by simp [yd8]),n3]
  simp only
  have hend:=List.drop_eq_nil_iff.1 d3
  have hd:y97 u (yd8 (yd8 (yd8 ⟨0,0⟩ (y7w 1)) (yc7 (y3r s))) (y7w x.length++x))=0:=ykf rfl (by omega)
  rw [if_neg (by simp [hd])]
  have n4:=sum_ful (t:=x) (σ:=⟨0,0⟩) hr (by omega) hG (rest:=[]) rfl (by simp [hbody])
  have hrd:yc6 (y3r s) x=(s,0):=by
    unfold yc6
    rw [n4]
    have:y97 x (yd8 ⟨0,0⟩ (y5t (y3r s) (evS s)))=0:=ykf rfl (by rw [hbody];simp [yd8])
    rw [if_neg (by simp [this])]
  unfold decR
  rw [hrd]
  simp [hsu]
def suA:Su:=⟨[97],[],[],[],⟨[],[],[]⟩⟩
theorem suA_h:suH suA:=by
  refine ⟨⟨⟨by simp [suA],by simp [suA],by simp [suA],by simp [suA],by simp [suA],by simp [suA],by simp [suA],by simp [suA],by simp [suA],by simp [suA],by simp [suA]⟩,by simp [suA,evS,evL]⟩,by simp [suA],by simp [suA],by simp [suA],⟨by simp [suA],by simp [suA],by simp [suA],by simp [suA],by simp [suA],by simp [suA]⟩,by simp [suA],by simp [suA],by simp [suA],by simp [suA],by simp [suA]⟩
theorem suA_e:suE suA=0:=by kernel_rfl
theorem suA_t:y3r suA=[[97]]:=by kernel_rfl
theorem suA_r:yiw [[97]] suA=([0,0,0,0,0,0,0],0):=by
  have h:=ytd (pool:=[[97]]) (by simp) (by simp [y4g]) (s:=suA) (by have:=evS_ok suA_e suA_h.1.2;rw [suA_t] at this;exact this)
  rw [h]
  have hp:ycm [[97]] [97]=0:=by kernel_rfl
  simp [y5t,yna,evS,evL,evW,suA,hp,y9y]
theorem suA_enc:(yih suA).2=0∧(yih suA).1.length=20∧(yih suA).1.take 9=[119,101,102,116,1,1,0,1,97]:=by
  have hs:shN [] [97]=0:=rfl
  have hf:ycj suA=yi6 [119,101,102,116,1,1,0,1,97,7,0,0,0,0,0,0,0]:=by
    rw [ycj,suA_t,suA_r]
    simp [y8p,ydm,yc7,ydn,hs,y9y]
  have hl:(ycj suA).length=20:=by rw [hf];simp [yi6,yr4]
  have he:yih suA=(ycj suA,0):=by
    unfold yih
    rw [if_neg (by simp [suA_e]),suA_t,if_neg (by simp),if_neg (by simp),if_neg (by omega)]
  rw [he]
  refine ⟨rfl,hl,?_⟩
  rw [hf]
  simp [yi6]
end Go.Proofs.YthmkcebbeehbeaaGreatDoor
