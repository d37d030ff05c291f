/- Part 35 of the proof of the laws of the queries: PsM, KrW, KrW2, DecM, WkM. -/
import Derived.Test.YthmkcebbeehbeaaGreatDoorXBw17
import Derived.Test.YthmkcebbeehbeaaGreatDoorXBw18
import Derived.Test.YthmkcebbeehbeaaGreatDoorXBw30
import Derived.Test.YthmkcebbeehbeaaGreatDoorXBw33
import Derived.Test.YthmkcebbeehbeaaGreatDoorXBw34
set_option linter.unusedSimpArgs false
set_option linter.unusedVariables false
namespace Go.Proofs.YthmkcebbeehbeaaGreatDoor
open Am C
structure Gb (t:Str) (σ σ':Rd) (bs:Str):Prop where
  e:σ.e=0
  le:σ.pos≤σ'.pos
  hi:σ'.pos≤t.length
  bytes:t.drop σ.pos=bs++t.drop σ'.pos
theorem Gb.trans {t:Str} {a b c:Rd} {x y:Str} (h:Gb t a b x) (k:Gb t b c y):Gb t a c (x++y):=⟨h.e,Nat.le_trans h.le k.le,k.hi,by rw [h.bytes,k.bytes,List.append_assoc]⟩
section
variable {t:Str} {σ:Rd}
theorem ypa (ho:y8e t σ) (he:(y41 t σ).2.e=0):Gb t σ (y41 t σ).2 (y8b (y41 t σ).1):=by
  have g:=yd6 (pool:=[]) ho he
  refine ⟨g.e,g.le,g.hi,?_⟩
  have:=g.bytes
  simpa [y5d,ymm] using this
theorem txt_gb (ho:y8e t σ) (he:(y8t t σ).2.e=0):Gb t σ (y8t t σ).2 (y8b (y8t t σ).1.length++(y8t t σ).1)∧(y8t t σ).1.length≤268435456:=by
  have hb:=ygs t σ ho.1
  have hn:=ypa (t:=t) (σ:=σ) ho
  unfold y41 at hn
  unfold y8t at he ⊢
  by_cases h1:σ.e=0
  · rw [if_neg (by simp [h1])] at he hn ⊢
    by_cases h2:(rdL t σ).2.2=0
    · rw [if_neg (by simp [h2])] at he hn ⊢
      have hn:=hn h1
      by_cases h3:t.length<σ.pos+(rdL t σ).2.1+(rdL t σ).1
      · rw [if_pos h3] at he;simp at he
      rw [if_neg h3] at he ⊢
      generalize (rdL t σ).2.1=w at *
      generalize (rdL t σ).1=n at *
      have hl:(List.take n (t.drop (σ.pos+w))).length=n:=by simp;omega
      refine ⟨⟨h1,by simp;omega,by simp;omega,?_⟩,by simp only;rw [hl];exact hb.1⟩
      have:=hn.bytes
      simp only at this ⊢
      rw [hl,this,List.append_assoc,←List.drop_drop (i:=n),List.take_append_drop]
    · rw [if_pos h2] at he;exact (h2 he).elim
  · rw [if_pos h1] at he;exact (h1 he).elim
theorem yrx {x:Str} {rest:Str} (he:σ.e=0) (hx:x.length≤268435456) (h:t.drop σ.pos=y8b x.length++(x++rest)):y8t t σ=(x,ych σ (y8b x.length++x)):=by
  have hn:=ygr he hx h
  have hL:=yp4 x.length 0 0 (x++rest) (by omega) (fun h=>by omega) (by simpa using hx)
  rw [←h] at hL
  simp at hL
  have hL':rdL t σ=(x.length,(y8b x.length).length,0):=hL
  have hlen:t.length-σ.pos=(y8b x.length).length+(x.length+rest.length):=by have:=congrArg List.length h;simpa using this
  have hv:=List.length_pos_iff.2 (yn8 x.length)
  unfold y8t
  rw [if_neg (by simp [he]),hL',if_neg (by simp),if_neg (by simp only;omega)]
  simp only [ych,List.length_append]
  have:t.drop (σ.pos+(y8b x.length).length)=x++rest:=by rw [←List.drop_drop,h];simp
  rw [this]
  simp [Nat.add_assoc]
theorem next_got {last:Str} {k:Nat} {rest:Str} {first:Bool} (h:(yc1 last k rest first).2=0):∃s,yc1 last k rest first=(s,0)∧s.length≤1000∧shN last s=k∧s.length-k=rest.length∧k≤s.length∧s.drop k=rest∧(first=false→ltB last s=true):=by
  unfold yc1 at h ⊢
  by_cases h1:last.length<k
  · rw [if_pos h1] at h;simp at h
  rw [if_neg h1] at h ⊢
  by_cases h2:1000<(last.take k++rest).length
  · rw [if_pos h2] at h;simp at h
  rw [if_neg h2] at h ⊢
  by_cases h3:first=false∧(ltB (last.take k++rest) last||(last.take k++rest == last))=true
  · rw [if_pos h3] at h;simp at h
  rw [if_neg h3] at h ⊢
  by_cases h4:shN last (last.take k++rest)≠k
  · rw [if_pos h4] at h;simp at h
  rw [if_neg h4]
  have hk:(last.take k).length=k:=by rw [List.length_take];omega
  refine ⟨_,rfl,by omega,by simpa using h4,by rw [List.length_append,hk];omega,by rw [List.length_append,hk];omega,?_,fun hf=>?_⟩
  · have:=List.drop_left (l₁:=last.take k) (l₂:=rest)
    rw [hk] at this;exact this
  · rcases ynu last (last.take k++rest) with q | q | q
    · exact q
    · exact (h3 ⟨hf,by simp [←q]⟩).elim
    · exact (h3 ⟨hf,by simp [q]⟩).elim
theorem next_ful {last s:Str} {first:Bool} (hs:s.length≤1000) (hf:first=false→ltB last s=true):yc1 last (shN last s) (s.drop (shN last s)) first=(s,0):=by
  have h1:=ylq last s
  have h2:=yox last s
  have e:last.take (shN last s)++s.drop (shN last s)=s:=by rw [h2,List.take_append_drop]
  unfold yc1
  rw [if_neg (by omega),e,if_neg (by omega),if_neg,if_neg (by simp)]
  rintro ⟨h3,h4⟩
  have h5:=hf h3
  have h6:=yhp h5
  rw [h6] at h4
  simp at h4
  rw [h4] at h5
  exact ya0 _ h5
theorem yjt:∀(n:Nat) {first:Bool} {last:Str} {acc:List Str} {σ:Rd},σ.e≠0→y9i t n first last acc σ=(acc,σ)
  | 0,_,_,_,_,_=>rfl
  | n+1,_,_,_,_,h=>by simp only [y9i];rw [if_pos h]
theorem ykm {σ:Rd} {x:Int} (h:(y6r σ x).e=0):σ.e=0∧x=0∧y6r σ x=σ:=by
  unfold y6r at *
  by_cases h1:σ.e=0
  · rw [if_pos h1] at h ⊢
    simp at h
    refine ⟨h1,h,?_⟩
    cases σ;simp_all
  · rw [if_neg h1] at h;exact (h1 h).elim
theorem yp5:∀(n:Nat) {first:Bool} {last:Str} {acc:List Str} {σ:Rd},y8e t σ→(y9i t n first last acc σ).2.e=0→
    ∃l,(y9i t n first last acc σ).1=acc++l∧l.length=n∧Gb t σ (y9i t n first last acc σ).2 (yd8 last l)∧(∀s∈l,s.length≤1000)∧y4h (if first then l else last::l)∧y8e t (y9i t n first last acc σ).2
  | 0,first,last,acc,σ,ho,he=>⟨[],by simp [y9i],rfl,by simpa [y9i,yd8] using ⟨he,Nat.le_refl _,ho.1,by simp⟩,by simp,by cases first <;> simp [y4h],by simpa [y9i] using ho⟩
  | n+1,first,last,acc,σ,ho,he=>by
    simp only [y9i] at he ⊢
    by_cases h1:σ.e=0
    · rw [if_neg (by simp [h1])] at he ⊢
      have g1:=ypa (t:=t) (σ:=σ) ho
      have o1:=(y6h ho).1
      generalize y41 t σ=k at *
      have g2:=txt_gb (t:=t) (σ:=k.2) o1
      have o2:=(yhk o1).1
      generalize y8t t k.2=r at *
      by_cases h2:r.2.e=0
      · rw [if_neg (by simp [h2])] at he ⊢
        obtain ⟨g2,g2l⟩:=g2 h2
        have g1:=g1 g2.e
        by_cases h3:(y6r r.2 (yc1 last k.1 r.1 first).2).e=0
        · obtain ⟨_,h4,h5⟩:=ykm h3
          obtain ⟨s,q0,q1,q2,q3,q4,q5,q6⟩:=next_got h4
          rw [h5,q0] at he ⊢
          obtain ⟨l,p1,p2,p3,p4,p5,p6⟩:=yp5 n o2 he
          refine ⟨s::l,by rw [p1];simp,by simp [p2],?_,fun x hx=>(List.mem_cons.1 hx).elim (fun h=>h▸q1) (p4 x),?_,p6⟩
          · have:=g1.trans (g2.trans p3)
            simp only [yd8,q2,q3,q5]
            simpa [List.append_assoc] using this
          · simp at p5
            cases first with
            | true=>simpa using p5
            | false=>
              simp only [Bool.false_eq_true,if_false,y4h,List.pairwise_cons] at p5 ⊢
              refine ⟨fun x hx=>?_,p5⟩
              have h6:=q6 rfl
              rcases List.mem_cons.1 hx with rfl | hx
              · exact h6
              · exact yej h6 (p5.1 x hx)
        · rw [yjt n h3] at he
          exact (h3 he).elim
      · rw [if_pos h2] at he;exact (h2 he).elim
    · rw [if_pos h1] at he;exact (h1 he).elim
theorem yp6:∀(l:List Str) {first:Bool} {last:Str} {acc:List Str} {σ:Rd} {rest:Str},(∀s∈l,s.length≤1000)→y4h (if first then l else last::l)→σ.e=0→t.drop σ.pos=yd8 last l++rest→
    y9i t l.length first last acc σ=(acc++l,ych σ (yd8 last l))
  | [],first,last,acc,σ,rest,_,_,_,_=>by simp [y9i,ych,yd8]
  | s::l,first,last,acc,σ,rest,hs,hr,he,hd=>by
    have hsl:=hs s (by simp)
    have hsh:=ylq last s
    simp only [yd8,List.append_assoc] at hd
    have n1:=yfl he (by omega) hd
    have d1:=y6v hd
    have hdl:(s.drop (shN last s)).length=s.length-shN last s:=by simp
    rw [←hdl] at d1
    have n2:=yrx (t:=t) (σ:=ych σ (y8b (shN last s))) he (by omega) d1
    rw [←List.append_assoc] at d1
    have d2:=y6v d1
    have hlt:first=false→ltB last s=true:=fun hf=>by
      subst hf
      simp only [Bool.false_eq_true,if_false,y4h,List.pairwise_cons] at hr
      exact hr.1 s (by simp)
    have hr2:y4h (s::l):=by
      cases first with
      | true=>simpa using hr
      | false=>
        simp only [Bool.false_eq_true,if_false,y4h,List.pairwise_cons] at hr
        simp only [y4h,List.pairwise_cons]
        exact hr.2
    simp only [List.length_cons,y9i]
    rw [if_neg (by simp [he]),n1]
    simp only
    rw [n2]
    simp only
    rw [if_neg (by simp [he,ych]),next_ful hsl hlt]
    simp only
    have hf0:y6r (ych (ych σ (y8b (shN last s))) (y8b (s.drop (shN last s)).length++s.drop (shN last s))) 0=ych (ych σ (y8b (shN last s))) (y8b (s.drop (shN last s)).length++s.drop (shN last s)):=by
      unfold y6r
      split
      · rename_i h;simp [ych,he]
      · rfl
    rw [hf0,yp6 l (first:=false) (last:=s) (σ:=ych (ych σ (y8b (shN last s))) (y8b (s.drop (shN last s)).length++s.drop (shN last s))) (fun x hx=>hs x (by simp [hx])) (by simpa using hr2) he d2]
    simp [yd8,y70]
theorem ym4 (ho:y8e t σ) (he:(y84 t σ).2.e=0):Gb t σ (y84 t σ).2 (yd9 (y84 t σ).1)∧y4h (y84 t σ).1∧(∀s∈(y84 t σ).1,s.length≤1000)∧(y84 t σ).1.length≤6000∧y8e t (y84 t σ).2:=by
  have g1:=ypa (t:=t) (σ:=σ) ho
  have o1:=(y6h ho).1
  unfold y84 at he ⊢
  generalize y41 t σ=n at *
  by_cases h6:6000<n.1
  · simp only [if_pos h6] at he
    have:(y6r n.2 4).e≠0:=fun h=>by have:=(ykm h).2.1;omega
    rw [yjt _ this] at he
    exact (this he).elim
  · simp only [if_neg h6] at he ⊢
    obtain ⟨l,p1,p2,p3,p4,p5,p6⟩:=yp5 n.1 o1 he
    simp at p1 p5
    rw [p1]
    refine ⟨?_,p5,p4,by omega,p6⟩
    have:=(g1 p3.e).trans p3
    rw [←p2] at this
    simpa [yd9,p2] using this
theorem ysk {l:List Str} {rest:Str} (hl:l.length≤6000) (hs:∀s∈l,s.length≤1000) (hr:y4h l) (he:σ.e=0) (hd:t.drop σ.pos=yd9 l++rest):y84 t σ=(l,ych σ (yd9 l)):=by
  simp only [yd9,List.append_assoc] at hd
  have n1:=yfl he (by omega) hd
  unfold y84
  rw [n1]
  simp only
  rw [if_neg (by omega),yp6 l (σ:=ych σ (y8b l.length)) hs (by simpa using hr) he (y6v hd)]
  simp [yd9,y70]
end
theorem yhd (id:Nat) (v:Nat) (m:Nat) (hm:m≤1) (H:Hp) (hv:v<16777216) (hg:H.get id=some (.cells [.i .u32 ((v ^^^ 11994318:Nat):Int)] m)):
    AC Tryz.prog yaj [.p (some (id,0,1))] H (fun r H'=>r=.i .u32 v∧H'=H):=by
  refine AC.code y54.at y54.ok ?_
  refine AX.of _ ?_
  have h1:v ^^^ 11994318<16777216:=Nat.xor_lt_two_pow (n:=24) hv (by decide)
  have h2:=yhw (a:=v ^^^ 11994318) (b:=11994318) (by omega) (by omega)
  rw [Nat.xor_assoc,Nat.xor_self,Nat.xor_zero] at h2
  simp [y54,y54.r0,y54.r1,hg,hm]
  exact h2
theorem ymo (id:Nat) (v:Nat) (m:Nat) (hm:m≤1) (H:Hp) (hv:v<16777216) (bs:List UInt8) (hb:bs.length≤140737488351232) (hg:H.get id=some (.cells [.i .u32 ((v ^^^ 11994318:Nat):Int)] m)):
    AC Tryz.prog yc9 [.p (some (id,0,1)),.s bs] H (fun r H'=>r=.tup []∧H'=H.upd id (.cells [.i .u32 ((yjj v bs ^^^ 11994318:Nat):Int)] 1)):=by
  refine AC.code y1a.at y1a.ok ?_
  simp only [y1a]
  apply jA
  simp [y1a.r0]
  refine AC.fix (yhd id v m hm H hv hg) ?_
  apply jB
  simp [y1a.r1]
  refine AX.pblock (AX.loop (fun k F H'=>∃i:Nat,i≤bs.length∧k=bs.length-i∧H'=H∧
    F=[(0,.p (some (id,0,1))),(1,.s bs),(4,.i .u32 (yjj v (bs.take i))),(9,.i .i64 bs.length),(10,.i .i64 i)]) bs.length ⟨_,_,.refl _ _,0,by omega,by omega,rfl,by simp [yjj]⟩ ?_)
  rintro k F H' ⟨i,hi,rfl,rfl,rfl⟩
  have hw:=yo4 (bs.take i) hv
  simp only [y1a.l0]
  apply jA
  simp [y1a.r2]
  refine AX.seq (AX.pcond rfl (fun hlt=>AX.skip ?_) (fun hge=>AX.exit ?_))
  · simp at hlt
    simp
    apply jC
    simp [y1a.r3]
    apply jA
    have hb1:=bs[i].toNat_lt
    have e1:IntKind.u32.wrap ((bs[i].toNat:Int))=((bs[i].toNat:Nat):Int):=yfx (by omega) (by omega)
    have e2:IntKind.u32.wrap ((bs[i].toNat:Int)*65536)=((bs[i].toNat*65536:Nat):Int):=by rw [yfx (by omega) (by omega)];simp
    have e3:=yhw (a:=yjj v (bs.take i)) (b:=bs[i].toNat*65536) (by omega) (by omega)
    simp at e3
    simp [y1a.r4,hlt,e1,e2,e3]
    have hx:=yu7 hw bs[i]
    apply jA
    simp [y1a.r5]
    refine AX.pblock (AX.loop (fun k F H''=>∃j:Nat,j≤8∧k=8-j∧H''=H'∧
      F=[(0,.p (some (id,0,1))),(1,.s bs),(4,.i .u32 (crcN j (yjj v (bs.take i) ^^^ bs[i].toNat*65536))),(9,.i .i64 bs.length),(10,.i .i64 i),(20,.i .i64 j)]) 8 ⟨_,_,.refl _ _,0,by omega,by omega,rfl,by simp [crcN]⟩ ?_)
    rintro k F H'' ⟨j,hj,rfl,rfl,rfl⟩
    have hn:=yo3 j hx
    simp only [y1a.l1]
    apply jA
    simp [y1a.r6]
    refine AX.seq (AX.pcond rfl (fun hlt=>AX.skip ?_) (fun hge=>AX.exit ?_))
    · simp at hlt
      simp
      apply jC
      generalize hu:crcN j (yjj v (bs.take i) ^^^ bs[i].toNat*65536)=u at *
      have e4:IntKind.u32.wrap ((u:Int)*2)=((u*2:Nat):Int):=by rw [yfx (by omega) (by omega)];simp
      have e5:=bAnd_u32 (a:=u*2) (b:=16777216) (by omega) (by omega)
      have e6:=yhw (a:=u*2) (b:=25578747) (by omega) (by omega)
      simp at e5 e6
      simp [y1a.r7,e4]
      apply jA
      simp [y1a.r8,e5]
      have e7:IntKind.i64.wrap ((j:Int)+1)=((j+1:Nat):Int):=by rw [y3g (by omega) (by omega)];simp
      have hnext:crcN (j+1) (yjj v (bs.take i) ^^^ bs[i].toNat*65536)=crc1 u:=by rw [yu1,hu]
      refine AX.pcond rfl (fun hbit=>AX.reg ?_) (fun hbit=>AX.skip ?_)
      · simp at hbit
        have hbit':u*2 &&& 16777216≠0:=hbit
        simp [y1a.r9,e6]
        apply jE
        simp [y1a.r10,e7]
        exact ⟨8-(j+1),by omega,_,_,.refl _ _,j+1,by omega,rfl,rfl,by simp [hnext,crc1,hbit']⟩
      · simp at hbit
        simp
        apply jE
        simp [y1a.r10,e7]
        exact ⟨8-(j+1),by omega,_,_,.refl _ _,j+1,by omega,rfl,rfl,by simp [hnext,crc1,hbit]⟩
    · simp at hge
      have hj8:j=8:=by omega
      subst hj8
      simp
      apply jE
      have e8:IntKind.i64.wrap ((i:Int)+1)=((i+1:Nat):Int):=by rw [y3g (by omega) (by omega)];simp
      simp [y1a.r11,e8]
      exact ⟨bs.length-(i+1),by omega,_,_,.refl _ _,i+1,by omega,rfl,rfl,by simp [yu2 v bs i hlt,crcB]⟩
  · simp at hge
    have hi':i=bs.length:=by omega
    subst hi'
    simp
    apply jE
    have e3:=yhw (a:=yjj v bs) (b:=11994318) (by rw [List.take_length] at hw;omega) (by omega)
    simp at e3
    simp [y1a.r12,hg,e3,Am.Ends]
theorem yu0 (bs:List UInt8) (hb:bs.length≤140737488351232) (H:Hp):AC Tryz.prog yks [.s bs] H (fun r H'=>r=.i .u32 (yjj 11994318 bs)∧H'=H):=by
  refine AC.codeC y68.at y68.ok (by simp) fun hl=>?_
  simp only [y68]
  apply jA
  simp [y68.r0]
  apply jA
  simp [y68.r1]
  apply jA
  simp [y68.r2]
  refine AC.fix (ymo H.next 11994318 1 (by omega) _ (by omega) bs hb (by simp)) ?_
  apply jA
  simp [y68.r3]
  refine AC.fix (yhd H.next (yjj 11994318 bs) 1 (by omega) _ (yo4 bs (by omega)) (by simp)) ?_
  try simp
  apply jD
  simp
  intro id blk hg
  have:=hl id blk hg
  simp [show id≠H.next by omega,hg]
theorem yiu (bs:List UInt8) (hb:bs.length≤140737488351232) (H:Hp):AC Tryz.prog yf0 [.s bs] H (fun r H'=>r=.s (bs++sum3 (yjj 11994318 bs))∧H'=H):=by
  refine AC.codeC y5s.at y5s.ok (by simp) fun hl=>?_
  simp only [y5s]
  apply jA
  simp [y5s.r0]
  apply jA
  simp [y5s.r1]
  refine AC.fix (yu0 bs hb H) ?_
  try simp
  apply jA
  have e1:=yrv (yjj 11994318 bs) 65536
  have e2:=yrv (yjj 11994318 bs) 256
  have e3:=u8_all (yjj 11994318 bs)
  simp at e1 e2 e3
  simp [y5s.r2,ydj,e1,e2,e3,sum3,show bs.length+3≤9223372036854775807 by omega]
  apply jD
  simp [sum3]
  intro id blk hg
  have:=hl id blk hg
  simp [show id≠H.next by omega,hg]
def yki (bs:List UInt8):List UInt8:=bs++sum3 (yjj 11994318 bs)
@[simp] theorem ylr (bs:List UInt8):(yki bs).length=bs.length+3:=by simp [yki,sum3]
def ye6 (bs:List UInt8):List UInt8 × Bool:=
  if bs.length<3 then ([],false) else if yki (bs.take (bs.length-3))=bs then (bs.take (bs.length-3),true) else ([],false)
theorem yo2 (bs:List UInt8) (hb:bs.length≤140737488351232) (H:Hp):AC Tryz.prog ygx [.s bs] H (fun r H'=>r=.tup [.s (ye6 bs).1,.b (ye6 bs).2]∧H'=H):=by
  refine AC.code y42.at y42.ok ?_
  simp only [y42]
  apply jA
  simp [y42.r0]
  apply jB
  simp [y42.r1]
  refine AX.pcond rfl (fun hlt=>jA ?_) (fun hge=>AX.skip ?_)
  · simp at hlt
    simp [y42.r2]
    apply jD
    simp [ye6,hlt]
  · simp at hge
    simp
    apply jA
    have e1:IntKind.i64.wrap ((bs.length:Int)-3)=((bs.length-3:Nat):Int):=by rw [y3g (by omega) (by omega)];omega
    simp [y42.r3,e1]
    apply jB
    simp [y42.r4]
    refine AC.fix (yiu (bs.take (bs.length-3)) (by simp;omega) H) ?_
    simp
    refine AX.pcond rfl (fun hne=>jA ?_) (fun heq=>AX.skip ?_)
    · simp at hne
      simp [y42.r5]
      apply jD
      simp [ye6,yki,hne]
    · simp at heq
      simp
      apply jA
      simp [y42.r6]
      apply jD
      simp [ye6,yki,heq,show ¬bs.length<3 by omega]
def decR (l:List Str) (x:Str):Su × Int:=
  if (yar l x).2≠0 then (su0,(yar l x).2) else if suE (yar l x).1≠0 then (su0,suE (yar l x).1) else if y4f (yar l x).1≠l then (su0,3) else ((yar l x).1,0)
def ybw (u:Str):Rd:=if (y41 u ⟨0,0⟩).1≠1 then y6r (y41 u ⟨0,0⟩).2 5 else (y41 u ⟨0,0⟩).2
def decX (u:Str) (l:List Str × Rd):Su × Int:=
  if l.2.e≠0 then (su0,l.2.e) else if y8f u (y8t u l.2).2≠0 then (su0,y8f u (y8t u l.2).2) else decR l.1 (y8t u l.2).1
def decU (u:Str):Su × Int:=if (ybw u).e≠0 then (su0,(ybw u).e) else decX u (y84 u (ybw u))
def ytx (t:Str):Su × Int:=if t.take 4≠y7t then (su0,5) else decU (t.drop 4)
def yhs (b:Str):Su × Int:=if 200000<b.length then (su0,9) else if (ye6 b).2=false then (su0,14) else ytx (ye6 b).1
theorem yp2 (u:Str):y8e u (ybw u):=by
  have h:=(y6h (t:=u) (σ:=⟨0,0⟩) ⟨by simp,by simp,by simp,by simp⟩).1
  unfold ybw
  split
  · exact yee h (by omega) (by omega) (by omega)
  · exact h
theorem yqb (x:Str):ye6 (yia x)=(x,true):=by
  have e:yia x=yki x:=rfl
  unfold ye6
  rw [e,if_neg (by simp),ylr,show x.length+3-3=x.length by omega]
  have:(yki x).take x.length=x:=by simp [yki]
  rw [this,if_pos rfl]
theorem ym8 {b:Str} (h:(ye6 b).2=true):b=yia (ye6 b).1∧(ye6 b).1.length≤b.length:=by
  unfold ye6 at *
  by_cases h1:b.length<3
  · rw [if_pos h1] at h;simp at h
  rw [if_neg h1] at h ⊢
  by_cases h2:yki (b.take (b.length-3))=b
  · rw [if_pos h2];exact ⟨h2.symm,by simp⟩
  · rw [if_neg h2] at h;simp at h
theorem decR_no {l:List Str} {x:Str} (h:(decR l x).2≠0):(decR l x).1=su0:=by
  unfold decR at *
  split
  · rfl
  · rename_i h1
    rw [if_neg h1] at h
    split
    · rfl
    · rename_i h2
      rw [if_neg h2] at h
      split
      · rfl
      · rename_i h3;rw [if_neg h3] at h;simp at h
theorem ytz {b:Str} (h:(yhs b).2≠0):(yhs b).1=su0:=by
  unfold yhs ytx decU decX at *
  split
  · rfl
  rename_i h1;rw [if_neg h1] at h
  split
  · rfl
  rename_i h2;rw [if_neg h2] at h
  split
  · rfl
  rename_i h3;rw [if_neg h3] at h
  split
  · rfl
  rename_i h4;rw [if_neg h4] at h
  split
  · rfl
  rename_i h5;rw [if_neg h5] at h
  split
  · rfl
  rename_i h6;rw [if_neg h6] at h
  exact decR_no h
theorem su_size {s:Su} {k:Nat} (hk:k≤140737488355328) (hb:(evS s).length≤1000000) (h:∀t,Ev.txt t∈evS s→t.length≤k):suF s:=by
  have hsz:(evS s).length=1+((evL evW s.gives).length+((evL evW s.wants).length+((evL evW s.keeps).length+((evL evO s.sys.objs).length+((evL evF s.sys.fns).length+(evL evC s.sys.cons).length))))):=by simp [evS];omega
  have lw:∀l:List Str,l.length≤(evL evW l).length:=fun l=>ycy evW l (fun x=>by simp [evW])
  have lo:=ycy evO s.sys.objs (fun x=>by simp [evO])
  have lf:=ycy evF s.sys.fns (fun x=>by simp [evF])
  have lc:=ycy evC s.sys.cons (fun x=>by simp [evC])
  have w1:=lw s.gives
  have w2:=lw s.wants
  have w3:=lw s.keeps
  have hn:Ev.txt s.name∈evS s:=by simp [evS]
  have hin:∀{α:Type} (f:α→List Ev) (l:List α) (a:α) (t:Str),a∈l→Ev.txt t∈f a→Ev.txt t∈evL f l:=fun f l a t ha ht=>by simp only [evL,List.mem_cons,List.mem_flatMap];exact .inr ⟨a,ha,ht⟩
  have hkp:∀t∈s.keeps,Ev.txt t∈evS s:=fun t ht=>by
    have:=hin evW s.keeps t t ht (by simp [evW])
    simp only [evS,List.mem_cons,List.mem_append];exact .inr (.inr (.inr (.inl this)))
  have ho:∀o∈s.sys.objs,∀t,Ev.txt t∈evO o→Ev.txt t∈evS s:=fun o ho t ht=>by
    have:=hin evO s.sys.objs o t ho ht
    simp only [evS,List.mem_cons,List.mem_append];exact .inr (.inr (.inr (.inr (.inl this))))
  have hf:∀f∈s.sys.fns,∀t,Ev.txt t∈evF f→Ev.txt t∈evS s:=fun f hf t ht=>by
    have:=hin evF s.sys.fns f t hf ht
    simp only [evS,List.mem_cons,List.mem_append];exact .inr (.inr (.inr (.inr (.inr (.inl this)))))
  have hc:∀c∈s.sys.cons,∀t,Ev.txt t∈evC c→Ev.txt t∈evS s:=fun c hc t ht=>by
    have:=hin evC s.sys.cons c t hc ht
    simp only [evS,List.mem_cons,List.mem_append];exact .inr (.inr (.inr (.inr (.inr (.inr this)))))
  refine ⟨⟨Nat.le_trans (h _ hn) hk,by omega,by omega,by omega,fun t ht=>Nat.le_trans (h _ (hkp t ht)) hk,by omega,by omega,by omega,fun o hom=>?_,fun f hfm=>?_,fun c hcm=>?_⟩,hb⟩
  · have hol:=ykt (f:=evO) hom
    have hm1:=ycy evM o.marks (fun x=>by simp [evM])
    have hm2:(evL evM o.marks).length≤(evO o).length:=by simp [evO];omega
    have q:=fun t ht=>h t (ho o hom t ht)
    refine ⟨Nat.le_trans (q _ (by simp [evO])) hk,Nat.le_trans (q _ (by simp [evO])) hk,by omega,fun m hm=>Nat.le_trans (q _ ?_) hk⟩
    have:=hin evM o.marks m m.tag hm (by simp [evM])
    simp only [evO,List.mem_cons];exact .inr (.inr this)
  · have q:=fun t ht=>h t (hf f hfm t ht)
    exact ⟨Nat.le_trans (q _ (by simp [evF])) hk,Nat.le_trans (q _ (by simp [evF])) hk⟩
  · have hcl:=ykt (f:=evC) hcm
    have ha1:=lw c.args
    have ha2:(evL evW c.args).length≤(evC c).length:=by simp [evC];omega
    have q:=fun t ht=>h t (hc c hcm t ht)
    refine ⟨Nat.le_trans (q _ (by simp [evC])) hk,Nat.le_trans (q _ (by simp [evC])) hk,Nat.le_trans (q _ (by simp [evC])) hk,by omega,fun a ha=>Nat.le_trans (q _ ?_) hk⟩
    have:=hin evW c.args a a ha (by simp [evW])
    simp only [evC,List.mem_cons];exact .inr (.inr (.inr (.inr (.inr this))))
theorem ynh {l:List Str} {x:Str} (hr:y4h l) (h:(yar l x).2=0):x=y5d l (evS (yar l x).1)∧(∀e∈evS (yar l x).1,yr5 l e):=by
  obtain ⟨o,g⟩:=sum_got (t:=x) (σ:=⟨0,0⟩) hr ⟨by simp,by simp,by simp,by simp⟩
  unfold yar at *
  by_cases h1:y8f x (yg3 l x ⟨0,0⟩).2≠0
  · rw [if_pos h1] at h;exact (h1 h).elim
  rw [if_neg h1]
  generalize yg3 l x ⟨0,0⟩=S at *
  have he:S.2.e=0:=by
    unfold y8f at h1
    by_cases h2:S.2.e=0∧S.2.pos<x.length
    · exact h2.1
    · rw [if_neg h2] at h1;simpa using h1
  have hp:¬S.2.pos<x.length:=fun h3=>by
    unfold y8f at h1
    rw [if_pos ⟨he,h3⟩] at h1
    exact h1 (by decide)
  have g:=g he
  refine ⟨?_,g.ok⟩
  have:=g.bytes
  rw [List.drop_of_length_le (by omega:x.length≤S.2.pos)] at this
  simpa using this
theorem yp1 {l:List Str} {x:Str} (hr:y4h l) (hl:∀s∈l,s.length≤1000) (hx:x.length≤1000000) (h:(yar l x).2=0):suF (yar l x).1:=by
  obtain ⟨h1,h2⟩:=ynh hr h
  have h3:=yml l (evS (yar l x).1)
  rw [←h1] at h3
  exact su_size (k:=1000) (by omega) (by omega) (fun t ht=>hl t (h2 _ ht))
theorem yko {pool:List Str} (hl:pool.length≤268435456) (hr:y4h pool):∀(es:List Ev) (τ:Qw),τ.e=0→(∀x∈es,yr5 pool x)→(yf6 pool τ es).bs=τ.bs++y5d pool es∧(yf6 pool τ es).e=0
  | [],τ,h,_=>by simp [h]
  | .num n::es,τ,h,ho=>by
    have h1:=ho _ (List.mem_cons_self ..)
    simp only [yr5] at h1
    rw [ybt]
    have e1:yn5 pool τ (.num n)={ τ with bs:=τ.bs++y8b n.toNat }:=by simp only [yn5,yd7];rw [if_neg (by simp [h]),if_neg (by omega)]
    rw [e1]
    have:=yko hl hr es { τ with bs:=τ.bs++y8b n.toNat } h (fun x hx=>ho x (by simp [hx]))
    rw [this.1,yf3,←List.append_assoc]
    exact ⟨rfl,this.2⟩
  | .txt s::es,τ,h,ho=>by
    have h1:=ho _ (List.mem_cons_self ..)
    simp only [yr5] at h1
    have hp:=(List.getElem?_eq_some_iff.1 ((ydo hr s).1 h1)).1
    rw [ybt]
    have e1:yn5 pool τ (.txt s)={ bs:=τ.bs++y8b (ydn pool s),all:=ycb τ.all s,e:=0 }:=by
      simp only [yn5,ynk,h1,not_true_eq_false,false_and,if_false,yd7,h,ne_eq,ydn,if_true]
      rw [if_neg (by omega)]
      simp
    rw [e1]
    have:=yko hl hr es { bs:=τ.bs++y8b (ydn pool s),all:=ycb τ.all s,e:=0 } rfl (fun x hx=>ho x (by simp [hx]))
    rw [this.1,yf3,←List.append_assoc]
    exact ⟨rfl,this.2⟩
theorem yni {pool:List Str} (hl:pool.length≤268435456) (hr:y4h pool) {s:Su} (ho:∀x∈evS s,yr5 pool x):ylg pool s=(y5d pool (evS s),0):=by
  have:=yko hl hr (evS s) qw0 rfl ho
  unfold ylg
  rw [if_neg (by simp [this.2]),this.1]
  simp [qw0]
theorem evS_ok {s:Su} (he:suE s=0) (hb:(evS s).length≤1000000):∀x∈evS s,yr5 (y4f s) x:=fun x hx=>by
  cases x with
  | num n=>exact yp9 s he hb n hx
  | txt t=>exact ydu.2 (yi3.1 hx)
theorem suG_of {pool:List Str} {s:Su} (h:suH s) (ho:∀x∈evS s,yr5 pool x):suG pool s:=by
  obtain ⟨_,h1,h2,h3,h4,h5,h6,h7,h8,h9⟩:=h
  have hin:∀{α:Type} (f:α→List Ev) (l:List α) (a:α) (x:Ev),a∈l→x∈f a→x∈evL f l:=fun f l a t ha ht=>by simp only [evL,List.mem_cons,List.mem_flatMap];exact .inr ⟨a,ha,ht⟩
  have hob:∀o∈s.sys.objs,∀x∈evO o,yr5 pool x:=fun o hom x hx=>ho x (by
    have:=hin evO s.sys.objs o x hom hx
    simp only [evS,List.mem_cons,List.mem_append];exact .inr (.inr (.inr (.inr (.inl this)))))
  have hfn:∀o∈s.sys.fns,∀x∈evF o,yr5 pool x:=fun o hom x hx=>ho x (by
    have:=hin evF s.sys.fns o x hom hx
    simp only [evS,List.mem_cons,List.mem_append];exact .inr (.inr (.inr (.inr (.inr (.inl this))))))
  have hcn:∀o∈s.sys.cons,∀x∈evC o,yr5 pool x:=fun o hom x hx=>ho x (by
    have:=hin evC s.sys.cons o x hom hx
    simp only [evS,List.mem_cons,List.mem_append];exact .inr (.inr (.inr (.inr (.inr (.inr this))))))
  refine ⟨ho (.txt s.name) (by simp [evS]),⟨by omega,fun a ha=>ho (.txt a) ?_⟩,⟨by omega,fun a ha=>ho (.txt a) ?_⟩,⟨by omega,fun a ha=>ho (.txt a) ?_⟩,⟨by omega,fun o hom=>?_⟩,⟨by omega,fun f hfm=>?_⟩,by omega,fun c hcm=>?_⟩
  · have:=hin evW s.gives a (.txt a) ha (by simp [evW])
    simp only [evS,List.mem_cons,List.mem_append];exact .inr (.inl this)
  · have:=hin evW s.wants a (.txt a) ha (by simp [evW])
    simp only [evS,List.mem_cons,List.mem_append];exact .inr (.inr (.inl this))
  · have:=hin evW s.keeps a (.txt a) ha (by simp [evW])
    simp only [evS,List.mem_cons,List.mem_append];exact .inr (.inr (.inr (.inl this)))
  · have q:=hob o hom
    refine ⟨q (.txt o.name) (by simp [evO]),q (.txt o.kinds) (by simp [evO]),by have:=h8 o hom;omega,fun m hm=>?_⟩
    have p1:=q (.num m.pos) (by have:=hin evM o.marks m (.num m.pos) hm (by simp [evM]);simp only [evO,List.mem_cons];exact .inr (.inr this))
    have p2:=q (.txt m.tag) (by have:=hin evM o.marks m (.txt m.tag) hm (by simp [evM]);simp only [evO,List.mem_cons];exact .inr (.inr this))
    exact ⟨p1.1,p1.2,p2⟩
  · have q:=hfn f hfm
    exact ⟨q (.txt f.name) (by simp [evF]),q (.txt f.kinds) (by simp [evF]),q (.txt f.ret) (by simp [evF])⟩
  · have q:=hcn c hcm
    refine ⟨q (.num c.op) (by simp [evC]),q (.txt c.a) (by simp [evC]),q (.txt c.b) (by simp [evC]),q (.num c.k) (by simp [evC]),q (.txt c.tag) (by simp [evC]),h9 c hcm,fun a ha=>q (.txt a) ?_⟩
    have:=hin evW c.args a (.txt a) ha (by simp [evW])
    simp only [evC,List.mem_cons];exact .inr (.inr (.inr (.inr (.inr this))))
theorem yju {t:Str} {σ:Rd} (he:σ.e=0) (hp:¬σ.pos<t.length):y8f t σ=0:=by unfold y8f;rw [if_neg (fun h=>hp h.2)];exact he
theorem yl1 {s:Su} (hs:suH s) (he:(yhh s).2=0):yhs (yhh s).1=(s,0):=by
  have hb:=hs.1.2
  have hsu:suE s=0:=by
    unfold yhh at he
    by_cases h:suE s=0
    · exact h
    · rw [if_pos h] at he;exact (h he).elim
  unfold yhh at he ⊢
  rw [if_neg (by simp [hsu])] at he ⊢
  by_cases h2:6000<(y4f s).length
  · rw [if_pos h2] at he;simp at he
  rw [if_neg h2] at he ⊢
  by_cases h3:((y4f s).any fun t=>decide (1000<t.length))=true
  · rw [if_pos h3] at he;simp at he
  rw [if_neg h3] at he ⊢
  by_cases h4:200000<(yde s).length
  · rw [if_pos h4] at he;simp at he
  rw [if_neg h4]
  have hr:y4h (y4f s):=y9p _
  have h1000:∀t∈y4f s,t.length≤1000:=fun t ht=>by
    by_cases h:t.length≤1000
    · exact h
    · exact (h3 (List.any_eq_true.2 ⟨t,ht,by simp;omega⟩)).elim
  have hok:=evS_ok hsu hb
  have hrec:=yni (by omega) hr hok
  have hG:=suG_of hs hok
  unfold yhs
  rw [if_neg h4,yde,yqb]
  rw [if_neg (by simp)]
  simp only
  unfold ytx
  have e4:(y7t++yco (y4f s) (ylg (y4f s) s).1).take 4=y7t:=by simp [y7t]
  have e5:(y7t++yco (y4f s) (ylg (y4f s) s).1).drop 4=yco (y4f s) (ylg (y4f s) s).1:=by simp [y7t]
  rw [if_neg (by simp [e4]),e5,hrec]
  have hlen:(y5d (y4f s) (evS s)).length≤200000:=by
    have:(yde s).length=(yia (y7t++yco (y4f s) (ylg (y4f s) s).1)).length:=rfl
    rw [hrec] at this
    simp only [yia,yco,List.length_append] at this
    omega
  generalize hbody:y5d (y4f s) (evS s)=x at *
  generalize hu:yco (y4f s) x=u at *
  have d0:u.drop (⟨0,0⟩:Rd).pos=y8b 1++(yd9 (y4f s)++(y8b x.length++(x++[]))):=by simp [←hu,yco]
  have n1:=yfl (t:=u) (σ:=⟨0,0⟩) rfl (by omega) d0
  have d1:=y6v d0
  have n2:=ysk (t:=u) (by omega) h1000 hr (by exact rfl) d1
  have d2:=y6v d1
  have n3:=yrx (t:=u) (by exact rfl) (by omega) d2
  rw [←List.append_assoc] at d2
  have d3:=y6v d2
  have hv:ybw u=ych ⟨0,0⟩ (y8b 1):=by unfold ybw;rw [n1];simp
  unfold decU
  rw [hv,if_neg (by simp [ych]),n2]
  unfold decX
  rw [if_neg (by simp [ych]),n3]
  simp only
  have hend:=List.drop_eq_nil_iff.1 d3
  have hd:y8f u (ych (ych (ych ⟨0,0⟩ (y8b 1)) (yd9 (y4f s))) (y8b x.length++x))=0:=yju rfl (by omega)
  rw [if_neg (by simp [hd])]
  have n4:=sum_ful (t:=x) (σ:=⟨0,0⟩) hr (by omega) hG (rest:=[]) rfl (by simp [hbody])
  have hrd:yar (y4f s) x=(s,0):=by
    unfold yar
    rw [n4]
    have:y8f x (ych ⟨0,0⟩ (y5d (y4f s) (evS s)))=0:=yju rfl (by rw [hbody];simp [ych])
    rw [if_neg (by simp [this])]
  unfold decR
  rw [hrd]
  simp [hsu]
theorem ytw {b:Str} (h:(yhs b).2=0):yhh (yhs b).1=(b,0)∧suF (yhs b).1∧suE (yhs b).1=0:=by
  unfold yhs at h ⊢
  by_cases h1:200000<b.length
  · rw [if_pos h1] at h;simp at h
  rw [if_neg h1] at h ⊢
  cases h2:(ye6 b).2 with
  | false=>rw [h2] at h;simp at h
  | true=>
  obtain ⟨hb,hbl⟩:=ym8 h2
  rw [h2] at h
  simp only [Bool.true_eq_false,if_false] at h ⊢
  generalize (ye6 b).1=t at *
  unfold ytx at h ⊢
  by_cases h3:t.take 4=y7t
  rotate_left
  · rw [if_pos h3] at h;simp at h
  rw [if_neg (by simp [h3])] at h ⊢
  have ht:t=y7t++t.drop 4:=by rw [←h3,List.take_append_drop]
  generalize hu:t.drop 4=u at *
  have hul:u.length≤200000:=by rw [←hu];simp;omega
  unfold decU at h ⊢
  by_cases h4:(ybw u).e=0
  rotate_left
  · rw [if_pos h4] at h;exact (h4 h).elim
  rw [if_neg (by simp [h4])] at h ⊢
  have o0:y8e u ⟨0,0⟩:=⟨by simp,by simp,by simp,by simp⟩
  have g1:ybw u=(y41 u ⟨0,0⟩).2∧(y41 u ⟨0,0⟩).1=1:=by
    unfold ybw at *
    by_cases h5:(y41 u ⟨0,0⟩).1=1
    · rw [if_neg (by simp [h5])];exact ⟨rfl,h5⟩
    · rw [if_pos h5] at h4;have:=(ykm h4).2.1;omega
  have o1:=yp2 u
  have gb1:=ypa (t:=u) (σ:=⟨0,0⟩) o0
  rw [←g1.1,g1.2] at gb1
  have gb1:=gb1 h4
  unfold decX at h ⊢
  have gp:=ym4 (t:=u) (σ:=ybw u) o1
  generalize y84 u (ybw u)=l at *
  by_cases h5:l.2.e=0
  rotate_left
  · rw [if_pos h5] at h;exact (h5 h).elim
  rw [if_neg (by simp [h5])] at h ⊢
  obtain ⟨gb2,hr,h1000,h6000,o2⟩:=gp h5
  have gt:=txt_gb (t:=u) (σ:=l.2) o2
  have o3:=(yhk (t:=u) (σ:=l.2) o2).1
  generalize y8t u l.2=x at *
  by_cases h6:y8f u x.2=0
  rotate_left
  · rw [if_pos h6] at h;exact (h6 h).elim
  rw [if_neg (by simp [h6])] at h ⊢
  have hxe:x.2.e=0∧¬x.2.pos<u.length:=by
    unfold y8f at h6
    by_cases h7:x.2.e=0∧x.2.pos<u.length
    · rw [if_pos h7] at h6;simp at h6
    · rw [if_neg h7] at h6;exact ⟨h6,fun h8=>h7 ⟨h6,h8⟩⟩
  obtain ⟨gb3,hxl⟩:=gt hxe.1
  have hbytes:=(gb1.trans (gb2.trans gb3)).bytes
  rw [List.drop_of_length_le (by omega:u.length≤x.2.pos)] at hbytes
  have hrest:u=yco l.1 x.1:=by simpa [yco] using hbytes
  have hxu:x.1.length≤200000:=by have:=congrArg List.length hrest;simp [yco] at this;omega
  unfold decR at h ⊢
  by_cases h7:(yar l.1 x.1).2=0
  rotate_left
  · rw [if_pos h7] at h;exact (h7 h).elim
  rw [if_neg (by simp [h7])] at h ⊢
  obtain ⟨hx,hok⟩:=ynh hr h7
  have hsz:=yp1 hr h1000 (by omega) h7
  generalize (yar l.1 x.1).1=s at *
  by_cases h8:suE s=0
  rotate_left
  · rw [if_pos h8] at h;exact (h8 h).elim
  rw [if_neg (by simp [h8])] at h ⊢
  by_cases h9:y4f s=l.1
  rotate_left
  · rw [if_pos h9] at h;simp at h
  rw [if_neg (by simp [h9])]
  refine ⟨?_,hsz,h8⟩
  have hrec:=yni (by omega) hr hok
  rw [←hx] at hrec
  have hfile:yde s=b:=by rw [yde,h9,hrec,hb,ht,hrest]
  unfold yhh
  rw [if_neg (by simp [h8]),h9,if_neg (by omega),if_neg,hfile,if_neg h1]
  simp only [List.any_eq_true,decide_eq_true_eq,not_exists,not_and]
  intro t ht'
  have:=h1000 t ht'
  omega
def suA:Su:=⟨[97],[],[],[],⟨[],[],[]⟩⟩
theorem suA_h:suH suA:=by
  refine ⟨⟨⟨by simp [suA],by simp [suA],by simp [suA],by simp [suA],by simp [suA],by simp [suA],by simp [suA],by simp [suA],by simp [suA],by simp [suA],by simp [suA]⟩,by simp [suA,evS,evL]⟩,by simp [suA],by simp [suA],by simp [suA],⟨by simp [suA],by simp [suA],by simp [suA],by simp [suA],by simp [suA],by simp [suA]⟩,by simp [suA],by simp [suA],by simp [suA],by simp [suA],by simp [suA]⟩
theorem suA_e:suE suA=0:=by kernel_rfl
theorem suA_t:y4f suA=[[97]]:=by kernel_rfl
theorem suA_r:ylg [[97]] suA=([0,0,0,0,0,0,0],0):=by
  have h:=yni (pool:=[[97]]) (by simp) (by simp [y4h]) (s:=suA) (by have:=evS_ok suA_e suA_h.1.2;rw [suA_t] at this;exact this)
  rw [h]
  have hp:ydn [[97]] [97]=0:=by kernel_rfl
  simp [y5d,ymm,evS,evL,evW,suA,hp,ya6]
theorem suA_enc:(yhh suA).2=0∧(yhh suA).1.length=20∧(yhh suA).1.take 9=[119,101,102,116,1,1,0,1,97]:=by
  have hs:shN [] [97]=0:=rfl
  have hf:yde suA=yia [119,101,102,116,1,1,0,1,97,7,0,0,0,0,0,0,0]:=by
    rw [yde,suA_t,suA_r]
    simp [y7t,yco,yd9,yd8,hs,ya6]
  have hl:(yde suA).length=20:=by rw [hf];simp [yia,sum3]
  have he:yhh suA=(yde suA,0):=by
    unfold yhh
    rw [if_neg (by simp [suA_e]),suA_t,if_neg (by simp),if_neg (by simp),if_neg (by omega)]
  rw [he]
  refine ⟨rfl,hl,?_⟩
  rw [hf]
  simp [yia]
end Go.Proofs.YthmkcebbeehbeaaGreatDoor
