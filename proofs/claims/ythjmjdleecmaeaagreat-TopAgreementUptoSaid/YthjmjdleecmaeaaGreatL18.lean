/- Several texts of the proof in one: B6, B7. No condition. -/
import Derived.Test.YthjmjdleecmaeaaGreatL17
set_option linter.unusedSimpArgs false
set_option linter.unusedVariables false
set_option maxHeartbeats 4000000
set_option maxRecDepth 8000
namespace Go.Proofs.YthjmjdleecmaeaaGreat
open Go Go.Abs Go.Proofs.Tryz
theorem yhw (a b:Levels) (hU:b.users.length≤maxLen) (hK:b.kinds.length≤maxLen):AC prog 63 [.agg (lvsc a),.agg (lvsc b)] (B (decide (a=b))):=by
 refine AC.ob func63 ntmps63 results63 (zzj (zyz _) (zyz _)) (zx0 _) fun w S'=>AWp.of_vc [] ?_
 obtain⟨us,ks,x1,x2,x3,x4,x5,x6,x7⟩:=a
 obtain⟨us',ks',y1,y2,y3,y4,y5,y6,y7⟩:=b
 by_cases hl:us.length=us'.length
 case neg =>
  have hne:¬ us=us':=fun h=>hl (by rw[h])
  have hl':¬ (us.length:Int)=us'.length:=by omega
  simp[go_sem,lvsc,hl,hl']
  refine PostR.ret ?_
  simp[go_sem,hne]
 by_cases hk:ks.length=ks'.length
 case neg =>
  have hne:¬ ks=ks':=fun h=>hk (by rw[h])
  have hk':¬ (ks.length:Int)=ks'.length:=by omega
  simp[go_sem,lvsc,hl,hk,hk']
  refine PostR.ret ?_
  simp[go_sem,hne]
 simp[go_sem,lvsc,hl,hk]
 refine AWp.loop_vc [] (fun m s=>∃ q:Nat,q≤us'.length∧m=us'.length - q∧s.σ 2=.eptr (lvsc ⟨us,ks,x1,x2,x3,x4,x5,x6,x7⟩) 0∧s.σ 3=.eptr (lvsc ⟨us',ks',y1,y2,y3,y4,y5,y6,y7⟩) 0∧s.σ 5=I q∧us.take q=us'.take q) us'.length ⟨0,by simp[go_sem,lvsc]⟩ ?_
 rintro m s ⟨q,hq,rfl,h2,h3,h5,htk⟩
 by_cases hlt:q < us'.length
 · have hla:q < us.length:=by omega
   simp[go_sem,h2,h3,h5,lvsc,hl,hk,hlt,hla]
   refine da ?_
   by_cases he:us[q]=us'[q]
   · have e1:us[q].user=us'[q].user:=by rw[he]
     have e2:us[q].n=us'[q].n:=by rw[he]
     simp[go_sem,h2,h3,h5,lvsc,hl,hk,hlt,hla,lvc,e1,e2,yro hlt hU]
     exact⟨us'.length - (q+1),by omega,q+1,by omega,rfl,rfl,yov hla hlt htk he⟩
   · have hne:¬ us=us':=zm0 hla hlt he
     by_cases e1:us[q].user=us'[q].user
     · have e2:¬ us[q].n=us'[q].n:=fun e2=>he (by
        generalize us[q]=x at *;generalize us'[q]=y at *
        cases x;cases y;simp at e1 e2;simp[e1,e2])
       simp[go_sem,h2,h3,h5,lvsc,hl,hk,hlt,hla,lvc,e1,e2]
       refine PostR.ret ?_
       simp[go_sem,hne]
     · have g1:(us[q].user==us'[q].user)=false:=beq_eq_false_iff_ne.2 e1
       simp[go_sem,h2,h3,h5,lvsc,hl,hk,hlt,hla,lvc,e1,g1]
       refine PostR.ret ?_
       simp[go_sem,hne]
 · have hee:us=us':=you (q:=q) (by omega) (by omega) htk
   clear htk
   subst hee
   simp[go_sem,h2,h3,h5,lvsc,hl,hk,hlt]
   refine AWp.loop_vc [] (fun m s=>∃ q:Nat,q≤ks'.length∧m=ks'.length - q∧s.σ 2=.eptr (lvsc ⟨us,ks,x1,x2,x3,x4,x5,x6,x7⟩) 0∧s.σ 3=.eptr (lvsc ⟨us,ks',y1,y2,y3,y4,y5,y6,y7⟩) 0∧s.σ 6=I q∧ks.take q=ks'.take q) ks'.length ⟨0,by simp[go_sem,lvsc,h2,h3]⟩ ?_
   clear h2 h3 h5 hlt hq
   rintro m s ⟨q,hq,rfl,h2,h3,h5,htk⟩
   by_cases hlt:q < ks'.length
   · have hla:q < ks.length:=by omega
     simp[go_sem,h2,h3,h5,lvsc,hl,hk,hlt,hla]
     refine da ?_
     by_cases he:ks[q]=ks'[q]
     · have e1:ks[q].kind=ks'[q].kind:=by rw[he]
       have e2:ks[q].n=ks'[q].n:=by rw[he]
       simp[go_sem,h2,h3,h5,lvsc,hl,hk,hlt,hla,klc,e1,e2,yro hlt hK]
       exact⟨ks'.length - (q+1),by omega,q+1,by omega,rfl,rfl,yov hla hlt htk he⟩
     · have hne:¬ ks=ks':=zm0 hla hlt he
       by_cases e1:ks[q].kind=ks'[q].kind
       · have e2:¬ ks[q].n=ks'[q].n:=fun e2=>he (by
          generalize ks[q]=x at *;generalize ks'[q]=y at *
          cases x;cases y;simp at e1 e2;simp[e1,e2])
         simp[go_sem,h2,h3,h5,lvsc,hl,hk,hlt,hla,klc,e1,e2]
         refine PostR.ret ?_
         simp[go_sem,hne]
       · have g1:(ks[q].kind==ks'[q].kind)=false:=beq_eq_false_iff_ne.2 e1
         simp[go_sem,h2,h3,h5,lvsc,hl,hk,hlt,hla,klc,e1,g1]
         refine PostR.ret ?_
         simp[go_sem,hne]
   · have hee:ks=ks':=you (q:=q) (by omega) (by omega) htk
     clear htk
     subst hee
     by_cases c0:x1=y1
     case neg =>
      skip
      have g1:(x1==y1)=false:=beq_eq_false_iff_ne.2 c0
      have g2:(x1 != y1)=true:=bne_iff_ne.2 c0
      simp[go_sem,lvsc,h2,h3,h5,hlt,c0,g1,g2]
      refine PostR.ret ?_
      simp[go_sem,c0]
     by_cases c1:x2=y2
     case neg =>
      skip
      have g1:(x2==y2)=false:=beq_eq_false_iff_ne.2 c1
      have g2:(x2 != y2)=true:=bne_iff_ne.2 c1
      simp[go_sem,lvsc,h2,h3,h5,hlt,c0,c1,g1,g2]
      refine PostR.ret ?_
      simp[go_sem,c1]
     by_cases c2:x3=y3
     case neg =>
      skip
      have g1:(x3==y3)=false:=beq_eq_false_iff_ne.2 c2
      have g2:(x3 != y3)=true:=bne_iff_ne.2 c2
      simp[go_sem,lvsc,h2,h3,h5,hlt,c0,c1,c2,g1,g2]
      refine PostR.ret ?_
      simp[go_sem,c2]
     by_cases c3:x4=y4
     case neg =>
      skip
      have g1:(x4==y4)=false:=beq_eq_false_iff_ne.2 c3
      have g2:(x4 != y4)=true:=bne_iff_ne.2 c3
      simp[go_sem,lvsc,h2,h3,h5,hlt,c0,c1,c2,c3,g1,g2]
      refine PostR.ret ?_
      simp[go_sem,c3]
     by_cases c4:x5=y5
     case neg =>
      skip
      have g1:(x5==y5)=false:=beq_eq_false_iff_ne.2 c4
      have g2:(x5 != y5)=true:=bne_iff_ne.2 c4
      simp[go_sem,lvsc,h2,h3,h5,hlt,c0,c1,c2,c3,c4,g1,g2]
      refine PostR.ret ?_
      simp[go_sem,c4]
     by_cases c5:x6=y6
     case neg =>
      skip
      have g1:(x6==y6)=false:=beq_eq_false_iff_ne.2 c5
      have g2:(x6 != y6)=true:=bne_iff_ne.2 c5
      simp[go_sem,lvsc,h2,h3,h5,hlt,c0,c1,c2,c3,c4,c5,g1,g2]
      refine PostR.ret ?_
      simp[go_sem,c5]
     by_cases c6:x7=y7
     case neg =>
      skip
      have g1:(x7==y7)=false:=beq_eq_false_iff_ne.2 c6
      have g2:(x7 != y7)=true:=bne_iff_ne.2 c6
      simp[go_sem,lvsc,h2,h3,h5,hlt,c0,c1,c2,c3,c4,c5,c6,g1,g2]
      refine PostR.ret ?_
      simp[go_sem,c6]
     skip
     simp[go_sem,lvsc,h2,h3,h5,hlt,c0,c1,c2,c3,c4,c5,c6]
     refine PostR.ret ?_
     simp[go_sem,c0,c1,c2,c3,c4,c5,c6]
theorem ygo (a b:Content) (hU:b.levels.users.length≤maxLen) (hK:b.levels.kinds.length≤maxLen):AC prog 34 [.agg (ctc a),.agg (ctc b)] (B (decide (a=b))):=by
 refine AC.ob func34 ntmps34 results34 (zzj (zya _) (zya _)) (zx0 _) fun w S'=>AWp.of_vc [] ?_
 by_cases h0:a.text=b.text
 case neg =>
  have hne:¬ a=b:=fun h=>h0 (by subst h;rfl)
  have g1:(a.text==b.text)=false:=beq_eq_false_iff_ne.2 h0
  have g2:(a.text != b.text)=true:=bne_iff_ne.2 h0
  simp (maxSteps:=200000) [go_sem,h0,g1,g2]
  refine PostR.ret ?_
  simp[go_sem,hne]
 by_cases h1:a.n=b.n
 case neg =>
  have hne:¬ a=b:=fun h=>h1 (by subst h;rfl)
  have g1:(a.n==b.n)=false:=beq_eq_false_iff_ne.2 h1
  have g2:(a.n != b.n)=true:=bne_iff_ne.2 h1
  simp (maxSteps:=200000) [go_sem,h0,h1,g1,g2]
  refine PostR.ret ?_
  simp[go_sem,hne]
 by_cases h2:a.target=b.target
 case neg =>
  have hne:¬ a=b:=fun h=>h2 (by subst h;rfl)
  have g1:(a.target==b.target)=false:=beq_eq_false_iff_ne.2 h2
  have g2:(a.target != b.target)=true:=bne_iff_ne.2 h2
  simp (maxSteps:=200000) [go_sem,h0,h1,h2,g1,g2]
  refine PostR.ret ?_
  simp[go_sem,hne]
 by_cases h3:a.thread=b.thread
 case neg =>
  have hne:¬ a=b:=fun h=>h3 (by subst h;rfl)
  have g1:(a.thread==b.thread)=false:=beq_eq_false_iff_ne.2 h3
  have g2:(a.thread != b.thread)=true:=bne_iff_ne.2 h3
  simp (maxSteps:=200000) [go_sem,h0,h1,h2,g1,g2]
  refine PostR.ret ?_
  simp[go_sem,hne]
 by_cases h4:a.via=b.via
 case neg =>
  have hne:¬ a=b:=fun h=>h4 (by subst h;rfl)
  have g1:(a.via==b.via)=false:=beq_eq_false_iff_ne.2 h4
  have g2:(a.via != b.via)=true:=bne_iff_ne.2 h4
  simp (maxSteps:=200000) [go_sem,h0,h1,h2,h3,h4,g1,g2]
  refine PostR.ret ?_
  simp[go_sem,hne]
 by_cases h5:a.allow=b.allow
 case neg =>
  have hne:¬ a=b:=fun h=>h5 (by subst h;rfl)
  simp (maxSteps:=200000) [go_sem,h0,h1,h2,h3,h4,h5]
  refine cpu (ygq a.allow b.allow) ?_
  simp (maxSteps:=200000) [go_sem,h0,h1,h2,h3,h4,h5]
  refine PostR.ret ?_
  simp[go_sem,hne]
 by_cases h6:a.deny=b.deny
 case neg =>
  have hne:¬ a=b:=fun h=>h6 (by subst h;rfl)
  simp (maxSteps:=200000) [go_sem,h0,h1,h2,h3,h4,h5,h6]
  refine cpu (ygq b.allow b.allow) ?_
  simp (maxSteps:=200000) [go_sem,h0,h1,h2,h3,h4,h5,h6]
  refine cpu (ygq a.deny b.deny) ?_
  simp (maxSteps:=200000) [go_sem,h0,h1,h2,h3,h4,h5,h6]
  refine PostR.ret ?_
  simp[go_sem,hne]
 by_cases h7:a.levels=b.levels
 case neg =>
  have hne:¬ a=b:=fun h=>h7 (by subst h;rfl)
  simp (maxSteps:=200000) [go_sem,h0,h1,h2,h3,h4,h5,h6,h7]
  refine cpu (ygq b.allow b.allow) ?_
  simp (maxSteps:=200000) [go_sem,h0,h1,h2,h3,h4,h5,h6,h7]
  refine cpu (ygq b.deny b.deny) ?_
  simp (maxSteps:=200000) [go_sem,h0,h1,h2,h3,h4,h5,h6,h7]
  refine cpu (yhw a.levels b.levels hU hK) ?_
  simp (maxSteps:=200000) [go_sem,h0,h1,h2,h3,h4,h5,h6,h7]
  refine PostR.ret ?_
  simp[go_sem,hne]
 have he:a=b:=by
  obtain⟨t1,n1,g1,r1,v1,l1,d1,lv1⟩:=a
  obtain⟨t2,n2,g2,r2,v2,l2,d2,lv2⟩:=b
  simp at *
  simp[*]
 simp (maxSteps:=200000) [go_sem,h0,h1,h2,h3,h4,h5,h6,h7]
 refine cpu (ygq b.allow b.allow) ?_
 simp (maxSteps:=200000) [go_sem,h0,h1,h2,h3,h4,h5,h6,h7]
 refine cpu (ygq b.deny b.deny) ?_
 simp (maxSteps:=200000) [go_sem,h0,h1,h2,h3,h4,h5,h6,h7]
 refine cpu (yhw b.levels b.levels hU hK) ?_
 simp (maxSteps:=200000) [go_sem,h0,h1,h2,h3,h4,h5,h6,h7]
 refine PostR.ret ?_
 simp[go_sem,he]
theorem ygp (a b:Evt) (hU:b.content.levels.users.length≤maxLen) (hK:b.content.levels.kinds.length≤maxLen):AC prog 17 [ev a,ev b] (B (decide (a=b))):=by
 refine AC.ob func17 ntmps17 results17 (zzj (zyh _) (zyh _)) (zx0 _) fun w S'=>AWp.of_vc [] ?_
 by_cases h0:a.id=b.id
 case neg =>
  have hne:¬ a=b:=fun h=>h0 (by subst h;rfl)
  have g1:(a.id==b.id)=false:=beq_eq_false_iff_ne.2 h0
  have g2:(a.id != b.id)=true:=bne_iff_ne.2 h0
  simp (maxSteps:=200000) [go_sem,h0,g1,g2]
  refine PostR.ret ?_
  simp[go_sem,hne]
 by_cases h1:a.room=b.room
 case neg =>
  have hne:¬ a=b:=fun h=>h1 (by subst h;rfl)
  have g1:(a.room==b.room)=false:=beq_eq_false_iff_ne.2 h1
  have g2:(a.room != b.room)=true:=bne_iff_ne.2 h1
  simp (maxSteps:=200000) [go_sem,h0,h1,g1,g2]
  refine PostR.ret ?_
  simp[go_sem,hne]
 by_cases h2:a.sender=b.sender
 case neg =>
  have hne:¬ a=b:=fun h=>h2 (by subst h;rfl)
  have g1:(a.sender==b.sender)=false:=beq_eq_false_iff_ne.2 h2
  have g2:(a.sender != b.sender)=true:=bne_iff_ne.2 h2
  simp (maxSteps:=200000) [go_sem,h0,h1,h2,g1,g2]
  refine PostR.ret ?_
  simp[go_sem,hne]
 by_cases h3:a.kind=b.kind
 case neg =>
  have hne:¬ a=b:=fun h=>h3 (by subst h;rfl)
  have g1:(a.kind==b.kind)=false:=beq_eq_false_iff_ne.2 h3
  have g2:(a.kind != b.kind)=true:=bne_iff_ne.2 h3
  simp (maxSteps:=200000) [go_sem,h0,h1,h2,h3,g1,g2]
  refine PostR.ret ?_
  simp[go_sem,hne]
 by_cases h4:a.state=b.state
 case neg =>
  have hne:¬ a=b:=fun h=>h4 (by subst h;rfl)
  have g1:(a.state==b.state)=false:=beq_eq_false_iff_ne.2 h4
  have g2:(a.state != b.state)=true:=bne_iff_ne.2 h4
  simp (maxSteps:=200000) [go_sem,h0,h1,h2,h3,g1,g2]
  refine PostR.ret ?_
  simp[go_sem,hne]
 by_cases h5:a.key=b.key
 case neg =>
  have hne:¬ a=b:=fun h=>h5 (by subst h;rfl)
  have g1:(a.key==b.key)=false:=beq_eq_false_iff_ne.2 h5
  have g2:(a.key != b.key)=true:=bne_iff_ne.2 h5
  simp (maxSteps:=200000) [go_sem,h0,h1,h2,h3,h4,h5,g1,g2]
  refine PostR.ret ?_
  simp[go_sem,hne]
 by_cases h6:a.time=b.time
 case neg =>
  have hne:¬ a=b:=fun h=>h6 (by subst h;rfl)
  have g1:(a.time==b.time)=false:=beq_eq_false_iff_ne.2 h6
  have g2:(a.time != b.time)=true:=bne_iff_ne.2 h6
  simp (maxSteps:=200000) [go_sem,h0,h1,h2,h3,h4,h5,h6,g1,g2]
  refine PostR.ret ?_
  simp[go_sem,hne]
 by_cases h7:a.depth=b.depth
 case neg =>
  have hne:¬ a=b:=fun h=>h7 (by subst h;rfl)
  have g1:(a.depth==b.depth)=false:=beq_eq_false_iff_ne.2 h7
  have g2:(a.depth != b.depth)=true:=bne_iff_ne.2 h7
  simp (maxSteps:=200000) [go_sem,h0,h1,h2,h3,h4,h5,h6,h7,g1,g2]
  refine PostR.ret ?_
  simp[go_sem,hne]
 by_cases h8:a.prev=b.prev
 case neg =>
  have hne:¬ a=b:=fun h=>h8 (by subst h;rfl)
  simp (maxSteps:=200000) [go_sem,h0,h1,h2,h3,h4,h5,h6,h7,h8]
  refine cpu (yhx a.prev b.prev) ?_
  simp (maxSteps:=200000) [go_sem,h0,h1,h2,h3,h4,h5,h6,h7,h8]
  refine PostR.ret ?_
  simp[go_sem,hne]
 by_cases h9:a.auth=b.auth
 case neg =>
  have hne:¬ a=b:=fun h=>h9 (by subst h;rfl)
  simp (maxSteps:=200000) [go_sem,h0,h1,h2,h3,h4,h5,h6,h7,h8,h9]
  refine cpu (yhx b.prev b.prev) ?_
  simp (maxSteps:=200000) [go_sem,h0,h1,h2,h3,h4,h5,h6,h7,h8,h9]
  refine cpu (yhx a.auth b.auth) ?_
  simp (maxSteps:=200000) [go_sem,h0,h1,h2,h3,h4,h5,h6,h7,h8,h9]
  refine PostR.ret ?_
  simp[go_sem,hne]
 by_cases h10:a.content=b.content
 case neg =>
  have hne:¬ a=b:=fun h=>h10 (by subst h;rfl)
  simp (maxSteps:=200000) [go_sem,h0,h1,h2,h3,h4,h5,h6,h7,h8,h9,h10]
  refine cpu (yhx b.prev b.prev) ?_
  simp (maxSteps:=200000) [go_sem,h0,h1,h2,h3,h4,h5,h6,h7,h8,h9,h10]
  refine cpu (yhx b.auth b.auth) ?_
  simp (maxSteps:=200000) [go_sem,h0,h1,h2,h3,h4,h5,h6,h7,h8,h9,h10]
  refine cpu (ygo a.content b.content hU hK) ?_
  simp (maxSteps:=200000) [go_sem,h0,h1,h2,h3,h4,h5,h6,h7,h8,h9,h10]
  refine PostR.ret ?_
  simp[go_sem,hne]
 by_cases h11:a.hash=b.hash
 case neg =>
  have hne:¬ a=b:=fun h=>h11 (by subst h;rfl)
  have g1:(a.hash==b.hash)=false:=beq_eq_false_iff_ne.2 h11
  have g2:(a.hash != b.hash)=true:=bne_iff_ne.2 h11
  simp (maxSteps:=200000) [go_sem,h0,h1,h2,h3,h4,h5,h6,h7,h8,h9,h10,h11,g1,g2]
  refine cpu (yhx b.prev b.prev) ?_
  simp (maxSteps:=200000) [go_sem,h0,h1,h2,h3,h4,h5,h6,h7,h8,h9,h10,h11,g1,g2]
  refine cpu (yhx b.auth b.auth) ?_
  simp (maxSteps:=200000) [go_sem,h0,h1,h2,h3,h4,h5,h6,h7,h8,h9,h10,h11,g1,g2]
  refine cpu (ygo b.content b.content hU hK) ?_
  simp (maxSteps:=200000) [go_sem,h0,h1,h2,h3,h4,h5,h6,h7,h8,h9,h10,h11,g1,g2]
  refine PostR.ret ?_
  simp[go_sem,hne]
 by_cases h12:a.sig.server=b.sig.server
 case neg =>
  have hne:¬ a=b:=fun h=>h12 (by subst h;rfl)
  have g1:(a.sig.server==b.sig.server)=false:=beq_eq_false_iff_ne.2 h12
  have g2:(a.sig.server != b.sig.server)=true:=bne_iff_ne.2 h12
  simp (maxSteps:=200000) [go_sem,h0,h1,h2,h3,h4,h5,h6,h7,h8,h9,h10,h11,h12,g1,g2]
  refine cpu (yhx b.prev b.prev) ?_
  simp (maxSteps:=200000) [go_sem,h0,h1,h2,h3,h4,h5,h6,h7,h8,h9,h10,h11,h12,g1,g2]
  refine cpu (yhx b.auth b.auth) ?_
  simp (maxSteps:=200000) [go_sem,h0,h1,h2,h3,h4,h5,h6,h7,h8,h9,h10,h11,h12,g1,g2]
  refine cpu (ygo b.content b.content hU hK) ?_
  simp (maxSteps:=200000) [go_sem,h0,h1,h2,h3,h4,h5,h6,h7,h8,h9,h10,h11,h12,g1,g2]
  refine PostR.ret ?_
  simp[go_sem,hne]
 by_cases h13:a.sig.sum=b.sig.sum
 case neg =>
  have hne:¬ a=b:=fun h=>h13 (by subst h;rfl)
  have g1:(a.sig.sum==b.sig.sum)=false:=beq_eq_false_iff_ne.2 h13
  have g2:(a.sig.sum != b.sig.sum)=true:=bne_iff_ne.2 h13
  simp (maxSteps:=200000) [go_sem,h0,h1,h2,h3,h4,h5,h6,h7,h8,h9,h10,h11,h12,h13,g1,g2]
  refine cpu (yhx b.prev b.prev) ?_
  simp (maxSteps:=200000) [go_sem,h0,h1,h2,h3,h4,h5,h6,h7,h8,h9,h10,h11,h12,h13,g1,g2]
  refine cpu (yhx b.auth b.auth) ?_
  simp (maxSteps:=200000) [go_sem,h0,h1,h2,h3,h4,h5,h6,h7,h8,h9,h10,h11,h12,h13,g1,g2]
  refine cpu (ygo b.content b.content hU hK) ?_
  simp (maxSteps:=200000) [go_sem,h0,h1,h2,h3,h4,h5,h6,h7,h8,h9,h10,h11,h12,h13,g1,g2]
  refine PostR.ret ?_
  simp[go_sem,hne]
 have he:a=b:=by
  obtain⟨a1,a2,a3,a4,a5,a6,a7,a8,a9,a10,a11,a12,⟨a13,a14⟩⟩:=a
  obtain⟨b1,b2,b3,b4,b5,b6,b7,b8,b9,b10,b11,b12,⟨b13,b14⟩⟩:=b
  simp at *
  simp[*]
 simp (maxSteps:=200000) [go_sem,h0,h1,h2,h3,h4,h5,h6,h7,h8,h9,h10,h11,h12,h13]
 refine cpu (yhx b.prev b.prev) ?_
 simp (maxSteps:=200000) [go_sem,h0,h1,h2,h3,h4,h5,h6,h7,h8,h9,h10,h11,h12,h13]
 refine cpu (yhx b.auth b.auth) ?_
 simp (maxSteps:=200000) [go_sem,h0,h1,h2,h3,h4,h5,h6,h7,h8,h9,h10,h11,h12,h13]
 refine cpu (ygo b.content b.content hU hK) ?_
 simp (maxSteps:=200000) [go_sem,h0,h1,h2,h3,h4,h5,h6,h7,h8,h9,h10,h11,h12,h13]
 refine PostR.ret ?_
 simp[go_sem,he]
def yk1 (k:Int) (c:Content):Content :=
 if k=1 then c else
 if k=2 then ⟨[],c.n,0,false,c.via,[],[],⟨[],[],0,0,0,0,0,0,0⟩⟩ else
 if k=3 then ⟨[],0,0,false,[],[],[],c.levels⟩ else
 if k=4 then ⟨[],c.n,0,false,[],c.allow,[],⟨[],[],0,0,0,0,0,0,0⟩⟩ else
 if k=5 then ⟨[],c.n,0,false,[],[],[],⟨[],[],0,0,0,0,0,0,0⟩⟩ else
 if k=6 then ⟨[],0,0,false,[],c.allow,c.deny,⟨[],[],0,0,0,0,0,0,0⟩⟩ else
 if k=14 then ⟨[],0,c.target,false,[],[],[],⟨[],[],0,0,0,0,0,0,0⟩⟩ else
 ⟨[],0,0,false,[],[],[],⟨[],[],0,0,0,0,0,0,0⟩⟩
def zo4 (k:Int):Int:=if k=2 then 18 else if k=3 then 128 else if k=4 then 34 else if k=5 then 2 else if k=6 then 96 else if k=14 then 4 else 0
def usesN (k:Int):Int:=if k=2 then 19 else if k=3 then 128 else if k=4 then 34 else if k=5 then 2 else if k=6 then 96 else if k=7 then 1 else if k=8 then 2 else if k=9 then 3 else if k=10 then 2 else if k=11 then 13 else if k=12 then 5 else if k=13 then 5 else if k=14 then 5 else 0
theorem and_0_1:andI .i64 0 1=0:=by decide +kernel
theorem and_0_2:andI .i64 0 2=0:=by decide +kernel
theorem and_0_4:andI .i64 0 4=0:=by decide +kernel
theorem and_0_8:andI .i64 0 8=0:=by decide +kernel
theorem and_0_16:andI .i64 0 16=0:=by decide +kernel
theorem and_0_32:andI .i64 0 32=0:=by decide +kernel
theorem and_0_64:andI .i64 0 64=0:=by decide +kernel
theorem zcv:andI .i64 0 128=0:=by decide +kernel
theorem and_2_2:andI .i64 2 2=2:=by decide +kernel
theorem and_2_4:andI .i64 2 4=0:=by decide +kernel
theorem and_2_16:andI .i64 2 16=0:=by decide +kernel
theorem and_2_32:andI .i64 2 32=0:=by decide +kernel
theorem and_2_64:andI .i64 2 64=0:=by decide +kernel
theorem zc6:andI .i64 2 128=0:=by decide +kernel
theorem and_4_2:andI .i64 4 2=0:=by decide +kernel
theorem and_4_4:andI .i64 4 4=4:=by decide +kernel
theorem and_4_16:andI .i64 4 16=0:=by decide +kernel
theorem and_4_32:andI .i64 4 32=0:=by decide +kernel
theorem and_4_64:andI .i64 4 64=0:=by decide +kernel
theorem zdb:andI .i64 4 128=0:=by decide +kernel
theorem and_5_1:andI .i64 5 1=1:=by decide +kernel
theorem and_5_2:andI .i64 5 2=0:=by decide +kernel
theorem and_5_4:andI .i64 5 4=4:=by decide +kernel
theorem and_5_8:andI .i64 5 8=0:=by decide +kernel
theorem and_5_16:andI .i64 5 16=0:=by decide +kernel
theorem and_18_2:andI .i64 18 2=2:=by decide +kernel
theorem and_18_4:andI .i64 18 4=0:=by decide +kernel
theorem zc3:andI .i64 18 16=16:=by decide +kernel
theorem zc4:andI .i64 18 32=0:=by decide +kernel
theorem zc5:andI .i64 18 64=0:=by decide +kernel
theorem zc2:andI .i64 18 128=0:=by decide +kernel
theorem and_34_2:andI .i64 34 2=2:=by decide +kernel
theorem and_34_4:andI .i64 34 4=0:=by decide +kernel
theorem zc8:andI .i64 34 16=0:=by decide +kernel
theorem zc9:andI .i64 34 32=32:=by decide +kernel
theorem zda:andI .i64 34 64=0:=by decide +kernel
theorem zc7:andI .i64 34 128=0:=by decide +kernel
theorem and_96_2:andI .i64 96 2=0:=by decide +kernel
theorem and_96_4:andI .i64 96 4=0:=by decide +kernel
theorem zdd:andI .i64 96 16=0:=by decide +kernel
theorem zde:andI .i64 96 32=32:=by decide +kernel
theorem zdf:andI .i64 96 64=64:=by decide +kernel
theorem zdc:andI .i64 96 128=0:=by decide +kernel
theorem zcy:andI .i64 128 2=0:=by decide +kernel
theorem zc0:andI .i64 128 4=0:=by decide +kernel
theorem zcx:andI .i64 128 16=0:=by decide +kernel
theorem zcz:andI .i64 128 32=0:=by decide +kernel
theorem zc1:andI .i64 128 64=0:=by decide +kernel
theorem zcw:andI .i64 128 128=128:=by decide +kernel
attribute [go_sem] and_0_1 and_0_2 and_0_4 and_0_8 and_0_16 and_0_32 and_0_64 zcv and_2_2 and_2_4 and_2_16 and_2_32 and_2_64 zc6 and_4_2 and_4_4 and_4_16 and_4_32 and_4_64 zdb and_5_1 and_5_2 and_5_4 and_5_8 and_5_16 and_18_2 and_18_4 zc3 zc4 zc5 zc2 and_34_2 and_34_4 zc8 zc9 zda zc7 and_96_2 and_96_4 zdd zde zdf zdc zcy zc0 zcx zcz zc1 zcw
def yk4 (e:Evt):Evt:={ e with content:=yk1 e.kind e.content }
def hashE (e:Evt):Int:=sumB (encC e.content)
def yra (e:Evt):Bool:=hashE e==e.hash
theorem bk_strip (k:Int) (c:Content):bkC (yk1 k c)≤bkC c:=by
 unfold yk1
 repeat' split
 all_goals (simp only[bkC,bkT,bkU,List.length_nil,List.map_nil,List.sum_nil];try omega)
theorem wk_ct {t n g r v x1 x2 x3 x4 x5 x6 x7:AV} {pa pa' pd pd' pu pu' pk pk':AV} (ha:Wk0 pa pa') (hd:Wk0 pd pd') (hu:Wk0 pu pu') (hk:Wk0 pk pk') :
 WkR (.agg [t,n,g,r,v,pa,pd,pu,pk,x1,x2,x3,x4,x5,x6,x7]) (.agg [t,n,g,r,v,pa',pd',pu',pk',x1,x2,x3,x4,x5,x6,x7]) :=
 .one (.one (.agg ⟨.refl _,.refl _,.refl _,.refl _,.refl _,ha,hd,hu,hk,.refl _,.refl _,.refl _,.refl _,.refl _,.refl _,.refl _,trivial⟩))
theorem ygs (k:Int) (c:Content):AC prog 35 [I k,.agg (ctc c)] (.agg (ctc (yk1 k c))):=by
 refine AC.ob func35 ntmps35 results35 (zzj (zx1 _) (zya _)) (zw1 _) fun w S'=>AWp.of_vc [] ?_
 by_cases k1:k=1
 case pos =>
  have hs:yk1 k c=c:=by simp[yk1,k1]
  rw[hs]
  simp[go_sem,k1]
  exact rets
 by_cases k2:k=2
 case pos =>
  have hs:yk1 k c=⟨[],c.n,0,false,c.via,[],[],⟨[],[],0,0,0,0,0,0,0⟩⟩:=by simp[yk1,k1,k2]
  rw[hs]
  simp[go_sem,k1,k2,lvsc]
  refine PostR.retW [] ?_ (wk_ct (.nil _) (.nil _) (.nil _) (.nil _))
  simp[go_sem,lvsc]
 by_cases k3:k=3
 case pos =>
  have hs:yk1 k c=⟨[],0,0,false,[],[],[],c.levels⟩:=by simp[yk1,k1,k2,k3]
  rw[hs]
  simp[go_sem,k1,k2,k3,lvsc]
  refine PostR.retW [] ?_ (wk_ct (.nil _) (.nil _) (.refl _) (.refl _))
  simp[go_sem,lvsc]
 by_cases k4:k=4
 case pos =>
  have hs:yk1 k c=⟨[],c.n,0,false,[],c.allow,[],⟨[],[],0,0,0,0,0,0,0⟩⟩:=by simp[yk1,k1,k2,k3,k4]
  rw[hs]
  simp[go_sem,k1,k2,k3,k4,lvsc]
  refine PostR.retW [] ?_ (wk_ct (.refl _) (.nil _) (.nil _) (.nil _))
  simp[go_sem,lvsc]
 by_cases k5:k=5
 case pos =>
  have hs:yk1 k c=⟨[],c.n,0,false,[],[],[],⟨[],[],0,0,0,0,0,0,0⟩⟩:=by simp[yk1,k1,k2,k3,k4,k5]
  rw[hs]
  simp[go_sem,k1,k2,k3,k4,k5,lvsc]
  refine PostR.retW [] ?_ (wk_ct (.nil _) (.nil _) (.nil _) (.nil _))
  simp[go_sem,lvsc]
 by_cases k6:k=6
 case pos =>
  have hs:yk1 k c=⟨[],0,0,false,[],c.allow,c.deny,⟨[],[],0,0,0,0,0,0,0⟩⟩:=by simp[yk1,k1,k2,k3,k4,k5,k6]
  rw[hs]
  simp[go_sem,k1,k2,k3,k4,k5,k6,lvsc]
  refine PostR.retW [] ?_ (wk_ct (.refl _) (.refl _) (.nil _) (.nil _))
  simp[go_sem,lvsc]
 by_cases k14:k=14
 case pos =>
  have hs:yk1 k c=⟨[],0,c.target,false,[],[],[],⟨[],[],0,0,0,0,0,0,0⟩⟩:=by simp[yk1,k1,k2,k3,k4,k5,k6,k14]
  rw[hs]
  simp[go_sem,k1,k2,k3,k4,k5,k6,k14,lvsc]
  refine PostR.retW [] ?_ (wk_ct (.nil _) (.nil _) (.nil _) (.nil _))
  simp[go_sem,lvsc]
 have hs:yk1 k c=⟨[],0,0,false,[],[],[],⟨[],[],0,0,0,0,0,0,0⟩⟩:=by simp[yk1,k1,k2,k3,k4,k5,k6,k14]
 rw[hs]
 simp[go_sem,k1,k2,k3,k4,k5,k6,k14,lvsc]
 refine PostR.retW [] ?_ (wk_ct (.nil _) (.nil _) (.nil _) (.nil _))
 simp[go_sem,lvsc]
theorem ypr (k:Int):AC prog 160 [I k] (I (usesN k)):=by
 refine AC.ob func160 ntmps160 results160 (zzi (zx1 _)) (zx1 _) fun w S'=>AWp.of_vc [] ?_
 by_cases k2:k=2
 case pos =>
  have hs:usesN k=19:=by simp[usesN,k2]
  rw[hs]
  simp[go_sem,k2]
  exact rets
 by_cases k3:k=3
 case pos =>
  have hs:usesN k=128:=by simp[usesN,k2,k3]
  rw[hs]
  simp[go_sem,k2,k3]
  exact rets
 by_cases k4:k=4
 case pos =>
  have hs:usesN k=34:=by simp[usesN,k2,k3,k4]
  rw[hs]
  simp[go_sem,k2,k3,k4]
  exact rets
 by_cases k5:k=5
 case pos =>
  have hs:usesN k=2:=by simp[usesN,k2,k3,k4,k5]
  rw[hs]
  simp[go_sem,k2,k3,k4,k5]
  exact rets
 by_cases k6:k=6
 case pos =>
  have hs:usesN k=96:=by simp[usesN,k2,k3,k4,k5,k6]
  rw[hs]
  simp[go_sem,k2,k3,k4,k5,k6]
  exact rets
 by_cases k7:k=7
 case pos =>
  have hs:usesN k=1:=by simp[usesN,k2,k3,k4,k5,k6,k7]
  rw[hs]
  simp[go_sem,k2,k3,k4,k5,k6,k7]
  exact rets
 by_cases k8:k=8
 case pos =>
  have hs:usesN k=2:=by simp[usesN,k2,k3,k4,k5,k6,k7,k8]
  rw[hs]
  simp[go_sem,k2,k3,k4,k5,k6,k7,k8]
  exact rets
 by_cases k9:k=9
 case pos =>
  have hs:usesN k=3:=by simp[usesN,k2,k3,k4,k5,k6,k7,k8,k9]
  rw[hs]
  simp[go_sem,k2,k3,k4,k5,k6,k7,k8,k9]
  exact rets
 by_cases k10:k=10
 case pos =>
  have hs:usesN k=2:=by simp[usesN,k2,k3,k4,k5,k6,k7,k8,k9,k10]
  rw[hs]
  simp[go_sem,k2,k3,k4,k5,k6,k7,k8,k9,k10]
  exact rets
 by_cases k11:k=11
 case pos =>
  have hs:usesN k=13:=by simp[usesN,k2,k3,k4,k5,k6,k7,k8,k9,k10,k11]
  rw[hs]
  simp[go_sem,k2,k3,k4,k5,k6,k7,k8,k9,k10,k11]
  exact rets
 by_cases k12:k=12
 case pos =>
  have hs:usesN k=5:=by simp[usesN,k2,k3,k4,k5,k6,k7,k8,k9,k10,k11,k12]
  rw[hs]
  simp[go_sem,k2,k3,k4,k5,k6,k7,k8,k9,k10,k11,k12]
  exact rets
 by_cases k13:k=13
 case pos =>
  have hs:usesN k=5:=by simp[usesN,k2,k3,k4,k5,k6,k7,k8,k9,k10,k11,k12,k13]
  rw[hs]
  simp[go_sem,k2,k3,k4,k5,k6,k7,k8,k9,k10,k11,k12,k13]
  exact rets
 by_cases k14:k=14
 case pos =>
  have hs:usesN k=5:=by simp[usesN,k2,k3,k4,k5,k6,k7,k8,k9,k10,k11,k12,k13,k14]
  rw[hs]
  simp[go_sem,k2,k3,k4,k5,k6,k7,k8,k9,k10,k11,k12,k13,k14]
  exact rets
 have hs:usesN k=0:=by simp[usesN,k2,k3,k4,k5,k6,k7,k8,k9,k10,k11,k12,k13,k14]
 rw[hs]
 simp[go_sem,k2,k3,k4,k5,k6,k7,k8,k9,k10,k11,k12,k13,k14]
 exact rets
theorem zo5 (k:Int):AC prog 124 [I k] (I (zo4 k)):=by
 refine AC.ob func124 ntmps124 results124 (zzi (zx1 _)) (zx1 _) fun w S'=>AWp.of_vc [] ?_
 by_cases k2:k=2
 case pos =>
  have hs:zo4 k=18:=by simp[zo4,k2]
  rw[hs]
  simp[go_sem,k2]
  exact rets
 by_cases k3:k=3
 case pos =>
  have hs:zo4 k=128:=by simp[zo4,k2,k3]
  rw[hs]
  simp[go_sem,k2,k3]
  refine cpu (ypr 3) ?_
  have hu:usesN 3=128:=by simp[usesN]
  rw[hu]
  simp[go_sem,k2,k3]
  exact rets
 by_cases k4:k=4
 case pos =>
  have hs:zo4 k=34:=by simp[zo4,k2,k3,k4]
  rw[hs]
  simp[go_sem,k2,k3,k4]
  refine cpu (ypr 4) ?_
  have hu:usesN 4=34:=by simp[usesN]
  rw[hu]
  simp[go_sem,k2,k3,k4]
  exact rets
 by_cases k5:k=5
 case pos =>
  have hs:zo4 k=2:=by simp[zo4,k2,k3,k4,k5]
  rw[hs]
  simp[go_sem,k2,k3,k4,k5]
  refine cpu (ypr 5) ?_
  have hu:usesN 5=2:=by simp[usesN]
  rw[hu]
  simp[go_sem,k2,k3,k4,k5]
  exact rets
 by_cases k6:k=6
 case pos =>
  have hs:zo4 k=96:=by simp[zo4,k2,k3,k4,k5,k6]
  rw[hs]
  simp[go_sem,k2,k3,k4,k5,k6]
  refine cpu (ypr 6) ?_
  have hu:usesN 6=96:=by simp[usesN]
  rw[hu]
  simp[go_sem,k2,k3,k4,k5,k6]
  exact rets
 by_cases k14:k=14
 case pos =>
  have hs:zo4 k=4:=by simp[zo4,k2,k3,k4,k5,k6,k14]
  rw[hs]
  simp[go_sem,k2,k3,k4,k5,k6,k14]
  exact rets
 have hs:zo4 k=0:=by simp[zo4,k2,k3,k4,k5,k6,k14]
 rw[hs]
 simp[go_sem,k2,k3,k4,k5,k6,k14]
 exact rets
theorem yo1 (l:List Bytes) (h:l.length≤1000000000000):AC prog 122 [strs l] (strs l):=by
 refine AC.ob func122 ntmps122 results122 (zzi (zzf _)) (zxw _) fun w S'=>AWp.of_vc [] ?_
 simp[go_sem]
 refine⟨by omega,?_⟩
 refine PostR.retW [4] ?_ (.refl _)
 simp[go_sem]
theorem ztc (st:St) (l:List Level):okAll st (l.map fun u=>.agg (lvc u)):=fun c hc=>by obtain⟨n,_,rfl⟩:=List.mem_map.1 hc;rfl
theorem zta (st:St) (l:List KindLevel):okAll st (l.map fun u=>.agg (klc u)):=fun c hc=>by obtain⟨n,_,rfl⟩:=List.mem_map.1 hc;rfl
attribute [go_sem] ztc zta
theorem zhj (v:Levels) (h1:v.users.length≤1000000000000) (h2:v.kinds.length≤1000000000000):AC prog 123 [.agg (lvsc v)] (.agg (lvsc v)):=by
 refine AC.ob func123 ntmps123 results123 (zzi (zyz _)) (zyz _) fun w S'=>AWp.of_vc [1] ?_
 simp[go_sem,lvsc]
 refine⟨by omega,by omega,?_⟩
 refine PostR.retW [5,9] ?_ (.refl _)
 simp[go_sem]
theorem ylf {c:Content} (h:SmC c):(c.allow.length≤1000000000000∧c.deny.length≤1000000000000)∧c.levels.users.length≤1000000000000∧c.levels.kinds.length≤1000000000000:=by
 unfold SmC bkC at h
 have h1:=(ze1 c.allow).2
 have h2:=(ze1 c.deny).2
 have h3:=(ze2 c.levels.users).2
 omega
theorem yk2 (k:Int) (c:Content) (hs:SmC c):AC prog 71 [I k,.agg (ctc c)] (.agg (ctc (yk1 k c))):=by
 refine AC.ob func71 ntmps71 results71 (zzj (zx1 _) (zya _)) (zw1 _) fun w S'=>AWp.of_vc [3] ?_
 obtain⟨⟨w1,w2⟩,w3,w4⟩:=ylf hs
 by_cases k1:k=1
 case pos =>
  have hst:yk1 k c=c:=by simp[yk1,k1]
  rw[hst]
  simp[go_sem,k1]
  refine AWp.drawText [] [] [3] [10,13,16] rfl (by kernel_rfl) (fun d d' h=>h) ?_
  simp[go_sem,ctc]
  refine CalmThen.pure (yo1 c.allow w1) rfl ?_
  simp[go_sem,ctc]
  refine CalmThen.pure (yo1 c.deny w2) rfl ?_
  simp[go_sem,ctc]
  refine CalmThen.pure (zhj c.levels w3 w4) rfl ?_
  simp[go_sem,ctc,lvsc]
  refine PostR.ret ?_
  simp[go_sem,ctc,lvsc]
 by_cases k2:k=2
 case pos =>
  have hst:yk1 k c=⟨[],c.n,0,false,c.via,[],[],⟨[],[],0,0,0,0,0,0,0⟩⟩:=by simp[yk1,k1,k2]
  rw[hst]
  have hm:zo4 2=18:=by simp[zo4]
  simp[go_sem,k1,k2]
  refine cpu (zo5 2) ?_
  rw[hm]
  simp[go_sem,ctc,lvsc]
  refine PostR.retW [] ?_ (wk_ct (.nil _) (.nil _) (.nil _) (.nil _))
  simp[go_sem,ctc,lvsc]
 by_cases k3:k=3
 case pos =>
  have hst:yk1 k c=⟨[],0,0,false,[],[],[],c.levels⟩:=by simp[yk1,k1,k2,k3]
  rw[hst]
  have hm:zo4 3=128:=by simp[zo4]
  simp[go_sem,k1,k2,k3]
  refine cpu (zo5 3) ?_
  rw[hm]
  simp[go_sem,ctc,lvsc]
  refine cpu (zhj c.levels w3 w4) ?_
  simp[go_sem,ctc,lvsc]
  refine PostR.retW [] ?_ (wk_ct (.nil _) (.nil _) (.refl _) (.refl _))
  simp[go_sem,ctc,lvsc]
 by_cases k4:k=4
 case pos =>
  have hst:yk1 k c=⟨[],c.n,0,false,[],c.allow,[],⟨[],[],0,0,0,0,0,0,0⟩⟩:=by simp[yk1,k1,k2,k3,k4]
  rw[hst]
  have hm:zo4 4=34:=by simp[zo4]
  simp[go_sem,k1,k2,k3,k4]
  refine cpu (zo5 4) ?_
  rw[hm]
  simp[go_sem,ctc,lvsc]
  refine cpu (yo1 c.allow w1) ?_
  simp[go_sem,ctc,lvsc]
  refine PostR.retW [] ?_ (wk_ct (.refl _) (.nil _) (.nil _) (.nil _))
  simp[go_sem,ctc,lvsc]
 by_cases k5:k=5
 case pos =>
  have hst:yk1 k c=⟨[],c.n,0,false,[],[],[],⟨[],[],0,0,0,0,0,0,0⟩⟩:=by simp[yk1,k1,k2,k3,k4,k5]
  rw[hst]
  have hm:zo4 5=2:=by simp[zo4]
  simp[go_sem,k1,k2,k3,k4,k5]
  refine cpu (zo5 5) ?_
  rw[hm]
  simp[go_sem,ctc,lvsc]
  refine PostR.retW [] ?_ (wk_ct (.nil _) (.nil _) (.nil _) (.nil _))
  simp[go_sem,ctc,lvsc]
 by_cases k6:k=6
 case pos =>
  have hst:yk1 k c=⟨[],0,0,false,[],c.allow,c.deny,⟨[],[],0,0,0,0,0,0,0⟩⟩:=by simp[yk1,k1,k2,k3,k4,k5,k6]
  rw[hst]
  have hm:zo4 6=96:=by simp[zo4]
  simp[go_sem,k1,k2,k3,k4,k5,k6]
  refine cpu (zo5 6) ?_
  rw[hm]
  simp[go_sem,ctc,lvsc]
  refine cpu (yo1 c.allow w1) ?_
  simp[go_sem,ctc,lvsc]
  refine cpu (yo1 c.deny w2) ?_
  simp[go_sem,ctc,lvsc]
  refine PostR.retW [] ?_ (wk_ct (.refl _) (.refl _) (.nil _) (.nil _))
  simp[go_sem,ctc,lvsc]
 by_cases k14:k=14
 case pos =>
  have hst:yk1 k c=⟨[],0,c.target,false,[],[],[],⟨[],[],0,0,0,0,0,0,0⟩⟩:=by simp[yk1,k1,k2,k3,k4,k5,k6,k14]
  rw[hst]
  have hm:zo4 14=4:=by simp[zo4]
  simp[go_sem,k1,k2,k3,k4,k5,k6,k14]
  refine cpu (zo5 14) ?_
  rw[hm]
  simp[go_sem,ctc,lvsc]
  refine PostR.retW [] ?_ (wk_ct (.nil _) (.nil _) (.nil _) (.nil _))
  simp[go_sem,ctc,lvsc]
 have hst:yk1 k c=⟨[],0,0,false,[],[],[],⟨[],[],0,0,0,0,0,0,0⟩⟩:=by simp[yk1,k1,k2,k3,k4,k5,k6,k14]
 rw[hst]
 have hm:zo4 k=0:=by simp[zo4,k1,k2,k3,k4,k5,k6,k14]
 simp[go_sem,k1,k2,k3,k4,k5,k6,k14]
 refine cpu (zo5 k) ?_
 rw[hm]
 simp[go_sem,ctc,lvsc]
 refine PostR.retW [] ?_ (wk_ct (.nil _) (.nil _) (.nil _) (.nil _))
 simp[go_sem,ctc,lvsc]
end Go.Proofs.YthjmjdleecmaeaaGreat
