/- Several texts of the proof in one: B5, U1, U2. No condition. -/
import Derived.Test.YthjmjdleecmaeaaGreatL16
set_option linter.unusedSimpArgs false
set_option linter.unusedVariables false
set_option maxHeartbeats 4000000
set_option maxRecDepth 8000
namespace Go.Proofs.YthjmjdleecmaeaaGreat
open Go Go.Abs Go.Proofs.Tryz
deriving instance DecidableEq for Level,KindLevel,Levels,Content,Sig,Evt
theorem yov {α:Type} {a b:List α} {q:Nat} (h1:q < a.length) (h2:q < b.length) (h:a.take q=b.take q) (he:a[q]=b[q]):a.take (q+1)=b.take (q+1):=by
 rw[List.take_succ_eq_append_getElem h1,List.take_succ_eq_append_getElem h2,h,he]
theorem you {α:Type} {a b:List α} {q:Nat} (h1:a.length≤q) (h2:b.length≤q) (h:a.take q=b.take q):a=b:=by
 rw[← List.take_of_length_le h1,← List.take_of_length_le h2,h]
theorem zm0 {α:Type} {a b:List α} {q:Nat} (h1:q < a.length) (h2:q < b.length) (he:¬ a[q]=b[q]):¬ a=b:=fun h=>he (by subst h;rfl)
theorem zb5 (a b:List Bytes):AC prog 125 [strs a,strs b] (B (decide (a=b))):=by
 refine AC.ob func125 ntmps125 results125 (zzj (zzf _) (zzf _)) (zx0 _) fun w S'=>AWp.bound 0 rfl fun hlen=>AWp.of_vc [] ?_
 by_cases hl:a.length=b.length
 · simp[go_sem,hl]
   refine AWp.loop_vc [] (fun m s=>∃ q:Nat,q≤b.length∧m=b.length - q∧s.σ 0=strs a∧s.σ 1=strs b∧s.σ 12=I b.length∧s.σ 13=I q∧a.take q=b.take q) b.length ⟨0,by simp[go_sem]⟩ ?_
   rintro m s ⟨q,hq,rfl,h0,h1,h12,h13,htk⟩
   by_cases hlt:q < b.length
   · have hla:q < a.length:=by omega
     simp[go_sem,h0,h1,h12,h13,hlt,hla]
     refine da ?_
     by_cases he:a[q]=b[q]
     · simp[go_sem,h0,h1,h12,h13,hlt,hla,he,yro hlt (show b.length≤maxLen by simp at hlen;omega)]
       exact⟨b.length - (q+1),by omega,q+1,by omega,rfl,rfl,yov hla hlt htk he⟩
     · have hne:=zm0 hla hlt he
       simp[go_sem,h0,h1,h12,h13,hlt,hla,he]
       refine PostR.ret ?_
       simp[go_sem,hne]
   · have he:a=b:=you (q:=q) (by omega) (by omega) htk
     simp[go_sem,h0,h1,h12,h13,hlt]
     refine PostR.ret ?_
     simp[go_sem,he]
 · have hne:¬ a=b:=fun h=>hl (by rw[h])
   have hl':¬ (a.length:Int)=b.length:=by omega
   simp[go_sem,hl,hl']
   refine PostR.ret ?_
   simp[go_sem,hne]
theorem zb4 (a b:List Level):AC prog 126 [.lst 2 (a.map fun u=>.agg (lvc u)),.lst 2 (b.map fun u=>.agg (lvc u))] (B (decide (a=b))):=by
 refine AC.ob func126 ntmps126 results126 (zzj (zyx zyy) (zyx zyy)) (zx0 _) fun w S'=>AWp.bound 0 rfl fun hlen=>AWp.of_vc [] ?_
 by_cases hl:a.length=b.length
 · simp[go_sem,hl]
   refine AWp.loop_vc [] (fun m s=>∃ q:Nat,q≤b.length∧m=b.length - q∧s.σ 0=.lst 2 (a.map fun u=>.agg (lvc u))∧s.σ 1=.lst 2 (b.map fun u=>.agg (lvc u))∧s.σ 12=I b.length∧s.σ 13=I q∧a.take q=b.take q) b.length ⟨0,by simp[go_sem]⟩ ?_
   rintro m s ⟨q,hq,rfl,h0,h1,h12,h13,htk⟩
   by_cases hlt:q < b.length
   · have hla:q < a.length:=by omega
     simp[go_sem,h0,h1,h12,h13,hlt,hla]
     refine da ?_
     by_cases he:a[q]=b[q]
     · have e1:a[q].user=b[q].user:=by rw[he]
       have e2:a[q].n=b[q].n:=by rw[he]
       simp[go_sem,h0,h1,h12,h13,hlt,hla,lvc,e1,e2,yro hlt (show b.length≤maxLen by simp at hlen;omega)]
       exact⟨b.length - (q+1),by omega,q+1,by omega,rfl,rfl,yov hla hlt htk he⟩
     · have hne:=zm0 hla hlt he
       by_cases e1:a[q].user=b[q].user
       · have e2:¬ a[q].n=b[q].n:=fun e2=>he (by
          generalize a[q]=x at *;generalize b[q]=y at *
          cases x;cases y;simp at e1 e2;simp[e1,e2])
         simp[go_sem,h0,h1,h12,h13,hlt,hla,lvc,e1,e2]
         refine PostR.ret ?_
         simp[go_sem,hne]
       · simp[go_sem,h0,h1,h12,h13,hlt,hla,lvc,e1]
         refine PostR.ret ?_
         simp[go_sem,hne]
   · have he:a=b:=you (q:=q) (by omega) (by omega) htk
     simp[go_sem,h0,h1,h12,h13,hlt]
     refine PostR.ret ?_
     simp[go_sem,he]
 · have hne:¬ a=b:=fun h=>hl (by rw[h])
   have hl':¬ (a.length:Int)=b.length:=by omega
   simp[go_sem,hl,hl']
   refine PostR.ret ?_
   simp[go_sem,hne]
theorem zb3 (a b:List KindLevel):AC prog 127 [.lst 2 (a.map fun u=>.agg (klc u)),.lst 2 (b.map fun u=>.agg (klc u))] (B (decide (a=b))):=by
 refine AC.ob func127 ntmps127 results127 (zzj (zyx zyt) (zyx zyt)) (zx0 _) fun w S'=>AWp.bound 0 rfl fun hlen=>AWp.of_vc [] ?_
 by_cases hl:a.length=b.length
 · simp[go_sem,hl]
   refine AWp.loop_vc [] (fun m s=>∃ q:Nat,q≤b.length∧m=b.length - q∧s.σ 0=.lst 2 (a.map fun u=>.agg (klc u))∧s.σ 1=.lst 2 (b.map fun u=>.agg (klc u))∧s.σ 12=I b.length∧s.σ 13=I q∧a.take q=b.take q) b.length ⟨0,by simp[go_sem]⟩ ?_
   rintro m s ⟨q,hq,rfl,h0,h1,h12,h13,htk⟩
   by_cases hlt:q < b.length
   · have hla:q < a.length:=by omega
     simp[go_sem,h0,h1,h12,h13,hlt,hla]
     refine da ?_
     by_cases he:a[q]=b[q]
     · have e1:a[q].kind=b[q].kind:=by rw[he]
       have e2:a[q].n=b[q].n:=by rw[he]
       simp[go_sem,h0,h1,h12,h13,hlt,hla,klc,e1,e2,yro hlt (show b.length≤maxLen by simp at hlen;omega)]
       exact⟨b.length - (q+1),by omega,q+1,by omega,rfl,rfl,yov hla hlt htk he⟩
     · have hne:=zm0 hla hlt he
       by_cases e1:a[q].kind=b[q].kind
       · have e2:¬ a[q].n=b[q].n:=fun e2=>he (by
          generalize a[q]=x at *;generalize b[q]=y at *
          cases x;cases y;simp at e1 e2;simp[e1,e2])
         simp[go_sem,h0,h1,h12,h13,hlt,hla,klc,e1,e2]
         refine PostR.ret ?_
         simp[go_sem,hne]
       · simp[go_sem,h0,h1,h12,h13,hlt,hla,klc,e1]
         refine PostR.ret ?_
         simp[go_sem,hne]
   · have he:a=b:=you (q:=q) (by omega) (by omega) htk
     simp[go_sem,h0,h1,h12,h13,hlt]
     refine PostR.ret ?_
     simp[go_sem,he]
 · have hne:¬ a=b:=fun h=>hl (by rw[h])
   have hl':¬ (a.length:Int)=b.length:=by omega
   simp[go_sem,hl,hl']
   refine PostR.ret ?_
   simp[go_sem,hne]
theorem ygq (a b:List Bytes):AC prog 62 [strs a,strs b] (B (decide (a=b))):=by
 refine AC.ob func62 ntmps62 results62 (zzj (zzf _) (zzf _)) (zx0 _) fun w S'=>AWp.bound 0 rfl fun hlen=>AWp.of_vc [] ?_
 by_cases hl:a.length=b.length
 · simp[go_sem,hl]
   refine AWp.loop_vc [] (fun m s=>∃ q:Nat,q≤b.length∧m=b.length - q∧s.σ 0=strs a∧s.σ 1=strs b∧s.σ 5=I q∧a.take q=b.take q) b.length ⟨0,by simp[go_sem]⟩ ?_
   rintro m s ⟨q,hq,rfl,h0,h1,h13,htk⟩
   by_cases hlt:q < b.length
   · have hla:q < a.length:=by omega
     simp[go_sem,h0,h1,hl,h13,hlt,hla]
     refine da ?_
     by_cases he:a[q]=b[q]
     · simp[go_sem,h0,h1,hl,h13,hlt,hla,he,yro hlt (show b.length≤maxLen by simp at hlen;omega)]
       exact⟨b.length - (q+1),by omega,q+1,by omega,rfl,rfl,yov hla hlt htk he⟩
     · have hne:=zm0 hla hlt he
       simp[go_sem,h0,h1,hl,h13,hlt,hla,he]
       refine PostR.ret ?_
       simp[go_sem,hne]
   · have he:a=b:=you (q:=q) (by omega) (by omega) htk
     simp[go_sem,h0,h1,hl,h13,hlt]
     refine PostR.ret ?_
     simp[go_sem,he]
 · have hne:¬ a=b:=fun h=>hl (by rw[h])
   have hl':¬ (a.length:Int)=b.length:=by omega
   simp[go_sem,hl,hl']
   refine PostR.ret ?_
   simp[go_sem,hne]
theorem yhv (a b:Content):AC prog 72 [.agg (ctc a),.agg (ctc b)] (B (decide (a=b))):=by
 refine AC.ob func72 ntmps72 results72 (zzj (zya _) (zya _)) (zx0 _) fun w S'=>AWp.of_vc [] ?_
 by_cases h0:a.text=b.text
 case neg =>
  have hne:¬ a=b:=fun h=>h0 (by subst h;rfl)
  have g1:(a.text==b.text)=false:=beq_eq_false_iff_ne.2 h0
  have g2:(a.text != b.text)=true:=bne_iff_ne.2 h0
  simp[go_sem]
  refine AWp.drawText [] [5,6] [] [] rfl (by kernel_rfl) (fun d d' h=>h) ?_
  simp (maxSteps:=200000) [go_sem,lvsc,h0,g1,g2]
  refine PostR.ret ?_
  simp[go_sem,hne]
 by_cases h1:a.n=b.n
 case neg =>
  have hne:¬ a=b:=fun h=>h1 (by subst h;rfl)
  have g1:(a.n==b.n)=false:=beq_eq_false_iff_ne.2 h1
  have g2:(a.n != b.n)=true:=bne_iff_ne.2 h1
  simp[go_sem]
  refine AWp.drawText [] [5,6] [] [] rfl (by kernel_rfl) (fun d d' h=>h) ?_
  simp (maxSteps:=200000) [go_sem,lvsc,h0,h1,g1,g2]
  refine PostR.ret ?_
  simp[go_sem,hne]
 by_cases h2:a.target=b.target
 case neg =>
  have hne:¬ a=b:=fun h=>h2 (by subst h;rfl)
  have g1:(a.target==b.target)=false:=beq_eq_false_iff_ne.2 h2
  have g2:(a.target != b.target)=true:=bne_iff_ne.2 h2
  simp[go_sem]
  refine AWp.drawText [] [5,6] [] [] rfl (by kernel_rfl) (fun d d' h=>h) ?_
  simp (maxSteps:=200000) [go_sem,lvsc,h0,h1,h2,g1,g2]
  refine PostR.ret ?_
  simp[go_sem,hne]
 by_cases h3:a.thread=b.thread
 case neg =>
  have hne:¬ a=b:=fun h=>h3 (by subst h;rfl)
  have g1:(a.thread==b.thread)=false:=beq_eq_false_iff_ne.2 h3
  have g2:(a.thread != b.thread)=true:=bne_iff_ne.2 h3
  simp[go_sem]
  refine AWp.drawText [] [5,6] [] [] rfl (by kernel_rfl) (fun d d' h=>h) ?_
  simp (maxSteps:=200000) [go_sem,lvsc,h0,h1,h2,g1,g2]
  refine PostR.ret ?_
  simp[go_sem,hne]
 by_cases h4:a.via=b.via
 case neg =>
  have hne:¬ a=b:=fun h=>h4 (by subst h;rfl)
  have g1:(a.via==b.via)=false:=beq_eq_false_iff_ne.2 h4
  have g2:(a.via != b.via)=true:=bne_iff_ne.2 h4
  simp[go_sem]
  refine AWp.drawText [] [5,6] [] [] rfl (by kernel_rfl) (fun d d' h=>h) ?_
  simp (maxSteps:=200000) [go_sem,lvsc,h0,h1,h2,h3,h4,g1,g2]
  refine PostR.ret ?_
  simp[go_sem,hne]
 by_cases h5:a.allow=b.allow
 case neg =>
  have hne:¬ a=b:=fun h=>h5 (by subst h;rfl)
  simp[go_sem]
  refine AWp.drawText [] [5,6] [] [] rfl (by kernel_rfl) (fun d d' h=>h) ?_
  simp (maxSteps:=200000) [go_sem,lvsc,h0,h1,h2,h3,h4,h5]
  refine cpu (zb5 a.allow b.allow) ?_
  simp (maxSteps:=200000) [go_sem,lvsc,h0,h1,h2,h3,h4,h5]
  refine PostR.ret ?_
  simp[go_sem,hne]
 by_cases h6:a.deny=b.deny
 case neg =>
  have hne:¬ a=b:=fun h=>h6 (by subst h;rfl)
  simp[go_sem]
  refine AWp.drawText [] [5,6] [] [] rfl (by kernel_rfl) (fun d d' h=>h) ?_
  simp (maxSteps:=200000) [go_sem,lvsc,h0,h1,h2,h3,h4,h5,h6]
  refine cpu (zb5 b.allow b.allow) ?_
  simp (maxSteps:=200000) [go_sem,lvsc,h0,h1,h2,h3,h4,h5,h6]
  refine cpu (zb5 a.deny b.deny) ?_
  simp (maxSteps:=200000) [go_sem,lvsc,h0,h1,h2,h3,h4,h5,h6]
  refine PostR.ret ?_
  simp[go_sem,hne]
 by_cases h7:a.levels.users=b.levels.users
 case neg =>
  have hne:¬ a=b:=fun h=>h7 (by subst h;rfl)
  simp[go_sem]
  refine AWp.drawText [] [5,6] [] [] rfl (by kernel_rfl) (fun d d' h=>h) ?_
  simp (maxSteps:=200000) [go_sem,lvsc,h0,h1,h2,h3,h4,h5,h6,h7]
  refine cpu (zb5 b.allow b.allow) ?_
  simp (maxSteps:=200000) [go_sem,lvsc,h0,h1,h2,h3,h4,h5,h6,h7]
  refine cpu (zb5 b.deny b.deny) ?_
  simp (maxSteps:=200000) [go_sem,lvsc,h0,h1,h2,h3,h4,h5,h6,h7]
  refine cpu (zb4 a.levels.users b.levels.users) ?_
  simp (maxSteps:=200000) [go_sem,lvsc,h0,h1,h2,h3,h4,h5,h6,h7]
  refine PostR.ret ?_
  simp[go_sem,hne]
 by_cases h8:a.levels.kinds=b.levels.kinds
 case neg =>
  have hne:¬ a=b:=fun h=>h8 (by subst h;rfl)
  simp[go_sem]
  refine AWp.drawText [] [5,6] [] [] rfl (by kernel_rfl) (fun d d' h=>h) ?_
  simp (maxSteps:=200000) [go_sem,lvsc,h0,h1,h2,h3,h4,h5,h6,h7,h8]
  refine cpu (zb5 b.allow b.allow) ?_
  simp (maxSteps:=200000) [go_sem,lvsc,h0,h1,h2,h3,h4,h5,h6,h7,h8]
  refine cpu (zb5 b.deny b.deny) ?_
  simp (maxSteps:=200000) [go_sem,lvsc,h0,h1,h2,h3,h4,h5,h6,h7,h8]
  refine cpu (zb4 b.levels.users b.levels.users) ?_
  simp (maxSteps:=200000) [go_sem,lvsc,h0,h1,h2,h3,h4,h5,h6,h7,h8]
  refine cpu (zb3 a.levels.kinds b.levels.kinds) ?_
  simp (maxSteps:=200000) [go_sem,lvsc,h0,h1,h2,h3,h4,h5,h6,h7,h8]
  refine PostR.ret ?_
  simp[go_sem,hne]
 by_cases h9:a.levels.user=b.levels.user
 case neg =>
  have hne:¬ a=b:=fun h=>h9 (by subst h;rfl)
  have g1:(a.levels.user==b.levels.user)=false:=beq_eq_false_iff_ne.2 h9
  have g2:(a.levels.user != b.levels.user)=true:=bne_iff_ne.2 h9
  simp[go_sem]
  refine AWp.drawText [] [5,6] [] [] rfl (by kernel_rfl) (fun d d' h=>h) ?_
  simp (maxSteps:=200000) [go_sem,lvsc,h0,h1,h2,h3,h4,h5,h6,h7,h8,h9,g1,g2]
  refine cpu (zb5 b.allow b.allow) ?_
  simp (maxSteps:=200000) [go_sem,lvsc,h0,h1,h2,h3,h4,h5,h6,h7,h8,h9,g1,g2]
  refine cpu (zb5 b.deny b.deny) ?_
  simp (maxSteps:=200000) [go_sem,lvsc,h0,h1,h2,h3,h4,h5,h6,h7,h8,h9,g1,g2]
  refine cpu (zb4 b.levels.users b.levels.users) ?_
  simp (maxSteps:=200000) [go_sem,lvsc,h0,h1,h2,h3,h4,h5,h6,h7,h8,h9,g1,g2]
  refine cpu (zb3 b.levels.kinds b.levels.kinds) ?_
  simp (maxSteps:=200000) [go_sem,lvsc,h0,h1,h2,h3,h4,h5,h6,h7,h8,h9,g1,g2]
  refine PostR.ret ?_
  simp[go_sem,hne]
 by_cases h10:a.levels.message=b.levels.message
 case neg =>
  have hne:¬ a=b:=fun h=>h10 (by subst h;rfl)
  have g1:(a.levels.message==b.levels.message)=false:=beq_eq_false_iff_ne.2 h10
  have g2:(a.levels.message != b.levels.message)=true:=bne_iff_ne.2 h10
  simp[go_sem]
  refine AWp.drawText [] [5,6] [] [] rfl (by kernel_rfl) (fun d d' h=>h) ?_
  simp (maxSteps:=200000) [go_sem,lvsc,h0,h1,h2,h3,h4,h5,h6,h7,h8,h9,h10,g1,g2]
  refine cpu (zb5 b.allow b.allow) ?_
  simp (maxSteps:=200000) [go_sem,lvsc,h0,h1,h2,h3,h4,h5,h6,h7,h8,h9,h10,g1,g2]
  refine cpu (zb5 b.deny b.deny) ?_
  simp (maxSteps:=200000) [go_sem,lvsc,h0,h1,h2,h3,h4,h5,h6,h7,h8,h9,h10,g1,g2]
  refine cpu (zb4 b.levels.users b.levels.users) ?_
  simp (maxSteps:=200000) [go_sem,lvsc,h0,h1,h2,h3,h4,h5,h6,h7,h8,h9,h10,g1,g2]
  refine cpu (zb3 b.levels.kinds b.levels.kinds) ?_
  simp (maxSteps:=200000) [go_sem,lvsc,h0,h1,h2,h3,h4,h5,h6,h7,h8,h9,h10,g1,g2]
  refine PostR.ret ?_
  simp[go_sem,hne]
 by_cases h11:a.levels.state=b.levels.state
 case neg =>
  have hne:¬ a=b:=fun h=>h11 (by subst h;rfl)
  have g1:(a.levels.state==b.levels.state)=false:=beq_eq_false_iff_ne.2 h11
  have g2:(a.levels.state != b.levels.state)=true:=bne_iff_ne.2 h11
  simp[go_sem]
  refine AWp.drawText [] [5,6] [] [] rfl (by kernel_rfl) (fun d d' h=>h) ?_
  simp (maxSteps:=200000) [go_sem,lvsc,h0,h1,h2,h3,h4,h5,h6,h7,h8,h9,h10,g1,g2]
  refine cpu (zb5 b.allow b.allow) ?_
  simp (maxSteps:=200000) [go_sem,lvsc,h0,h1,h2,h3,h4,h5,h6,h7,h8,h9,h10,g1,g2]
  refine cpu (zb5 b.deny b.deny) ?_
  simp (maxSteps:=200000) [go_sem,lvsc,h0,h1,h2,h3,h4,h5,h6,h7,h8,h9,h10,g1,g2]
  refine cpu (zb4 b.levels.users b.levels.users) ?_
  simp (maxSteps:=200000) [go_sem,lvsc,h0,h1,h2,h3,h4,h5,h6,h7,h8,h9,h10,g1,g2]
  refine cpu (zb3 b.levels.kinds b.levels.kinds) ?_
  simp (maxSteps:=200000) [go_sem,lvsc,h0,h1,h2,h3,h4,h5,h6,h7,h8,h9,h10,g1,g2]
  refine PostR.ret ?_
  simp[go_sem,hne]
 by_cases h12:a.levels.invite=b.levels.invite
 case neg =>
  have hne:¬ a=b:=fun h=>h12 (by subst h;rfl)
  have g1:(a.levels.invite==b.levels.invite)=false:=beq_eq_false_iff_ne.2 h12
  have g2:(a.levels.invite != b.levels.invite)=true:=bne_iff_ne.2 h12
  simp[go_sem]
  refine AWp.drawText [] [5,6] [] [] rfl (by kernel_rfl) (fun d d' h=>h) ?_
  simp (maxSteps:=200000) [go_sem,lvsc,h0,h1,h2,h3,h4,h5,h6,h7,h8,h9,h10,h11,h12,g1,g2]
  refine cpu (zb5 b.allow b.allow) ?_
  simp (maxSteps:=200000) [go_sem,lvsc,h0,h1,h2,h3,h4,h5,h6,h7,h8,h9,h10,h11,h12,g1,g2]
  refine cpu (zb5 b.deny b.deny) ?_
  simp (maxSteps:=200000) [go_sem,lvsc,h0,h1,h2,h3,h4,h5,h6,h7,h8,h9,h10,h11,h12,g1,g2]
  refine cpu (zb4 b.levels.users b.levels.users) ?_
  simp (maxSteps:=200000) [go_sem,lvsc,h0,h1,h2,h3,h4,h5,h6,h7,h8,h9,h10,h11,h12,g1,g2]
  refine cpu (zb3 b.levels.kinds b.levels.kinds) ?_
  simp (maxSteps:=200000) [go_sem,lvsc,h0,h1,h2,h3,h4,h5,h6,h7,h8,h9,h10,h11,h12,g1,g2]
  refine PostR.ret ?_
  simp[go_sem,hne]
 by_cases h13:a.levels.kick=b.levels.kick
 case neg =>
  have hne:¬ a=b:=fun h=>h13 (by subst h;rfl)
  have g1:(a.levels.kick==b.levels.kick)=false:=beq_eq_false_iff_ne.2 h13
  have g2:(a.levels.kick != b.levels.kick)=true:=bne_iff_ne.2 h13
  simp[go_sem]
  refine AWp.drawText [] [5,6] [] [] rfl (by kernel_rfl) (fun d d' h=>h) ?_
  simp (maxSteps:=200000) [go_sem,lvsc,h0,h1,h2,h3,h4,h5,h6,h7,h8,h9,h10,h11,h12,h13,g1,g2]
  refine cpu (zb5 b.allow b.allow) ?_
  simp (maxSteps:=200000) [go_sem,lvsc,h0,h1,h2,h3,h4,h5,h6,h7,h8,h9,h10,h11,h12,h13,g1,g2]
  refine cpu (zb5 b.deny b.deny) ?_
  simp (maxSteps:=200000) [go_sem,lvsc,h0,h1,h2,h3,h4,h5,h6,h7,h8,h9,h10,h11,h12,h13,g1,g2]
  refine cpu (zb4 b.levels.users b.levels.users) ?_
  simp (maxSteps:=200000) [go_sem,lvsc,h0,h1,h2,h3,h4,h5,h6,h7,h8,h9,h10,h11,h12,h13,g1,g2]
  refine cpu (zb3 b.levels.kinds b.levels.kinds) ?_
  simp (maxSteps:=200000) [go_sem,lvsc,h0,h1,h2,h3,h4,h5,h6,h7,h8,h9,h10,h11,h12,h13,g1,g2]
  refine PostR.ret ?_
  simp[go_sem,hne]
 by_cases h14:a.levels.ban=b.levels.ban
 case neg =>
  have hne:¬ a=b:=fun h=>h14 (by subst h;rfl)
  have g1:(a.levels.ban==b.levels.ban)=false:=beq_eq_false_iff_ne.2 h14
  have g2:(a.levels.ban != b.levels.ban)=true:=bne_iff_ne.2 h14
  simp[go_sem]
  refine AWp.drawText [] [5,6] [] [] rfl (by kernel_rfl) (fun d d' h=>h) ?_
  simp (maxSteps:=200000) [go_sem,lvsc,h0,h1,h2,h3,h4,h5,h6,h7,h8,h9,h10,h11,h12,h13,h14,g1,g2]
  refine cpu (zb5 b.allow b.allow) ?_
  simp (maxSteps:=200000) [go_sem,lvsc,h0,h1,h2,h3,h4,h5,h6,h7,h8,h9,h10,h11,h12,h13,h14,g1,g2]
  refine cpu (zb5 b.deny b.deny) ?_
  simp (maxSteps:=200000) [go_sem,lvsc,h0,h1,h2,h3,h4,h5,h6,h7,h8,h9,h10,h11,h12,h13,h14,g1,g2]
  refine cpu (zb4 b.levels.users b.levels.users) ?_
  simp (maxSteps:=200000) [go_sem,lvsc,h0,h1,h2,h3,h4,h5,h6,h7,h8,h9,h10,h11,h12,h13,h14,g1,g2]
  refine cpu (zb3 b.levels.kinds b.levels.kinds) ?_
  simp (maxSteps:=200000) [go_sem,lvsc,h0,h1,h2,h3,h4,h5,h6,h7,h8,h9,h10,h11,h12,h13,h14,g1,g2]
  refine PostR.ret ?_
  simp[go_sem,hne]
 by_cases h15:a.levels.redact=b.levels.redact
 case neg =>
  have hne:¬ a=b:=fun h=>h15 (by subst h;rfl)
  have g1:(a.levels.redact==b.levels.redact)=false:=beq_eq_false_iff_ne.2 h15
  have g2:(a.levels.redact != b.levels.redact)=true:=bne_iff_ne.2 h15
  simp[go_sem]
  refine AWp.drawText [] [5,6] [] [] rfl (by kernel_rfl) (fun d d' h=>h) ?_
  simp (maxSteps:=200000) [go_sem,lvsc,h0,h1,h2,h3,h4,h5,h6,h7,h8,h9,h10,h11,h12,h13,h14,h15,g1,g2]
  refine cpu (zb5 b.allow b.allow) ?_
  simp (maxSteps:=200000) [go_sem,lvsc,h0,h1,h2,h3,h4,h5,h6,h7,h8,h9,h10,h11,h12,h13,h14,h15,g1,g2]
  refine cpu (zb5 b.deny b.deny) ?_
  simp (maxSteps:=200000) [go_sem,lvsc,h0,h1,h2,h3,h4,h5,h6,h7,h8,h9,h10,h11,h12,h13,h14,h15,g1,g2]
  refine cpu (zb4 b.levels.users b.levels.users) ?_
  simp (maxSteps:=200000) [go_sem,lvsc,h0,h1,h2,h3,h4,h5,h6,h7,h8,h9,h10,h11,h12,h13,h14,h15,g1,g2]
  refine cpu (zb3 b.levels.kinds b.levels.kinds) ?_
  simp (maxSteps:=200000) [go_sem,lvsc,h0,h1,h2,h3,h4,h5,h6,h7,h8,h9,h10,h11,h12,h13,h14,h15,g1,g2]
  refine PostR.ret ?_
  simp[go_sem,hne]
 have he:a=b:=by
  obtain⟨t1,n1,g1,r1,v1,l1,d1,⟨u1,k1,x1,x2,x3,x4,x5,x6,x7⟩⟩:=a
  obtain⟨t2,n2,g2,r2,v2,l2,d2,⟨u2,k2,y1,y2,y3,y4,y5,y6,y7⟩⟩:=b
  simp at *
  simp[*]
 simp[go_sem]
 refine AWp.drawText [] [5,6] [] [] rfl (by kernel_rfl) (fun d d' h=>h) ?_
 simp (maxSteps:=200000) [go_sem,lvsc,h0,h1,h2,h3,h4,h5,h6,h7,h8,h9,h10,h11,h12,h13,h14,h15]
 refine cpu (zb5 b.allow b.allow) ?_
 simp (maxSteps:=200000) [go_sem,lvsc,h0,h1,h2,h3,h4,h5,h6,h7,h8,h9,h10,h11,h12,h13,h14,h15]
 refine cpu (zb5 b.deny b.deny) ?_
 simp (maxSteps:=200000) [go_sem,lvsc,h0,h1,h2,h3,h4,h5,h6,h7,h8,h9,h10,h11,h12,h13,h14,h15]
 refine cpu (zb4 b.levels.users b.levels.users) ?_
 simp (maxSteps:=200000) [go_sem,lvsc,h0,h1,h2,h3,h4,h5,h6,h7,h8,h9,h10,h11,h12,h13,h14,h15]
 refine cpu (zb3 b.levels.kinds b.levels.kinds) ?_
 simp (maxSteps:=200000) [go_sem,lvsc,h0,h1,h2,h3,h4,h5,h6,h7,h8,h9,h10,h11,h12,h13,h14,h15]
 refine PostR.ret ?_
 simp[go_sem,he]
end Go.Proofs.YthjmjdleecmaeaaGreat
namespace Go.Proofs.YthjmjdleecmaeaaGreat
open Go Go.Abs
end Go.Proofs.YthjmjdleecmaeaaGreat
namespace Go.Proofs.YthjmjdleecmaeaaGreat
open Go Go.Abs Go.Proofs.Tryz
def putL (l:List Int) (n:Int):List Int:=if l.contains n then l else l.takeWhile (· < n)++n::l.dropWhile (· < n)
set_option maxHeartbeats 400000 in
theorem yhx (a b:List Int):AC prog 33 [ints a,ints b] (B (a==b)):=by
 refine AC.ob func33 ntmps33 results33 (zzj (zyr _) (zyr _)) (zx0 _) fun w S=>AWp.bound 0 rfl fun hlen=>AWp.of_vc [] ?_
 rw[zop]at hlen
 by_cases hab:a.length=b.length
 case neg =>
  have hab':¬ (a.length:Int)=b.length:=by omega
  simp[go_sem,hab,hab']
  refine PostR.ret ?_
  simp[go_sem]
  intro h;exact hab (by rw[h])
 simp[go_sem,hab]
 refine AWp.loop_vc [] (fun m s=>∃ k:Nat,k≤a.length∧m=a.length - k∧s.σ 0=ints a∧s.σ 1=ints b∧s.σ 5=I k∧a.take k=b.take k) a.length ⟨0,by simp[go_sem]⟩ ?_
 rintro m s ⟨k,hk,rfl,h0,h1,h5,hno⟩
 by_cases hlt:k < a.length
 · have hlt':k < b.length:=by omega
   simp[go_sem,h0,h1,h5,hlt,hlt']
   refine da ?_
   simp[go_sem,h0,h1,h5,hlt,hlt']
   by_cases hp:a[k]=b[k]
   · rw[if_pos hp]
     refine⟨a.length - (k+1),by omega,k+1,by omega,rfl,by rw[yro hlt hlen];rfl,?_⟩
     rw[List.take_succ_eq_append_getElem hlt,List.take_succ_eq_append_getElem hlt',hno,hp]
   · rw[if_neg hp]
     refine PostR.ret ?_
     simp[go_sem]
     rintro rfl
     exact hp rfl
 · simp[go_sem,h0,h1,h5,hlt]
   refine PostR.ret ?_
   simp[go_sem]
   rw[List.take_of_length_le (by omega),List.take_of_length_le (by omega)]at hno
   exact hno
theorem putL_len (l:List Int) (n:Int):(putL l n).length≤l.length+1:=by
 unfold putL
 split
 · omega
 · have h:=congrArg List.length (List.takeWhile_append_dropWhile (p:=fun x:Int=>decide (x < n)) (l:=l))
   simp only[List.length_append]at h
   simp only[List.length_append,List.length_cons]
   omega
def yjh (l:List Int):List Int:=l.foldl putL []
theorem zl3 (l:List Int):∀ a:List Int,(l.foldl putL a).length≤a.length+l.length:=by
 induction l with
 | nil=>intro a;simp
 | cons x l ih =>
  intro a
  have h1:=ih (putL a x)
  have h2:=putL_len a x
  simp only[List.foldl_cons,List.length_cons]
  omega
end Go.Proofs.YthjmjdleecmaeaaGreat
