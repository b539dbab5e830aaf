/- The law TopAgreement returns true for every input that is small, and leaves its arguments as they were.
Conditions: what is read is of bulk at most 1048576, as the statement says. -/
import Derived.Test.YthjmjdleecmaeaaGreatRows
import Derived.Test.YthjmjdleecmaeaaGreatLZj2
import Derived.Test.YthjmjdleecmaeaaGreatL43
set_option linter.unusedSimpArgs false
set_option linter.unusedVariables false
set_option maxHeartbeats 4000000
set_option maxRecDepth 8000
namespace Go.Proofs.YthjmjdleecmaeaaGreat
open Go Go.Abs Go.ChangeShapes Go.WideShapes Go.ChangeAt Go.RowKit
theorem yse (x:List Evt×List Evt×Unit) (hx:(x.1.map fun e=>bkE e+1).sum+((x.2.1.map fun e=>bkE e+1).sum+0)≤1048576):AC Tryz.prog 4 [evs x.1,evs x.2.1] (.v (.bool true)):=by
 obtain⟨h1,h2,h3⟩:=yje (l:=x.1) (by omega)
 obtain⟨k1,k2,k3⟩:=yje (l:=x.2.1) (by omega)
 exact ysc x.1 x.2.1 (by omega) (by omega) (fun e he=>(List.mem_append.1 he).elim (h2 e) (k2 e)) (fun e he=>(List.mem_append.1 he).elim (h3 e) (k3 e))
theorem ysa:ownKnob Tryz.prog.godebug=none:=by kernel_rfl
theorem yr8:laidOutB Tryz.prog=true:=yr1
theorem yr7 {H:Type}:∀ ds:List (DataW H),ds.length=2→Rows.topAgreementSpec.fn H ds={ results:=[.lit (.bool true)],args:=ds }
 | [],h=>by simp at h
 | [_],h=>by simp at h
 | [d0,d1],_=>rfl
 | _::_::_::_,h=>by simp at h
set_option maxRecDepth 100000 in
theorem yr9 (os:Os) (started:os.Started) (H:Type) (enc:TypeId×Value→H) (F:Stop.Interp) :
 ReturnsInHanded {} Tryz.checked os 4 .any ((Rows.OpenSpec.upto Rows.topAgreementSpec).pre6 enc Tryz.prog Tryz.f4 Rows.topAgreementUptoRow.domain false) (((Rows.OpenSpec.upto Rows.topAgreementSpec).at F).post enc Tryz.prog Tryz.f4 false true false false):=by
 refine returnsInHanded_of_cond (C:=Tryz.checked) (s:=Rows.OpenSpec.upto Rows.topAgreementSpec) (k:=Rows.uptoSmall) rfl ysa started (by kernel_rfl) Tryz.func4
  (OpenSpec.witness (enc:=enc) (C:=Tryz.checked) (s:=Rows.OpenSpec.upto Rows.topAgreementSpec) (k:=Rows.uptoSmall) rfl false ⟨#[],#[.slice none 0 0,.slice none 0 0],[]⟩ 12 (by kernel_rfl) (by kernel_rfl) (by kernel_rfl)
   (x:=([.nil,.nil],[],[])) (by kernel_rfl) rfl (by kernel_rfl)) ?_
 intro W base args ds gs before hval hW _ hk _
 have ho:zak Tryz.prog Tryz.f4.params.toList _ _:=zun (zum (by kernel_rfl) ysd) (zun (zum (by kernel_rfl) ysd) (zuo))
 exact zp7 (fn:=Tryz.f4) (bt:=4) yr8 (by rw[Tryz.params4];intro t ht;simp only[List.mem_cons,List.not_mem_nil,or_false]at ht;rcases ht with rfl|rfl<;>exact⟨by kernel_rfl,of_decide_eq_true (by kernel_rfl)⟩) rfl (by kernel_rfl) (by kernel_rfl) (fun ds h=>yr7 ds (by rw[Tryz.params4]at h;exact h)) ho (fun x hx=>yse x hx) hval hW hk
theorem TopAgreement_holds:Rows.TopAgreementUptoSaid :=
 OpenClaim.holds_of_cond 4 Tryz.f4 rfl rfl rfl rfl rfl rfl rfl ⟨rfl,rfl,rfl,rfl,rfl⟩ rfl rfl rfl rfl rfl (by kernel_rfl) Tryz.func4 yr0
  (of_decide_eq_true (by kernel_rfl)) (by unfold Func.isWrapper;rw[if_neg (by decide +kernel)];exact⟨rfl,rfl⟩)
  (fun os started H enc _ F=>yr9 os started H enc F)
end Go.Proofs.YthjmjdleecmaeaaGreat
