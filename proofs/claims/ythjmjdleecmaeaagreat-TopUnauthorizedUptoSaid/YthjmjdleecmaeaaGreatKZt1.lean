/- The law TopUnauthorized returns true for every input that is small, and leaves its argument as it was.
Conditions: what is read is of bulk at most 1048576, as the statement says. -/
import Derived.Test.YthjmjdleecmaeaaGreatRows
import Derived.Test.YthjmjdleecmaeaaGreatKZj1
import Derived.Test.YthjmjdleecmaeaaGreatK45
set_option linter.unusedSimpArgs false
set_option linter.unusedVariables false
set_option maxHeartbeats 4000000
set_option maxRecDepth 8000
namespace Go.Proofs.YthjmjdleecmaeaaGreat
open Go Go.Abs Go.ChangeShapes Go.WideShapes Go.ChangeAt Go.RowKit
theorem yo4 (x:List Evt×Unit) (hx:(x.1.map fun e=>bkE e+1).sum+0≤1048576):AC Tryz.prog 3 [evs x.1] (.v (.bool true)):=by
 obtain⟨h1,h2,h3⟩:=yje (l:=x.1) (by omega)
 exact ypf x.1 (by omega) h2 h3
theorem za4:ownKnob Tryz.prog.godebug=none:=by kernel_rfl
theorem za2:laidOutB Tryz.prog=true:=zav
theorem za1 {H:Type}:∀ ds:List (DataW H),ds.length=1→Rows.topUnauthorizedSpec.fn H ds={ results:=[.lit (.bool true)],args:=ds }
 | [],h=>by simp at h
 | [d0],_=>rfl
 | _::_::_,h=>by simp at h
set_option maxRecDepth 100000 in
theorem za3 (os:Os) (started:os.Started) (H:Type) (enc:TypeId×Value→H) (F:Stop.Interp) :
 ReturnsInHanded {} Tryz.checked os 3 .any ((Rows.OpenSpec.upto Rows.topUnauthorizedSpec).pre6 enc Tryz.prog Tryz.f3 Rows.topUnauthorizedUptoRow.domain false) (((Rows.OpenSpec.upto Rows.topUnauthorizedSpec).at F).post enc Tryz.prog Tryz.f3 false true false false):=by
 refine returnsInHanded_of_cond (C:=Tryz.checked) (s:=Rows.OpenSpec.upto Rows.topUnauthorizedSpec) (k:=Rows.uptoSmall) rfl za4 started (by kernel_rfl) Tryz.func3
  (OpenSpec.witness (enc:=enc) (C:=Tryz.checked) (s:=Rows.OpenSpec.upto Rows.topUnauthorizedSpec) (k:=Rows.uptoSmall) rfl false ⟨#[],#[.slice none 0 0],[]⟩ 12 (by kernel_rfl) (by kernel_rfl) (by kernel_rfl)
   (x:=([.nil],[],[])) (by kernel_rfl) rfl (by kernel_rfl)) ?_
 intro W base args ds gs before hval hW _ hk _
 have ho:zak Tryz.prog Tryz.f3.params.toList _ _:=zun (zum (by kernel_rfl) opBEvts) (zuo)
 exact zp7 (fn:=Tryz.f3) (bt:=4) za2 (by rw[Tryz.params3];intro t ht;simp only[List.mem_cons,List.not_mem_nil,or_false]at ht;subst ht;exact⟨by kernel_rfl,of_decide_eq_true (by kernel_rfl)⟩) rfl (by kernel_rfl) (by kernel_rfl) (fun ds h=>za1 ds (by rw[Tryz.params3]at h;exact h)) ho (fun x hx=>yo4 x hx) hval hW hk
theorem TopUnauthorized_holds:Rows.TopUnauthorizedUptoSaid :=
 OpenClaim.holds_of_cond 3 Tryz.f3 rfl rfl rfl rfl rfl rfl rfl ⟨rfl,rfl,rfl,rfl,rfl⟩ rfl rfl rfl rfl rfl (by kernel_rfl) Tryz.func3 zau
  (of_decide_eq_true (by kernel_rfl)) (by unfold Func.isWrapper;rw[if_neg (by decide +kernel)];exact⟨rfl,rfl⟩)
  (fun os started H enc _ F=>za3 os started H enc F)
end Go.Proofs.YthjmjdleecmaeaaGreat
