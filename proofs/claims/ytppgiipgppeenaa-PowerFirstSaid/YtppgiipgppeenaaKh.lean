/- Several texts of the proof in one: H1, H2, H3, H4, H5, H6, H7, H8, H9, H10, Tp, Te. No condition. -/
import Derived.Test.YtppgiipgppeenaaKg
import Derived.Test.YtppgiipgppeenaaKe
import Derived.Test.YtppgiipgppeenaaKf
import Derived.Test.YtppgiipgppeenaaKd
import Derived.Test.YtppgiipgppeenaaKc
import Derived.Test.YtppgiipgppeenaaKb
set_option linter.unusedSimpArgs false
set_option linter.unusedVariables false
-- part H1
namespace Go.Proofs.Ytppgiipgppeenaa
open Go Go.Abs
set_option linter.unusedSimpArgs false
set_option linter.unusedVariables false
def powOf (e : Evt) : Bool := e.kind == 3 || (e.kind == 4 || (e.kind == 2 && ((e.content.n == 0 || e.content.n == 4) && !(e.key == e.sender))))
set_option maxRecDepth 8000 in
set_option maxHeartbeats 4000000 in
theorem is18_ac (e : Evt) : AC Try.prog 12 [ev e] (B (powOf e)) := by
  refine AC.of_body Try.func12 rfl rfl Try.ntmps12 (congrArg Array.toList Try.results12) (by simp) (pures1 (pure_ev _)) (pure_B _) fun w S' => AWp.of_vc [] ?_
  by_cases k3 : e.kind = 3
  · have hb : powOf e = true := by simp [powOf, k3]
    simp [go_sem, k3]
    refine PostR.ret ?_
    simp [go_sem, hb]
  · by_cases k4 : e.kind = 4
    · have hb : powOf e = true := by simp [powOf, k4]
      simp [go_sem, k3, k4]
      refine PostR.ret ?_
      simp [go_sem, hb]
    · by_cases k2 : e.kind = 2
      · cases hk : (e.key == e.sender) with
        | true =>
          have hb : powOf e = false := by simp [powOf, k2, hk]
          by_cases n0 : e.content.n = 0
          · simp [go_sem, k2, n0, hk]
            refine PostR.ret ?_
            simp [go_sem, hb]
          · by_cases n4 : e.content.n = 4
            · simp [go_sem, k2, n0, n4, hk]
              refine PostR.ret ?_
              simp [go_sem, hb]
            · simp [go_sem, k2, n0, n4, hk]
              refine PostR.ret ?_
              simp [go_sem, hb]
        | false =>
          by_cases n0 : e.content.n = 0
          · have hb : powOf e = true := by simp [powOf, k2, hk, n0]
            simp [go_sem, k2, n0, hk]
            refine PostR.ret ?_
            simp [go_sem, hb]
          · by_cases n4 : e.content.n = 4
            · have hb : powOf e = true := by simp [powOf, k2, hk, n4]
              simp [go_sem, k2, n0, n4, hk]
              refine PostR.ret ?_
              simp [go_sem, hb]
            · have hb : powOf e = false := by simp [powOf, k2, n0, n4]
              simp [go_sem, k2, n0, n4, hk]
              refine PostR.ret ?_
              simp [go_sem, hb]
      · have hb : powOf e = false := by simp [powOf, k2, k3, k4]
        simp [go_sem, k2, k3, k4]
        refine PostR.ret ?_
        simp [go_sem, hb]
set_option maxRecDepth 8000 in
set_option maxHeartbeats 4000000 in
theorem ris18_ac (e : Evt) : AC Try.prog 13 [ev e] (B (powOf e)) := by
  refine AC.of_body Try.func13 rfl rfl Try.ntmps13 (congrArg Array.toList Try.results13) (by simp) (pures1 (pure_ev _)) (pure_B _) fun w S' => AWp.of_vc [] ?_
  by_cases k2 : e.kind = 2
  · cases hk : (e.key == e.sender) with
    | true =>
      have hb : powOf e = false := by simp [powOf, k2, hk]
      by_cases n0 : e.content.n = 0
      · simp [go_sem, k2, n0, hk]
        refine PostR.ret ?_
        simp [go_sem, hb]
      · by_cases n4 : e.content.n = 4
        · simp [go_sem, k2, n0, n4, hk]
          refine PostR.ret ?_
          simp [go_sem, hb]
        · simp [go_sem, k2, n0, n4, hk]
          refine PostR.ret ?_
          simp [go_sem, hb]
    | false =>
      by_cases n0 : e.content.n = 0
      · have hb : powOf e = true := by simp [powOf, k2, hk, n0]
        simp [go_sem, k2, n0, hk]
        refine PostR.ret ?_
        simp [go_sem, hb]
      · by_cases n4 : e.content.n = 4
        · have hb : powOf e = true := by simp [powOf, k2, hk, n4]
          simp [go_sem, k2, n0, n4, hk]
          refine PostR.ret ?_
          simp [go_sem, hb]
        · have hb : powOf e = false := by simp [powOf, k2, n0, n4]
          simp [go_sem, k2, n0, n4, hk]
          refine PostR.ret ?_
          simp [go_sem, hb]
  · by_cases k3 : e.kind = 3
    · have hb : powOf e = true := by simp [powOf, k3]
      simp [go_sem, k2, k3]
      refine PostR.ret ?_
      simp [go_sem, hb]
    · by_cases k4 : e.kind = 4
      · have hb : powOf e = true := by simp [powOf, k4]
        simp [go_sem, k2, k3, k4]
        refine PostR.ret ?_
        simp [go_sem, hb]
      · have hb : powOf e = false := by simp [powOf, k2, k3, k4]
        simp [go_sem, k2, k3, k4]
        refine PostR.ret ?_
        simp [go_sem, hb, k4]
def defLv (c : Bytes) : Levels := ⟨if c = [] then [] else [⟨c, 100⟩], [], 0, 0, 0, 0, 50, 50, 50⟩
def crOf (l : List Evt) : Bytes := match l.find? (fun e => e.kind == 1) with
  | some e => e.sender
  | none => []
def lvOf (l : List Evt) : Levels := match l.find? (fun e => e.kind == 3) with
  | some e => e.content.levels
  | none => defLv (crOf l)
def userOf (v : Levels) (u : Bytes) : Int := match v.users.find? (fun x => x.user == u) with
  | some x => x.n
  | none => v.user
theorem pure_lvz (v : Levels) : Pure (.agg (lvsc v)) := pure_agg fun c hc => by
  simp only [lvsc, List.mem_cons, List.not_mem_nil, or_false] at hc
  rcases hc with rfl | rfl | rfl | rfl | rfl | rfl | rfl | rfl | rfl <;> first | exact pure_v _ | exact pure_lst_agg pure_lvc | exact pure_lst_agg pure_klc
theorem pureR_lvz (v : Levels) : PureR (.agg (lvsc v)) := pure_lvz v
theorem pureR_lvT (v : Levels) (c : Bytes) : PureR (.tup [.agg (lvsc v), S c]) := by
  intro r hr
  simp only [List.mem_cons, List.not_mem_nil, or_false] at hr
  rcases hr with rfl | rfl
  · exact pure_lvz v
  · exact pure_S c
theorem evc_lv (x : Evt) : ((evc x).drop 17).take 9 = lvsc x.content.levels := rfl
theorem wk_def (c : Bytes) (hc : c = []) : Wk (.agg [.v (.slice none 0 0), .v (.slice none 0 0), I 0, I 0, I 0, I 0, I 50, I 50, I 50]) (.agg (lvsc (defLv c))) := by
  subst hc
  exact .agg (⟨.nil _, .nil _, .refl _, .refl _, .refl _, .refl _, .refl _, .refl _, .refl _, trivial⟩)
theorem wk_def2 (c : Bytes) (hc : c ≠ []) : Wk (.agg [.lst 2 [.agg [S c, I 100]], .v (.slice none 0 0), I 0, I 0, I 0, I 0, I 50, I 50, I 50]) (.agg (lvsc (defLv c))) := by
  have : (defLv c).users = [⟨c, 100⟩] := by unfold defLv; rw [if_neg hc]
  unfold lvsc
  rw [this]
  exact .agg (⟨.refl _, .nil _, .refl _, .refl _, .refl _, .refl _, .refl _, .refl _, .refl _, trivial⟩)
set_option maxRecDepth 8000 in
set_option maxHeartbeats 4000000 in
theorem default_ac (c : Bytes) : AC Try.prog 64 [S c] (.agg (lvsc (defLv c))) := by
  refine AC.of_body Try.func64 rfl rfl Try.ntmps64 (congrArg Array.toList Try.results64) (by simp) (pures1 (pure_S _)) (pureR_lvz _) fun w S' => AWp.of_vc [] ?_
  by_cases g : c = []
  · have wk := wk_def c g
    generalize defLv c = v at wk ⊢
    subst g
    simp [go_sem]
    refine PostR.retW [] ?_ (.one (.one wk))
    simp [go_sem]
  · have wk := wk_def2 c g
    generalize defLv c = v at wk ⊢
    have g' : c.isEmpty = false := by simpa using g
    simp [go_sem, g, g']
    refine PostR.retW [] ?_ (.one (.one wk))
    simp [go_sem]
set_option maxRecDepth 8000 in
set_option maxHeartbeats 4000000 in
theorem rdefault_ac (c : Bytes) : AC Try.prog 67 [S c] (.agg (lvsc (defLv c))) := by
  refine AC.of_body Try.func67 rfl rfl Try.ntmps67 (congrArg Array.toList Try.results67) (by simp) (pures1 (pure_S _)) (pureR_lvz _) fun w S' => AWp.of_vc [] ?_
  by_cases g : c = []
  · have wk := wk_def c g
    generalize defLv c = v at wk ⊢
    subst g
    simp [go_sem]
    refine PostR.retW [] ?_ (.one (.one wk))
    simp [go_sem]
  · have wk := wk_def2 c g
    generalize defLv c = v at wk ⊢
    have g' : c.isEmpty = false := by simpa using g
    simp [go_sem, g, g']
    refine PostR.retW [] ?_ (.one (.one wk))
    simp [go_sem]
set_option maxRecDepth 8000 in
set_option maxHeartbeats 4000000 in
theorem firstC_ac (e : Evt) (k : Int) : AC Try.prog 77 [ev e, .eptr [I k] 0] (B (e.kind == k)) := by
  refine AC.of_body Try.func77 rfl rfl Try.ntmps77 (congrArg Array.toList Try.results77) (by simp) (pures2 (pure_ev _) (pure_eptr fun c h => by simp only [List.mem_singleton] at h; subst h; exact pure_I _)) (pure_B _) fun w S' => AWp.of_vc [] ?_
  simp [go_sem]
  refine PostR.ret ?_
  simp [go_sem]
set_option maxRecDepth 8000 in
set_option maxHeartbeats 4000000 in
theorem first_ac (l : List Evt) (k : Int) : AC Try.prog 61 [evs l, I k] (I (idxI (fun e => e.kind == k) l)) := by
  refine AC.of_body Try.func61 rfl rfl Try.ntmps61 (congrArg Array.toList Try.results61) (by simp) (pures2 (pure_evs _) (pure_I _)) (pure_I _) fun w S' => AWp.of_vc [] ?_
  simp [go_sem]
  refine CallSem.pure (indexFunc_gen _ [.eptr [I k] 0] (fun e => e.kind == k) (fun e => firstC_ac e k) (fun c h => by simp only [List.mem_singleton] at h; subst h; exact pure_eptr fun c h => by simp only [List.mem_singleton] at h; subst h; exact pure_I _) l) (by simp [go_sem]) ?_
  simp [go_sem]
  refine PostR.ret ?_
  simp [go_sem]
set_option maxRecDepth 8000 in
set_option maxHeartbeats 4000000 in
theorem cloneLv_ac (l : List Level) (hsz : l.length ≤ 1000000000) : AC Try.prog 62 [.lst 2 (l.map fun u => .agg (lvc u))] (.lst 2 (l.map fun u => .agg (lvc u))) := by
  refine AC.of_body Try.func62 rfl rfl Try.ntmps62 (congrArg Array.toList Try.results62) (by simp) (pures1 (pure_lst_agg pure_lvc)) (pure_lst_agg pure_lvc) fun w S' => AWp.of_vc [5] ?_
  have hok : ∀ st, okAll st (l.map fun u => .agg [.v (.string ⟨u.user.toArray⟩), .v (.int .i64 u.n)]) := fun st c hc => by obtain ⟨n, _, rfl⟩ := List.mem_map.1 hc; rfl
  simp [go_sem, hok]
  refine ⟨?_, ?_⟩
  · refine ⟨⟨by omega, by omega⟩, ?_⟩
    refine PostR.retW [5] ?_ (.refl _)
    simp [go_sem]
  · rintro rfl
    refine PostR.retW [] (r0 := .v (.slice none 0 0)) ?_ (.nil _)
    simp [go_sem]
set_option maxRecDepth 8000 in
set_option maxHeartbeats 4000000 in
theorem cloneKl_ac (l : List KindLevel) (hsz : l.length ≤ 1000000000) : AC Try.prog 63 [.lst 2 (l.map fun u => .agg (klc u))] (.lst 2 (l.map fun u => .agg (klc u))) := by
  refine AC.of_body Try.func63 rfl rfl Try.ntmps63 (congrArg Array.toList Try.results63) (by simp) (pures1 (pure_lst_agg pure_klc)) (pure_lst_agg pure_klc) fun w S' => AWp.of_vc [5] ?_
  have hok : ∀ st, okAll st (l.map fun u => .agg [.v (.int .i64 u.kind), .v (.int .i64 u.n)]) := fun st c hc => by obtain ⟨n, _, rfl⟩ := List.mem_map.1 hc; rfl
  simp [go_sem, hok]
  refine ⟨?_, ?_⟩
  · refine ⟨⟨by omega, by omega⟩, ?_⟩
    refine PostR.retW [5] ?_ (.refl _)
    simp [go_sem]
  · rintro rfl
    refine PostR.retW [] (r0 := .v (.slice none 0 0)) ?_ (.nil _)
    simp [go_sem]
end Go.Proofs.Ytppgiipgppeenaa

-- part H2
namespace Go.Proofs.Ytppgiipgppeenaa
open Go Go.Abs
set_option linter.unusedSimpArgs false
set_option linter.unusedVariables false
theorem find_hit {α : Type} {p : α → Bool} {l : List α} {k : Nat} (h : k < l.length) (hup : AllUp (fun x => !p x) l k) (hp : p l[k] = true) : l.find? p = some l[k] := by
  rw [List.find?_eq_some_iff_getElem]
  refine ⟨hp, k, h, rfl, fun j hj => ?_⟩
  unfold AllUp at hup
  rw [List.all_eq_true] at hup
  exact hup l[j] (List.mem_of_getElem? (i := j) (by rw [List.getElem?_take_of_lt hj, List.getElem?_eq_getElem (by omega)]))
theorem find_none {α : Type} {p : α → Bool} {l : List α} {k : Nat} (h : ¬ k < l.length) (hup : AllUp (fun x => !p x) l k) : l.find? p = none := by
  have := hup.full h
  rw [List.all_eq_true] at this
  rw [List.find?_eq_none]
  intro x hx
  have := this x hx
  simpa using this
set_option maxRecDepth 8000 in
set_option maxHeartbeats 4000000 in
theorem user_ac (v : Levels) (u : Bytes) (hsz : v.users.length ≤ 1000000000) : AC Try.prog 39 [.agg (lvsc v), S u] (I (userOf v u)) := by
  refine AC.of_body Try.func39 rfl rfl Try.ntmps39 (congrArg Array.toList Try.results39) (by simp) (pures2 (pure_lvz _) (pure_S _)) (pure_I _) fun w S' => AWp.of_vc [] ?_
  have hm : v.users.length ≤ maxLen := by unfold maxLen; omega
  simp [go_sem, lvsc]
  refine AWp.loop_vc [] (fun m s => ∃ k : Nat, k ≤ v.users.length ∧ m = v.users.length - k ∧ s.σ 1 = S u ∧ s.σ 2 = .eptr (lvsc v) 0 ∧ s.σ 8 = .lst 2 (v.users.map fun u => .agg (lvc u)) ∧ s.σ 9 = I v.users.length ∧ s.σ 10 = I k ∧ AllUp (fun x : Level => !(x.user == u)) v.users k) v.users.length ⟨0, by simp [go_sem, lvsc, AllUp.zero]⟩ ?_
  rintro m s ⟨k, hk, rfl, h1, h2, h8, h9, h10, hup⟩
  by_cases hlt : k < v.users.length
  · cases hc : (v.users[k].user == u) with
    | true =>
      have hr : userOf v u = v.users[k].n := by unfold userOf; rw [find_hit (p := fun x : Level => x.user == u) hlt hup hc]
      simp [go_sem, lvsc, lvc, h1, h2, h8, h9, h10, hlt, hc]
      refine PostR.ret ?_
      simp [go_sem, hr]
    | false =>
      simp [go_sem, lvsc, lvc, h1, h2, h8, h9, h10, hlt, hc, wrap_succ hlt hm]
      exact ⟨v.users.length - (k + 1), by omega, k + 1, by omega, rfl, rfl, hup.succ hlt (by simp only [hc]; rfl)⟩
  · have hr : userOf v u = v.user := by unfold userOf; rw [find_none (p := fun x : Level => x.user == u) hlt hup]
    simp [go_sem, lvsc, h1, h2, h8, h9, h10, hlt]
    refine PostR.ret ?_
    simp [go_sem, hr]
set_option maxRecDepth 8000 in
set_option maxHeartbeats 4000000 in
theorem ruser_ac (v : Levels) (u : Bytes) (hsz : v.users.length ≤ 1000000000) : AC Try.prog 42 [.agg (lvsc v), S u] (I (userOf v u)) := by
  refine AC.of_body Try.func42 rfl rfl Try.ntmps42 (congrArg Array.toList Try.results42) (by simp) (pures2 (pure_lvz _) (pure_S _)) (pure_I _) fun w S' => AWp.of_vc [] ?_
  have hm : v.users.length ≤ maxLen := by unfold maxLen; omega
  simp [go_sem, lvsc]
  refine AWp.loop_vc [] (fun m s => ∃ k : Nat, k ≤ v.users.length ∧ m = v.users.length - k ∧ s.σ 1 = S u ∧ s.σ 2 = .eptr (lvsc v) 0 ∧ s.σ 5 = I k ∧ AllUp (fun x : Level => !(x.user == u)) v.users k) v.users.length ⟨0, by simp [go_sem, lvsc, AllUp.zero]⟩ ?_
  rintro m s ⟨k, hk, rfl, h1, h2, h5, hup⟩
  by_cases hlt : k < v.users.length
  · cases hc : (v.users[k].user == u) with
    | true =>
      have hr : userOf v u = v.users[k].n := by unfold userOf; rw [find_hit (p := fun x : Level => x.user == u) hlt hup hc]
      simp [go_sem, lvsc, lvc, h1, h2, h5, hlt, hc]
      refine PostR.ret ?_
      simp [go_sem, hr]
    | false =>
      simp [go_sem, lvsc, lvc, h1, h2, h5, hlt, hc, wrap_succ hlt hm]
      exact ⟨v.users.length - (k + 1), by omega, k + 1, by omega, rfl, rfl, hup.succ hlt (by simp only [hc]; rfl)⟩
  · have hr : userOf v u = v.user := by unfold userOf; rw [find_none (p := fun x : Level => x.user == u) hlt hup]
    simp [go_sem, lvsc, h1, h2, h5, hlt]
    refine PostR.ret ?_
    simp [go_sem, hr]
def lvT (l : List Evt) : AV := .tup [.agg (lvsc (lvOf l)), S (crOf l)]
set_option maxRecDepth 8000 in
set_option maxHeartbeats 4000000 in
theorem lvof_ac (l : List Evt) (hl : ∀ e ∈ l, Mod e) : AC Try.prog 37 [evs l] (lvT l) := by
  refine AC.of_body Try.func37 rfl rfl Try.ntmps37 (congrArg Array.toList Try.results37) (by simp) (pures1 (pure_evs _)) (pureR_lvT _ _) fun w S' => AWp.of_vc [] ?_
  have hinj : ∀ d d' : Nat, d ≠ d' → d ≠ d' := fun _ _ h => h
  unfold lvT
  simp [go_sem]
  refine CallSem.pure (first_ac l 1) (by simp [go_sem]) ?_
  have second : ∀ {c : Bytes}, c = crOf l → crOf l = c := fun h => h.symm
  rcases idxI_find (fun e : Evt => e.kind == 1) l with ⟨hf, hi⟩ | ⟨j, hj, hf, hi⟩
  · have hcr : crOf l = [] := by unfold crOf; rw [hf]
    simp [go_sem, hi]
    refine CallSem.pure (first_ac l 3) (by simp [go_sem]) ?_
    rcases idxI_find (fun e : Evt => e.kind == 3) l with ⟨hf3, hi3⟩ | ⟨j3, hj3, hf3, hi3⟩
    · have hlv : lvOf l = defLv [] := by unfold lvOf; rw [hf3, hcr]
      simp [go_sem, hi3]
      refine CallSem.pure (default_ac []) (by simp [go_sem]) ?_
      rw [hlv, hcr]
      generalize defLv [] = v
      simp [go_sem, lvsc]
      refine PostR.ret ?_
      simp [go_sem, lvsc]
    · have hlv : lvOf l = l[j3].content.levels := by unfold lvOf; rw [hf3]
      have hM := hl _ (List.getElem_mem hj3)
      have ha := hM.a4
      have hb := hM.a5
      rw [hlv, hcr]
      have hneg : ¬ ((j3 : Int) < 0) := by omega
      simp [go_sem, hi3, hneg, hj3, evc_lv, lvsc]
      refine AWp.drawText [] [] [7] [28, 31] rfl (by kernel_rfl) hinj ?_
      simp [go_sem, lvsc]
      refine CalmThen.pure (cloneLv_ac l[j3].content.levels.users (by omega)) rfl ?_
      simp [go_sem, lvsc]
      refine CalmThen.pure (cloneKl_ac l[j3].content.levels.kinds (by omega)) rfl ?_
      simp [go_sem, lvsc]
      refine PostR.ret ?_
      simp [go_sem, lvsc]
  · have hcr : crOf l = l[j].sender := by unfold crOf; rw [hf]
    have hneg1 : ¬ ((j : Int) < 0) := by omega
    simp [go_sem, hi, hneg1, hj]
    refine CallSem.pure (first_ac l 3) (by simp [go_sem]) ?_
    rcases idxI_find (fun e : Evt => e.kind == 3) l with ⟨hf3, hi3⟩ | ⟨j3, hj3, hf3, hi3⟩
    · have hlv : lvOf l = defLv (crOf l) := by unfold lvOf; rw [hf3]
      rw [hcr] at hlv
      rw [hlv, hcr]
      simp [go_sem, hi3]
      refine CallSem.pure (default_ac l[j].sender) (by simp [go_sem]) ?_
      generalize defLv l[j].sender = v
      simp [go_sem, lvsc]
      refine PostR.ret ?_
      simp [go_sem, lvsc]
    · have hlv : lvOf l = l[j3].content.levels := by unfold lvOf; rw [hf3]
      have hM := hl _ (List.getElem_mem hj3)
      have ha := hM.a4
      have hb := hM.a5
      rw [hlv, hcr]
      have hneg : ¬ ((j3 : Int) < 0) := by omega
      simp [go_sem, hi3, hneg, hj3, evc_lv, lvsc]
      refine AWp.drawText [] [] [7] [28, 31] rfl (by kernel_rfl) hinj ?_
      simp [go_sem, lvsc]
      refine CalmThen.pure (cloneLv_ac l[j3].content.levels.users (by omega)) rfl ?_
      simp [go_sem, lvsc]
      refine CalmThen.pure (cloneKl_ac l[j3].content.levels.kinds (by omega)) rfl ?_
      simp [go_sem, lvsc]
      refine PostR.ret ?_
      simp [go_sem, lvsc]
def CrUp (l : List Evt) (k : Nat) (f : Bool) (c : Bytes) : Prop := (f = false ∧ c = [] ∧ AllUp (fun e : Evt => !(e.kind == 1)) l k) ∨ (f = true ∧ c = crOf l)
theorem CrUp.zero (l : List Evt) : CrUp l 0 false [] := .inl ⟨rfl, rfl, AllUp.zero _ _⟩
set_option maxRecDepth 8000 in
set_option maxHeartbeats 4000000 in
theorem rlvof_ac (l : List Evt) (hsz : l.length ≤ 1000000) : AC Try.prog 40 [evs l] (lvT l) := by
  refine AC.of_body Try.func40 rfl rfl Try.ntmps40 (congrArg Array.toList Try.results40) (by simp) (pures1 (pure_evs _)) (pureR_lvT _ _) fun w S' => AWp.of_vc [] ?_
  have hm : l.length ≤ maxLen := by unfold maxLen; omega
  unfold lvT
  simp [go_sem]
  refine AWp.loop_vc [] (fun m s => ∃ (k : Nat) (f : Bool) (c : Bytes), k ≤ l.length ∧ m = l.length - k ∧ s.σ 0 = evs l ∧ s.σ 4 = S c ∧ s.σ 5 = B f ∧ s.σ 6 = I k ∧ s.σ 2 = .rptr 2 1 0 0 ∧ s.ver 2 = 1 ∧ s.h 2 = .box [.v (.slice none 0 0), .v (.slice none 0 0), I 0, I 0, I 0, I 0, I 0, I 0, I 0] ∧ CrUp l k f c) l.length ⟨0, false, [], by simp [go_sem, CrUp.zero]⟩ ?_
  rintro m s ⟨k, f, c, hk, rfl, h0, h4, h5, h6, h2, hv, hh, hup⟩
  by_cases hgo : f = false ∧ k < l.length
  · obtain ⟨rfl, hlt⟩ := hgo
    have ha : AllUp (fun e : Evt => !(e.kind == 1)) l k ∧ c = [] := by
      rcases hup with ⟨_, hc, ha⟩ | ⟨hf, _⟩
      · exact ⟨ha, hc⟩
      · cases hf
    by_cases hc1 : l[k].kind = 1
    · have hcr : crOf l = l[k].sender := by unfold crOf; rw [find_hit (p := fun e : Evt => e.kind == 1) hlt ha.1 (by simpa using hc1)]
      simp [go_sem, h0, h4, h5, h6, h2, hv, hh, hlt, hc1, wrap_succ hlt hm]
      exact ⟨l.length - (k + 1), by omega, k + 1, by omega, rfl, rfl, .inr ⟨rfl, hcr.symm⟩⟩
    · simp [go_sem, h0, h4, h5, h6, h2, hv, hh, hlt, hc1, wrap_succ hlt hm]
      exact ⟨l.length - (k + 1), by omega, k + 1, by omega, rfl, rfl, .inl ⟨rfl, ha.2, ha.1.succ hlt (by simpa using hc1)⟩⟩
  · have hcr : c = crOf l := by
      rcases hup with ⟨hf, hc, ha⟩ | ⟨hf, hc⟩
      · have hlt : ¬ k < l.length := fun h => hgo ⟨hf, h⟩
        rw [hc]; unfold crOf; rw [find_none (p := fun e : Evt => e.kind == 1) hlt ha]
      · exact hc
    subst hcr
    cases f with
    | false =>
      have hlt : ¬ k < l.length := fun h => hgo ⟨rfl, h⟩
      simp [go_sem, h0, h4, h5, h6, h2, hv, hh, hlt]
      refine AWp.loop_vc [] (fun m s => ∃ k : Nat, k ≤ l.length ∧ m = l.length - k ∧ s.σ 0 = evs l ∧ s.σ 4 = S (crOf l) ∧ s.σ 7 = I k ∧ s.σ 2 = .rptr 2 1 0 0 ∧ s.ver 2 = 1 ∧ s.h 2 = .box [.v (.slice none 0 0), .v (.slice none 0 0), I 0, I 0, I 0, I 0, I 0, I 0, I 0] ∧ AllUp (fun e : Evt => !(e.kind == 3)) l k) l.length ⟨0, by simp [go_sem, h0, h4, h5, h6, h2, hv, hh, AllUp.zero]⟩ ?_
      clear h0 h4 h5 h6 h2 hv hh hup hgo hk hlt k
      rintro m s ⟨k, hk, rfl, h0, h4, h7, h2, hv, hh, hup⟩
      by_cases hlt : k < l.length
      · by_cases hc3 : l[k].kind = 3
        · have hlv : lvOf l = l[k].content.levels := by unfold lvOf; rw [find_hit (p := fun e : Evt => e.kind == 3) hlt hup (by simpa using hc3)]
          rw [hlv]
          simp [go_sem, h0, h4, h7, h2, hv, hh, hlt, hc3, evc_lv, lvsc]
          refine PostR.ret ?_
          simp [go_sem, h2, hv, hh, lvsc]
        · simp [go_sem, h0, h4, h7, h2, hv, hh, hlt, hc3, wrap_succ hlt hm]
          exact ⟨l.length - (k + 1), by omega, k + 1, by omega, rfl, rfl, hup.succ hlt (by simpa using hc3)⟩
      · have hlv : lvOf l = defLv (crOf l) := by unfold lvOf; rw [find_none (p := fun e : Evt => e.kind == 3) hlt hup]
        rw [hlv]
        simp [go_sem, h0, h4, h7, h2, hv, hh, hlt]
        refine CallSem.pure (rdefault_ac (crOf l)) (by simp [go_sem]) ?_
        generalize defLv (crOf l) = v
        simp [go_sem, h0, h4, h7, h2, hv, hh, hlt, lvsc]
        refine PostR.ret ?_
        simp [go_sem, h2, hv, hh, lvsc]
    | true =>
      by_cases hlt : k < l.length
      · simp [go_sem, h0, h4, h5, h6, h2, hv, hh, hlt]
        refine AWp.loop_vc [] (fun m s => ∃ k : Nat, k ≤ l.length ∧ m = l.length - k ∧ s.σ 0 = evs l ∧ s.σ 4 = S (crOf l) ∧ s.σ 7 = I k ∧ s.σ 2 = .rptr 2 1 0 0 ∧ s.ver 2 = 1 ∧ s.h 2 = .box [.v (.slice none 0 0), .v (.slice none 0 0), I 0, I 0, I 0, I 0, I 0, I 0, I 0] ∧ AllUp (fun e : Evt => !(e.kind == 3)) l k) l.length ⟨0, by simp [go_sem, h0, h4, h5, h6, h2, hv, hh, AllUp.zero]⟩ ?_
        clear h0 h4 h5 h6 h2 hv hh hup hgo hk hlt k
        rintro m s ⟨k, hk, rfl, h0, h4, h7, h2, hv, hh, hup⟩
        by_cases hlt : k < l.length
        · by_cases hc3 : l[k].kind = 3
          · have hlv : lvOf l = l[k].content.levels := by unfold lvOf; rw [find_hit (p := fun e : Evt => e.kind == 3) hlt hup (by simpa using hc3)]
            rw [hlv]
            simp [go_sem, h0, h4, h7, h2, hv, hh, hlt, hc3, evc_lv, lvsc]
            refine PostR.ret ?_
            simp [go_sem, h2, hv, hh, lvsc]
          · simp [go_sem, h0, h4, h7, h2, hv, hh, hlt, hc3, wrap_succ hlt hm]
            exact ⟨l.length - (k + 1), by omega, k + 1, by omega, rfl, rfl, hup.succ hlt (by simpa using hc3)⟩
        · have hlv : lvOf l = defLv (crOf l) := by unfold lvOf; rw [find_none (p := fun e : Evt => e.kind == 3) hlt hup]
          rw [hlv]
          simp [go_sem, h0, h4, h7, h2, hv, hh, hlt]
          refine CallSem.pure (rdefault_ac (crOf l)) (by simp [go_sem]) ?_
          generalize defLv (crOf l) = v
          simp [go_sem, h0, h4, h7, h2, hv, hh, hlt, lvsc]
          refine PostR.ret ?_
          simp [go_sem, h2, hv, hh, lvsc]
      · simp [go_sem, h0, h4, h5, h6, h2, hv, hh, hlt]
        refine AWp.loop_vc [] (fun m s => ∃ k : Nat, k ≤ l.length ∧ m = l.length - k ∧ s.σ 0 = evs l ∧ s.σ 4 = S (crOf l) ∧ s.σ 7 = I k ∧ s.σ 2 = .rptr 2 1 0 0 ∧ s.ver 2 = 1 ∧ s.h 2 = .box [.v (.slice none 0 0), .v (.slice none 0 0), I 0, I 0, I 0, I 0, I 0, I 0, I 0] ∧ AllUp (fun e : Evt => !(e.kind == 3)) l k) l.length ⟨0, by simp [go_sem, h0, h4, h5, h6, h2, hv, hh, AllUp.zero]⟩ ?_
        clear h0 h4 h5 h6 h2 hv hh hup hgo hk hlt k
        rintro m s ⟨k, hk, rfl, h0, h4, h7, h2, hv, hh, hup⟩
        by_cases hlt : k < l.length
        · by_cases hc3 : l[k].kind = 3
          · have hlv : lvOf l = l[k].content.levels := by unfold lvOf; rw [find_hit (p := fun e : Evt => e.kind == 3) hlt hup (by simpa using hc3)]
            rw [hlv]
            simp [go_sem, h0, h4, h7, h2, hv, hh, hlt, hc3, evc_lv, lvsc]
            refine PostR.ret ?_
            simp [go_sem, h2, hv, hh, lvsc]
          · simp [go_sem, h0, h4, h7, h2, hv, hh, hlt, hc3, wrap_succ hlt hm]
            exact ⟨l.length - (k + 1), by omega, k + 1, by omega, rfl, rfl, hup.succ hlt (by simpa using hc3)⟩
        · have hlv : lvOf l = defLv (crOf l) := by unfold lvOf; rw [find_none (p := fun e : Evt => e.kind == 3) hlt hup]
          rw [hlv]
          simp [go_sem, h0, h4, h7, h2, hv, hh, hlt]
          refine CallSem.pure (rdefault_ac (crOf l)) (by simp [go_sem]) ?_
          generalize defLv (crOf l) = v
          simp [go_sem, h0, h4, h7, h2, hv, hh, hlt, lvsc]
          refine PostR.ret ?_
          simp [go_sem, h2, hv, hh, lvsc]
theorem froms_mem {A : List Evt} {K : List EntD} : ∀ e ∈ froms A K, e ∈ A := fun e he => by
  unfold froms at he
  obtain ⟨k, _, hk⟩ := List.mem_filterMap.1 he
  exact List.mem_of_find?_eq_some hk
theorem fromOf_mem {l : List Evt} {x : Evt} : ∀ e ∈ fromOf l x, e ∈ l := fun e he => by
  have h1 := froms_mem e he
  unfold ofIds at h1
  obtain ⟨n, _, hn⟩ := List.mem_filterMap.1 h1
  exact List.mem_of_find?_eq_some hn
theorem fromOf_len (l : List Evt) (x : Evt) : (fromOf l x).length ≤ (keysOf x).length := froms_len _ _
def sendOf (l : List Evt) (e : Evt) : Int := userOf (lvOf (fromOf l e)) e.sender
theorem lvOf_users {l : List Evt} (hl : ∀ e ∈ l, Mod e) : (lvOf l).users.length ≤ 40 := by
  unfold lvOf
  cases hf : l.find? (fun e => e.kind == 3) with
  | some e => exact (hl e (List.mem_of_find?_eq_some hf)).a4
  | none =>
    unfold defLv
    simp only
    split <;> simp
set_option maxRecDepth 8000 in
set_option maxHeartbeats 4000000 in
theorem sender_ac (l : List Evt) (e : Evt) (hl : ∀ e ∈ l, Mod e) (ha40 : e.auth.length ≤ 40) : AC Try.prog 18 [evs l, ev e] (I (sendOf l e)) := by
  refine AC.of_body Try.func18 rfl rfl Try.ntmps18 (congrArg Array.toList Try.results18) (by simp) (pures2 (pure_evs _) (pure_ev _)) (pure_I _) fun w S' => AWp.of_vc [] ?_
  unfold sendOf
  simp [go_sem]
  refine CallSem.pure (from_ac l e (by omega)) (by simp [go_sem]) ?_
  have hF : ∀ x ∈ fromOf l e, Mod x := fun x hx => hl x (fromOf_mem x hx)
  generalize fromOf l e = F at hF ⊢
  simp [go_sem]
  refine CallSem.pure (lvof_ac F hF) (by simp [go_sem]) ?_
  unfold lvT
  have hu := lvOf_users hF
  generalize lvOf F = v at hu ⊢
  simp [go_sem, lvsc]
  refine CallSem.pure (user_ac v e.sender (by omega)) (by simp [go_sem]) ?_
  simp [go_sem]
  refine PostR.ret ?_
  simp [go_sem]
end Go.Proofs.Ytppgiipgppeenaa

-- part H3
namespace Go.Proofs.Ytppgiipgppeenaa
open Go Go.Abs
set_option linter.unusedSimpArgs false
set_option linter.unusedVariables false
set_option maxRecDepth 8000 in
set_option maxHeartbeats 4000000 in
theorem rsender_ac (l : List Evt) (e : Evt) (hl : ∀ e ∈ l, Mod e) (ha40 : e.auth.length ≤ 40) : AC Try.prog 19 [evs l, ev e] (I (sendOf l e)) := by
  refine AC.of_body Try.func19 rfl rfl Try.ntmps19 (congrArg Array.toList Try.results19) (by simp) (pures2 (pure_evs _) (pure_ev _)) (pure_I _) fun w S' => AWp.of_vc [] ?_
  unfold sendOf
  simp [go_sem]
  refine CallSem.pure (rfrom_ac l e (by omega)) (by simp [go_sem]) ?_
  have hF : ∀ x ∈ fromOf l e, Mod x := fun x hx => hl x (fromOf_mem x hx)
  have hFl : (fromOf l e).length ≤ 1000000 := by have := fromOf_len l e; have := keysOf_len e; omega
  generalize fromOf l e = F at hF hFl ⊢
  simp [go_sem]
  refine CallSem.pure (rlvof_ac F hFl) (by simp [go_sem]) ?_
  unfold lvT
  have hu := lvOf_users hF
  generalize lvOf F = v at hu ⊢
  simp [go_sem, lvsc]
  refine CallSem.pure (ruser_ac v e.sender (by omega)) (by simp [go_sem]) ?_
  simp [go_sem]
  refine PostR.ret ?_
  simp [go_sem]
set_option maxRecDepth 8000 in
set_option maxHeartbeats 4000000 in
theorem chain_sem {G : Ctx} (hG : G.P = Try.prog) {st : St} {dst : Option Tmp} {K : St → Prop} {id v : Nat} {l : List Evt} {ids : List Int} (hd : dstOK G.n dst) (hid : id < 20000) (hv : st.ver id = v) (hh : st.h id = .arr 3 1 (ids.map I)) (hl : Fit l) (hi : ids.length ≤ 1000000)
    (hK : ∀ s, s.ver id = v → s.h id = .arr 3 1 (ids.map I) → K ((st.mem s).put dst (ints (chainOf l ids)))) : CallSem G 31 [evs l, .ref id v] dst K st := by
  obtain ⟨P, w0, S0, nn, rnd, gids, e0⟩ := G
  subst hG
  have hll := hl.len
  have hfl := firstOf_len hl ids
  have hm : ids.length ≤ maxLen := by unfold maxLen; omega
  have n1 : ¬ id = 20006 := by omega
  have n2 : ¬ 20006 = id := by omega
  refine CallSem.inline 20000 Try.func31 rfl rfl Try.ntmps31 (congrArg Array.toList Try.results31) (by simp) hd fun e1 => AWp.of_vc [] ?_
  simp [go_sem]
  refine CallSem.pure (index_ac l) (by simp [go_sem]) ?_
  simp [go_sem, hv, hh]
  refine AWp.ownNil 6 3 1 (by simp [go_sem]) ?_
  refine AWp.loop_vc [] (fun m s => ∃ (k u : Nat), m = ids.length - k ∧ k ≤ ids.length ∧ s.σ 0 = evs l ∧ s.σ 5 = idxAV l ∧ s.σ 6 = .ref 20006 u ∧ s.σ 13 = .ref id v ∧ s.σ 14 = I ids.length ∧ s.σ 15 = I k ∧ s.ver 20006 = u ∧ s.h 20006 = .arr 3 1 ((firstOf l (ids.take k)).map I) ∧ s.ver id = v ∧ s.h id = .arr 3 1 (ids.map I)) ids.length ⟨0, st.ver 20006 + 1, by simp [go_sem, firstOf, hv, hh, n1, n2]⟩ ?_
  rintro m s ⟨k, u, rfl, hk, h0, h5, h6, h13, h14, h15, hu, hhu, hv, hh⟩
  by_cases hlt : k < ids.length
  · have hsu := firstOf_succ (l := l) hlt
    have hkl := firstOf_len hl (ids.take k)
    rw [List.length_take] at hkl
    generalize firstOf l (ids.take k) = X at hhu hsu hkl
    rcases idx_get l ids[k] with ⟨hg, hm2⟩ | ⟨j, hj, hg, hm2⟩
    · rw [hg] at hsu
      simp [go_sem, h0, h5, h6, h13, h14, h15, hu, hhu, hv, hh, n1, n2, hlt, hm2, wrap_succ hlt hm]
      exact ⟨ids.length - (k + 1), by omega, k + 1, rfl, by omega, rfl, by rw [hsu]; simp⟩
    · rw [hg] at hsu
      have h40 := hl.auth l[j] (List.getElem_mem hj)
      simp [go_sem, h0, h5, h6, h13, h14, h15, hu, hhu, hv, hh, n1, n2, hlt, hj, hm2, wrap_succ hlt hm]
      exact ⟨⟨by omega, by omega⟩, ids.length - (k + 1), by omega, k + 1, rfl, by omega, rfl, by rw [hsu]; simp⟩
  · rw [List.take_of_length_le (by omega)] at hhu
    simp [go_sem, h0, h5, h6, h13, h14, h15, hu, hhu, hv, hh, n1, n2, hlt]
    refine CallSem.freeze 20006 ?_
    simp [go_sem, h0, h5, h6, h13, h14, h15, hu, hhu, hv, hh, n1, n2, hlt]
    refine CallSem.pure (reach_ac l (firstOf l ids) _ true chainC_ac (by omega) (by omega) (hl.refs true)) (by simp [go_sem]) ?_
    have hch : reachOf l true (firstOf l ids) = chainOf l ids := rfl
    rw [hch]
    generalize chainOf l ids = C at hK ⊢
    simp [go_sem]
    refine PostIn.ret (r := ints C) (by simp [go_sem, resIn]) ?_
    exact hK _ (by simp [go_sem, hv]) (by simp [go_sem, hh, n1, n2])
theorem reach_one {l : List Evt} {b : Bool} {fr : List Int} {n : Int} : Reach l b fr n ↔ ∃ y ∈ fr, Reach l b [y] n := by
  constructor
  · intro h
    induction h with
    | start h1 h2 => exact ⟨_, h1, .start (by simp) h2⟩
    | step _ h1 h2 h3 ih => obtain ⟨y, hy, hr⟩ := ih; exact ⟨y, hy, .step hr h1 h2 h3⟩
  · rintro ⟨y, hy, h⟩
    induction h with
    | start h1 h2 => simp only [List.mem_singleton] at h1; subst h1; exact .start hy h2
    | step _ h1 h2 h3 ih => exact .step ih h1 h2 h3
theorem mem_chain {l : List Evt} {ids : List Int} {n : Int} : n ∈ chainOf l ids ↔ ∃ x ∈ ids, n ∈ chainOf l [x] := by
  unfold chainOf
  simp only [mem_reachOf]
  constructor
  · intro h
    obtain ⟨y, hy, hr⟩ := reach_one.1 h
    unfold firstOf at hy
    obtain ⟨x, hx, hy⟩ := List.mem_flatMap.1 hy
    exact ⟨x, hx, reach_one.2 ⟨y, by unfold firstOf; simpa using hy, hr⟩⟩
  · rintro ⟨x, hx, h⟩
    obtain ⟨y, hy, hr⟩ := reach_one.1 h
    refine reach_one.2 ⟨y, ?_, hr⟩
    unfold firstOf at hy ⊢
    exact List.mem_flatMap.2 ⟨x, hx, by simpa using hy⟩
def powN (l : List Evt) (n : Int) : Bool := ((getE l n).map powOf).getD false
theorem powN_some {l : List Evt} {n : Int} {e : Evt} (h : getE l n = some e) : powN l n = powOf e := by unfold powN; rw [h]; rfl
theorem powN_none {l : List Evt} {n : Int} (h : getE l n = none) : powN l n = false := by unfold powN; rw [h]; rfl
noncomputable def psetOf (l : List Evt) (full : List Int) : List Int := sortedSet (full.filter (powN l) ++ full.filter fun n => hasCr2 (chainOf l (full.filter (powN l))) n)
set_option maxRecDepth 8000 in
set_option maxHeartbeats 4000000 in
theorem pset_ac (l : List Evt) (full : List Int) (hl : Fit l) (hsz : full.length ≤ 1000) : AC Try.prog 15 [evs l, ints full] (ints (psetOf l full)) := by
  refine AC.of_body Try.func15 rfl rfl Try.ntmps15 (congrArg Array.toList Try.results15) (by simp) (pures2 (pure_evs _) (pure_ints _)) (pureR_ints _) fun w S' => AWp.of_vc [] ?_
  have hm : full.length ≤ maxLen := by unfold maxLen; omega
  unfold psetOf
  simp [go_sem]
  refine AWp.ownNil 5 3 1 (by simp [go_sem]) ?_
  refine AWp.loop_vc [] (fun m s => ∃ (k v : Nat), m = full.length - k ∧ k ≤ full.length ∧ s.σ 0 = evs l ∧ s.σ 1 = ints full ∧ s.σ 5 = .ref 5 v ∧ s.σ 13 = ints full ∧ s.σ 14 = I full.length ∧ s.σ 15 = I k ∧ s.ver 5 = v ∧ s.h 5 = .arr 3 1 (((full.take k).filter (powN l)).map I)) full.length ⟨0, 1, by simp [go_sem]⟩ ?_
  rintro m s ⟨k, v, rfl, hk, h0, h1, h5, h13, h14, h15, hv, hh⟩
  by_cases hlt : k < full.length
  · have hsu := filter_take3 (powN l) full k hlt
    have hfl : ((full.take k).filter (powN l)).length ≤ k := by
      have := List.length_filter_le (powN l) (full.take k)
      rw [List.length_take] at this; omega
    generalize (full.take k).filter (powN l) = X at hh hsu hfl
    simp [go_sem, h0, h1, h5, h13, h14, h15, hv, hh, hlt]
    refine CallSem.pure (sget_ac l full[k]) (by simp [go_sem]) ?_
    cases hg : getE l full[k] with
    | none =>
      rw [powN_none hg] at hsu
      simp [go_sem, h0, h1, h5, h13, h14, h15, hv, hh, hlt, wrap_succ hlt hm]
      exact ⟨full.length - (k + 1), by omega, k + 1, rfl, by omega, rfl, by rw [hsu]; simp⟩
    | some e =>
      rw [powN_some hg] at hsu
      simp [go_sem, h0, h1, h5, h13, h14, h15, hv, hh, hlt]
      refine CallSem.pure (is18_ac e) (by simp [go_sem]) ?_
      cases hp : powOf e with
      | true =>
        rw [hp] at hsu
        simp [go_sem, h0, h1, h5, h13, h14, h15, hv, hh, hlt, wrap_succ hlt hm]
        exact ⟨⟨by omega, by omega⟩, full.length - (k + 1), by omega, k + 1, rfl, by omega, rfl, by rw [hsu]; simp [I]⟩
      | false =>
        rw [hp] at hsu
        simp [go_sem, h0, h1, h5, h13, h14, h15, hv, hh, hlt, wrap_succ hlt hm]
        exact ⟨full.length - (k + 1), by omega, k + 1, rfl, by omega, rfl, by rw [hsu]; simp⟩
  · rw [List.take_of_length_le (by omega)] at hh
    have hfl := List.length_filter_le (powN l) full
    generalize full.filter (powN l) = P at hh hfl ⊢
    simp [go_sem, h0, h1, h5, h13, h14, h15, hv, hh, hlt]
    refine chain_sem (ids := P) rfl (by simp [go_sem]) (by decide) (by simp [go_sem, hv]) (by simp [go_sem, hh]) hl (by omega) ?_
    intro s' hv' hh'
    generalize chainOf l P = C
    simp [go_sem, h0, h1, h5, h13, h14, h15, hv', hh', hlt]
    refine AWp.loop_vc [] (fun m s => ∃ (k v : Nat), m = full.length - k ∧ k ≤ full.length ∧ s.σ 5 = .ref 5 v ∧ s.σ 10 = ints C ∧ s.σ 38 = ints full ∧ s.σ 39 = I full.length ∧ s.σ 40 = I k ∧ s.ver 5 = v ∧ s.h 5 = .arr 3 1 ((P ++ (full.take k).filter fun n => hasCr2 C n).map I)) full.length ⟨0, v, by simp [go_sem, h0, h1, h5, hv', hh']⟩ ?_
    clear h0 h1 h5 h13 h14 h15 hv hh hlt hk k hv' hh'
    rintro m s ⟨k, v, rfl, hk, h5, h10, h38, h39, h40, hv, hh⟩
    by_cases hlt : k < full.length
    · have hsu := filter_snoc (p := fun n => hasCr2 C n) hlt P
      have hfl2 : (P ++ (full.take k).filter fun n => hasCr2 C n).length ≤ 5000 := by
        have := List.length_filter_le (fun n => hasCr2 C n) (full.take k)
        rw [List.length_take] at this
        rw [List.length_append]; omega
      generalize P ++ (full.take k).filter (fun n => hasCr2 C n) = X at hh hsu hfl2
      simp [go_sem, h5, h10, h38, h39, h40, hv, hh, hlt]
      refine CallSem.pure (r := B (hasCr2 C full[k])) (numHas_ac C full[k]) (by simp [go_sem]) ?_
      cases hc : hasCr2 C full[k] with
      | true =>
        rw [hc] at hsu
        simp [go_sem, h5, h10, h38, h39, h40, hv, hh, hlt, wrap_succ hlt hm]
        exact ⟨⟨by omega, by omega⟩, full.length - (k + 1), by omega, k + 1, rfl, by omega, rfl, by rw [← List.map_append, hsu]; simp [I]⟩
      | false =>
        rw [hc] at hsu
        simp [go_sem, h5, h10, h38, h39, h40, hv, hh, hlt, wrap_succ hlt hm]
        exact ⟨full.length - (k + 1), by omega, k + 1, rfl, by omega, rfl, by rw [← List.map_append, hsu]; simp⟩
    · rw [List.take_of_length_le (by omega)] at hh
      have hfl3 := List.length_filter_le (fun n => hasCr2 C n) full
      have hXl : (P ++ full.filter fun n => hasCr2 C n).length ≤ 5000 := by rw [List.length_append]; omega
      generalize P ++ full.filter (fun n => hasCr2 C n) = X at hh hXl ⊢
      simp [go_sem, h5, h10, h38, h39, h40, hv, hh, hlt]
      refine CallSem.freeze 5 ?_
      simp [go_sem, h5, h10, h38, h39, h40, hv, hh, hlt]
      refine CallSem.pure (numSorted_ac X (by omega)) (by simp [go_sem]) ?_
      simp [go_sem]
      refine PostR.ret ?_
      simp [go_sem]
set_option maxRecDepth 8000 in
set_option maxHeartbeats 4000000 in
theorem known18_ac (l : List Evt) (ids : List Int) (hsz : ids.length ≤ 100000) : AC Try.prog 34 [evs l, ints ids] (ints (knownOf l ids)) := by
  refine AC.of_body Try.func34 rfl rfl Try.ntmps34 (congrArg Array.toList Try.results34) (by simp) (pures2 (pure_evs _) (pure_ints _)) (pureR_ints _) fun w S' => AWp.of_vc [] ?_
  simp [go_sem]
  refine CallSem.pure (missing_ac l ids hsz) (by simp [go_sem]) ?_
  unfold knownOf
  generalize missOf l ids = M
  simp [go_sem]
  refine CallSem.pure (rminus_ac ids M hsz) (by simp [go_sem]) ?_
  simp [go_sem]
  refine PostR.ret ?_
  simp [go_sem]
noncomputable def setAt (l : List Evt) (K : List Int) (n : Int) : List Int := if powN l n = true then n :: (chainOf l [n]).filter fun x => hasCr2 K x else []
noncomputable def setL (l : List Evt) (K ks : List Int) : List Int := ks.flatMap (setAt l K)
theorem setL_succ {l : List Evt} {K ks : List Int} {k : Nat} (h : k < ks.length) : setL l K (ks.take (k + 1)) = setL l K (ks.take k) ++ setAt l K ks[k] := by
  unfold setL; rw [List.take_succ_eq_append_getElem h, List.flatMap_append]; simp
theorem setAt_len {l : List Evt} {K : List Int} {n : Int} : (setAt l K n).length ≤ l.length + 1 := by
  unfold setAt
  split
  · have h1 := List.length_filter_le (fun x => hasCr2 K x) (chainOf l [n])
    have h2 : (chainOf l [n]).length ≤ l.length := reachOf_len _ _ _
    rw [List.length_cons]; omega
  · simp
theorem setL_len {l : List Evt} {K : List Int} : ∀ ks : List Int, (setL l K ks).length ≤ (l.length + 1) * ks.length
  | [] => Nat.zero_le _
  | n :: ks => by
    have ih := setL_len (l := l) (K := K) ks
    have h1 := setAt_len (l := l) (K := K) (n := n)
    have e : setL l K (n :: ks) = setAt l K n ++ setL l K ks := by simp [setL]
    rw [e, List.length_append, List.length_cons, Nat.mul_succ]; omega
theorem rset_eq (l : List Evt) (full : List Int) : sortedL (setL l (knownOf l full) (knownOf l full)) = psetOf l full := by
  refine strict_ext (sortedL_sorted _).1 (sortedSet_sorted _).1 fun n => ?_
  unfold psetOf
  rw [(sortedL_sorted _).2, (sortedSet_sorted _).2, List.mem_append, List.mem_filter, List.mem_filter]
  unfold setL setAt
  rw [List.mem_flatMap]
  have hpk : ∀ {x}, powN l x = true → knownB l x = true := fun {x} h => by
    unfold powN at h; unfold knownB
    cases hg : getE l x with
    | none => rw [hg] at h; cases h
    | some e => rfl
  have hck : ∀ {x y}, x ∈ chainOf l y → knownB l x = true := fun {x y} h => (mem_reachOf.1 h).known
  constructor
  · rintro ⟨x, hx, h⟩
    obtain ⟨hxf, hxk⟩ := mem_knownOf.1 hx
    split at h
    · rename_i hp
      rcases List.mem_cons.1 h with rfl | h
      · exact .inl ⟨hxf, hp⟩
      · rw [List.mem_filter] at h
        have hn : n ∈ knownOf l full := by simpa [hasCr2] using h.2
        refine .inr ⟨(mem_knownOf.1 hn).1, ?_⟩
        have : n ∈ chainOf l (full.filter (powN l)) := mem_chain.2 ⟨x, List.mem_filter.2 ⟨hxf, hp⟩, h.1⟩
        simpa [hasCr2] using this
    · cases h
  · rintro (⟨hf, hp⟩ | ⟨hf, hc⟩)
    · exact ⟨n, mem_knownOf.2 ⟨hf, hpk hp⟩, by rw [if_pos hp]; exact List.mem_cons_self ..⟩
    · have hc : n ∈ chainOf l (full.filter (powN l)) := by simpa [hasCr2] using hc
      obtain ⟨x, hx, hxc⟩ := mem_chain.1 hc
      obtain ⟨hxf, hp⟩ := List.mem_filter.1 hx
      refine ⟨x, mem_knownOf.2 ⟨hxf, hpk hp⟩, ?_⟩
      rw [if_pos hp]
      refine List.mem_cons_of_mem _ (List.mem_filter.2 ⟨hxc, ?_⟩)
      have : n ∈ knownOf l full := mem_knownOf.2 ⟨hf, hck hxc⟩
      simpa [hasCr2] using this
set_option maxRecDepth 8000 in
set_option maxHeartbeats 4000000 in
theorem rset_ac (l : List Evt) (full : List Int) (hl : Fit l) (hsz : full.length ≤ 1000) : AC Try.prog 16 [evs l, ints full] (ints (psetOf l full)) := by
  refine AC.of_body Try.func16 rfl rfl Try.ntmps16 (congrArg Array.toList Try.results16) (by simp) (pures2 (pure_evs _) (pure_ints _)) (pureR_ints _) fun w S' => AWp.of_vc [] ?_
  rw [← rset_eq]
  have hll := hl.len
  simp [go_sem]
  refine CallSem.pure (known18_ac l full (by omega)) (by simp [go_sem]) ?_
  have hkl := sorted_known_len (knownOf_sorted l full) (fun n hn => (mem_knownOf.1 hn).2)
  have hkk : ∀ n ∈ knownOf l full, knownB l n = true := fun n hn => (mem_knownOf.1 hn).2
  generalize knownOf l full = K at hkl hkk ⊢
  have hm : K.length ≤ maxLen := by unfold maxLen; omega
  simp [go_sem]
  refine AWp.loop_vc [] (fun m s => ∃ (k : Nat), m = K.length - k ∧ k ≤ K.length ∧ s.σ 0 = evs l ∧ s.σ 5 = ints K ∧ s.σ 7 = I k ∧ s.σ 6 = ints (sortedL (setL l K (K.take k)))) K.length ⟨0, by simp [go_sem, setL, sortedL]⟩ ?_
  rintro m s ⟨k, rfl, hk, h0, h5, h7, h6⟩
  by_cases hlt : k < K.length
  · have hsu := setL_succ (l := l) (K := K) hlt
    have hXl := setL_len (l := l) (K := K) (K.take k)
    rw [List.length_take] at hXl
    have hXl2 : (setL l K (K.take k)).length ≤ 1000 := by
      have : (l.length + 1) * (min k K.length) ≤ 15 * 14 := Nat.mul_le_mul (by omega) (by omega)
      omega
    generalize setL l K (K.take k) = X at h6 hsu hXl2
    have hsl := sortedL_lenG X
    simp [go_sem, h0, h5, h7, h6, hlt]
    refine CallSem.pure (rgetE_ac l K[k]) (by simp [go_sem]) ?_
    have hkn := hkk _ (List.getElem_mem hlt)
    obtain ⟨e, hg⟩ := Option.isSome_iff_exists.1 (show (getE l K[k]).isSome = true from hkn)
    rw [hg]
    simp [go_sem, h0, h5, h7, h6, hlt]
    refine CallSem.pure (ris18_ac e) (by simp [go_sem]) ?_
    have hpw := powN_some hg
    cases hp : powOf e with
    | false =>
      rw [hp] at hpw
      have hat : setAt l K K[k] = [] := by unfold setAt; rw [hpw]; rfl
      rw [hat, List.append_nil] at hsu
      simp [go_sem, h0, h5, h7, h6, hlt, wrap_succ hlt hm]
      exact ⟨K.length - (k + 1), by omega, k + 1, rfl, by omega, rfl, by rw [hsu]⟩
    | true =>
      rw [hp] at hpw
      have hat : setAt l K K[k] = K[k] :: (chainOf l [K[k]]).filter fun x => hasCr2 K x := by unfold setAt; rw [if_pos hpw]
      rw [hat] at hsu
      simp [go_sem, h0, h5, h7, h6, hlt]
      refine CallSem.pure (put_ac (sortedL X) K[k] (by omega)) (by simp [go_sem]) ?_
      rw [← sortedL_snoc]
      simp [go_sem, h0, h5, h7, h6, hlt]
      refine CallSem.pure (rchain_ac l [K[k]] hl (by simp)) (by simp [go_sem]) ?_
      have hcl : (chainOf l [K[k]]).length ≤ l.length := reachOf_len _ _ _
      generalize chainOf l [K[k]] = C at hsu hcl ⊢
      have hCm : C.length ≤ maxLen := by unfold maxLen; omega
      have hX' : (X ++ [K[k]]).length ≤ 1001 := by rw [List.length_append, List.length_cons, List.length_nil]; omega
      have hsu' : setL l K (K.take (k + 1)) = (X ++ [K[k]]) ++ C.filter fun x => hasCr2 K x := by rw [hsu]; simp
      generalize X ++ [K[k]] = Y at hX' hsu' ⊢
      simp [go_sem, h0, h5, h7, h6, hlt]
      refine AWp.loop_vc [] (fun m s => ∃ (q : Nat), m = C.length - q ∧ q ≤ C.length ∧ s.σ 0 = evs l ∧ s.σ 5 = ints K ∧ s.σ 7 = I k ∧ s.σ 10 = ints C ∧ s.σ 11 = I q ∧ s.σ 6 = ints (sortedL (Y ++ (C.take q).filter fun x => hasCr2 K x))) C.length ⟨0, by simp [go_sem, h0, h5, h7]⟩ ?_
      clear h0 h5 h7 h6
      rintro m s ⟨q, rfl, hq, h0, h5, h7, h10, h11, h6⟩
      by_cases hlq : q < C.length
      · have hfs := filter_snoc (p := fun x => hasCr2 K x) hlq Y
        have hZl : (Y ++ (C.take q).filter fun x => hasCr2 K x).length ≤ 5000 := by
          have := List.length_filter_le (fun x => hasCr2 K x) (C.take q)
          rw [List.length_take] at this
          rw [List.length_append]; omega
        generalize Y ++ (C.take q).filter (fun x => hasCr2 K x) = Z at h6 hfs hZl
        have hzl := sortedL_lenG Z
        simp [go_sem, h0, h5, h7, h10, h11, h6, hlq]
        refine CallSem.pure (r := B (hasCr2 K C[q])) (has_ac K C[q]) (by simp [go_sem]) ?_
        cases hc : hasCr2 K C[q] with
        | true =>
          rw [hc] at hfs
          simp only [if_true] at hfs
          simp [go_sem, h0, h5, h7, h10, h11, h6, hlq]
          refine CallSem.pure (put_ac (sortedL Z) C[q] (by omega)) (by simp [go_sem]) ?_
          rw [← sortedL_snoc, ← hfs]
          simp [go_sem, h0, h5, h7, h10, h11, h6, hlq, wrap_succ hlq hCm]
          exact ⟨C.length - (q + 1), by omega, q + 1, rfl, by omega, rfl, rfl⟩
        | false =>
          rw [hc] at hfs
          simp [go_sem, h0, h5, h7, h10, h11, h6, hlq, wrap_succ hlq hCm]
          exact ⟨C.length - (q + 1), by omega, q + 1, rfl, by omega, rfl, by rw [hfs]; simp⟩
      · rw [List.take_of_length_le (by omega)] at h6
        simp [go_sem, h0, h5, h7, h10, h11, h6, hlq, wrap_succ hlt hm]
        exact ⟨K.length - (k + 1), by omega, k + 1, rfl, by omega, rfl, by rw [hsu']⟩
  · rw [List.take_of_length_le (by omega)] at h6
    simp [go_sem, h0, h5, h7, h6, hlt]
    refine PostR.ret ?_
    simp [go_sem]
end Go.Proofs.Ytppgiipgppeenaa

-- part H4
namespace Go.Proofs.Ytppgiipgppeenaa
open Go Go.Abs
set_option linter.unusedSimpArgs false
set_option linter.unusedVariables false
def tmN (l : List Evt) (n : Int) : Int := ((getE l n).getD evZ).time
def lvN (l : List Evt) (n : Int) : Int := sendOf l ((getE l n).getD evZ)
noncomputable def nd (l : List Evt) (n : Int) : AV := .agg [I n, I (lvN l n), I (tmN l n), ints (chainOf l [n])]
theorem pure_nd (l : List Evt) (ns : List Int) : Pure (.lst 4 (ns.map (nd l))) := pure_lst fun x hx c hc => by
  obtain ⟨n, _, rfl⟩ := List.mem_map.1 hx
  simp only [nd, AV.cells, List.mem_cons, List.not_mem_nil, or_false] at hc
  rcases hc with rfl | rfl | rfl | rfl
  · exact pure_I _
  · exact pure_I _
  · exact pure_I _
  · exact pure_ints _
theorem known_filter (l : List Evt) (ids : List Int) : (sortedSet ids).filter (knownB l) = knownOf l ids := by
  refine strict_ext ((sortedSet_sorted _).1.filter _) (knownOf_sorted l ids) fun n => ?_
  rw [mem_knownOf, List.mem_filter, (sortedSet_sorted _).2]
theorem sortedSet_len (l : List Int) : (sortedSet l).length ≤ l.length := by
  obtain ⟨h1, h2⟩ := sortedSet_sorted l
  exact nodup_len (h1.imp fun h => Int.ne_of_lt h) fun x hx => (h2 x).1 hx
set_option maxRecDepth 8000 in
set_option maxHeartbeats 4000000 in
theorem nodes_ac (l : List Evt) (ids : List Int) (hl : Fit l) (hM : ∀ e ∈ l, Mod e) (hsz : ids.length ≤ 1000) : AC Try.prog 43 [evs l, ints ids] (.lst 4 ((knownOf l ids).map (nd l))) := by
  refine AC.of_body Try.func43 rfl rfl Try.ntmps43 (congrArg Array.toList Try.results43) (by simp) (pures2 (pure_evs _) (pure_ints _)) (pure_nd _ _) fun w S' => AWp.of_vc [] ?_
  rw [← known_filter]
  simp [go_sem]
  refine CallSem.pure (numSorted_ac ids (by omega)) (by simp [go_sem]) ?_
  have hSl := sortedSet_len ids
  generalize sortedSet ids = Z at hSl ⊢
  have hm : Z.length ≤ maxLen := by unfold maxLen; omega
  simp [go_sem]
  refine AWp.ownNil 5 64 4 (by simp [go_sem]) ?_
  refine AWp.loop_vc [] (fun m s => ∃ (k v : Nat), m = Z.length - k ∧ k ≤ Z.length ∧ s.σ 0 = evs l ∧ s.σ 5 = .ref 5 v ∧ s.σ 11 = ints Z ∧ s.σ 12 = I Z.length ∧ s.σ 13 = I k ∧ s.ver 5 = v ∧ s.h 5 = .arr 64 4 (((Z.take k).filter (knownB l)).map (nd l))) Z.length ⟨0, 1, by simp [go_sem]⟩ ?_
  rintro m s ⟨k, v, rfl, hk, h0, h5, h11, h12, h13, hv, hh⟩
  by_cases hlt : k < Z.length
  · have hsu := filter_take3 (knownB l) Z k hlt
    have hfl : ((Z.take k).filter (knownB l)).length ≤ k := by
      have := List.length_filter_le (knownB l) (Z.take k)
      rw [List.length_take] at this; omega
    generalize (Z.take k).filter (knownB l) = X at hh hsu hfl
    simp [go_sem, h0, h5, h11, h12, h13, hv, hh, hlt]
    refine CallSem.pure (sget_ac l Z[k]) (by simp [go_sem]) ?_
    cases hg : getE l Z[k] with
    | none =>
      have hkn : knownB l Z[k] = false := by unfold knownB; rw [hg]; rfl
      rw [hkn] at hsu
      simp [go_sem, h0, h5, h11, h12, h13, hv, hh, hlt, wrap_succ hlt hm]
      exact ⟨Z.length - (k + 1), by omega, k + 1, rfl, by omega, rfl, by rw [hsu]; simp⟩
    | some e =>
      have hkn : knownB l Z[k] = true := by unfold knownB; rw [hg]; rfl
      have hel := List.mem_of_find?_eq_some hg
      have hnd : nd l Z[k] = .agg [I Z[k], I (sendOf l e), I e.time, ints (chainOf l [Z[k]])] := by unfold nd lvN tmN; rw [hg]; rfl
      rw [hkn] at hsu
      simp [go_sem, h0, h5, h11, h12, h13, hv, hh, hlt]
      refine AWp.draw (n := 13) [] rfl (by kernel_rfl) ?_
      simp [go_sem, h0, h5, h11, h12, h13, hv, hh, hlt]
      refine CalmThen.pure (sender_ac l e hM (hl.auth e hel)) rfl ?_
      simp [go_sem, h0, h5, h11, h12, h13, hv, hh, hlt]
      refine CalmThen.pure (chain_ac l [Z[k]] hl (by simp)) rfl ?_
      generalize chainOf l [Z[k]] = C at hnd ⊢
      simp [go_sem, h0, h5, h11, h12, h13, hv, hh, hlt, wrap_succ hlt hm]
      exact ⟨⟨by omega, by omega⟩, Z.length - (k + 1), by omega, k + 1, rfl, by omega, rfl, by rw [hsu]; simp [hnd, I, ints]⟩
  · rw [List.take_of_length_le (by omega)] at hh
    simp [go_sem, h0, h5, h11, h12, h13, hv, hh, hlt]
    refine PostR.retW [5] ?_ (.refl _)
    simp [go_sem, h0, h5, h11, h12, h13, hv, hh, hlt]
/-- Is the first preferred to the second one by level and time? -/
def ahN (l : List Evt) (a b : Int) : Bool := if lvN l a = lvN l b then decide (tmN l a < tmN l b) else decide (lvN l b < lvN l a)
theorem pure_ndc (l : List Evt) (n : Int) : Pure (nd l n) := pure_agg fun c hc => by
  simp only [List.mem_cons, List.not_mem_nil, or_false] at hc
  rcases hc with rfl | rfl | rfl | rfl
  · exact pure_I _
  · exact pure_I _
  · exact pure_I _
  · exact pure_ints _
set_option maxRecDepth 8000 in
set_option maxHeartbeats 4000000 in
theorem ahead_ac (l : List Evt) (a b : Int) : AC Try.prog 44 [nd l a, nd l b] (B (ahN l a b)) := by
  refine AC.of_body Try.func44 rfl rfl Try.ntmps44 (congrArg Array.toList Try.results44) (by simp) (pures2 (pure_ndc _ _) (pure_ndc _ _)) (pure_B _) fun w S' => AWp.of_vc [] ?_
  unfold nd ahN
  by_cases c : lvN l a = lvN l b
  · simp [go_sem, c]
    refine PostR.ret ?_
    simp [go_sem]
  · simp [go_sem, c]
    refine PostR.ret ?_
    simp [go_sem, c]
noncomputable def freeN (l : List Evt) (L : List Int) (n : Int) : Bool := L.all fun y => !hasCr2 (chainOf l [n]) y
/-- The first is preferred to the second. -/
def prN (l : List Evt) (a b : Int) : Bool := ahN l a b || (!ahN l b a && decide (a < b))
theorem ahN_irr (l : List Evt) (a : Int) : ahN l a a = false := by simp [ahN]
theorem ahN_asym {l : List Evt} {a b : Int} (h : ahN l a b = true) : ahN l b a = false := by
  unfold ahN at *
  by_cases c : lvN l a = lvN l b
  · simp [c] at h ⊢; omega
  · have c' : ¬ lvN l b = lvN l a := fun h => c h.symm
    simp [c, c'] at h ⊢; omega
theorem ahN_neg_trans {l : List Evt} {a b c : Int} (h1 : ahN l a b = false) (h2 : ahN l b c = false) : ahN l a c = false := by
  unfold ahN at *
  split at h1 <;> split at h2 <;> split <;> simp at * <;> omega
theorem prN_irr (l : List Evt) (a : Int) : prN l a a = false := by simp [prN, ahN_irr]
theorem prN_asym {l : List Evt} {a b : Int} (h : prN l a b = true) : prN l b a = false := by
  unfold prN at *
  cases h1 : ahN l a b with
  | true => rw [ahN_asym h1]; simp
  | false =>
    rw [h1] at h
    simp at h
    simp [h.1]; omega
theorem prN_total {l : List Evt} {a b : Int} (h : a ≠ b) : prN l a b = true ∨ prN l b a = true := by
  unfold prN
  cases h1 : ahN l a b with
  | true => exact .inl rfl
  | false =>
    cases h2 : ahN l b a with
    | true => exact .inr rfl
    | false =>
      simp; omega
theorem prN_trans {l : List Evt} {a b c : Int} (h1 : prN l a b = true) (h2 : prN l b c = true) : prN l a c = true := by
  have e : ∀ {x y : Int}, prN l x y = true ↔ lvN l y < lvN l x ∨ (lvN l x = lvN l y ∧ (tmN l x < tmN l y ∨ (tmN l x = tmN l y ∧ x < y))) := fun {x y} => by
    unfold prN ahN
    by_cases c : lvN l x = lvN l y
    · simp [c]; omega
    · have c' : ¬ lvN l y = lvN l x := fun h => c h.symm
      simp [c, c']; omega
  rw [e] at *; omega
/-- The one that comes next. -/
noncomputable def nextN (l : List Evt) (L : List Int) : Option Int := L.find? fun n => freeN l L n && L.all fun m => !freeN l L m || (m == n || prN l n m)
theorem nextN_mem {l : List Evt} {L : List Int} {n : Int} (h : nextN l L = some n) : n ∈ L := List.mem_of_find?_eq_some h
theorem nextN_some {l : List Evt} {L : List Int} {n : Int} : nextN l L = some n ↔ n ∈ L ∧ freeN l L n = true ∧ ∀ m ∈ L, freeN l L m = true → m = n ∨ prN l n m = true := by
  constructor
  · intro h
    have h2 := List.find?_some h
    simp only [Bool.and_eq_true, List.all_eq_true, Bool.or_eq_true, Bool.not_eq_true', beq_iff_eq] at h2
    refine ⟨nextN_mem h, h2.1, fun m hm hf => ?_⟩
    rcases h2.2 m hm with h3 | h3
    · rw [h3] at hf; cases hf
    · exact h3
  · rintro ⟨h1, h2, h3⟩
    have hp : (freeN l L n && L.all fun m => !freeN l L m || (m == n || prN l n m)) = true := by
      simp only [Bool.and_eq_true, List.all_eq_true, Bool.or_eq_true, Bool.not_eq_true', beq_iff_eq]
      refine ⟨h2, fun m hm => ?_⟩
      cases hf : freeN l L m with
      | false => exact .inl rfl
      | true => exact .inr (h3 m hm hf)
    cases hx : nextN l L with
    | none =>
      unfold nextN at hx
      rw [List.find?_eq_none] at hx
      exact absurd hp (hx n h1)
    | some x =>
      have hxm := nextN_mem hx
      have h4 := List.find?_some hx
      simp only [Bool.and_eq_true, List.all_eq_true, Bool.or_eq_true, Bool.not_eq_true', beq_iff_eq] at h4
      rcases h3 x hxm h4.1 with h5 | h5
      · rw [h5]
      · rcases h4.2 n h1 with h6 | h6 | h6
        · rw [h2] at h6; cases h6
        · rw [h6]
        · rw [prN_asym h5] at h6; cases h6
theorem nextN_none {l : List Evt} {L : List Int} (h : ∀ n ∈ L, freeN l L n = false) : nextN l L = none := by
  unfold nextN
  rw [List.find?_eq_none]
  intro n hn
  rw [h n hn]; simp
noncomputable def ordL (l : List Evt) (L : List Int) : List Int :=
  match h : nextN l L with
  | none => []
  | some n => n :: ordL l (L.erase n)
termination_by L.length
decreasing_by
  have hm := nextN_mem h
  have := List.length_erase_of_mem hm
  have := List.length_pos_of_mem hm
  omega
theorem ordL_none {l : List Evt} {L : List Int} (h : nextN l L = none) : ordL l L = [] := by
  rw [ordL]; split
  · rfl
  · rename_i n hn; rw [hn] at h; cases h
theorem ordL_some {l : List Evt} {L : List Int} {n : Int} (h : nextN l L = some n) : ordL l L = n :: ordL l (L.erase n) := by
  rw [ordL]; split
  · rename_i hn; rw [hn] at h; cases h
  · rename_i x hx; rw [hx] at h; cases h; rfl
theorem ordL_nil (l : List Evt) : ordL l [] = [] := ordL_none rfl
theorem erase_at : ∀ {L : List Int}, L.Pairwise (· < ·) → ∀ {b : Nat} (hb : b < L.length), L.erase L[b] = L.take b ++ L.drop (b + 1)
  | [], _, b, hb => by simp at hb
  | x :: L, hs, 0, _ => by simp
  | x :: L, hs, b + 1, hb => by
    rw [List.pairwise_cons] at hs
    have hb' : b < L.length := by simpa using hb
    have hne : ¬ x = L[b] := Int.ne_of_lt (hs.1 _ (List.getElem_mem hb'))
    have ih := erase_at hs.2 hb'
    rw [List.getElem_cons_succ, List.erase_cons, if_neg (by simpa using hne), ih]
    simp
/-- The best one so far: its place, or none. -/
def BestUp (l : List Evt) (L : List Int) (k : Nat) (b : Int) : Prop := (b = -1 ∧ ∀ i (h : i < L.length), i < k → freeN l L L[i] = false) ∨
  ∃ q, ∃ hq : q < L.length, b = q ∧ q < k ∧ freeN l L L[q] = true ∧ ∀ i (h : i < L.length), i < k → freeN l L L[i] = true → i = q ∨ prN l L[q] L[i] = true
theorem BestUp.zero (l : List Evt) (L : List Int) : BestUp l L 0 (-1) := .inl ⟨rfl, fun _ _ h => by omega⟩
theorem BestUp.rng {l : List Evt} {L : List Int} {k : Nat} {b : Int} (h : BestUp l L k b) : b = -1 ∨ ∃ q : Nat, b = q ∧ q < L.length ∧ q < k := by
  rcases h with ⟨h, _⟩ | ⟨q, hq, h, h2, _⟩
  · exact .inl h
  · exact .inr ⟨q, h, hq, h2⟩
theorem BestUp.skip {l : List Evt} {L : List Int} {k : Nat} {b : Int} (h : BestUp l L k b) (hk : k < L.length) (hf : freeN l L L[k] = false) : BestUp l L (k + 1) b := by
  rcases h with ⟨h, h1⟩ | ⟨q, hq, h, h2, h3, h4⟩
  · refine .inl ⟨h, fun i hi hik => ?_⟩
    by_cases g : i = k
    · subst g; exact hf
    · exact h1 i hi (by omega)
  · refine .inr ⟨q, hq, h, by omega, h3, fun i hi hik hfi => ?_⟩
    by_cases g : i = k
    · subst g; rw [hf] at hfi; cases hfi
    · exact h4 i hi (by omega) hfi
theorem BestUp.first {l : List Evt} {L : List Int} {k : Nat} (h : BestUp l L k (-1)) (hk : k < L.length) (hf : freeN l L L[k] = true) : BestUp l L (k + 1) k := by
  rcases h with ⟨_, h1⟩ | ⟨q, hq, h, _⟩
  · refine .inr ⟨k, hk, rfl, by omega, hf, fun i hi hik hfi => ?_⟩
    by_cases g : i = k
    · exact .inl g
    · rw [h1 i hi (by omega)] at hfi; cases hfi
  · omega
theorem BestUp.better {l : List Evt} {L : List Int} {k q : Nat} (h : BestUp l L k q) (hk : k < L.length) (hq : q < L.length) (hf : freeN l L L[k] = true) (ha : prN l L[k] L[q] = true) : BestUp l L (k + 1) k := by
  rcases h with ⟨h, _⟩ | ⟨q', hq', h, h2, h3, h4⟩
  · omega
  · obtain rfl : q = q' := (by omega)
    refine .inr ⟨k, hk, rfl, by omega, hf, fun i hi hik hfi => ?_⟩
    by_cases g : i = k
    · exact .inl g
    · rcases h4 i hi (by omega) hfi with g2 | g2
      · subst g2; exact .inr ha
      · exact .inr (prN_trans ha g2)
theorem BestUp.keep {l : List Evt} {L : List Int} {k q : Nat} (h : BestUp l L k q) (hk : k < L.length) (hq : q < L.length) (ha : prN l L[q] L[k] = true) : BestUp l L (k + 1) q := by
  rcases h with ⟨h, _⟩ | ⟨q', hq', h, h2, h3, h4⟩
  · omega
  · obtain rfl : q = q' := (by omega)
    refine .inr ⟨q, hq, rfl, by omega, h3, fun i hi hik hfi => ?_⟩
    by_cases g : i = k
    · subst g; exact .inr ha
    · exact h4 i hi (by omega) hfi
theorem BestUp.none {l : List Evt} {L : List Int} {k : Nat} (h : BestUp l L k (-1)) (hk : ¬ k < L.length) : nextN l L = Option.none := by
  rcases h with ⟨_, h1⟩ | ⟨q, hq, h, _⟩
  · refine nextN_none fun n hn => ?_
    obtain ⟨i, hi, rfl⟩ := List.mem_iff_getElem.1 hn
    exact h1 i hi (by omega)
  · omega
theorem BestUp.some {l : List Evt} {L : List Int} {k q : Nat} (h : BestUp l L k q) (hk : ¬ k < L.length) (hq : q < L.length) : nextN l L = Option.some L[q] := by
  rcases h with ⟨h, _⟩ | ⟨q', hq', h, h2, h3, h4⟩
  · omega
  · obtain rfl : q = q' := (by omega)
    rw [nextN_some]
    refine ⟨List.getElem_mem hq, h3, fun m hm hf => ?_⟩
    obtain ⟨i, hi, rfl⟩ := List.mem_iff_getElem.1 hm
    rcases h4 i hi (by omega) hf with g | g
    · subst g; exact .inl rfl
    · exact .inr g
/-- Among increasing ids the earlier one stays if the later one is not ahead. -/
theorem pr_of_ah {l : List Evt} {a b : Int} (h : ahN l b a = false) (hab : a < b) : prN l a b = true := by
  unfold prN; simp [h, hab]
theorem pr_of_ah2 {l : List Evt} {a b : Int} (h : ahN l a b = true) : prN l a b = true := by
  unfold prN; simp [h]
set_option maxRecDepth 8000 in
set_option maxHeartbeats 4000000 in
theorem porder_ac (l : List Evt) (ids : List Int) (hl : Fit l) (hM : ∀ e ∈ l, Mod e) (hsz : ids.length ≤ 1000) : AC Try.prog 20 [evs l, ints ids] (ints (ordL l (knownOf l ids))) := by
  refine AC.of_body Try.func20 rfl rfl Try.ntmps20 (congrArg Array.toList Try.results20) (by simp) (pures2 (pure_evs _) (pure_ints _)) (pureR_ints _) fun w S' => AWp.of_vc [] ?_
  simp [go_sem]
  refine CallSem.pure (nodes_ac l ids hl hM hsz) (by simp [go_sem]) ?_
  have hKl := sorted_known_len (knownOf_sorted l ids) (fun n hn => (mem_knownOf.1 hn).2)
  have hKs := knownOf_sorted l ids
  have hll := hl.len
  generalize knownOf l ids = K at hKl hKs ⊢
  simp [go_sem]
  refine AWp.ownNil 6 3 1 (by simp [go_sem]) ?_
  have hinit : ([] : List Int) ++ ordL l K = ordL l K := rfl
  refine AWp.loop_vcF [] [70] (fun m s => ∃ (L out : List Int) (v : Nat), m = L.length ∧ out ++ ordL l L = ordL l K ∧ L.Pairwise (· < ·) ∧ L.length ≤ 14 ∧ out.length + L.length ≤ 14 ∧ s.σ 5 = .lst 4 (L.map (nd l)) ∧ s.σ 6 = .ref 6 v ∧ s.ver 6 = v ∧ s.h 6 = .arr 3 1 (out.map I) ∧ s.σ 7 = .fn (.func 44) [] []) K.length ⟨K, [], 1, by simp [go_sem, hKs]; omega⟩ ?_
  rintro m s ⟨L, out, v, rfl, hO, hLs, hL14, hoL, h5, h6, hv6, hh6, h7⟩
  by_cases hL0 : 0 < L.length
  · have hLm : L.length ≤ maxLen := by unfold maxLen; omega
    simp [go_sem, h5, h6, hv6, hh6, h7, hL0]
    refine AWp.scope_vc [] ?_
    simp [go_sem, h5, h6, hv6, hh6, h7, hL0]
    refine AWp.loop_vc [] (fun m s => ∃ (k : Nat) (b : Int), m = L.length - k ∧ k ≤ L.length ∧ BestUp l L k b ∧ s.σ 5 = .lst 4 (L.map (nd l)) ∧ s.σ 6 = .ref 6 v ∧ s.ver 6 = v ∧ s.h 6 = .arr 3 1 (out.map I) ∧ s.σ 7 = .fn (.func 44) [] [] ∧ s.σ 8 = I b ∧ s.σ 19 = .lst 4 (L.map (nd l)) ∧ s.σ 20 = I L.length ∧ s.σ 21 = I k) L.length ⟨0, -1, by simp [go_sem, h5, h6, hv6, hh6, h7, BestUp.zero]⟩ ?_
    clear h5 h6 hv6 hh6 h7
    rintro m s ⟨k, b, rfl, hk, hB, h5, h6, hv6, hh6, h7, h8, h19, h20, h21⟩
    by_cases hlt : k < L.length
    · simp [go_sem, h5, h6, hv6, hh6, h7, h8, h19, h20, h21, hlt, nd]
      have hfr : freeN l L L[k] = L.all fun y => !hasCr2 (chainOf l [L[k]]) y := rfl
      have hno : ∀ q (hq : q < L.length), hasCr2 (chainOf l [L[k]]) L[q] = true → freeN l L L[k] = false := fun q hq hb => all_miss hq (by rw [hb]; rfl)
      have hndk : nd l L[k] = .agg [I L[k], I (lvN l L[k]), I (tmN l L[k]), ints (chainOf l [L[k]])] := rfl
      generalize chainOf l [L[k]] = C at hfr hno hndk ⊢
      refine AWp.loop_vc [] (fun m s => ∃ (q u : Nat), m = L.length - q ∧ q ≤ L.length ∧ AllUp (fun y => !hasCr2 C y) L q ∧ s.σ 5 = .lst 4 (L.map (nd l)) ∧ s.σ 6 = .ref 6 v ∧ s.ver 6 = v ∧ s.h 6 = .arr 3 1 (out.map I) ∧ s.σ 7 = .fn (.func 44) [] [] ∧ s.σ 8 = I b ∧ s.σ 19 = .lst 4 (L.map (nd l)) ∧ s.σ 20 = I L.length ∧ s.σ 21 = I k ∧ s.σ 9 = I k ∧ s.σ 10 = .rptr 10 u 0 0 ∧ s.ver 10 = u ∧ s.h 10 = .box [I L[k], I (lvN l L[k]), I (tmN l L[k]), ints C] ∧ s.σ 26 = .lst 4 (L.map (nd l)) ∧ s.σ 27 = I L.length ∧ s.σ 28 = I q) L.length ⟨0, s.ver 10 + 1, by simp [go_sem, h5, h6, hv6, hh6, h7, h8, h19, h20, h21, AllUp.zero]⟩ ?_
      clear h5 h6 hv6 hh6 h7 h8 h19 h20 h21
      rintro m s ⟨q, u, rfl, hq, hup, h5, h6, hv6, hh6, h7, h8, h19, h20, h21, h9, h10, hv10, hh10, h26, h27, h28⟩
      by_cases hlq : q < L.length
      · simp [go_sem, h5, h6, hv6, hh6, h7, h8, h19, h20, h21, h9, h10, hv10, hh10, h26, h27, h28, hlq, nd]
        refine CallSem.pure (r := B (hasCr2 C L[q])) (numHas_ac C L[q]) (by simp [go_sem]) ?_
        cases hc : hasCr2 C L[q] with
        | true =>
          simp [go_sem, h5, h6, hv6, hh6, h7, h8, h19, h20, h21, h9, h10, hv10, hh10, h26, h27, h28, hlq, wrap_succ hlt hLm]
          exact ⟨L.length - (k + 1), by omega, k + 1, rfl, by omega, b, hB.skip hlt (hno q hlq hc), rfl, rfl⟩
        | false =>
          simp [go_sem, h5, h6, hv6, hh6, h7, h8, h19, h20, h21, h9, h10, hv10, hh10, h26, h27, h28, hlq, wrap_succ hlq hLm]
          exact ⟨L.length - (q + 1), by omega, q + 1, rfl, by omega, hup.succ hlq (by rw [hc]; rfl), rfl⟩
      · have hfree : freeN l L L[k] = true := by rw [hfr]; exact hup.full hlq
        simp [go_sem, h5, h6, hv6, hh6, h7, h8, h19, h20, h21, h9, h10, hv10, hh10, h26, h27, h28, hlq]
        refine AWp.drawAll rfl (by kernel_rfl) ?_
        rcases hB.rng with rfl | ⟨g, rfl, hgl, hgk⟩
        · simp [go_sem, h5, h6, hv6, hh6, h7, h8, h19, h20, h21, h9, h10, hv10, hh10, h26, h27, h28, hlq, wrap_succ hlt hLm]
          exact ⟨L.length - (k + 1), by omega, k + 1, rfl, by omega, k, hB.first hlt hfree, rfl, rfl⟩
        · have hg0 : ¬ (g : Int) < 0 := by omega
          have hgL : ((g : Int)) < L.length := by omega
          have hlt2 : L[g] < L[k] := List.pairwise_iff_getElem.1 hLs g k hgl hlt hgk
          have hac := ahead_ac l L[k] L[g]
          rw [hndk] at hac
          simp [go_sem, h5, h6, hv6, hh6, h7, h8, h19, h20, h21, h9, h10, hv10, hh10, h26, h27, h28, hlq, hg0, hgl, nd]
          refine CalmThen.pure hac rfl ?_
          cases ha : ahN l L[k] L[g] with
          | true =>
            simp [go_sem, h5, h6, hv6, hh6, h7, h8, h19, h20, h21, h9, h10, hv10, hh10, h26, h27, h28, hlq, hg0, hgl, wrap_succ hlt hLm]
            exact ⟨L.length - (k + 1), by omega, k + 1, rfl, by omega, k, hB.better hlt hgl hfree (pr_of_ah2 ha), rfl, rfl⟩
          | false =>
            simp [go_sem, h5, h6, hv6, hh6, h7, h8, h19, h20, h21, h9, h10, hv10, hh10, h26, h27, h28, hlq, hg0, hgl, wrap_succ hlt hLm]
            exact ⟨L.length - (k + 1), by omega, k + 1, rfl, by omega, g, hB.keep hlt hgl (pr_of_ah ha hlt2), rfl, rfl⟩
    · rcases hB.rng with rfl | ⟨g, rfl, hgl, hgk⟩
      · have hnx := hB.none hlt
        rw [ordL_none hnx, List.append_nil] at hO
        simp [go_sem, h5, h6, hv6, hh6, h7, h8, h19, h20, h21, hlt]
        refine PostR.retW [6] ?_ (.refl _)
        simp [go_sem, h6, hv6, hh6, hO]
      · have hnx := hB.some hlt hgl
        have hos := ordL_some hnx
        rw [erase_at hLs hgl] at hos
        have hg0 : ¬ (g : Int) < 0 := by omega
        simp [go_sem, h5, h6, hv6, hh6, h7, h8, h19, h20, h21, hlt, hg0, hgl, nd]
        refine ⟨⟨by omega, by omega⟩, ?_⟩
        refine AWp.draw (n := 8) [] rfl (by kernel_rfl) ?_
        have hgle : g ≤ L.length := by omega
        have hgle1 : g + 1 ≤ L.length := by omega
        have hpos2 : (0 : Int) ≤ (g : Int) + 1 := by omega
        have htn : ((g : Int) + 1).toNat = g + 1 := by omega
        have hok : ∀ st, okAll st (List.take (L.length - (g + 1)) (List.drop (g + 1) (List.map (nd l) L))) := fun st c hc => by
          obtain ⟨n, _, rfl⟩ := List.mem_map.1 (List.mem_of_mem_drop (List.mem_of_mem_take hc)); rfl
        have hL's : (L.take g ++ L.drop (g + 1)).Pairwise (· < ·) := by
          rw [← List.eraseIdx_eq_take_drop_succ]; exact hLs.sublist (List.eraseIdx_sublist ..)
        have hL'l : (L.take g ++ L.drop (g + 1)).length = L.length - 1 := by rw [List.length_append, List.length_take, List.length_drop]; omega
        have hO' : (out ++ [L[g]]) ++ ordL l (L.take g ++ L.drop (g + 1)) = ordL l K := by rw [← hO, hos]; simp
        have htk : List.take (L.length - (g + 1)) (List.drop (g + 1) (List.map (nd l) L)) = List.drop (g + 1) (List.map (nd l) L) := List.take_of_length_le (by simp)
        simp [go_sem, h5, h6, hv6, hh6, h7, h8, h19, h20, h21, hlt, hg0, hgl, nd, hgle, hgle1, hpos2, htn, wrap_succ hgl hLm, hok]
        refine ⟨⟨by omega, by omega⟩, fun hd => ?_, fun hd1 hd2 => ?_⟩
        · have hdr : L.drop (g + 1) = [] := List.drop_eq_nil_of_le (by omega)
          rw [hdr, List.append_nil] at hL's hL'l hO'
          exact ⟨L.length - 1, by omega, L.take g, hL'l.symm, out ++ [L[g]], hO', hL's, by omega, by rw [List.length_append, List.length_cons, List.length_nil]; omega, by rw [List.map_take], by simp [I]⟩
        · exact ⟨L.length - 1, by omega, L.take g ++ L.drop (g + 1), hL'l.symm, out ++ [L[g]], hO', hL's, by omega, by rw [List.length_append, List.length_cons, List.length_nil]; omega, by rw [htk, List.map_append, List.map_take, List.map_drop], by simp [I]⟩
  · have hL : L = [] := List.eq_nil_of_length_eq_zero (by omega)
    subst hL
    rw [ordL_nil, List.append_nil] at hO
    simp [go_sem, h5, h6, hv6, hh6, h7]
    refine PostR.retW [6] ?_ (.refl _)
    simp [go_sem, h6, hv6, hh6, hO]
end Go.Proofs.Ytppgiipgppeenaa

-- part H5
namespace Go.Proofs.Ytppgiipgppeenaa
open Go Go.Abs
set_option linter.unusedSimpArgs false
set_option linter.unusedVariables false
theorem freeN_eq (l : List Evt) (L : List Int) (n : Int) : (chainOf l [n]).all (fun x => !hasCr2 L x) = freeN l L n := by
  unfold freeN hasCr2
  rw [Bool.eq_iff_iff, List.all_eq_true, List.all_eq_true]
  simp only [List.contains_eq_mem, Bool.not_eq_true', decide_eq_false_iff_not]
  exact ⟨fun h x hx hc => h x hc hx, fun h x hx hc => h x hc hx⟩
set_option maxRecDepth 8000 in
set_option maxHeartbeats 4000000 in
theorem rfree_ac (l : List Evt) (L : List Int) (n : Int) (hl : Fit l) : AC Try.prog 29 [evs l, ints L, I n] (B (freeN l L n)) := by
  refine AC.of_body Try.func29 rfl rfl Try.ntmps29 (congrArg Array.toList Try.results29) (by simp) (pures3 (pure_evs _) (pure_ints _) (pure_I _)) (pure_B _) fun w S' => AWp.of_vc [] ?_
  simp [go_sem]
  refine CallSem.pure (rchain_ac l [n] hl (by simp)) (by simp [go_sem]) ?_
  rw [← freeN_eq]
  have hcl : (chainOf l [n]).length ≤ l.length := reachOf_len _ _ _
  have hll := hl.len
  generalize chainOf l [n] = C at hcl ⊢
  have hm : C.length ≤ maxLen := by unfold maxLen; omega
  simp [go_sem]
  refine AWp.loop_vc [] (fun m s => ∃ (k : Nat), m = C.length - k ∧ k ≤ C.length ∧ s.σ 1 = ints L ∧ s.σ 7 = ints C ∧ s.σ 8 = I k ∧ AllUp (fun x => !hasCr2 L x) C k) C.length ⟨0, by simp [go_sem, AllUp.zero]⟩ ?_
  rintro m s ⟨k, rfl, hk, h1, h7, h8, hup⟩
  by_cases hlt : k < C.length
  · simp [go_sem, h1, h7, h8, hlt]
    refine CallSem.pure (r := B (hasCr2 L C[k])) (has_ac L C[k]) (by simp [go_sem]) ?_
    cases hc : hasCr2 L C[k] with
    | true =>
      have hr : (C.all fun x => !hasCr2 L x) = false := all_miss hlt (by rw [hc]; rfl)
      simp [go_sem, h1, h7, h8, hlt]
      refine PostR.ret ?_
      simp [go_sem, hr]
    | false =>
      simp [go_sem, h1, h7, h8, hlt, wrap_succ hlt hm]
      exact ⟨C.length - (k + 1), by omega, k + 1, rfl, by omega, rfl, hup.succ hlt (by rw [hc]; rfl)⟩
  · have hr := hup.full hlt
    simp [go_sem, h1, h7, h8, hlt]
    refine PostR.ret ?_
    simp [go_sem, hr]
theorem prN_iff {l : List Evt} {x y : Int} : prN l x y = true ↔ lvN l y < lvN l x ∨ (lvN l x = lvN l y ∧ (tmN l x < tmN l y ∨ (tmN l x = tmN l y ∧ x < y))) := by
  unfold prN ahN
  by_cases c : lvN l x = lvN l y
  · simp [c]; omega
  · have c' : ¬ lvN l y = lvN l x := fun h => c h.symm
    simp [c, c']; omega
set_option maxRecDepth 8000 in
set_option maxHeartbeats 4000000 in
theorem earlier_ac (l : List Evt) (n m : Int) (a b : Evt) (ha : getE l n = some a) (hb : getE l m = some b) (hl : Fit l) (hM : ∀ e ∈ l, Mod e) : AC Try.prog 45 [evs l, ev a, ev b] (B (prN l n m)) := by
  refine AC.of_body Try.func45 rfl rfl Try.ntmps45 (congrArg Array.toList Try.results45) (by simp) (pures3 (pure_evs _) (pure_ev _) (pure_ev _)) (pure_B _) fun w S' => AWp.of_vc [] ?_
  have hla : lvN l n = sendOf l a := by unfold lvN; rw [ha]; rfl
  have hlb : lvN l m = sendOf l b := by unfold lvN; rw [hb]; rfl
  have hta : tmN l n = a.time := by unfold tmN; rw [ha]; rfl
  have htb : tmN l m = b.time := by unfold tmN; rw [hb]; rfl
  have hia : a.id = n := by simpa using List.find?_some ha
  have hib : b.id = m := by simpa using List.find?_some hb
  have hp : prN l n m = true ↔ sendOf l b < sendOf l a ∨ (sendOf l a = sendOf l b ∧ (a.time < b.time ∨ (a.time = b.time ∧ a.id < b.id))) := by
    rw [prN_iff, hla, hlb, hta, htb, hia, hib]
  have hae := List.mem_of_find?_eq_some ha
  have hbe := List.mem_of_find?_eq_some hb
  have ac1 := rsender_ac l a hM (hl.auth a hae)
  have ac2 := rsender_ac l b hM (hl.auth b hbe)
  generalize sendOf l a = x at hp ac1
  generalize sendOf l b = y at hp ac2
  generalize prN l n m = r at hp ⊢
  have hr : ∀ q : Bool, (q = true ↔ (y < x ∨ (x = y ∧ (a.time < b.time ∨ (a.time = b.time ∧ a.id < b.id))))) → r = q := fun q hq => by rw [Bool.eq_iff_iff, hp, hq]
  simp [go_sem]
  refine AWp.drawAll rfl (by kernel_rfl) ?_
  simp [go_sem]
  refine CalmThen.pure ac1 rfl ?_
  simp [go_sem]
  refine CalmThen.pure ac2 rfl ?_
  by_cases c : x = y
  · by_cases c2 : a.time = b.time
    · have h := hr (decide (a.id < b.id)) (by simp; omega)
      simp [go_sem, c, c2]
      refine PostR.ret ?_
      simp [go_sem, h]
    · have h := hr (decide (a.time < b.time)) (by simp; omega)
      simp [go_sem, c, c2]
      refine PostR.ret ?_
      simp [go_sem, h]
  · have h := hr (decide (y < x)) (by simp; omega)
    simp [go_sem, c]
    refine PostR.ret ?_
    simp [go_sem, h]
def evBox : Option Evt → List AV
  | none => [.v (.int .i64 0), .v (.string ⟨#[]⟩), .v (.string ⟨#[]⟩), .v (.int .i64 0), .v (.bool false), .v (.string ⟨#[]⟩), .v (.int .i64 0), .v (.int .i64 0), .v (.slice none 0 0), .v (.slice none 0 0), .v (.string ⟨#[]⟩), .v (.int .i64 0), .v (.int .i64 0), .v (.bool false), .v (.string ⟨#[]⟩), .v (.slice none 0 0), .v (.slice none 0 0), .v (.slice none 0 0), .v (.slice none 0 0), .v (.int .i64 0), .v (.int .i64 0), .v (.int .i64 0), .v (.int .i64 0), .v (.int .i64 0), .v (.int .i64 0), .v (.int .i64 0), .v (.int .i64 0), .v (.string ⟨#[]⟩), .v (.int .i64 0)]
  | some e => evc e
/-- The best event so far. -/
def BestE (l : List Evt) (L : List Int) (k : Nat) (o : Option Evt) : Prop := (o = none ∧ BestUp l L k (-1)) ∨ ∃ q, ∃ hq : q < L.length, BestUp l L k q ∧ ∃ e, o = some e ∧ getE l L[q] = some e
theorem BestE.skip {l : List Evt} {L : List Int} {k : Nat} {o : Option Evt} (h : BestE l L k o) (hk : k < L.length) (hf : freeN l L L[k] = false) : BestE l L (k + 1) o := by
  rcases h with ⟨h, hB⟩ | ⟨q, hq, hB, h⟩
  · exact .inl ⟨h, hB.skip hk hf⟩
  · exact .inr ⟨q, hq, hB.skip hk hf, h⟩
theorem prN_of_not {l : List Evt} {L : List Int} {k q : Nat} (hs : L.Pairwise (· < ·)) (hk : k < L.length) (hq : q < L.length) (hqk : q < k) (h : prN l L[k] L[q] = false) : prN l L[q] L[k] = true := by
  have := List.pairwise_iff_getElem.1 hs q k hq hk hqk
  rcases prN_total (l := l) (a := L[q]) (b := L[k]) (by omega) with g | g
  · exact g
  · rw [h] at g; cases g
theorem minus_one {L : List Int} (hs : L.Pairwise (· < ·)) {n : Int} (hn : n ∈ L) : minusOf L [n] = L.erase n := by
  refine strict_ext (by unfold minusOf; exact (sortedL_sorted _).1.filter _) (hs.sublist (List.erase_sublist ..)) fun x => ?_
  have hnd : L.Nodup := hs.imp fun h => Int.ne_of_lt h
  rw [hnd.mem_erase_iff]
  unfold minusOf hasI
  rw [List.mem_filter, (sortedL_sorted _).2]
  simp [and_comm]
set_option maxRecDepth 8000 in
set_option maxHeartbeats 4000000 in
theorem rorder18_ac (l : List Evt) (ids : List Int) (hl : Fit l) (hM : ∀ e ∈ l, Mod e) (hsz : ids.length ≤ 1000) : AC Try.prog 21 [evs l, ints ids] (ints (ordL l (knownOf l ids))) := by
  refine AC.of_body Try.func21 rfl rfl Try.ntmps21 (congrArg Array.toList Try.results21) (by simp) (pures2 (pure_evs _) (pure_ints _)) (pureR_ints _) fun w S' => AWp.of_vc [15] ?_
  simp [go_sem]
  refine CallSem.pure (known18_ac l ids (by omega)) (by simp [go_sem]) ?_
  have hKl := sorted_known_len (knownOf_sorted l ids) (fun n hn => (mem_knownOf.1 hn).2)
  have hKs := knownOf_sorted l ids
  have hKk : ∀ n ∈ knownOf l ids, knownB l n = true := fun n hn => (mem_knownOf.1 hn).2
  have hll := hl.len
  generalize knownOf l ids = K at hKl hKs hKk ⊢
  have hinit : ([] : List Int) ++ ordL l K = ordL l K := rfl
  simp [go_sem]
  refine AWp.loop_vc [] (fun m s => ∃ (L out : List Int) (v : Nat), m = L.length ∧ out ++ ordL l L = ordL l K ∧ L.Pairwise (· < ·) ∧ (∀ n ∈ L, knownB l n = true) ∧ L.length ≤ 14 ∧ out.length + L.length ≤ 14 ∧ s.σ 0 = evs l ∧ s.σ 5 = ints L ∧ s.σ 6 = .ref 15 v ∧ s.ver 15 = v ∧ s.h 15 = .arr 3 1 (out.map I)) K.length ⟨K, [], 1, by simp [go_sem, hKs]; exact ⟨hKk, by omega⟩⟩ ?_
  rintro m s ⟨L, out, v, rfl, hO, hLs, hLk, hL14, hoL, h0, h5, h6, hv6, hh6⟩
  by_cases hL0 : 0 < L.length
  · have hLm : L.length ≤ maxLen := by unfold maxLen; omega
    simp [go_sem, h0, h5, h6, hv6, hh6, hL0]
    refine AWp.loop_vc [15] (fun m s => ∃ (k u : Nat) (o : Option Evt), m = L.length - k ∧ k ≤ L.length ∧ BestE l L k o ∧ s.σ 0 = evs l ∧ s.σ 5 = ints L ∧ s.σ 6 = .ref 15 v ∧ s.ver 15 = v ∧ s.h 15 = .arr 3 1 (out.map I) ∧ s.σ 7 = .rptr 7 u 0 0 ∧ s.ver 7 = u ∧ s.h 7 = .box (evBox o) ∧ s.σ 8 = B o.isSome ∧ s.σ 9 = I k) L.length ⟨0, s.ver 7 + 1, none, by simp [go_sem, h0, h5, h6, hv6, hh6, evBox]; exact .inl ⟨rfl, BestUp.zero _ _⟩⟩ ?_
    clear h0 h5 h6 hv6 hh6
    rintro m s ⟨k, u, o, rfl, hk, hB, h0, h5, h6, hv6, hh6, h7, hv7, hh7, h8, h9⟩
    by_cases hlt : k < L.length
    · obtain ⟨e, he⟩ := Option.isSome_iff_exists.1 (show (getE l L[k]).isSome = true from hLk _ (List.getElem_mem hlt))
      simp [go_sem, h0, h5, h6, hv6, hh6, h7, hv7, hh7, h8, h9, hlt]
      refine CallSem.pure (rgetE_ac l L[k]) (by simp [go_sem]) ?_
      rw [he]
      simp [go_sem, h0, h5, h6, hv6, hh6, h7, hv7, hh7, h8, h9, hlt]
      refine CallSem.pure (rfree_ac l L L[k] hl) (by simp [go_sem]) ?_
      cases hf : freeN l L L[k] with
      | false =>
        simp [go_sem, h0, h5, h6, hv6, hh6, h7, hv7, hh7, h8, h9, hlt, wrap_succ hlt hLm]
        exact ⟨L.length - (k + 1), by omega, k + 1, rfl, by omega, u, o, hB.skip hlt hf, rfl, rfl, rfl, rfl⟩
      | true =>
        rcases hB with ⟨rfl, hB⟩ | ⟨q, hq, hB, eb, rfl, heb⟩
        · simp [go_sem, h0, h5, h6, hv6, hh6, h7, hv7, hh7, h8, h9, hlt, wrap_succ hlt hLm, evBox]
          exact ⟨L.length - (k + 1), by omega, k + 1, rfl, by omega, u, some e, .inr ⟨k, hlt, hB.first hlt hf, e, rfl, he⟩, rfl, rfl, rfl, rfl⟩
        · simp [go_sem, h0, h5, h6, hv6, hh6, h7, hv7, hh7, h8, h9, hlt, evBox]
          refine CallSem.pure (earlier_ac l L[k] L[q] e eb he heb hl hM) (by simp [go_sem]) ?_
          cases hp : prN l L[k] L[q] with
          | true =>
            simp [go_sem, h0, h5, h6, hv6, hh6, h7, hv7, hh7, h8, h9, hlt, wrap_succ hlt hLm, evBox]
            exact ⟨L.length - (k + 1), by omega, k + 1, rfl, by omega, u, some e, .inr ⟨k, hlt, hB.better hlt hq hf hp, e, rfl, he⟩, rfl, by simp [evc, ctc, lvsc], rfl, rfl⟩
          | false =>
            simp [go_sem, h0, h5, h6, hv6, hh6, h7, hv7, hh7, h8, h9, hlt, wrap_succ hlt hLm, evBox]
            have hqk : q < k := by rcases hB.rng with g | ⟨g, g1, _, g2⟩ <;> omega
            exact ⟨L.length - (k + 1), by omega, k + 1, rfl, by omega, u, some eb, .inr ⟨q, hq, hB.keep hlt hq (prN_of_not hLs hlt hq hqk hp), eb, rfl, heb⟩, rfl, rfl, rfl, rfl⟩
    · rcases hB with ⟨rfl, hB⟩ | ⟨q, hq, hB, eb, rfl, heb⟩
      · have hnx := hB.none hlt
        rw [ordL_none hnx, List.append_nil] at hO
        simp [go_sem, h0, h5, h6, hv6, hh6, h7, hv7, hh7, h8, h9, hlt, evBox]
        refine PostR.retW [15] ?_ (.refl _)
        simp [go_sem, h6, hv6, hh6, hO]
      · have hnx := hB.some hlt hq
        have hos := ordL_some hnx
        have hid : eb.id = L[q] := by simpa using List.find?_some heb
        simp [go_sem, h0, h5, h6, hv6, hh6, h7, hv7, hh7, h8, h9, hlt, evBox, hid]
        refine ⟨⟨by omega, by omega⟩, ?_⟩
        refine CallSem.pure (rminus_ac L [L[q]] (by omega)) (by simp [go_sem]) ?_
        have hmem : L[q] ∈ L := List.getElem_mem hq
        rw [minus_one hLs hmem]
        have hE := List.length_erase_of_mem hmem
        have hEs : (L.erase L[q]).Pairwise (· < ·) := hLs.sublist (List.erase_sublist ..)
        have hEk : ∀ n ∈ L.erase L[q], knownB l n = true := fun n hn => hLk n (List.mem_of_mem_erase hn)
        have hO' : (out ++ [L[q]]) ++ ordL l (L.erase L[q]) = ordL l K := by rw [← hO, hos]; simp
        generalize L.erase L[q] = E at hE hEs hEk hO' ⊢
        simp [go_sem, h0, h5, h6, hv6, hh6, h7, hv7, hh7, h8, h9, hlt]
        exact ⟨E.length, by omega, E, rfl, out ++ [L[q]], hO', hEs, hEk, by omega, by rw [List.length_append, List.length_cons, List.length_nil]; omega, rfl, by simp [I]⟩
  · have hL : L = [] := List.eq_nil_of_length_eq_zero (by omega)
    subst hL
    rw [ordL_nil, List.append_nil] at hO
    simp [go_sem, h0, h5, h6, hv6, hh6]
    refine PostR.retW [15] ?_ (.refl _)
    simp [go_sem, h6, hv6, hh6, hO]
end Go.Proofs.Ytppgiipgppeenaa

-- part H6
namespace Go.Proofs.Ytppgiipgppeenaa
open Go Go.Abs
set_option linter.unusedSimpArgs false
set_option linter.unusedVariables false
def u18a : Bytes := [64, 97, 58, 120]
def u18b : Bytes := [64, 98, 58, 120]
def e18a : Evt := { evZ with id := 1, sender := u18a, kind := 1 }
def e18b : Evt := { evZ with id := 2, sender := u18a, kind := 2, key := u18a, auth := [1], content := { evZ.content with n := 3 } }
def e18c : Evt := { evZ with id := 3, sender := u18a, kind := 3, auth := [1, 2], content := { evZ.content with levels := { evZ.content.levels with users := [⟨u18a, 100⟩, ⟨u18b, 50⟩] } } }
def e18d : Evt := { evZ with id := 4, sender := u18b, kind := 2, key := u18b, auth := [1, 3], content := { evZ.content with n := 3 } }
def e18e : Evt := { evZ with id := 5, sender := u18b, kind := 4, time := 1, auth := [1, 3, 4] }
def e18f : Evt := { evZ with id := 6, sender := u18a, kind := 2, key := [64, 99, 58, 121], time := 9, auth := [1, 2, 3], content := { evZ.content with n := 4 } }
def ex18 : List Evt := [e18a, e18b, e18c, e18d, e18e, e18f]
theorem ex18_fit : Fit ex18 := ⟨by decide, by decide, by decide⟩
set_option maxRecDepth 8000 in
set_option maxHeartbeats 4000000 in
theorem room18_ac  : AC Try.prog 36 [] (evs ex18) := by
  refine AC.of_body Try.func36 rfl rfl Try.ntmps36 (congrArg Array.toList Try.results36) (by simp) (pures0) (pure_evs _) fun w S' => AWp.of_vc [] ?_
  simp [go_sem]
  refine PostR.retW [] (r0 := .lst 29 (ex18.map fun x => .agg (evL x))) (by simp [go_sem]; rfl) ?_
  exact .one (.one (wk_evsL ex18))

theorem ex18_pow : powOf e18a = false ∧ powOf e18b = false ∧ powOf e18c = true ∧ powOf e18d = false ∧ powOf e18e = true ∧ powOf e18f = true := by decide
theorem ex18_r1 : reachOf ex18 true [1, 3] = [1, 2, 3] := (itR_end (by decide) (by decide)).symm.trans (by decide)
theorem ex18_r2 : reachOf ex18 true [1, 3, 4] = [1, 2, 3, 4] := (itR_end (by decide) (by decide)).symm.trans (by decide)
theorem ex18_r3 : reachOf ex18 true [1, 2, 3] = [1, 2, 3] := (itR_end (by decide) (by decide)).symm.trans (by decide)
theorem ex18_r4 : reachOf ex18 true [1, 2, 3, 4] = [1, 2, 3, 4] := (itR_end (by decide) (by decide)).symm.trans (by decide)
theorem ex18_c4 : chainOf ex18 [4] = [1, 2, 3] := by
  unfold chainOf
  have : firstOf ex18 [4] = [1, 3] := by decide
  rw [this, ex18_r1]
theorem ex18_c5 : chainOf ex18 [5] = [1, 2, 3, 4] := by
  unfold chainOf
  have : firstOf ex18 [5] = [1, 3, 4] := by decide
  rw [this, ex18_r2]
theorem ex18_c6 : chainOf ex18 [6] = [1, 2, 3] := by
  unfold chainOf
  have : firstOf ex18 [6] = [1, 2, 3] := by decide
  rw [this, ex18_r3]
theorem ex18_c65 : chainOf ex18 [6, 5] = [1, 2, 3, 4] := by
  unfold chainOf
  have : firstOf ex18 [6, 5] = [1, 2, 3, 1, 3, 4] := by decide
  rw [this, reachOf_congr (fr' := [1, 2, 3, 4]) (fun n _ => by simp; omega), ex18_r4]
theorem ex18_c0 : chainOf ex18 [] = [] := by
  unfold chainOf
  have : firstOf ex18 [] = [] := by decide
  rw [this]
  exact (itR_end (by decide) (by decide)).symm.trans (by decide)
theorem ex18_set1 : psetOf ex18 [99, 6, 5, 4] = [4, 5, 6] := by
  unfold psetOf
  have : [99, 6, 5, 4].filter (powN ex18) = [6, 5] := by decide
  rw [this, ex18_c65, sortedSet_eq]
  decide
theorem ex18_set2 : psetOf ex18 [1, 2, 4] = [] := by
  unfold psetOf
  have : [1, 2, 4].filter (powN ex18) = [] := by decide
  rw [this, ex18_c0, sortedSet_eq]
  decide
theorem ex18_send : sendOf ex18 e18e = 50 ∧ sendOf ex18 e18f = 100 ∧ sendOf ex18 e18a = 0 := by decide +kernel
theorem ex18_lv : lvN ex18 4 = 50 ∧ lvN ex18 5 = 50 ∧ lvN ex18 6 = 100 := by decide +kernel
theorem ex18_known : knownOf ex18 [4, 5, 6] = [4, 5, 6] := by decide
theorem ex18_order : ordL ex18 [4, 5, 6] = [6, 4, 5] := by
  have h1 : nextN ex18 [4, 5, 6] = some 6 := nextN_some.2 ⟨by decide, by simp [freeN, hasCr2, ex18_c6], fun m hm hf => by
    simp only [List.mem_cons, List.not_mem_nil, or_false] at hm
    rcases hm with rfl | rfl | rfl
    · exact .inr (by rw [prN_iff, ex18_lv.1, ex18_lv.2.2]; omega)
    · exact .inr (by rw [prN_iff, ex18_lv.2.1, ex18_lv.2.2]; omega)
    · exact .inl rfl⟩
  have h2 : nextN ex18 [4, 5] = some 4 := nextN_some.2 ⟨by decide, by simp [freeN, hasCr2, ex18_c4], fun m hm hf => by
    simp only [List.mem_cons, List.not_mem_nil, or_false] at hm
    rcases hm with rfl | rfl
    · exact .inl rfl
    · simp [freeN, hasCr2, ex18_c5] at hf⟩
  have h3 : nextN ex18 [5] = some 5 := nextN_some.2 ⟨by decide, by simp [freeN, hasCr2, ex18_c5], fun m hm hf => by
    simp only [List.mem_cons, List.not_mem_nil, or_false] at hm
    exact .inl hm⟩
  rw [ordL_some h1, show ([4, 5, 6] : List Int).erase 6 = [4, 5] by decide, ordL_some h2, show ([4, 5] : List Int).erase 4 = [5] by decide, ordL_some h3, show ([5] : List Int).erase 5 = [] by decide, ordL_nil]
end Go.Proofs.Ytppgiipgppeenaa

-- part H7
namespace Go.Proofs.Ytppgiipgppeenaa
open Go Go.Abs
set_option linter.unusedSimpArgs false
set_option linter.unusedVariables false
theorem ex18_mod : ∀ e ∈ ex18, Mod e := fun e he => by
  simp only [ex18, List.mem_cons, List.not_mem_nil, or_false] at he
  rcases he with rfl | rfl | rfl | rfl | rfl | rfl <;> constructor <;> decide
theorem ex18_at : ex18[0]? = some e18a ∧ ex18[1]? = some e18b ∧ ex18[2]? = some e18c ∧ ex18[3]? = some e18d ∧ ex18[4]? = some e18e ∧ ex18[5]? = some e18f := ⟨rfl, rfl, rfl, rfl, rfl, rfl⟩
theorem ex18_len : ex18.length = 6 := rfl
set_option maxRecDepth 8000 in
set_option maxHeartbeats 4000000 in
theorem live18_ac  : AC Try.prog 17 [] (B true) := by
  refine AC.of_body Try.func17 rfl rfl Try.ntmps17 (congrArg Array.toList Try.results17) (by simp) (pures0) (pure_B _) fun w S' => AWp.of_vc [] ?_
  obtain ⟨p0, p1, p2, p3, p4, p5⟩ := ex18_pow
  obtain ⟨s4, s5, s0⟩ := ex18_send
  have a0 := is18_ac e18a
  have a1 := is18_ac e18b
  have a2 := is18_ac e18c
  have a3 := is18_ac e18d
  have a4 := is18_ac e18e
  have a5 := is18_ac e18f
  have b1 := pset_ac ex18 [99, 6, 5, 4] ex18_fit (by decide)
  have b2 := pset_ac ex18 [1, 2, 4] ex18_fit (by decide)
  have c4 := sender_ac ex18 e18e ex18_mod (by decide)
  have c5 := sender_ac ex18 e18f ex18_mod (by decide)
  have c0 := sender_ac ex18 e18a ex18_mod (by decide)
  have d := porder_ac ex18 [4, 5, 6] ex18_fit ex18_mod (by decide)
  rw [p0] at a0; rw [p1] at a1; rw [p2] at a2; rw [p3] at a3; rw [p4] at a4; rw [p5] at a5
  rw [ex18_set1] at b1
  rw [ex18_set2] at b2
  rw [s4] at c4; rw [s5] at c5; rw [s0] at c0
  rw [ex18_known, ex18_order] at d
  obtain ⟨x0, x1, x2, x3, x4, x5⟩ := ex18_at
  simp [go_sem]
  refine CallSem.pure room18_ac (by simp [go_sem]) ?_
  have hlen := ex18_len
  generalize e18a = E0 at *
  generalize e18b = E1 at *
  generalize e18c = E2 at *
  generalize e18d = E3 at *
  generalize e18e = E4 at *
  generalize e18f = E5 at *
  generalize ex18 = X at *
  have hl0 : 0 < X.length := by omega
  have hl1 : 1 < X.length := by omega
  have hl2 : 2 < X.length := by omega
  have hl3 : 3 < X.length := by omega
  have hl4 : 4 < X.length := by omega
  have hl5 : 5 < X.length := by omega
  rw [List.getElem?_eq_getElem hl0] at x0
  rw [List.getElem?_eq_getElem hl1] at x1
  rw [List.getElem?_eq_getElem hl2] at x2
  rw [List.getElem?_eq_getElem hl3] at x3
  rw [List.getElem?_eq_getElem hl4] at x4
  rw [List.getElem?_eq_getElem hl5] at x5
  replace x0 := Option.some.inj x0
  replace x1 := Option.some.inj x1
  replace x2 := Option.some.inj x2
  replace x3 := Option.some.inj x3
  replace x4 := Option.some.inj x4
  replace x5 := Option.some.inj x5
  simp [go_sem, hlen, x0, x1, x2, x3, x4, x5, hl0, hl1, hl2, hl3, hl4, hl5]
  refine CallSem.pure (a2) (by simp [go_sem]) ?_
  simp [go_sem, hlen, x0, x1, x2, x3, x4, x5, hl0, hl1, hl2, hl3, hl4, hl5]
  refine CallSem.pure (a4) (by simp [go_sem]) ?_
  simp [go_sem, hlen, x0, x1, x2, x3, x4, x5, hl0, hl1, hl2, hl3, hl4, hl5]
  refine CallSem.pure (a5) (by simp [go_sem]) ?_
  simp [go_sem, hlen, x0, x1, x2, x3, x4, x5, hl0, hl1, hl2, hl3, hl4, hl5]
  refine CallSem.pure (a0) (by simp [go_sem]) ?_
  simp [go_sem, hlen, x0, x1, x2, x3, x4, x5, hl0, hl1, hl2, hl3, hl4, hl5]
  refine CallSem.pure (a1) (by simp [go_sem]) ?_
  simp [go_sem, hlen, x0, x1, x2, x3, x4, x5, hl0, hl1, hl2, hl3, hl4, hl5]
  refine CallSem.pure (a3) (by simp [go_sem]) ?_
  simp [go_sem, hlen, x0, x1, x2, x3, x4, x5, hl0, hl1, hl2, hl3, hl4, hl5]
  refine CallSem.pure (b1) (by simp [go_sem]) ?_
  simp [go_sem, hlen, x0, x1, x2, x3, x4, x5, hl0, hl1, hl2, hl3, hl4, hl5]
  refine CallSem.pure (same_ac [4, 5, 6] [4, 5, 6]) (by simp [go_sem]) ?_
  simp [go_sem, hlen, x0, x1, x2, x3, x4, x5, hl0, hl1, hl2, hl3, hl4, hl5]
  refine CallSem.pure (b2) (by simp [go_sem]) ?_
  simp [go_sem, hlen, x0, x1, x2, x3, x4, x5, hl0, hl1, hl2, hl3, hl4, hl5]
  refine CallSem.pure (c4) (by simp [go_sem]) ?_
  simp [go_sem, hlen, x0, x1, x2, x3, x4, x5, hl0, hl1, hl2, hl3, hl4, hl5]
  refine CallSem.pure (c5) (by simp [go_sem]) ?_
  simp [go_sem, hlen, x0, x1, x2, x3, x4, x5, hl0, hl1, hl2, hl3, hl4, hl5]
  refine CallSem.pure (c0) (by simp [go_sem]) ?_
  simp [go_sem, hlen, x0, x1, x2, x3, x4, x5, hl0, hl1, hl2, hl3, hl4, hl5]
  refine CallSem.pure (d) (by simp [go_sem]) ?_
  simp [go_sem, hlen, x0, x1, x2, x3, x4, x5, hl0, hl1, hl2, hl3, hl4, hl5]
  refine CallSem.pure (same_ac [6, 4, 5] [6, 4, 5]) (by simp [go_sem]) ?_
  simp [go_sem, hlen, x0, x1, x2, x3, x4, x5, hl0, hl1, hl2, hl3, hl4, hl5]
  refine PostR.ret ?_
  simp [go_sem]

end Go.Proofs.Ytppgiipgppeenaa

-- part H8
namespace Go.Proofs.Ytppgiipgppeenaa
open Go Go.Abs
theorem chainOf_congr {l : List Evt} {a b : List Int} (h : ∀ n, n ∈ a ↔ n ∈ b) : chainOf l a = chainOf l b := by
  refine strict_ext (reachOf_sorted _ _ _) (reachOf_sorted _ _ _) fun n => ?_
  show n ∈ chainOf l a ↔ n ∈ chainOf l b
  rw [mem_chain, mem_chain (ids := b)]
  exact ⟨fun ⟨x, hx, h2⟩ => ⟨x, (h x).1 hx, h2⟩, fun ⟨x, hx, h2⟩ => ⟨x, (h x).2 hx, h2⟩⟩
theorem mem_pset {l : List Evt} {full : List Int} {n : Int} : n ∈ psetOf l full ↔ n ∈ full ∧ (powN l n = true ∨ n ∈ chainOf l (full.filter (powN l))) := by
  unfold psetOf
  rw [(sortedSet_sorted _).2, List.mem_append, List.mem_filter, List.mem_filter]
  unfold hasCr2
  simp only [List.contains_eq_mem, decide_eq_true_eq]
  exact ⟨fun h => h.elim (fun h => ⟨h.1, .inl h.2⟩) (fun h => ⟨h.1, .inr h.2⟩), fun h => h.2.elim (fun g => .inl ⟨h.1, g⟩) (fun g => .inr ⟨h.1, g⟩)⟩
theorem pset_sorted (l : List Evt) (full : List Int) : (psetOf l full).Pairwise (· < ·) := (sortedSet_sorted _).1
theorem pset_len (l : List Evt) (full : List Int) : (psetOf l full).length ≤ full.length :=
  nodup_len ((pset_sorted l full).imp fun h => Int.ne_of_lt h) fun _ hx => (mem_pset.1 hx).1
theorem pset_congr {l : List Evt} {a b : List Int} (h : ∀ n, n ∈ a ↔ n ∈ b) : psetOf l a = psetOf l b := by
  refine strict_ext (pset_sorted _ _) (pset_sorted _ _) fun n => ?_
  rw [mem_pset, mem_pset, h n, chainOf_congr (a := a.filter (powN l)) (b := b.filter (powN l)) fun n => by rw [List.mem_filter, List.mem_filter, h n]]
theorem pset_again (l : List Evt) (full : List Int) : psetOf l (psetOf l full) = psetOf l full := by
  refine strict_ext (pset_sorted _ _) (pset_sorted _ _) fun n => ?_
  have hc : chainOf l ((psetOf l full).filter (powN l)) = chainOf l (full.filter (powN l)) := chainOf_congr fun n => by
    rw [List.mem_filter, List.mem_filter, mem_pset]
    exact ⟨fun h => ⟨h.1.1, h.2⟩, fun h => ⟨⟨h.1, .inl h.2⟩, h.2⟩⟩
  rw [mem_pset, hc, mem_pset]
  exact ⟨fun h => ⟨h.1.1, h.2⟩, fun h => ⟨h, h.2⟩⟩
theorem minus_none {a b : List Int} (h : ∀ n ∈ a, n ∈ b) : minusOf a b = [] := by
  unfold minusOf hasI
  rw [List.filter_eq_nil_iff]
  intro n hn
  have := h n ((sortedL_sorted a).2 n |>.1 hn)
  simp [this]
theorem pset_part (l : List Evt) (full : List Int) : minusOf (psetOf l full) full = [] := minus_none fun _ hn => (mem_pset.1 hn).1
theorem known_congr {l : List Evt} {a b : List Int} (h : ∀ n, n ∈ a ↔ n ∈ b) : knownOf l a = knownOf l b :=
  strict_ext (knownOf_sorted _ _) (knownOf_sorted _ _) fun n => by rw [mem_knownOf, mem_knownOf, h n]
theorem ordL_sub {l : List Evt} : ∀ (d : Nat) {L : List Int}, L.length = d → ∀ n ∈ ordL l L, n ∈ L := by
  intro d
  induction d with
  | zero => intro L h n hn; rw [List.eq_nil_of_length_eq_zero h, ordL_nil] at hn; cases hn
  | succ d ih =>
    intro L h n hn
    cases hx : nextN l L with
    | none => rw [ordL_none hx] at hn; cases hn
    | some m =>
      have hm := nextN_mem hx
      rw [ordL_some hx] at hn
      rcases List.mem_cons.1 hn with rfl | hn
      · exact hm
      · have := ih (by have := List.length_erase_of_mem hm; omega) n hn
        exact List.mem_of_mem_erase this
theorem ordL_mem {l : List Evt} {L : List Int} {n : Int} (h : n ∈ ordL l L) : n ∈ L := ordL_sub _ rfl n h
/-- Induction along the order. -/
theorem ordL_ind {l : List Evt} {P : List Int → Prop} (h0 : ∀ L, nextN l L = none → P L) (h1 : ∀ L n, nextN l L = some n → P (L.erase n) → P L) : ∀ L, P L := by
  have key : ∀ (d : Nat) (L : List Int), L.length = d → P L := by
    intro d
    induction d with
    | zero => intro L h; refine h0 L ?_; rw [List.eq_nil_of_length_eq_zero h]; rfl
    | succ d ih =>
      intro L h
      cases hx : nextN l L with
      | none => exact h0 L hx
      | some m => exact h1 L m hx (ih _ (by have := List.length_erase_of_mem (nextN_mem hx); omega))
  exact fun L => key _ L rfl
theorem freeN_of {l : List Evt} {L : List Int} {n : Int} (h : freeN l L n = true) {x : Int} (hx : x ∈ L) : hasCr2 (chainOf l [n]) x = false := by
  unfold freeN at h
  have := List.all_eq_true.1 h x hx
  simpa using this
theorem ordL_chain (l : List Evt) (L : List Int) : (ordL l L).Pairwise (fun a b => hasCr2 (chainOf l [a]) b = false) ∧ ∀ n ∈ ordL l L, hasCr2 (chainOf l [n]) n = false := by
  refine ordL_ind (l := l) (P := fun L => (ordL l L).Pairwise (fun a b => hasCr2 (chainOf l [a]) b = false) ∧ ∀ n ∈ ordL l L, hasCr2 (chainOf l [n]) n = false) (fun L h => ?_) (fun L n h ih => ?_) L
  · rw [ordL_none h]; exact ⟨.nil, fun _ h => by cases h⟩
  · rw [ordL_some h]
    obtain ⟨hm, hf, _⟩ := nextN_some.1 h
    refine ⟨List.pairwise_cons.2 ⟨fun b hb => freeN_of hf (List.mem_of_mem_erase (ordL_mem hb)), ih.1⟩, fun x hx => ?_⟩
    rcases List.mem_cons.1 hx with rfl | hx
    · exact freeN_of hf hm
    · exact ih.2 x hx
theorem ordL_nodup (l : List Evt) {L : List Int} (hL : L.Nodup) : (ordL l L).Nodup := by
  refine ordL_ind (l := l) (P := fun L => L.Nodup → (ordL l L).Nodup) (fun L h _ => ?_) (fun L n h ih hL => ?_) L hL
  · rw [ordL_none h]; exact .nil
  · rw [ordL_some h, List.nodup_cons]
    exact ⟨fun hb => (hL.mem_erase_iff.1 (ordL_mem hb)).1 rfl, ih (hL.sublist (List.erase_sublist ..))⟩
theorem ordL_len (l : List Evt) {L : List Int} (hL : L.Nodup) : (ordL l L).length ≤ L.length := nodup_len (ordL_nodup l hL) fun _ h => ordL_mem h
theorem best_exists {l : List Evt} : ∀ {F : List Int}, F ≠ [] → ∃ n ∈ F, ∀ m ∈ F, m = n ∨ prN l n m = true
  | [], h => absurd rfl h
  | [x], _ => ⟨x, by simp, fun m hm => .inl (by simpa using hm)⟩
  | x :: y :: F, _ => by
    obtain ⟨n, hn, h⟩ := best_exists (l := l) (F := y :: F) (by simp)
    by_cases g : prN l x n = true
    · refine ⟨x, by simp, fun m hm => ?_⟩
      rcases List.mem_cons.1 hm with rfl | hm
      · exact .inl rfl
      · rcases h m hm with rfl | h2
        · exact .inr g
        · exact .inr (prN_trans g h2)
    · refine ⟨n, List.mem_cons_of_mem _ hn, fun m hm => ?_⟩
      rcases List.mem_cons.1 hm with rfl | hm
      · by_cases e : m = n
        · exact .inl e
        · rcases prN_total (l := l) e with g2 | g2
          · exact absurd g2 g
          · exact .inr g2
      · exact h m hm
theorem nextN_free {l : List Evt} {L : List Int} {n : Int} (hn : n ∈ L) (hf : freeN l L n = true) : ∃ m, nextN l L = some m := by
  obtain ⟨m, hm, h⟩ := best_exists (l := l) (F := L.filter (freeN l L)) (List.ne_nil_of_mem (List.mem_filter.2 ⟨hn, hf⟩))
  rw [List.mem_filter] at hm
  exact ⟨m, nextN_some.2 ⟨hm.1, hm.2, fun x hx hfx => h x (List.mem_filter.2 ⟨hx, hfx⟩)⟩⟩
theorem least_exists {f : Int → Int} : ∀ {F : List Int}, F ≠ [] → ∃ n ∈ F, ∀ m ∈ F, f n ≤ f m
  | [], h => absurd rfl h
  | [x], _ => ⟨x, by simp, fun m hm => by simp at hm; subst hm; exact Int.le_refl _⟩
  | x :: y :: F, _ => by
    obtain ⟨n, hn, h⟩ := least_exists (f := f) (F := y :: F) (by simp)
    by_cases g : f x ≤ f n
    · refine ⟨x, by simp, fun m hm => ?_⟩
      rcases List.mem_cons.1 hm with rfl | hm
      · exact Int.le_refl _
      · have := h m hm; omega
    · refine ⟨n, List.mem_cons_of_mem _ hn, fun m hm => ?_⟩
      rcases List.mem_cons.1 hm with rfl | hm
      · omega
      · exact h m hm
/-- Every known event's references by Auth have a lesser depth. -/
def AuthLess (l : List Evt) : Prop := ∀ e ∈ l, authBad l e = false
theorem chain_less {l : List Evt} (hd : AuthLess l) {x n : Int} (h : n ∈ chainOf l [x]) : depthOf l n < depthOf l x := by
  have h' : Reach l true (firstOf l [x]) n := mem_reachOf.1 h
  have step : ∀ {m n : Int} {e : Evt}, getE l m = some e → n ∈ e.auth → depthOf l n < depthOf l m := fun {m n e} he hn => by
    have h1 := hd e (List.mem_of_find?_eq_some he)
    unfold authBad at h1
    have := List.any_eq_false.1 h1 n hn
    have h2 : depthOf l m = e.depth := by unfold depthOf; rw [he]; rfl
    simp at this; omega
  clear h
  induction h' with
  | start h _ =>
    unfold firstOf at h
    simp only [List.flatMap_cons, List.flatMap_nil, List.append_nil] at h
    cases hg : getE l x with
    | none => rw [hg] at h; simp at h
    | some e => rw [hg] at h; exact step hg h
  | step _ he hn _ ih => have := step he hn; omega
theorem next_there {l : List Evt} (hd : AuthLess l) {L : List Int} (hL : L ≠ []) : ∃ m, nextN l L = some m := by
  obtain ⟨n, hn, h⟩ := least_exists (f := depthOf l) hL
  refine nextN_free hn ?_
  unfold freeN
  rw [List.all_eq_true]
  intro y hy
  cases hc : hasCr2 (chainOf l [n]) y with
  | false => rfl
  | true =>
    have := chain_less hd (show y ∈ chainOf l [n] by simpa [hasCr2] using hc)
    have := h y hy
    omega
theorem ordL_all {l : List Evt} (hd : AuthLess l) (L : List Int) : ∀ n, n ∈ ordL l L ↔ n ∈ L := by
  refine ordL_ind (l := l) (P := fun L => ∀ n, n ∈ ordL l L ↔ n ∈ L) (fun L h n => ?_) (fun L n h ih x => ?_) L
  · by_cases g : L = []
    · rw [g, ordL_nil]
    · obtain ⟨m, hm⟩ := next_there hd g
      rw [h] at hm; cases hm
  · rw [ordL_some h, List.mem_cons, ih x]
    have hm := nextN_mem h
    constructor
    · rintro (rfl | g)
      · exact hm
      · exact List.mem_of_mem_erase g
    · intro g
      by_cases e : x = n
      · exact .inl e
      · exact .inr ((List.mem_erase_of_ne e).2 g)
theorem sorted_order {l : List Evt} (hd : AuthLess l) {K : List Int} (hK : K.Pairwise (· < ·)) : sortedL (ordL l K) = K ∧ (ordL l K).length = K.length := by
  have hnd : K.Nodup := hK.imp fun h => Int.ne_of_lt h
  have hs : sortedL (ordL l K) = K := strict_ext (sortedL_sorted _).1 hK fun n => by rw [(sortedL_sorted _).2, ordL_all hd]
  refine ⟨hs, ?_⟩
  have h1 := ordL_len l hnd
  have h2 := nodup_len (a := K) (b := ordL l K) hnd fun x hx => (ordL_all hd K x).2 hx
  omega
theorem ordL_left (l : List Evt) (L : List Int) : ∀ b ∈ ordL l L, ∀ x ∈ L, x ∉ ordL l L → hasCr2 (chainOf l [b]) x = false := by
  refine ordL_ind (l := l) (P := fun L => ∀ b ∈ ordL l L, ∀ x ∈ L, x ∉ ordL l L → hasCr2 (chainOf l [b]) x = false) (fun L h b hb => ?_) (fun L n h ih b hb x hx hno => ?_) L
  · rw [ordL_none h] at hb; cases hb
  · rw [ordL_some h] at hb hno
    obtain ⟨hm, hf, _⟩ := nextN_some.1 h
    rw [List.mem_cons, not_or] at hno
    rcases List.mem_cons.1 hb with rfl | hb
    · exact freeN_of hf hx
    · exact ih b hb x ((List.mem_erase_of_ne hno.1).2 hx) hno.2
theorem freeN_sub {l : List Evt} {A B : List Int} {n : Int} (h : freeN l A n = true) (hs : ∀ x ∈ B, x ∈ A) : freeN l B n = true := by
  unfold freeN at *
  rw [List.all_eq_true] at *
  exact fun x hx => h x (hs x hx)
theorem ordL_first (l : List Evt) (L : List Int) : (ordL l L).Pairwise fun a b => freeN l (ordL l L) a = true → freeN l (ordL l L) b = true → lvN l b ≤ lvN l a := by
  refine ordL_ind (l := l) (P := fun L => (ordL l L).Pairwise fun a b => freeN l (ordL l L) a = true → freeN l (ordL l L) b = true → lvN l b ≤ lvN l a) (fun L h => ?_) (fun L n h ih => ?_) L
  · rw [ordL_none h]; exact .nil
  · have hleft := ordL_left l L
    rw [ordL_some h] at hleft ⊢
    obtain ⟨hm, hf, hbest⟩ := nextN_some.1 h
    refine List.pairwise_cons.2 ⟨fun b hb _ hfb => ?_, ih.imp fun {a b} hab ha hb => hab (freeN_sub ha fun x hx => List.mem_cons_of_mem _ hx) (freeN_sub hb fun x hx => List.mem_cons_of_mem _ hx)⟩
    have hbL : freeN l L b = true := by
      unfold freeN
      rw [List.all_eq_true]
      intro x hx
      by_cases g : x ∈ n :: ordL l (L.erase n)
      · rw [freeN_of hfb g]; rfl
      · rw [hleft b (List.mem_cons_of_mem _ hb) x hx g]; rfl
    rcases hbest b (List.mem_of_mem_erase (ordL_mem hb)) hbL with rfl | g
    · exact Int.le_refl _
    · rw [prN_iff] at g; omega
end Go.Proofs.Ytppgiipgppeenaa

-- part H9
namespace Go.Proofs.Ytppgiipgppeenaa
open Go Go.Abs
set_option linter.unusedSimpArgs false
set_option linter.unusedVariables false
theorem great_fitM {l : List Evt} (h : greatOf l 14 = false) : Fit l ∧ ∀ e ∈ l, Mod e := by
  obtain ⟨h1, h2⟩ := greatOf_iff.1 h
  exact ⟨⟨h1, fun e he => (h2 e he).a0, fun e he => (h2 e he).a1⟩, h2⟩
set_option maxRecDepth 8000 in
set_option maxHeartbeats 4000000 in
theorem sets18_law (l : List Evt) (e : Evt) (full : List Int) : AC Try.prog 3 [evs l, ev e, ints full] (B true) := by
  refine AC.of_body Try.func3 rfl rfl Try.ntmps3 (congrArg Array.toList Try.results3) (by simp) (pures3 (pure_evs _) (pure_ev _) (pure_ints _)) (pure_B _) fun w S' => AWp.of_vc [] ?_
  simp [go_sem]
  refine CallSem.pure (great_ac l) (by simp [go_sem]) ?_
  cases hG : greatOf l 14 with
  | true =>
    simp [go_sem]
    refine PostR.ret ?_
    simp [go_sem]
  | false =>
    obtain ⟨hl, hM⟩ := great_fitM hG
    simp [go_sem]
    refine CallSem.pure (long_ac e) (by simp [go_sem]) ?_
    cases hL : longOf e with
    | true =>
      simp [go_sem]
      refine PostR.ret ?_
      simp [go_sem]
    | false =>
      by_cases g : (40 : Int) < full.length
      · simp [go_sem, g]
        refine PostR.ret ?_
        simp [go_sem]
      · simp [go_sem, g]
        refine AWp.drawAll rfl (by kernel_rfl) ?_
        simp [go_sem, g]
        refine CalmThen.pure (is18_ac e) rfl ?_
        simp [go_sem, g]
        refine CalmThen.pure (ris18_ac e) rfl ?_
        generalize powOf e = q
        simp [go_sem, g]
        refine CalmThen.pure (pset_ac l full hl (by omega)) rfl ?_
        simp [go_sem, g]
        refine CalmThen.pure (rset_ac l full hl (by omega)) rfl ?_
        generalize psetOf l full = P
        simp [go_sem, g]
        refine CalmThen.pure (same_ac P P) rfl ?_
        simp [go_sem, g]
        refine CalmThen.pure live18_ac rfl ?_
        simp [go_sem]
        refine PostR.ret ?_
        simp [go_sem]

set_option maxRecDepth 8000 in
set_option maxHeartbeats 4000000 in
theorem senders18_law (l : List Evt) (e : Evt) : AC Try.prog 4 [evs l, ev e] (B true) := by
  refine AC.of_body Try.func4 rfl rfl Try.ntmps4 (congrArg Array.toList Try.results4) (by simp) (pures2 (pure_evs _) (pure_ev _)) (pure_B _) fun w S' => AWp.of_vc [] ?_
  simp [go_sem]
  refine CallSem.pure (great_ac l) (by simp [go_sem]) ?_
  cases hG : greatOf l 14 with
  | true =>
    simp [go_sem]
    refine PostR.ret ?_
    simp [go_sem]
  | false =>
    obtain ⟨hl, hM⟩ := great_fitM hG
    simp [go_sem]
    refine CallSem.pure (long_ac e) (by simp [go_sem]) ?_
    cases hL : longOf e with
    | true =>
      simp [go_sem]
      refine PostR.ret ?_
      simp [go_sem]
    | false =>
      have hm := longOf_iff.1 hL
      simp [go_sem]
      refine AWp.drawAll rfl (by kernel_rfl) ?_
      simp [go_sem]
      refine CalmThen.pure (sender_ac l e hM hm.a1) rfl ?_
      simp [go_sem]
      refine CalmThen.pure (rsender_ac l e hM hm.a1) rfl ?_
      generalize sendOf l e = q
      simp [go_sem]
      refine CalmThen.pure live18_ac rfl ?_
      simp [go_sem]
      refine PostR.ret ?_
      simp [go_sem]

set_option maxRecDepth 8000 in
set_option maxHeartbeats 4000000 in
theorem orders18_law (l : List Evt) (ids : List Int) : AC Try.prog 5 [evs l, ints ids] (B true) := by
  refine AC.of_body Try.func5 rfl rfl Try.ntmps5 (congrArg Array.toList Try.results5) (by simp) (pures2 (pure_evs _) (pure_ints _)) (pure_B _) fun w S' => AWp.of_vc [] ?_
  simp [go_sem]
  refine CallSem.pure (great_ac l) (by simp [go_sem]) ?_
  cases hG : greatOf l 14 with
  | true =>
    simp [go_sem]
    refine PostR.ret ?_
    simp [go_sem]
  | false =>
    obtain ⟨hl, hM⟩ := great_fitM hG
    by_cases g : (40 : Int) < ids.length
    · simp [go_sem, g]
      refine PostR.ret ?_
      simp [go_sem]
    · simp [go_sem, g]
      refine CallSem.pure (porder_ac l ids hl hM (by omega)) (by simp [go_sem]) ?_
      simp [go_sem, g]
      refine CallSem.pure (rorder18_ac l ids hl hM (by omega)) (by simp [go_sem]) ?_
      generalize ordL l (knownOf l ids) = P
      simp [go_sem, g]
      refine CallSem.pure (same_ac P P) (by simp [go_sem]) ?_
      simp [go_sem, g]
      refine CallSem.pure live18_ac (by simp [go_sem]) ?_
      simp [go_sem]
      refine PostR.ret ?_
      simp [go_sem]

set_option maxRecDepth 8000 in
set_option maxHeartbeats 4000000 in
theorem again18_law (l : List Evt) (full : List Int) : AC Try.prog 6 [evs l, ints full] (B true) := by
  refine AC.of_body Try.func6 rfl rfl Try.ntmps6 (congrArg Array.toList Try.results6) (by simp) (pures2 (pure_evs _) (pure_ints _)) (pure_B _) fun w S' => AWp.of_vc [] ?_
  simp [go_sem]
  refine CallSem.pure (great_ac l) (by simp [go_sem]) ?_
  cases hG : greatOf l 14 with
  | true =>
    simp [go_sem]
    refine PostR.ret ?_
    simp [go_sem]
  | false =>
    obtain ⟨hl, hM⟩ := great_fitM hG
    by_cases g : (40 : Int) < full.length
    · simp [go_sem, g]
      refine PostR.ret ?_
      simp [go_sem]
    · simp [go_sem, g]
      refine CallSem.pure (pset_ac l full hl (by omega)) (by simp [go_sem]) ?_
      have h1 := pset_again l full
      have h2 := pset_part l full
      have h3 := pset_len l full
      generalize psetOf l full = P at h1 h2 h3 ⊢
      simp [go_sem, g]
      refine CallSem.pure (pset_ac l P hl (by omega)) (by simp [go_sem]) ?_
      rw [h1]
      simp [go_sem, g]
      refine CallSem.pure (same_ac P P) (by simp [go_sem]) ?_
      simp [go_sem, g]
      refine CallSem.pure (rminus_ac P full (by omega)) (by simp [go_sem]) ?_
      rw [h2]
      simp [go_sem, g]
      refine CallSem.pure live18_ac (by simp [go_sem]) ?_
      simp [go_sem]
      refine PostR.ret ?_
      simp [go_sem]

theorem rev_take_mem {ids : List Int} {k : Nat} : ∀ n ∈ ids.reverse.take k, n ∈ ids := fun n hn => List.mem_reverse.1 (List.mem_of_mem_take hn)
set_option maxRecDepth 8000 in
set_option maxHeartbeats 4000000 in
theorem same18_law (l : List Evt) (ids : List Int) : AC Try.prog 8 [evs l, ints ids] (B true) := by
  refine AC.of_body Try.func8 rfl rfl Try.ntmps8 (congrArg Array.toList Try.results8) (by simp) (pures2 (pure_evs _) (pure_ints _)) (pure_B _) fun w S' => AWp.of_vc [14] ?_
  simp [go_sem]
  refine CallSem.pure (great_ac l) (by simp [go_sem]) ?_
  cases hG : greatOf l 14 with
  | true =>
    simp [go_sem]
    refine PostR.ret ?_
    simp [go_sem]
  | false =>
    obtain ⟨hl, hM⟩ := great_fitM hG
    by_cases g : (20 : Int) < ids.length
    · simp [go_sem, g]
      refine PostR.ret ?_
      simp [go_sem]
    · have hm : ids.length ≤ maxLen := by unfold maxLen; omega
      simp [go_sem, g]
      refine ⟨⟨by omega, by omega⟩, ?_⟩
      refine AWp.loop_vc [] (fun m s => ∃ (k v : Nat), m = ids.length - k ∧ k ≤ ids.length ∧ s.σ 0 = evs l ∧ s.σ 1 = ints ids ∧ s.σ 5 = .ref 14 v ∧ s.ver 14 = v ∧ s.h 14 = .arr 3 1 ((ids ++ ids.reverse.take k).map I) ∧ s.σ 6 = I k) ids.length ⟨0, 2, by simp [go_sem]⟩ ?_
      rintro m s ⟨k, v, rfl, hk, h0, h1, h5, hv, hh, h6⟩
      by_cases hlt : k < ids.length
      · have hw1 : IntKind.i64.wrap ((ids.length : Int) - 1) = (ids.length : Int) - 1 := wrap_pred hm
        have hw2 : IntKind.i64.wrap ((ids.length : Int) - 1 - k) = ((ids.length - 1 - k : Nat) : Int) := by rw [wrap_i64 (by omega) (by omega)]; omega
        have hix : ids.length - 1 - k < ids.length := by omega
        have hrt : ids.reverse.take (k + 1) = ids.reverse.take k ++ [ids[ids.length - 1 - k]] := by
          rw [List.take_succ_eq_append_getElem (by simpa using hlt), List.getElem_reverse]
        have hXl : (ids ++ ids.reverse.take k).length ≤ 40 := by simp; omega
        have hsu : ids ++ ids.reverse.take (k + 1) = (ids ++ ids.reverse.take k) ++ [ids[ids.length - 1 - k]] := by rw [hrt]; simp
        generalize ids ++ ids.reverse.take k = X at hh hXl hsu
        generalize hj : ids.length - 1 - k = j at hw2 hix hsu
        simp [go_sem, h0, h1, h5, hv, hh, h6, hlt, hw1, hw2, hix, wrap_succ hlt hm]
        exact ⟨⟨by omega, by omega⟩, ids.length - (k + 1), by omega, k + 1, rfl, by omega, by have := congrArg (List.map I) hsu; simpa [I] using this.symm, rfl⟩
      · obtain rfl : k = ids.length := by omega
        have hbk : ∀ n, n ∈ ids ++ ids.reverse.take ids.length ↔ n ∈ ids := fun n => by rw [List.take_of_length_le (by simp)]; simp
        have hbl : (ids ++ ids.reverse.take ids.length).length ≤ 40 := by simp; omega
        have hK := known_congr (l := l) hbk
        have hP := pset_congr (l := l) hbk
        generalize ids ++ ids.reverse.take ids.length = X at hh hbl hK hP
        simp [go_sem, h0, h1, h5, hv, hh, h6, hlt]
        refine CallSem.pure (porder_ac l ids hl hM (by omega)) (by simp [go_sem]) ?_
        simp [go_sem, h0, h1, h5, hv, hh, h6, hlt]
        refine CallSem.freeze 14 ?_
        simp [go_sem, h0, h1, h5, hv, hh, h6, hlt]
        refine CallSem.pure (porder_ac l X hl hM (by omega)) (by simp [go_sem]) ?_
        rw [hK]
        generalize ordL l (knownOf l ids) = P
        simp [go_sem, h0, h1, h5, hv, hh, h6, hlt]
        refine CallSem.pure (same_ac P P) (by simp [go_sem]) ?_
        simp [go_sem, h0, h1, h5, hv, hh, h6, hlt]
        refine CallSem.pure (pset_ac l ids hl (by omega)) (by simp [go_sem]) ?_
        simp [go_sem, h0, h1, h5, hv, hh, h6, hlt]
        refine CallSem.pure (pset_ac l X hl (by omega)) (by simp [go_sem]) ?_
        rw [hP]
        generalize psetOf l ids = Q
        simp [go_sem, h0, h1, h5, hv, hh, h6, hlt]
        refine CallSem.pure (same_ac Q Q) (by simp [go_sem]) ?_
        simp [go_sem, h0, h1, h5, hv, hh, h6, hlt]
        refine CallSem.pure live18_ac (by simp [go_sem]) ?_
        simp [go_sem]
        refine PostR.ret ?_
        simp [go_sem]

end Go.Proofs.Ytppgiipgppeenaa

-- part H10
namespace Go.Proofs.Ytppgiipgppeenaa
open Go Go.Abs
set_option linter.unusedSimpArgs false
set_option linter.unusedVariables false
theorem depthsR_less {l : List Evt} (h : depthsR l = 0) : AuthLess l := by
  unfold depthsR at h
  split at h
  · split at h
    · rename_i ha
      intro e he
      have := List.all_eq_true.1 ha e he
      unfold deepR at this
      simp only [Bool.and_eq_true, Bool.not_eq_true'] at this
      exact this.2.1
    · cases h
  · cases h
set_option maxRecDepth 8000 in
set_option maxHeartbeats 4000000 in
theorem chains18_law (l : List Evt) (ids : List Int) : AC Try.prog 7 [evs l, ints ids] (B true) := by
  refine AC.of_body Try.func7 rfl rfl Try.ntmps7 (congrArg Array.toList Try.results7) (by simp) (pures2 (pure_evs _) (pure_ints _)) (pure_B _) fun w S' => AWp.of_vc [] ?_
  simp [go_sem]
  refine CallSem.pure (great_ac l) (by simp [go_sem]) ?_
  cases hG : greatOf l 14 with
  | true =>
    simp [go_sem]
    refine CallSem.pure live18_ac (by simp [go_sem]) ?_
    simp [go_sem]
    refine PostR.ret ?_
    simp [go_sem]
  | false =>
    obtain ⟨hl, hM⟩ := great_fitM hG
    have hll := hl.len
    by_cases g : (40 : Int) < ids.length
    · simp [go_sem, g]
      refine CallSem.pure live18_ac (by simp [go_sem]) ?_
      simp [go_sem]
      refine PostR.ret ?_
      simp [go_sem]
    · simp [go_sem, g]
      refine CallSem.pure (rdepths_ac l hl) (by simp [go_sem]) ?_
      by_cases hD : depthsR l = 0
      · have hd := depthsR_less hD
        simp [go_sem, g, hD]
        refine CallSem.pure (porder_ac l ids hl hM (by omega)) (by simp [go_sem]) ?_
        have hKs := knownOf_sorted l ids
        obtain ⟨hso, hsl⟩ := sorted_order hd hKs
        obtain ⟨hch, hself⟩ := ordL_chain l (knownOf l ids)
        have hKl := sorted_known_len hKs (fun n hn => (mem_knownOf.1 hn).2)
        generalize hO : ordL l (knownOf l ids) = O at hso hsl hch hself ⊢
        have hpair : ∀ i k (hi : i < O.length) (hk : k < O.length), i ≤ k → hasCr2 (chainOf l [O[i]]) O[k] = false := fun i k hi hk hik => by
          rcases Nat.lt_or_ge i k with h | h
          · exact List.pairwise_iff_getElem.1 hch i k hi hk h
          · obtain rfl : i = k := by omega
            exact hself _ (List.getElem_mem hi)
        have hOm : O.length ≤ maxLen := by unfold maxLen; omega
        have hkd : knownOf l ids = minusOf ids (missOf l ids) := rfl
        simp [go_sem, g, hD]
        refine AWp.loop_vc [] (fun m s => ∃ (i : Nat), m = O.length - i ∧ i ≤ O.length ∧ s.σ 0 = evs l ∧ s.σ 1 = ints ids ∧ s.σ 5 = ints O ∧ s.σ 6 = I i) O.length ⟨0, by simp [go_sem]⟩ ?_
        rintro m s ⟨i, rfl, hi, h0, h1, h5, h6⟩
        by_cases hlt : i < O.length
        · have hle : i ≤ O.length := by omega
          have hle1 : i + 1 ≤ O.length := by omega
          have hpos2 : (0 : Int) ≤ (i : Int) + 1 := by omega
          have htn : ((i : Int) + 1).toNat = i + 1 := by omega
          have hone : List.take 1 (List.drop i (O.map I)) = [O[i]].map I := by rw [List.drop_eq_getElem_cons (by simpa using hlt)]; simp
          simp [go_sem, h0, h1, h5, h6, hlt, hle, hle1, hpos2, htn, wrap_succ hlt hOm, hone]
          refine CallSem.pure (rchain_ac l [O[i]] hl (by simp)) (by simp [go_sem]) ?_
          have hpi := hpair i
          generalize hC : chainOf l [O[i]] = C
          simp [go_sem, h0, h1, h5, h6, hlt]
          refine AWp.loop_vc [] (fun m s => ∃ (k : Nat), m = O.length - k ∧ k ≤ O.length ∧ i ≤ k ∧ s.σ 0 = evs l ∧ s.σ 1 = ints ids ∧ s.σ 5 = ints O ∧ s.σ 6 = I i ∧ s.σ 7 = ints C ∧ s.σ 8 = I k) (O.length - i) ⟨i, by simp [go_sem, h0, h1, h5, h6]; omega⟩ ?_
          clear h0 h1 h5 h6
          rintro m s ⟨k, rfl, hk, hik, h0, h1, h5, h6, h7, h8⟩
          by_cases hlk : k < O.length
          · have hno := hpi k hlt hlk hik
            rw [hC] at hno
            simp [go_sem, h0, h1, h5, h6, h7, h8, hlk]
            refine CallSem.pure (r := B (hasCr2 C O[k])) (has_ac C O[k]) (by simp [go_sem]) ?_
            rw [hno]
            simp [go_sem, h0, h1, h5, h6, h7, h8, hlk, wrap_succ hlk hOm]
            exact ⟨O.length - (k + 1), by omega, k + 1, rfl, by omega, by omega, rfl⟩
          · simp [go_sem, h0, h1, h5, h6, h7, h8, hlk, wrap_succ hlt hOm]
            exact ⟨O.length - (i + 1), by omega, i + 1, rfl, by omega, rfl⟩
        · simp [go_sem, h0, h1, h5, h6, hlt]
          refine CallSem.pure (sorted_ac O (by omega)) (by simp [go_sem]) ?_
          rw [hso]
          have hKl2 : (knownOf l ids).length ≤ 14 := by omega
          rw [hkd] at hsl hKl2 ⊢
          simp [go_sem, h0, h1, h5, h6, hlt]
          refine CallSem.pure (missing_ac l ids (by omega)) (by simp [go_sem]) ?_
          generalize missOf l ids = M at hsl hKl2 hkd ⊢
          simp [go_sem, h0, h1, h5, h6, hlt]
          refine CallSem.pure (rminus_ac ids M (by omega)) (by simp [go_sem]) ?_
          rw [hkd] at hso
          generalize minusOf ids M = K at hsl hKl2 hso ⊢
          simp [go_sem, h0, h1, h5, h6, hlt]
          refine CallSem.pure (same_ac K K) (by simp [go_sem]) ?_
          simp [go_sem, h0, h1, h5, h6, hlt]
          refine CallSem.pure (sorted_ac O (by omega)) (by simp [go_sem]) ?_
          rw [hso]
          simp [go_sem, h0, h1, h5, h6, hlt, hsl]
          refine CallSem.pure live18_ac (by simp [go_sem]) ?_
          simp [go_sem]
          refine PostR.ret ?_
          simp [go_sem]
      · simp [go_sem, g, hD]
        refine CallSem.pure live18_ac (by simp [go_sem]) ?_
        simp [go_sem]
        refine PostR.ret ?_
        simp [go_sem]

set_option maxRecDepth 8000 in
set_option maxHeartbeats 4000000 in
theorem first18_law (l : List Evt) (ids : List Int) : AC Try.prog 9 [evs l, ints ids] (B true) := by
  refine AC.of_body Try.func9 rfl rfl Try.ntmps9 (congrArg Array.toList Try.results9) (by simp) (pures2 (pure_evs _) (pure_ints _)) (pure_B _) fun w S' => AWp.of_vc [] ?_
  simp [go_sem]
  refine CallSem.pure (great_ac l) (by simp [go_sem]) ?_
  cases hG : greatOf l 14 with
  | true =>
    simp [go_sem]
    refine PostR.ret ?_
    simp [go_sem]
  | false =>
    obtain ⟨hl, hM⟩ := great_fitM hG
    have hll := hl.len
    by_cases g : (40 : Int) < ids.length
    · simp [go_sem, g]
      refine PostR.ret ?_
      simp [go_sem]
    · simp [go_sem, g]
      refine CallSem.pure (porder_ac l ids hl hM (by omega)) (by simp [go_sem]) ?_
      have hKs := knownOf_sorted l ids
      have hKl := sorted_known_len hKs (fun n hn => (mem_knownOf.1 hn).2)
      have hfi := ordL_first l (knownOf l ids)
      have hOl := ordL_len l (hKs.imp fun h => Int.ne_of_lt h : (knownOf l ids).Nodup)
      have hOk : ∀ n ∈ ordL l (knownOf l ids), ∃ e, getE l n = some e := fun n hn => Option.isSome_iff_exists.1 (mem_knownOf.1 (ordL_mem hn)).2
      generalize ordL l (knownOf l ids) = O at hfi hOl hOk ⊢
      have hpair : ∀ i k (hi : i < O.length) (hk : k < O.length), i < k → freeN l O O[i] = true → freeN l O O[k] = true → lvN l O[k] ≤ lvN l O[i] := fun i k hi hk hik => List.pairwise_iff_getElem.1 hfi i k hi hk hik
      have hOm : O.length ≤ maxLen := by unfold maxLen; omega
      simp [go_sem, g]
      refine AWp.loop_vc [] (fun m s => ∃ (i : Nat), m = O.length - i ∧ i ≤ O.length ∧ s.σ 0 = evs l ∧ s.σ 5 = ints O ∧ s.σ 6 = I i) O.length ⟨0, by simp [go_sem]⟩ ?_
      rintro m s ⟨i, rfl, hi, h0, h5, h6⟩
      by_cases hlt : i < O.length
      · simp [go_sem, h0, h5, h6, hlt, wrap_succ hlt hOm]
        refine AWp.loop_vc [] (fun m s => ∃ (k : Nat), m = O.length - k ∧ k ≤ O.length ∧ i < k ∧ s.σ 0 = evs l ∧ s.σ 5 = ints O ∧ s.σ 6 = I i ∧ s.σ 7 = I k) (O.length - (i + 1)) ⟨i + 1, by simp [go_sem, h0, h5, h6]; omega⟩ ?_
        clear h0 h5 h6
        rintro m s ⟨k, rfl, hk, hik, h0, h5, h6, h7⟩
        by_cases hlk : k < O.length
        · obtain ⟨a, ha⟩ := hOk _ (List.getElem_mem hlt)
          obtain ⟨b, hb⟩ := hOk _ (List.getElem_mem hlk)
          have hia : a.id = O[i] := by simpa using List.find?_some ha
          have hib : b.id = O[k] := by simpa using List.find?_some hb
          have hae := List.mem_of_find?_eq_some ha
          have hbe := List.mem_of_find?_eq_some hb
          have hla : lvN l O[i] = sendOf l a := by unfold lvN; rw [ha]; rfl
          have hlb : lvN l O[k] = sendOf l b := by unfold lvN; rw [hb]; rfl
          have hp := hpair i k hlt hlk hik
          rw [hla, hlb] at hp
          simp [go_sem, h0, h5, h6, h7, hlt, hlk]
          refine CallSem.pure (rgetE_ac l O[i]) (by simp [go_sem]) ?_
          rw [ha]
          simp [go_sem, h0, h5, h6, h7, hlt, hlk]
          refine CallSem.pure (rgetE_ac l O[k]) (by simp [go_sem]) ?_
          rw [hb]
          simp [go_sem, h0, h5, h6, h7, hlt, hlk]
          refine AWp.drawAll rfl (by kernel_rfl) ?_
          simp [go_sem, h0, h5, h6, h7, hlt, hlk, hia]
          refine CalmThen.pure (rfree_ac l O O[i] hl) rfl ?_
          cases hfa : freeN l O O[i] with
          | false =>
            simp [go_sem, h0, h5, h6, h7, hlt, hlk, wrap_succ hlk hOm]
            exact ⟨O.length - (k + 1), by omega, k + 1, rfl, by omega, by omega, rfl⟩
          | true =>
            simp [go_sem, h0, h5, h6, h7, hlt, hlk, hib]
            refine CalmThen.pure (rfree_ac l O O[k] hl) rfl ?_
            cases hfb : freeN l O O[k] with
            | false =>
              simp [go_sem, h0, h5, h6, h7, hlt, hlk, wrap_succ hlk hOm]
              exact ⟨O.length - (k + 1), by omega, k + 1, rfl, by omega, by omega, rfl⟩
            | true =>
              have hle := hp hfa hfb
              have hnl : ¬ sendOf l a < sendOf l b := by omega
              simp [go_sem, h0, h5, h6, h7, hlt, hlk]
              refine CalmThen.pure (sender_ac l a hM (hl.auth a hae)) rfl ?_
              simp [go_sem, h0, h5, h6, h7, hlt, hlk]
              refine CalmThen.pure (sender_ac l b hM (hl.auth b hbe)) rfl ?_
              simp [go_sem, h0, h5, h6, h7, hlt, hlk, hnl, wrap_succ hlk hOm]
              exact ⟨O.length - (k + 1), by omega, k + 1, rfl, by omega, by omega, rfl⟩
        · simp [go_sem, h0, h5, h6, h7, hlt, hlk, wrap_succ hlt hOm]
          exact ⟨O.length - (i + 1), by omega, i + 1, rfl, by omega, rfl⟩
      · simp [go_sem, h0, h5, h6, hlt]
        refine CallSem.pure live18_ac (by simp [go_sem]) ?_
        simp [go_sem]
        refine PostR.ret ?_
        simp [go_sem]

end Go.Proofs.Ytppgiipgppeenaa

-- part Tp
namespace Go.Proofs.Ytppgiipgppeenaa
open Go Go.Abs
theorem opI : Opens Try.prog 3 (fun n => [I n]) (fun n => IntKind.i64.min ≤ n ∧ n ≤ IntKind.i64.max) := opens_int (by kernel_rfl)
theorem opB : Opens Try.prog 4 (fun n => [B n]) (fun _ => True) := opens_bool (by kernel_rfl)
theorem opS : Opens Try.prog 9 (fun n => [S n]) (fun n => n.length ≤ maxLen) := opens_string (by kernel_rfl)
theorem opInts : Opens Try.prog 24 (fun l => [ints l]) (fun l => ∀ n ∈ l, IntKind.i64.min ≤ n ∧ n ≤ IntKind.i64.max) := opens_slice (by kernel_rfl) (by kernel_rfl) (by decide) opI I (fun _ => rfl)
end Go.Proofs.Ytppgiipgppeenaa

-- part Te
namespace Go.Proofs.Ytppgiipgppeenaa
open Go Go.Abs
theorem opStrsE : Opens Try.prog 25 (fun l => [strs l]) (fun _ => True) := (opens_slice (by kernel_rfl) (by kernel_rfl) (by decide) opS S (fun _ => rfl)).map id (fun _ _ => rfl) (fun _ _ => trivial)
theorem opIntsE : Opens Try.prog 24 (fun l => [ints l]) (fun _ => True) := opInts.map id (fun _ _ => rfl) (fun _ _ => trivial)
theorem opKindE : Opens Try.prog 23 (fun n => [I n]) (fun _ => True) := (opens_int (by kernel_rfl)).map id (fun _ _ => rfl) (fun _ _ => trivial)
theorem opLevel : Opens Try.prog 54 lvc (fun _ => True) := by
  have h := opens_struct Try.underlying54 (by kernel_rfl) (opensFs_cons rfl (by kernel_rfl) (by intros; rfl) opS (opensFs_cons rfl (by kernel_rfl) (by intros; rfl) opI opensFs_nil))
  exact h.map (fun x => ⟨x.1, x.2.1⟩) (fun _ _ => rfl) (fun _ _ => trivial)
theorem opKLevel : Opens Try.prog 80 klc (fun _ => True) := by
  have h := opens_struct Try.underlying80 (by kernel_rfl) (opensFs_cons rfl (by kernel_rfl) (by intros; rfl) opKindE (opensFs_cons rfl (by kernel_rfl) (by intros; rfl) opI opensFs_nil))
  exact h.map (fun x => ⟨x.1, x.2.1⟩) (fun _ _ => rfl) (fun _ _ => trivial)
theorem opUsers : Opens Try.prog 26 (fun l : List Level => [.lst 2 (l.map fun u => .agg (lvc u))]) (fun _ => True) := (opens_slice (by kernel_rfl) (by kernel_rfl) (by decide) opLevel (fun u : Level => .agg (lvc u)) (fun _ => rfl)).map id (fun _ _ => rfl) (fun _ _ => trivial)
theorem opKinds : Opens Try.prog 27 (fun l : List KindLevel => [.lst 2 (l.map fun u => .agg (klc u))]) (fun _ => True) := (opens_slice (by kernel_rfl) (by kernel_rfl) (by decide) opKLevel (fun u : KindLevel => .agg (klc u)) (fun _ => rfl)).map id (fun _ _ => rfl) (fun _ _ => trivial)
theorem opLevels : Opens Try.prog 29 lvsc (fun _ => True) := by
  have h := opens_struct Try.underlying29 (by kernel_rfl) (opensFs_cons rfl (by kernel_rfl) (by intros; rfl) opUsers (opensFs_cons rfl (by kernel_rfl) (by intros; rfl) opKinds (opensFs_cons rfl (by kernel_rfl) (by intros; rfl) opI (opensFs_cons rfl (by kernel_rfl) (by intros; rfl) opI (opensFs_cons rfl (by kernel_rfl) (by intros; rfl) opI (opensFs_cons rfl (by kernel_rfl) (by intros; rfl) opI (opensFs_cons rfl (by kernel_rfl) (by intros; rfl) opI (opensFs_cons rfl (by kernel_rfl) (by intros; rfl) opI (opensFs_cons rfl (by kernel_rfl) (by intros; rfl) opI opensFs_nil)))))))))
  exact h.map (fun x => ⟨x.1, x.2.1, x.2.2.1, x.2.2.2.1, x.2.2.2.2.1, x.2.2.2.2.2.1, x.2.2.2.2.2.2.1, x.2.2.2.2.2.2.2.1, x.2.2.2.2.2.2.2.2.1⟩) (fun _ _ => rfl) (fun _ _ => trivial)
theorem opContent : Opens Try.prog 31 ctc (fun _ => True) := by
  have h := opens_struct Try.underlying31 (by kernel_rfl) (opensFs_cons rfl (by kernel_rfl) (by intros; rfl) opS (opensFs_cons rfl (by kernel_rfl) (by intros; rfl) opI (opensFs_cons rfl (by kernel_rfl) (by intros; rfl) opI (opensFs_cons rfl (by kernel_rfl) (by intros; rfl) opB (opensFs_cons rfl (by kernel_rfl) (by intros; rfl) opS (opensFs_cons rfl (by kernel_rfl) (by intros; rfl) opStrsE (opensFs_cons rfl (by kernel_rfl) (by intros; rfl) opStrsE (opensFs_cons (s1 := 9) rfl (by kernel_rfl) (by intros; rfl) opLevels opensFs_nil))))))))
  exact h.map (fun x => ⟨x.1, x.2.1, x.2.2.1, x.2.2.2.1, x.2.2.2.2.1, x.2.2.2.2.2.1, x.2.2.2.2.2.2.1, x.2.2.2.2.2.2.2.1⟩) (fun _ _ => rfl) (fun _ _ => trivial)
theorem opSig : Opens Try.prog 33 (fun x : Sig => [S x.server, I x.sum]) (fun _ => True) := by
  have h := opens_struct Try.underlying33 (by kernel_rfl) (opensFs_cons rfl (by kernel_rfl) (by intros; rfl) opS (opensFs_cons rfl (by kernel_rfl) (by intros; rfl) opI opensFs_nil))
  exact h.map (fun x => ⟨x.1, x.2.1⟩) (fun _ _ => rfl) (fun _ _ => trivial)
theorem opEvt : Opens Try.prog 35 evc (fun _ => True) := by
  have h := opens_struct Try.underlying35 (by kernel_rfl) (opensFs_cons rfl (by kernel_rfl) (by intros; rfl) opI (opensFs_cons rfl (by kernel_rfl) (by intros; rfl) opS (opensFs_cons rfl (by kernel_rfl) (by intros; rfl) opS (opensFs_cons rfl (by kernel_rfl) (by intros; rfl) opKindE (opensFs_cons rfl (by kernel_rfl) (by intros; rfl) opB (opensFs_cons rfl (by kernel_rfl) (by intros; rfl) opS (opensFs_cons rfl (by kernel_rfl) (by intros; rfl) opI (opensFs_cons rfl (by kernel_rfl) (by intros; rfl) opI (opensFs_cons rfl (by kernel_rfl) (by intros; rfl) opIntsE (opensFs_cons rfl (by kernel_rfl) (by intros; rfl) opIntsE (opensFs_cons (s1 := 16) rfl (by kernel_rfl) (by intros; rfl) opContent (opensFs_cons rfl (by kernel_rfl) (by intros; rfl) opI (opensFs_cons (s1 := 2) rfl (by kernel_rfl) (by intros; rfl) opSig opensFs_nil)))))))))))))
  exact h.map (fun x => ⟨x.1, x.2.1, x.2.2.1, x.2.2.2.1, x.2.2.2.2.1, x.2.2.2.2.2.1, x.2.2.2.2.2.2.1, x.2.2.2.2.2.2.2.1, x.2.2.2.2.2.2.2.2.1, x.2.2.2.2.2.2.2.2.2.1, x.2.2.2.2.2.2.2.2.2.2.1, x.2.2.2.2.2.2.2.2.2.2.2.1, x.2.2.2.2.2.2.2.2.2.2.2.2.1⟩) (fun _ _ => rfl) (fun _ _ => trivial)
theorem opEvts : Opens Try.prog 22 (fun l => [evs l]) (fun _ => True) := (opens_slice (by kernel_rfl) (by kernel_rfl) (by decide) opEvt ev (fun _ => rfl)).map id (fun _ _ => rfl) (fun _ _ => trivial)
end Go.Proofs.Ytppgiipgppeenaa
