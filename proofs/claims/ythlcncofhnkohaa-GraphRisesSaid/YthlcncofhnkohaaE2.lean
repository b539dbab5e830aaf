/- Comparisons of an event with itself. No condition. -/
import Derived.Test.YthlcncofhnkohaaE1
import Derived.Test.YthlcncofhnkohaaU2
namespace Go.Proofs.Ythlcncofhnkohaa
open Go Go.Abs
set_option linter.unusedSimpArgs false
def lvs (x : Levels) : AV := .agg (lvsc x)
def ct (x : Content) : AV := .agg (ctc x)
theorem pure_lvsc (x : Levels) : ∀ c ∈ lvsc x, Pure c := by
  intro c hc
  simp only [lvsc, List.mem_cons, List.not_mem_nil, or_false] at hc
  rcases hc with rfl | rfl | rfl | rfl | rfl | rfl | rfl | rfl | rfl <;> first | exact pure_v _ | exact pure_lst_agg pure_lvc | exact pure_lst_agg pure_klc
theorem pure_lvs (x : Levels) : Pure (lvs x) := pure_agg (pure_lvsc x)
theorem pure_ctc (x : Content) : ∀ c ∈ ctc x, Pure c := by
  intro c hc
  simp only [ctc, List.mem_cons, List.not_mem_nil, or_false] at hc
  rcases hc with rfl | rfl | rfl | rfl | rfl | rfl | rfl | rfl | rfl | rfl | rfl | rfl | rfl | rfl | rfl | rfl <;> first | exact pure_v _ | exact pure_strs _ | exact pure_lst_agg pure_lvc | exact pure_lst_agg pure_klc
theorem pure_ct (x : Content) : Pure (ct x) := pure_agg (pure_ctc x)
theorem evc_ct (x : Evt) : ((evc x).drop 10).take 16 = ctc x.content := rfl
attribute [go_sem] evc_ct lvs ct lvsc ctc lvc klc
theorem strs_len' (l : List Bytes) : (l.map S).length = l.length := by simp
theorem AWp.boundCell {G : Ctx} {st : St} {c : Code} {Q : Exit → St → Prop} (d i : Nat) {cs : List AV} {j sz : Nat} {xs : List AV} (hd : st.σ d = .eptr cs j) (hc : cs[i]? = some (.lst sz xs)) (h : xs.length ≤ maxLen → AWp G c Q st) : AWp G c Q st := fun E a hr => by
  have := hr.slots d
  rw [hd] at this
  generalize a.tmps.getD d undef = x at this
  cases this with
  | eptr _ _ b off u hS h1 h2 => exact h (h2 i _ hc).lst_len E a hr
theorem AWp.boundAgg {G : Ctx} {st : St} {c : Code} {Q : Exit → St → Prop} (d i : Nat) {cs : List AV} {sz : Nat} {xs : List AV} (hd : st.σ d = .agg cs) (hc : cs[i]? = some (.lst sz xs)) (h : xs.length ≤ maxLen → AWp G c Q st) : AWp G c Q st := fun E a hr => by
  have := hr.slots d
  rw [hd] at this
  generalize a.tmps.getD d undef = x at this
  cases this with
  | agg _ us hl h1 => exact h (h1 i _ hc).lst_len E a hr
end Go.Proofs.Ythlcncofhnkohaa
