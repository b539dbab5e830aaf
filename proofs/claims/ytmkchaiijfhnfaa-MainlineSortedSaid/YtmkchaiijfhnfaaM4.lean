/- Contracts of chapter 19: the comparison of items. No condition. -/
import Derived.Test.YtmkchaiijfhnfaaM3
import Derived.WalkKit
import Derived.Lib.Walk
import Derived.Sort.WalkB12
import Derived.Shelf.RegionOpenPlain
import Derived.Shelf.GgSortFunc.InsertionK
import Derived.Shelf.SlSortCmp.Insertion
namespace Go.Proofs.Ytmkchaiijfhnfaa
open Go Go.Abs Go.Shelf Go.RowKit Go.Lib Go.Sort Go.Proofs
set_option linter.unusedSimpArgs false
structure Item where
  id : Int
  closest : Int
  time : Int
  deriving DecidableEq
instance : Inhabited Item := ⟨⟨0, 0, 0⟩⟩
def itc (x : Item) : List Value := [.int .i64 x.id, .int .i64 x.closest, .int .i64 x.time]
def cmpI (a b : Int) : Int := if a < b then -1 else if b < a then 1 else 0
def cmpT (a b : Item) : Int := if a.closest = b.closest then (if a.time = b.time then cmpI a.id b.id else cmpI a.time b.time) else cmpI b.closest a.closest
set_option maxHeartbeats 1000000 in
theorem compare_calls (a b : Int) (W : World) : Calls Try.prog 28 #[.int .i64 a, .int .i64 b] W fun e w' => e = .returned (.int .i64 (cmpI a b)) ∧ w' = W := by
  unfold cmpI
  by_cases h1 : a < b
  · rw [if_pos h1]
    go_enter Try.func28, Try.ntmps28
    go_wp2
    go_ret
    exact ⟨rfl, rfl⟩
  · rw [if_neg h1]
    by_cases h2 : b < a
    · rw [if_pos h2]
      go_enter Try.func28, Try.ntmps28
      go_wp2
      go_ret
      exact ⟨rfl, rfl⟩
    · rw [if_neg h2]
      go_enter Try.func28, Try.ntmps28
      go_wp2
      go_ret
      exact ⟨rfl, rfl⟩
set_option maxHeartbeats 4000000 in
theorem closure_calls (x y : Item) (W : World) : Calls Try.prog 27 #[.agg (itc x).toArray, .agg (itc y).toArray] W fun e w' => e = .returned (.int .i64 (cmpT x y)) ∧ ∃ q os', w' = grow (W.drewN q) os' := by
  obtain ⟨a1, b1, c1⟩ := x
  obtain ⟨a2, b2, c2⟩ := y
  show Calls Try.prog 27 #[.agg #[.int .i64 a1, .int .i64 b1, .int .i64 c1], .agg #[.int .i64 a2, .int .i64 b2, .int .i64 c2]] W fun e w' => e = .returned (.int .i64 (if b1 = b2 then (if c1 = c2 then cmpI a1 a2 else cmpI c1 c2) else cmpI b2 b1)) ∧ ∃ q os', w' = grow (W.drewN q) os'
  by_cases h1 : b1 = b2
  · rw [if_pos h1]
    subst h1
    by_cases h2 : c1 = c2
    · rw [if_pos h2]
      subst h2
      have hcon := compare_calls a1 a2
      generalize cmpI a1 a2 = r at hcon ⊢
      go_enter Try.func27, Try.ntmps27
      go_wp2_with (go_at_call 28; refine (hcon _).mono ?_; rintro e w' ⟨rfl, rfl⟩)
      go_ret
      exact ⟨rfl, 0, _, by rw [alloc_eq_grow, alloc_eq_grow, grow_grow]; rfl⟩
    · rw [if_neg h2]
      have hcon := compare_calls c1 c2
      generalize cmpI c1 c2 = r at hcon ⊢
      go_enter Try.func27, Try.ntmps27
      go_wp2_with (go_at_call 28; refine (hcon _).mono ?_; rintro e w' ⟨rfl, rfl⟩)
      go_ret
      exact ⟨rfl, 0, _, by rw [alloc_eq_grow, alloc_eq_grow, grow_grow]; rfl⟩
  · rw [if_neg h1]
    have hcon := compare_calls b2 b1
    generalize cmpI b2 b1 = r at hcon ⊢
    go_enter Try.func27, Try.ntmps27
    go_wp2_with (go_at_call 28; refine (hcon _).mono ?_; rintro e w' ⟨rfl, rfl⟩)
    go_ret
    exact ⟨rfl, 0, _, by rw [alloc_eq_grow, alloc_eq_grow, grow_grow]; rfl⟩
theorem cmpI_lt {a b : Int} : cmpI a b < 0 ↔ a < b := by unfold cmpI; split <;> (try split) <;> constructor <;> intro h <;> omega
def itLt (x y : Item) : Bool := decide (y.closest < x.closest ∨ (x.closest = y.closest ∧ (x.time < y.time ∨ (x.time = y.time ∧ x.id < y.id))))
theorem cmpT_lt (x y : Item) : ltOf cmpT x y = itLt x y := by
  unfold ltOf itLt cmpT
  apply decide_eq_decide.2
  split
  · split
    · rw [cmpI_lt]; constructor
      · intro h; exact .inr ⟨by assumption, .inr ⟨by assumption, h⟩⟩
      · omega
    · rw [cmpI_lt]; omega
  · rw [cmpI_lt]; omega
theorem cmpT_swo : SWO (ltOf cmpT) where
  irrefl x := by rw [cmpT_lt]; unfold itLt; simp
  trans x y z h1 h2 := by rw [cmpT_lt] at *; unfold itLt at *; simp only [decide_eq_true_eq] at *; omega
  ntrans x y z h1 h2 := by rw [cmpT_lt] at *; unfold itLt at *; simp only [decide_eq_false_iff_not] at *; omega
theorem cmpT_tot (x y : Item) (h1 : ltOf cmpT x y = false) (h2 : ltOf cmpT y x = false) : x = y := by
  rw [cmpT_lt] at h1 h2
  unfold itLt at *
  simp only [decide_eq_false_iff_not] at *
  obtain ⟨a1, b1, c1⟩ := x
  obtain ⟨a2, b2, c2⟩ := y
  simp only [Item.mk.injEq] at *
  omega
theorem itc_len (x : Item) : (itc x).length = 3 := rfl
theorem itc_one (x : Item) : ∀ v ∈ itc x, v.oneCell' = true := by
  intro v hv
  simp only [itc, List.mem_cons, List.not_mem_nil, or_false] at hv
  rcases hv with rfl | rfl | rfl <;> rfl
end Go.Proofs.Ytmkchaiijfhnfaa
