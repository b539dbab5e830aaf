/- The data of chapter 46, and how they stand in memory. No condition. -/
import Derived.Test.YtgpjdkbepgomhaaTb
namespace Go.Abs
open Go Go.RowKit
structure DevD where
  id : Bytes
  key : Int
  signed : Bool
structure KeysD where
  user : Bytes
  master : Int
  pos : Int
  devices : List DevD
structure CaseD where
  own : KeysD
  other : KeysD
  device : Bytes
  verified : List Int
  blocked : List Bytes
  strict : Bool
def dvc (d : DevD) : List AV := [S d.id, I d.key, B d.signed]
def dv (d : DevD) : AV := .agg (dvc d)
def dvs (l : List DevD) : AV := .lst 3 (l.map dv)
def ksc (k : KeysD) : List AV := [S k.user, I k.master, I k.pos, dvs k.devices]
def ks (k : KeysD) : AV := .agg (ksc k)
def csc (c : CaseD) : List AV := [S c.own.user, I c.own.master, I c.own.pos, dvs c.own.devices, S c.other.user, I c.other.master, I c.other.pos, dvs c.other.devices, S c.device, ints c.verified, strs c.blocked, B c.strict]
def cs (c : CaseD) : AV := .agg (csc c)
theorem pure_dvc (d : DevD) : ∀ c ∈ dvc d, Pure c := by
  intro c hc; simp only [dvc, List.mem_cons, List.not_mem_nil, or_false] at hc; rcases hc with rfl | rfl | rfl <;> exact pure_v _
theorem pure_dv (d : DevD) : Pure (dv d) := pure_agg (pure_dvc d)
theorem pure_dvs (l : List DevD) : Pure (dvs l) := pure_lst fun x hx c hc => by
  obtain ⟨n, _, rfl⟩ := List.mem_map.1 hx
  exact pure_dvc n c hc
theorem pure_ksc (k : KeysD) : ∀ c ∈ ksc k, Pure c := by
  intro c hc; simp only [ksc, List.mem_cons, List.not_mem_nil, or_false] at hc
  rcases hc with rfl | rfl | rfl | rfl <;> first | exact pure_v _ | exact pure_dvs _
theorem pure_ks (k : KeysD) : Pure (ks k) := pure_agg (pure_ksc k)
theorem pure_csc (x : CaseD) : ∀ c ∈ csc x, Pure c := by
  intro c hc; simp only [csc, List.mem_cons, List.not_mem_nil, or_false] at hc
  rcases hc with rfl | rfl | rfl | rfl | rfl | rfl | rfl | rfl | rfl | rfl | rfl | rfl <;> first | exact pure_v _ | exact pure_dvs _ | exact pure_ints _ | exact pure_strs _
theorem pure_cs (k : CaseD) : Pure (cs k) := pure_agg (pure_csc k)
theorem okAll_dvs (st : St) (l : List DevD) : okAll st (l.map dv) := fun c hc => by obtain ⟨n, _, rfl⟩ := List.mem_map.1 hc; rfl
attribute [go_sem] okAll_dvs dv dvc dvs ks ksc cs csc
theorem strs_len (l : List Bytes) : (l.map S).length = l.length := by simp
theorem dvs_len (l : List DevD) : (l.map dv).length = l.length := by simp
end Go.Abs
