/- The framework, part 26: listed package-level variables. -/
import Derived.Test.YthkbahbbdacgeaaDoorZj8
import Derived.MakeChecks
import Derived.FnData
import Derived.OpenShut
import Derived.ChangeArms
namespace Stk
open Go Go.RowKit

theorem relG {G : Gl} (W : World) (hG : ∀ g x, (g, x) ∈ G → ∃ m, roW W g = some m ∧ x.rel (roW W) m) : Rel G (env0 W) [] W :=
  ⟨(rel0 W).obj, (rel0 W).virt, (rel0 W).deep, (rel0 W).bound, (rel0 W).dom, (rel0 W).injO, (rel0 W).sepO, (rel0 W).mem, fun g x h => hG g x h⟩

theorem law_callsG {P : Program} {G : Gl} {f : FuncId} {xs : List Tr} {args : Array Value} {W : World} (hG : ∀ g x, (g, x) ∈ G → ∃ m, roW W g = some m ∧ x.rel (roW W) m)
    (h : ACalls P G f (toAVs xs) [] fun r _ => r = .t (.bool true)) (hv : AV.vals (env0 W) (toAVs xs) args.toList) :
    Calls P f args W fun en W' => en = .returned (.bool true) ∧ Below W.heap.size W W' := by
  refine Calls.mono (h.2 (env0 W) W args (relG W hG) hv) ?_
  rintro en W' ⟨r, c, e', H', rfl, rfl, hrv, hst⟩
  refine ⟨by rw [val_bool' hrv], hst.wle.os, hst.wle.tape, hst.wle.output, hst.wle.size, fun k hk => hst.wle.frame k hk ?_⟩
  rintro ⟨b, ⟨o, ho, _⟩, _⟩
  simp at ho

theorem ones_ints {m : Nat → Option (List Value)} {k : IntKind} : ∀ (ns : List Int), Tr.ones m (ns.map (Tr.int k)) (ns.map (Value.int k))
  | [] => by simp [Tr.ones]
  | n :: ns => by
    simp only [List.map_cons, Tr.ones]
    exact ⟨_, _, rfl, rfl, by simp [Tr.rel], ones_ints ns⟩

/-- What a listed table of integers says of memory. -/
theorem glob_of_laid {P : Program} {name : String} {d : DataW Unit} {g : Nat} {t e : TypeId} {n : Nat} {k : IntKind} {ns : List Int} {W : World}
    (hn : P.globalNamed name = some g) (ht : (P.globals[g]?).map (·.type) = some t) (hu : P.underlying t = some (.array n e)) (he : P.underlying e = some (.int k)) (hc : P.cellsOf e = 1) (hct : P.cellsOf t = n)
    (hd : d = .agg (ns.map fun x => .lit (.int k x))) (hh : d.handleName?.isNone = true) (h : laidMetH P [(name, d)] W) : ∃ m, roW W g = some m ∧ (Tr.arr n (ns.map (Tr.int k))).rel (roW W) m := by
  rw [MakeChecks.laidMetH_plain _ _ _ (by simp [hh])] at h
  obtain ⟨ps, ⟨g0, t0, cs0, f0, p0, q0, hg0, ht0, hv0, hd0, _⟩, _, _⟩ := h
  obtain rfl := Option.some.inj (hn.symm.trans hg0)
  obtain rfl := Option.some.inj (ht.symm.trans ht0)
  have hro : roW W g = some cs0.toList := by
    simp only [World.var?, hn, Option.bind_some] at hv0
    unfold roW
    split at hv0
    · rename_i hk; rw [hk]; simp_all
    · cases hv0
  refine ⟨cs0.toList, hro, ?_⟩
  obtain ⟨xs, m, rfl, hx, hlen, hxn, hel⟩ := DataW.trod_array hu hd0
  have hx1 := congrArg Prod.fst hx
  simp only at hx1
  rw [hd] at hx1
  simp only [DataW.agg.injEq] at hx1
  have hns : ns.length = n := by have := congrArg List.length hx1; simp at this; omega
  have hcs : cs0.toList = ns.map (Value.int k) := by
    apply List.ext_getElem?
    intro i
    by_cases hi : i < n
    · have h1 := hel i hi
      rw [hc, Nat.mul_one] at h1
      have hil : i < cs0.toList.length := by omega
      have htk : (cs0.toList.drop i).take 1 = [cs0.toList[i]] := by rw [List.drop_eq_getElem_cons hil]; rfl
      rw [htk] at h1
      have hxi : i < xs.length := by omega
      rw [List.getElem?_eq_getElem hxi] at h1
      obtain ⟨v, e1, e2, _⟩ := DataW.trod_int he h1
      have e3 : (xs.map (·.1))[i]? = some (.lit (.int k v)) := by rw [List.getElem?_map, List.getElem?_eq_getElem hxi, e2]; rfl
      rw [← hx1, List.getElem?_map] at e3
      rw [List.getElem?_eq_getElem hil, List.getElem?_map]
      have e1 : cs0.toList[i] = .int k v := by simpa using e1
      rw [e1]
      cases hni : ns[i]? with
      | none => rw [hni] at e3; cases e3
      | some z =>
        rw [hni] at e3
        simp only [Option.map_some, Option.some.injEq, DataW.lit.injEq, Lit.int.injEq] at e3
        rw [Option.map_some, e3.2]
    · rw [List.getElem?_eq_none (by omega), List.getElem?_eq_none (by simp; omega)]
  simp only [Tr.rel]
  exact ⟨by simp [hns], by rw [hcs]; exact ones_ints ns⟩
def intsOf : Tr → List Int
  | .arr _ xs => xs.map fun | .int _ n => n | _ => 0
  | _ => []
end Stk
