/- PackKnown: what the chapter's rows are, in plain lists. -/
import Derived.Test.YtliklkagieaoeaaQ2
namespace Stk
open Go
set_option maxRecDepth 100000
set_option linter.unusedSimpArgs false
set_option linter.unusedVariables false
set_option maxHeartbeats 8000000
abbrev zeros (n : Nat) : List Tr := List.replicate n (u8 0)
theorem zeros_b (n : Nat) : AllB (zeros n) := fun y hy => ⟨0, List.eq_of_mem_replicate hy, by omega⟩
theorem putE_in {x : En} (h : x.cmd.IN) : putE x = (entryB x, 0) := by
  have := h.dl
  unfold putE
  rw [if_neg (by omega)]
theorem zC_wb : zC.WB := ⟨by decide, rfl, zC_ok.hb, AllB.nil, by decide⟩
theorem zC_in : zC.IN := ⟨zC_wb, by decide⟩
abbrev e3 : En := ⟨3, zC⟩
theorem put_e3 : putE e3 = (entryB e3, 0) := putE_in zC_in
theorem len_e3 : (entryB e3).length = 78 := rfl
theorem fst_e3 : (entryB e3)[0]? = some (u8 3) := rfl
abbrev odd : List Tr := (zeros 34).set 33 (u8 2)
theorem take_odd : takeC odd = (zC, 5) := rfl
theorem take_71 : takeC (zeros 71) = (zC, 5) := rfl
abbrev long : List Tr := ((zeros 70).set 66 (u8 1)).set 68 (u8 1)
theorem take_long : takeC long = (zC, 5) := rfl
abbrev many : List Tr := (zeros 118).set 114 (u8 201)
theorem take_many : takeM many = (zM, 5) := rfl
theorem take_78 : (takeE (zeros 78)).2 = 0 := rfl
abbrev bigC (d : List Tr) : Cm := ⟨0, 0, 0, 0, 0, false, z32, d⟩
theorem bigC_ok {d : List Tr} (hb : AllB d) (hl : d.length ≤ 65537) : (bigC d).OK := ⟨by show (0 : Int) ≤ 0 ∧ (0 : Int) ≤ 255; decide, rfl, zC_ok.hb, hb, by show d.length ≤ _; omega⟩
theorem put_bigC {d : List Tr} (hl : d.length = 65537) : putC (bigC d) = ([], 3) := by
  unfold putC
  rw [if_pos (by show (d.length : Int) > 65536; omega)]
abbrev mK (es : List (En × Bool)) (d : List Tr) : Ms := ⟨0, [0, 0, 0, 0, 0, 0, 0, 0, 0], false, 0, z32, es, d⟩
abbrev zes (n : Nat) : List (En × Bool) := List.replicate n (zE, true)
theorem zes_t (n : Nat) : (zes n).map eT = List.replicate n (zE.t true) := List.map_replicate
theorem zes_mem {n : Nat} {p : En × Bool} (h : p ∈ zes n) : p = (zE, true) := List.eq_of_mem_replicate h
theorem mK_ok {n : Nat} {d : List Tr} (hn : n ≤ 201) (hb : AllB d) (hl : d.length ≤ 65537) : (mK (zes n) d).OK :=
  ⟨by show (0 : Int) ≤ 0 ∧ (0 : Int) ≤ 255; decide, rfl, zC_ok.hb, hb, by show d.length ≤ _; omega, fun p hp => by rw [zes_mem hp]; exact ⟨zC_ok, by decide⟩, by show (zes n).length ≤ _; rw [List.length_replicate]; omega, rfl⟩
theorem put_201 : putM (mK (zes 201) []) = ([], 3) := by
  have h : (mK (zes 201) []).bad = true := by
    unfold Ms.bad
    rw [show decide (((mK (zes 201) []).es.length : Int) > 200) = true by show decide (((zes 201).length : Int) > 200) = true; rw [List.length_replicate]; decide]
    rfl
  unfold putM
  rw [if_pos h]
theorem mE_ok {d : List Tr} (hb : AllB d) (hl : d.length ≤ 65537) : (mK [(⟨0, bigC d⟩, false)] []).OK :=
  ⟨by show (0 : Int) ≤ 0 ∧ (0 : Int) ≤ 255; decide, rfl, zC_ok.hb, AllB.nil, by show (0 : Nat) ≤ _; decide, fun p hp => by rw [List.mem_singleton] at hp; subst hp; exact ⟨bigC_ok hb hl, by show d.length ≤ _; omega⟩, by show (1 : Nat) ≤ _; decide, rfl⟩
theorem put_mE {d : List Tr} (hl : d.length = 65537) : putM (mK [(⟨0, bigC d⟩, false)] []) = ([], 3) := by
  have h : (mK [(⟨0, bigC d⟩, false)] []).bad = true := by
    have e : elong (⟨0, bigC d⟩, false) = true := decide_eq_true (by show (d.length : Int) > 65536; omega)
    unfold Ms.bad
    show (_ || (elong (⟨0, bigC d⟩, false) || false) || _) = true
    rw [e]
    simp
  unfold putM
  rw [if_pos h]
theorem mK_in {d : List Tr} (hb : AllB d) (hl : d.length = 65536) : (mK (zes 200) d).IN := by
  refine ⟨by show (0 : Int) ≤ 0 ∧ (0 : Int) ≤ 255; decide, rfl, ?_, by show I64 0; decide, rfl, zC_ok.hb, hb, by show d.length ≤ _; omega, fun p hp => by rw [zes_mem hp]; exact ⟨zC_in, by decide⟩, by show (zes 200).length ≤ _; rw [List.length_replicate]; decide⟩
  intro n hn
  have hn : n ∈ [(0 : Int), 0, 0, 0, 0, 0, 0, 0, 0] := hn
  obtain rfl : n = 0 := by simpa using hn
  decide
theorem k_takeM_no (L : List Tr) (hL : AllB L) (e : Int) (he : e ≠ 0) (h : takeM L = (zM, e)) : ACalls PP GG F.pack_TakeMsg [.bz 1 L] [] fun r H' => r = .tup [.t zMt, ti e] ∧ H' = [] := by
  have k := k_TakeMsg L hL
  rw [h] at k
  refine k.mono ?_
  rintro r H' (⟨h1, -⟩ | ⟨-, -, h2, h3⟩)
  · exact absurd h1 he
  · exact ⟨h2, h3⟩
theorem k_takeC_no (L : List Tr) (hL : AllB L) (e : Int) (he : e ≠ 0) (h : takeC L = (zC, e)) : ACalls PP GG F.pack_TakeCmd [.bz 1 L] [] fun r H' => r = .tup [.t zCt, ti e] ∧ H' = [] := by
  have k := k_TakeCmd L hL
  rw [h] at k
  refine k.mono ?_
  rintro r H' (⟨h1, -⟩ | ⟨-, -, h2, h3⟩)
  · exact absurd h1 he
  · exact ⟨h2, h3⟩
end Stk
