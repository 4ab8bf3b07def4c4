/- The framework, part R: the evaluator once more, by recursors: what is still to be done has one form, for the elaborator and for the kernel. -/
import Derived.Test.YthkbahbbdacgeaaDoorFwC
namespace Stk
open Go

noncomputable def opsR (l : List IOp) : Fr → Hp → (Fr → Hp → T) → T :=
  List.rec (motive := fun _ => Fr → Hp → (Fr → Hp → T) → T) (fun fr H k => k fr H) (fun o _ ih fr H k => iopT o fr H fun fr' H' => ih fr' H' k) l
theorem opsR_eq : ∀ (l : List IOp) (fr : Fr) (H : Hp) (k : Fr → Hp → T), opsR l fr H k = opsT l fr H k
  | [], _, _, _ => rfl
  | o :: os, fr, H, k => by
    show iopT o fr H (fun fr' H' => opsR os fr' H' k) = iopT o fr H fun fr' H' => opsT os fr' H' k
    simp only [opsR_eq os]

noncomputable def readsR (l : List IOp) : Nat → List Nat → List Nat → Fr → Hp → (List Nat → List Nat → Fr → T) → T :=
  List.rec (motive := fun _ => Nat → List Nat → List Nat → Fr → Hp → (List Nat → List Nat → Fr → T) → T) (fun _ M P fr _ k => k M P fr)
    (fun o _ ih i M P fr H k => match o.eff, nameIn i M, subN o.pre M with
      | false, false, true => iopT o fr H fun fr' _ => litK i fun i => ih (i + 1) (i :: M) (i :: P) fr' H k
      | _, _, _ => ih (i + 1) M P fr H k) l
theorem readsR_eq : ∀ (l : List IOp) (i : Nat) (M P : List Nat) (fr : Fr) (H : Hp) (k : List Nat → List Nat → Fr → T), readsR l i M P fr H k = readsT i l M P fr H k
  | [], _, _, _, _, _, _ => rfl
  | o :: os, i, M, P, fr, H, k => by
    have e : readsR (o :: os) i M P fr H k = match o.eff, nameIn i M, subN o.pre M with
      | false, false, true => iopT o fr H fun fr' _ => litK i fun i => readsR os (i + 1) (i :: M) (i :: P) fr' H k
      | _, _, _ => readsR os (i + 1) M P fr H k := rfl
    rw [e]
    simp only [readsT, readsR_eq os]
    rfl

noncomputable def againsR (P : List Nat) (l : List IOp) : Nat → Fr → Hp → T → T :=
  List.rec (motive := fun _ => Nat → Fr → Hp → T → T) (fun _ _ _ next => next)
    (fun o _ ih i fr H next => match nameIn i P with
      | true => againT o fr H (ih (i + 1) fr H next)
      | false => ih (i + 1) fr H next) l
theorem againsR_eq (P : List Nat) : ∀ (l : List IOp) (i : Nat) (fr : Fr) (H : Hp) (next : T), againsR P l i fr H next = againsT P i l fr H next
  | [], _, _, _, _ => rfl
  | o :: os, i, fr, H, next => by
    have e : againsR P (o :: os) i fr H next = match nameIn i P with
      | true => againT o fr H (againsR P os (i + 1) fr H next)
      | false => againsR P os (i + 1) fr H next := rfl
    rw [e]
    simp only [againsT, againsR_eq P os]
    rfl

noncomputable def candsR (f : Nat → IOp → T) (M : List Nat) (l : List IOp) : Nat → Option T → T :=
  List.rec (motive := fun _ => Nat → Option T → T) (fun _ acc => match acc with
      | none => .stuck "no effect is ready"
      | some t => t)
    (fun o _ ih i acc => match o.eff, nameIn i M, subN o.pre M with
      | true, false, true => litK i fun i => match acc with
        | none => ih (i + 1) (some (f i o))
        | some t => ih (i + 1) (some (.any t (f i o)))
      | _, _, _ => ih (i + 1) acc) l
theorem candsR_eq (f : Nat → IOp → T) (M : List Nat) : ∀ (l : List IOp) (i : Nat) (acc : Option T), candsR f M l i acc = candsT f M i l acc
  | [], _, none => rfl
  | [], _, some _ => rfl
  | o :: os, i, acc => by
    have e : candsR f M (o :: os) i acc = match o.eff, nameIn i M, subN o.pre M with
      | true, false, true => litK i fun i => match acc with
        | none => candsR f M os (i + 1) (some (f i o))
        | some t => candsR f M os (i + 1) (some (.any t (f i o)))
      | _, _, _ => candsR f M os (i + 1) acc := rfl
    rw [e]
    simp only [candsT, candsR_eq f M os]
    cases acc <;> rfl

noncomputable def pickR (ds : List IOp) (l : List IOp) : List Nat → List Nat → Fr → Hp → (Fr → Hp → T) → T :=
  List.rec (motive := fun _ => List Nat → List Nat → Fr → Hp → (Fr → Hp → T) → T)
    (fun M P fr H k => match allN 0 ds M with
      | true => k fr H
      | false => candsR (fun i o => iopT o fr H fun fr' H' => againsR (dropN o.pre P) ds 0 fr' H' (readsR ds 0 (i :: M) (dropN o.pre P) fr' H' fun _ _ _ => .stuck "fuel")) M ds 0 none)
    (fun _ _ ih M P fr H k => match allN 0 ds M with
      | true => k fr H
      | false => candsR (fun i o => iopT o fr H fun fr' H' => againsR (dropN o.pre P) ds 0 fr' H' (readsR ds 0 (i :: M) (dropN o.pre P) fr' H' fun M' P' fr'' => ih M' P' fr'' H' k)) M ds 0 none) l
theorem pickR_eq (ds : List IOp) : ∀ (l : List IOp) (M P : List Nat) (fr : Fr) (H : Hp) (k : Fr → Hp → T), pickR ds l M P fr H k = pickT (l.length + 1) ds M P fr H k
  | [], M, P, fr, H, k => by
    have e : pickR ds [] M P fr H k = match allN 0 ds M with
      | true => k fr H
      | false => candsR (fun i o => iopT o fr H fun fr' H' => againsR (dropN o.pre P) ds 0 fr' H' (readsR ds 0 (i :: M) (dropN o.pre P) fr' H' fun _ _ _ => .stuck "fuel")) M ds 0 none := rfl
    rw [e]
    simp only [List.length_nil, pickT, candsR_eq, againsR_eq, readsR_eq]
    rfl
  | o :: os, M, P, fr, H, k => by
    have e : pickR ds (o :: os) M P fr H k = match allN 0 ds M with
      | true => k fr H
      | false => candsR (fun i o => iopT o fr H fun fr' H' => againsR (dropN o.pre P) ds 0 fr' H' (readsR ds 0 (i :: M) (dropN o.pre P) fr' H' fun M' P' fr'' => pickR ds os M' P' fr'' H' k)) M ds 0 none := rfl
    rw [e]
    simp only [List.length_cons, pickR_eq ds os, candsR_eq, againsR_eq, readsR_eq]
    conv => rhs; unfold pickT
    rfl
noncomputable def dregR (ds : List IOp) (fr : Fr) (H : Hp) (k : Fr → Hp → T) : T :=
  readsR ds 0 [] [] fr H fun M P fr' => pickR ds ds M P fr' H k
theorem dregR_eq (ds : List IOp) (fr : Fr) (H : Hp) (k : Fr → Hp → T) : dregR ds fr H k = dregT ds fr H k := by
  simp only [dregR, dregT, readsR_eq, pickR_eq]

noncomputable def codeR (c : IC) : Fr → Hp → (Ex → Fr → Hp → T) → T :=
  IC.rec (motive := fun _ => Fr → Hp → (Ex → Fr → Hp → T) → T)
    (fun fr H k => k .normal fr H)
    (fun ops fr H k => opsR ops fr H fun fr' H' => k .normal fr' H')
    (fun ops fr H k => dregR ops fr H fun fr' H' => k .normal fr' H')
    (fun _ _ iha ihb fr H k => iha fr H fun e fr' H' => match e with
      | .normal => ihb fr' H' k
      | e => k e fr' H')
    (fun c _ _ iha ihb fr H k => match c with
      | .tmp t => lk t (fun v => match v with
        | .t (.bool v) => .br v (iha ((t, .t (.bool true)) :: fr) H k) (ihb ((t, .t (.bool false)) :: fr) H k)
        | _ => .stuck "cond") fr
      | .con (.t (.bool v)) => .br v (iha fr H k) (ihb fr H k)
      | _ => .stuck "cond")
    (fun id _ iha fr H k => iha fr H fun e fr' H' => match e with
      | .exit j => match Nat.beq j id with
        | true => k .normal fr' H'
        | false => k (.exit j) fr' H'
      | e => k e fr' H')
    (fun live keep mv a _ fr H k => liveK fr live fun vs => reachK H (fun ρ =>
      rensK (inward ρ) vs fun vs' => focK H ρ ρ fun Hs => movesK mv 0 Hs fun ms => litK H.length fun n => takeRowsK ρ ms H fun H1 =>
        .loop live keep mv a (zipFr live vs') Hs fun e fr' Hs' => renFrK (afterName ρ ms n) fr' fun fr'' => afterK ρ ms n ρ ms Hs' H1 fun H' => k e fr'' H') 60 (AV.refss vs) [])
    (fun id fr H k => k (.exit id) fr H)
    (fun fr H k => k .ret fr H)
    (fun _ _ _ => .stuck "bad") c
theorem codeR_eq : ∀ (c : IC) (fr : Fr) (H : Hp) (k : Ex → Fr → Hp → T), codeR c fr H k = codeT c fr H k
  | .skip, _, _, _ => rfl
  | .reg ops, fr, H, k => by
    show opsR ops fr H _ = _
    rw [opsR_eq]; rfl
  | .dreg ops, fr, H, k => by
    show dregR ops fr H _ = _
    rw [dregR_eq]; rfl
  | .seq a b, fr, H, k => by
    have e : codeR (.seq a b) fr H k = codeR a fr H fun e fr' H' => match e with
      | .normal => codeR b fr' H' k
      | e => k e fr' H' := rfl
    rw [e]
    simp only [codeT, codeR_eq a, codeR_eq b]
    rfl
  | .cond c a b, fr, H, k => by
    have e : codeR (.cond c a b) fr H k = match c with
      | .tmp t => lk t (fun v => match v with
        | .t (.bool v) => .br v (codeR a ((t, .t (.bool true)) :: fr) H k) (codeR b ((t, .t (.bool false)) :: fr) H k)
        | _ => .stuck "cond") fr
      | .con (.t (.bool v)) => .br v (codeR a fr H k) (codeR b fr H k)
      | _ => .stuck "cond" := rfl
    rw [e]
    simp only [codeT, codeR_eq a, codeR_eq b]
    rfl
  | .block id a, fr, H, k => by
    have e : codeR (.block id a) fr H k = codeR a fr H fun e fr' H' => match e with
      | .exit j => match Nat.beq j id with
        | true => k .normal fr' H'
        | false => k (.exit j) fr' H'
      | e => k e fr' H' := rfl
    rw [e]
    simp only [codeT, codeR_eq a]
    rfl
  | .loop live keep mv a, fr, H, k => rfl
  | .exit id, fr, H, k => rfl
  | .ret, fr, H, k => rfl
  | .bad, fr, H, k => rfl

noncomputable def roundR (live keep mv : List Nat) (a : IC) (fr : Fr) (H : Hp) : T :=
  movesK mv 0 H fun ms => codeR a fr H fun e fr' H' => match e with
    | .normal => liveK fr' live fun vs => reachK H' (fun ρ => match stays 0 ms ρ with
      | true => rensK (inward ρ) vs fun vs' => focK H' ρ ρ fun Hs => .ret .normal (zipFr live vs') Hs
      | false => .stuck "loop: a block moved") 60 (AV.refss vs) []
    | e => liveK fr' keep fun vs => .ret e (zipFr keep vs) H'
theorem roundR_eq (live keep mv : List Nat) (a : IC) (fr : Fr) (H : Hp) : roundR live keep mv a fr H = roundT live keep mv a fr H := by
  simp only [roundR, roundT, codeR_eq]
  rfl
noncomputable def bodyR (f : IF) (args : List AV) (H : Hp) : T :=
  argFrK 0 [] args fun fr => codeR f.body fr H fun e fr' H' => match e with
    | .exit _ => .stuck "exit"
    | _ => resK H' fr' f.results fun vs => match vs with
      | [v] => litK H.length fun n => canonK (AV.refss args) n v H' fun r H'' => .ret .ret [(0, r)] H''
      | vs => litK H.length fun n => canonK (AV.refss args) n (.tup vs) H' fun r H'' => .ret .ret [(0, r)] H''
noncomputable def bodyQ (f : IF) (args : List AV) (H : Hp) : T :=
  argFrK 0 [] args fun fr => codeR f.body fr H fun e fr' H' => match e with
    | .exit _ => .stuck "exit"
    | _ => resK H' fr' f.results fun vs => match vs with
      | [v] => litK H.length fun n => canonK (List.range n) n v H' fun r H'' => .ret .ret [(0, r)] H''
      | vs => litK H.length fun n => canonK (List.range n) n (.tup vs) H' fun r H'' => .ret .ret [(0, r)] H''
noncomputable def bodyD (f : IF) (args : List AV) (H : Hp) : T :=
  argFrK 0 [] args fun fr => codeR f.body fr H fun e fr' H' => match e with
    | .exit _ => .stuck "exit"
    | _ => resK H' fr' f.results fun vs => match vs with
      | [v] => litK H.length fun n => canonG (keepsD (AV.refss args) n 0 H') n v H' fun r H'' => .ret .ret [(0, r)] H''
      | vs => litK H.length fun n => canonG (keepsD (AV.refss args) n 0 H') n (.tup vs) H' fun r H'' => .ret .ret [(0, r)] H''
theorem bodyD_eq (f : IF) (args : List AV) (H : Hp) : bodyD f args H = bodyCD f args H := by
  simp only [bodyD, bodyCD, bodyG, codeR_eq]
  rfl
theorem bodyQ_eq (f : IF) (args : List AV) (H : Hp) : bodyQ f args H = bodyCQ f args H := by
  simp only [bodyQ, bodyCQ, bodyG, codeR_eq]
  rfl
theorem bodyR_eq (f : IF) (args : List AV) (H : Hp) : bodyR f args H = bodyC f args H := by
  simp only [bodyR, bodyC, bodyG, codeR_eq]
  rfl
end Stk
