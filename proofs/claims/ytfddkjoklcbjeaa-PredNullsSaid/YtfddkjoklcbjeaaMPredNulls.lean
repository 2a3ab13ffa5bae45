/- PredNulls, packed. No condition beyond the statement's own. -/
import Derived.Test.YtfddkjoklcbjeaaMPredNullsb
import Derived.Test.YtfddkjoklcbjeaaProg
import Derived.Test.YtfddkjoklcbjeaaRows
import Derived.WalkKit
import Derived.ProofKit
import Derived.OpenShut
import Derived.ShutString
import Derived.ChangeOld
import Derived.Below
import Derived.SizedLaws
section
set_option linter.unusedVariables false
set_option linter.unusedSimpArgs false
set_option linter.constructorNameAsVariable false
/- Walking over plain values: joins, and functions that share the store. No condition. -/
namespace Go.Proofs.Ytfddkjoklcbjeaa.D
open Go Go.RowKit

section
variable {P : Program}
theorem gd_mono {g : Option (Nat × Bool)} {env : Env} {A B A' B' : Prop} (hA : A → A') (hB : B → B') (h : gd g env A B) : gd g env A' B' := by
  unfold gd at *
  split
  · exact hA h
  · obtain ⟨b, h1, h2, h3⟩ := h
    exact ⟨b, h1, fun e => hA (h2 e), fun e => hB (h3 e)⟩
theorem FnS_mono {f : FuncId} {args : List V} {ob : OB} {nid : Nat} {C C' : V → OB → Nat → Prop} (hC : ∀ r ob' n, C r ob' n → C' r ob' n) (h : FnS P f args ob nid C) : FnS P f args ob nid C' :=
  ⟨h.1, fun B n0 w own loc xs h1 h2 h3 h4 => (h.2 B n0 w own loc xs h1 h2 h3 h4).mono fun e w' ⟨x, r, ob', nid', own', loc', a1, a2, a3, a4, a5, a6⟩ => ⟨x, r, ob', nid', own', loc', a1, a2, a3, a4, a5, hC _ _ _ a6⟩⟩
theorem FnX_mono {f : FuncId} {args : List V} {ob : OB} {nid : Nat} {C C' : V → OB → Nat → Prop} (hC : ∀ r ob' n, C r ob' n → C' r ob' n) (h : FnX P f args ob nid C) : FnX P f args ob nid C' :=
  fun B n0 w own loc xs h1 h2 h3 h4 => let ⟨x, w', r, ob', nid', own', loc', a1, a2, a3, a4, a5, a6⟩ := h B n0 w own loc xs h1 h2 h3 h4; ⟨x, w', r, ob', nid', own', loc', a1, a2, a3, a4, a5, hC _ _ _ a6⟩
theorem stpR_mono {op : Ok} {vs : List V} {ob : OB} {nid : Nat} {C C' : V → OB → Nat → Prop} (hC : ∀ r ob' n, C r ob' n → C' r ob' n) (h : stpR P op vs ob nid C) : stpR P op vs ob nid C' := by
  cases op <;> first
    | exact h.imp (FnS_mono hC) (FnX_mono hC)
    | (obtain ⟨r, us, h1, h2⟩ := h; exact ⟨r, us, h1, hC _ _ _ h2⟩)
theorem wpS_mono : ∀ {l : List RO} {nid : Nat} {env : Env} {ob : OB} {J J' : Env → OB → Nat → Prop} (hJ : ∀ env ob n, J env ob n → J' env ob n), wpS P l nid env ob J → wpS P l nid env ob J'
  | [], nid, env, ob, J, J', hJ, h => hJ _ _ _ h
  | o :: l, nid, env, ob, J, J', hJ, h => by
    simp only [wpS] at h ⊢
    exact gd_mono (stpR_mono fun r ob' n h => wpS_mono hJ h) (wpS_mono hJ) h
theorem wpD_mono : ∀ {l : List RO} {nid : Nat} {env : Env} {ob : OB} {dl : Ups} {K K' : Env → OB → Prop} (hK : ∀ env ob, K env ob → K' env ob), wpD P l nid env ob dl K → wpD P l nid env ob dl K'
  | [], nid, env, ob, dl, K, K', hK, h => hK _ _ h
  | o :: l, nid, env, ob, dl, K, K', hK, h => by
    simp only [wpD] at h ⊢
    exact gd_mono (fun ⟨r, us, h1, h2⟩ => ⟨r, us, h1, wpD_mono hK h2⟩) (wpD_mono hK) h
theorem wpE_mono : ∀ {l : List RO} {nps : List (List Nat)} {nid : Nat} {env : Env} {ob : OB} {past : List (List Nat × Option (List Nat))} {K K' : Env → OB → Prop} (hK : ∀ env ob, K env ob → K' env ob), wpE P l nps nid env ob past K → wpE P l nps nid env ob past K'
  | [], nps, nid, env, ob, past, K, K', hK, h => hK _ _ h
  | o :: l, nps, nid, env, ob, past, K, K', hK, h => by
    simp only [wpE] at h ⊢
    exact gd_mono (fun ⟨r, us, h1, h2, h3⟩ => ⟨r, us, h1, h2, wpE_mono hK h3⟩) (wpE_mono hK) h
theorem wpC_mono : ∀ {c : IC} {Q Q' : Post} (hQ : ∀ e env ob n, Q e env ob n → Q' e env ob n) {env : Env} {ob : OB} {n : Nat}, wpC P c Q env ob n → wpC P c Q' env ob n := by
  intro c
  induction c with
  | skip => intro Q Q' hQ env ob n h; exact hQ _ _ _ _ h
  | rg l d =>
    intro Q Q' hQ env ob n h
    cases d with
    | false => exact wpS_mono (fun env ob n h => hQ _ _ _ _ h) h
    | true => exact wpD_mono (fun env ob h => hQ _ _ _ _ h) h
  | rb a o b =>
    intro Q Q' hQ env ob n h
    exact wpD_mono (fun env ob h => wpS_mono (fun env ob n h => wpD_mono (fun env ob h => hQ _ _ _ _ h) h) h) h
  | re m np =>
    intro Q Q' hQ env ob n h
    exact wpE_mono (fun env ob h => hQ _ _ _ _ h) h
  | sq a b iha ihb =>
    intro Q Q' hQ env ob n h
    refine iha (fun e env ob n h => ?_) h
    cases e with
    | nrm => exact ihb hQ h
    | ex i => exact hQ _ _ _ _ h
    | rt => exact hQ _ _ _ _ h
  | cn c a b iha ihb =>
    intro Q Q' hQ env ob n h
    simp only [wpC, cnd] at h ⊢
    split
    · rename_i t heq; rw [heq] at h; exact ⟨fun e => iha hQ (h.1 e), fun e => ihb hQ (h.2 e)⟩
    · rename_i heq; rw [heq] at h; exact ⟨iha hQ h.1, ihb hQ h.2⟩
    · rename_i h1 h2
      split at h
      · rename_i t heq; exact h1 t heq
      · rename_i heq; exact h2 heq
      · exact h
  | bl i a ih =>
    intro Q Q' hQ env ob n h
    refine ih (fun e env ob n h => ?_) h
    cases e with
    | ex j => simp only [blQ] at h ⊢; split <;> rename_i hj <;> simp only [hj, if_true, if_false] at h <;> exact hQ _ _ _ _ h
    | nrm => exact hQ _ _ _ _ h
    | rt => exact hQ _ _ _ _ h
  | lp a ih =>
    intro Q Q' hQ env ob n h
    obtain ⟨I, μ, h0, h1⟩ := h
    refine ⟨I, μ, h0, fun env ob n hI => ih (fun e env ob n h => ?_) (h1 env ob n hI)⟩
    cases e with
    | nrm => exact h
    | ex j => exact hQ _ _ _ _ h
    | rt => exact hQ _ _ _ _ h
  | ex i => intro Q Q' hQ env ob n h; exact hQ _ _ _ _ h
  | rt => intro Q Q' hQ env ob n h; exact hQ _ _ _ _ h

/-- A join: what holds behind the next piece of code. -/
def nJ (I : Env → OB → Nat → Prop) (Q : Post) : Post := thenQ I Q
theorem cut_C {A B : IC} {Q : Post} {env : Env} {ob : OB} {n : Nat} (I : Env → OB → Nat → Prop) (h1 : wpC P A (thenQ I Q) env ob n) (h2 : ∀ env ob n, I env ob n → wpC P B Q env ob n) : wpC P A (thenQ (wpC P B Q) Q) env ob n := by
  refine wpC_mono (fun e env ob n h => ?_) h1
  cases e with
  | nrm => exact h2 _ _ _ h
  | ex i => exact h
  | rt => exact h
theorem cut_S {A B : IC} {Q R : Post} {l : List RO} {env : Env} {ob : OB} {n : Nat} (I : Env → OB → Nat → Prop) (h1 : wpS P l n env ob (kS (thenQ (wpC P A (thenQ I Q)) R))) (h2 : ∀ env ob n, I env ob n → wpC P B Q env ob n) : wpS P l n env ob (kS (thenQ (wpC P (.sq A B) Q) R)) :=
  wpS_mono (fun env ob n h => cut_C I h h2) h1
/-- A join behind a call. -/
theorem cut_ca {A B : IC} {Q R : Post} {l : List RO} {f : Nat} {vs : List V} {m : Md} {d : Option Nat} {env : Env} {ob : OB} {n : Nat} (I : Env → OB → Nat → Prop) (h1 : caS P f vs m d l n env ob (kS (thenQ (wpC P A (thenQ I Q)) R))) (h2 : ∀ env ob n, I env ob n → wpC P B Q env ob n) : caS P f vs m d l n env ob (kS (thenQ (wpC P (.sq A B) Q) R)) := by
  obtain ⟨q, a1, a2, a3⟩ := h1
  exact ⟨q, a1, a2, cut_S I a3 h2⟩
theorem rcS_i {f : Nat} {vs : List V} {d : Option Nat} {l : List RO} {n : Nat} {env : Env} {ob : OB} {J : Env → OB → Nat → Prop} (h : FnS P f vs ob n fun r ob' n' => wpS P l n' (put env d r) ob' J) : rcS P f vs d l n env ob J := .inl h
theorem rcS_x {f : Nat} {vs : List V} {d : Option Nat} {l : List RO} {n : Nat} {env : Env} {ob : OB} {J : Env → OB → Nat → Prop} (h : FnX P f vs ob n fun r ob' n' => wpS P l n' (put env d r) ob' J) : rcS P f vs d l n env ob J := .inr h
end

section
variable {P : Program}
/-- What is behind the elements that are known: cells of whatever content. -/
theorem WF.grow [Bk] {n0 : Nat} {w : World} {own : Nat → Option Nat} {loc : Loc} {ob : OB} (hwf : WF n0 w own loc ob) {id : Nat} {o : Ob} (hob : ob id = some o) :
    ∃ c, o.l.length ≤ c ∧ (∀ c0, o.cap = some c0 → c0 = c) ∧ WF n0 w own loc (updO ob id (some ⟨o.k, o.l ++ List.replicate (c - o.l.length) (List.replicate o.k .u), some c⟩)) := by
  obtain ⟨p, hp, hor⟩ := hwf.has id o hob
  refine ⟨p.cap, hor.len, hor.cap, ⟨fun j x hx => ?_, hwf.owns, hwf.lt⟩⟩
  by_cases hj : j = id
  · subst hj
    rw [updO_s] at hx
    injection hx with hx; subst hx
    obtain ⟨cs, t, hm1, hm2⟩ := hor.mem
    refine ⟨p, hp, ⟨⟨cs, t, hm1, hm2⟩, hor.k, by simp; have := hor.len; omega, fun ch hch => ?_, fun i q v hv => ?_, fun c hc => by injection hc with hc; exact hc.symm⟩⟩
    · rcases List.mem_append.1 hch with h | h
      · exact hor.rows ch h
      · rw [List.eq_of_mem_replicate h]; simpa using hor.k
    · obtain ⟨r, h1, h2⟩ := el_some hv
      by_cases hi : i < o.l.length
      · rw [List.getElem?_append_left hi] at h1
        exact hor.cells i q v (el_mk h1 h2)
      · rw [List.getElem?_append_right (by omega)] at h1
        have hi2 : i - o.l.length < p.cap - o.l.length := by have := (List.getElem?_eq_some_iff.1 h1).1; simpa using this
        rw [List.getElem?_replicate, if_pos hi2] at h1
        injection h1 with h1; subst h1
        have hq : q < o.k := by have := (List.getElem?_eq_some_iff.1 h2).1; simpa using this
        rw [List.getElem?_replicate, if_pos hq] at h2
        injection h2 with h2; subst h2
        have hlt : p.base + i * p.k + q < cs.size := by
          have h3 : (i + 1) * p.k ≤ p.cap * p.k := Nat.mul_le_mul_right _ (by omega)
          rw [Nat.add_mul] at h3
          have := hor.k; omega
        exact ⟨cs[p.base + i * p.k + q], by simp [World.cell?, hm1, hlt], .u _⟩
  · rw [updO, if_neg hj] at hx
    exact hwf.has j x hx
theorem FnS_grow {f : FuncId} {args : List V} {ob : OB} {nid : Nat} {C : V → OB → Nat → Prop} {id : Nat} {o : Ob} (hob : ob id = some o)
    (h : ∀ c, o.l.length ≤ c → (∀ c0, o.cap = some c0 → c0 = c) → FnS P f args (updO ob id (some ⟨o.k, o.l ++ List.replicate (c - o.l.length) (List.replicate o.k .u), some c⟩)) nid C) (hcl : callable P f = true) : FnS P f args ob nid C := by
  refine ⟨hcl, fun B n0 w own loc xs h1 h2 h3 h4 => ?_⟩
  obtain ⟨c, hc1, hc2, hwf⟩ := h1.grow hob
  exact (h c hc1 hc2).2 B n0 w own loc xs hwf h2 h3 h4
/-- Less is known. -/
def Less (ob'' ob' : OB) : Prop := ∀ id o, ob'' id = some o → ∃ o', ob' id = some o' ∧ o.k = o'.k ∧ (∃ m, o.l = o'.l.take m) ∧ ∀ c, o.cap = some c → o'.cap = some c
theorem WF.less [Bk] {n0 : Nat} {w : World} {own : Nat → Option Nat} {loc : Loc} {ob' ob'' : OB} (hwf : WF n0 w own loc ob') (h : Less ob'' ob') : WF n0 w own loc ob'' := by
  refine ⟨fun id o ho => ?_, hwf.owns, hwf.lt⟩
  obtain ⟨o', h1, h2, ⟨m, h3⟩, h4⟩ := h id o ho
  obtain ⟨p, hp, hor⟩ := hwf.has id o' h1
  refine ⟨p, hp, ⟨hor.mem, by rw [h2]; exact hor.k, by rw [h3]; have := hor.len; simp; omega, fun ch hch => hor.rows ch (by rw [h3] at hch; exact List.mem_of_mem_take hch), fun i j v hv => hor.cells i j v ?_, fun c hc => hor.cap c (h4 c hc)⟩⟩
  rw [h3] at hv
  have := el_take_drop (l := o'.l) (a := 0) (n := m) (i := i) (j := j) (v := v) (by simpa using hv)
  simpa using this
theorem FnS_less {f : FuncId} {args : List V} {ob : OB} {nid : Nat} {C : V → OB → Nat → Prop} (h : FnS P f args ob nid fun r ob' n => ∃ ob'', Less ob'' ob' ∧ C r ob'' n) : FnS P f args ob nid C :=
  ⟨h.1, fun B n0 w own loc xs h1 h2 h3 h4 => (h.2 B n0 w own loc xs h1 h2 h3 h4).mono fun e w' ⟨x, r, ob', nid', own', loc', a1, a2, a3, a4, a5, ob'', a6, a7⟩ => ⟨x, r, ob'', nid', own', loc', a1, a2, a3.less a6, a4, a5, a7⟩⟩
end

end Go.Proofs.Ytfddkjoklcbjeaa.D
end
section
set_option linter.unusedVariables false
set_option maxRecDepth 100000
set_option linter.constructorNameAsVariable false
/- The functions, told over by a program of this session; Lean checks that they are the program's own. No condition. -/
namespace Go.Proofs.Ytfddkjoklcbjeaa.D
open Go Go.Proofs
-- raddle/raddlelaw15.PredExact
def c3 : IC := .sq (.rg [⟨(some 3), none, (.box (some 6)), [.t 0]⟩, ⟨(some 6), none, .mv, [.k (.c (.bool false))]⟩] false) (.sq (.sq (.rg [⟨(some 9), none, (.fa 3), [.t 3]⟩, ⟨(some 10), none, (.ld (some 3)), [.t 9]⟩, ⟨(some 11), none, (.bsl 3 [(.c (.int .i64 0)), (.c (.int .i64 0)), (.c (.string ⟨#[]⟩))] [0] 1 true), [.t 10]⟩, ⟨(some 12), none, (.call 7 .fz), [.t 11]⟩, ⟨(some 13), none, .mv, [.t 12]⟩, ⟨(some 14), (some (13, false)), .mv, [.t 1]⟩, ⟨(some 15), (some (13, false)), .len, [.t 14]⟩, ⟨(some 16), (some (13, false)), (.bin .gtr), [.t 15, .k (.c (.int .i64 40))]⟩, ⟨(some 17), none, .pick, [.t 13, .k (.c (.bool true)), .t 16]⟩, ⟨(some 18), none, .mv, [.t 17]⟩, ⟨(some 19), (some (18, false)), .mv, [.t 2]⟩, ⟨(some 20), (some (18, false)), (.call 8 .fz), [.t 19]⟩, ⟨(some 21), none, .pick, [.t 18, .k (.c (.bool true)), .t 20]⟩] false) (.cn (.t 21) (.sq (.rg [⟨(some 6), none, .mv, [.k (.c (.bool true))]⟩] false) (.rt)) (.skip))) (.sq (.rg [⟨(some 22), none, .mv, [.t 1]⟩, ⟨(some 23), none, (.call 9 .fz), [.t 22]⟩, ⟨(some 24), none, .mv, [.t 2]⟩, ⟨(some 25), none, (.call 10 .fz), [.t 24]⟩, ⟨(some 7), none, .mv, [.t 23]⟩, ⟨(some 8), none, .mv, [.t 25]⟩] false) (.sq (.rg [⟨(some 26), none, (.ld (some 6)), [.t 3]⟩, ⟨(some 27), none, .mv, [.t 7]⟩, ⟨(some 28), none, (.call 11 .fz), [.t 26, .t 27]⟩, ⟨(some 29), none, (.ld (some 6)), [.t 3]⟩, ⟨(some 30), none, .mv, [.t 1]⟩, ⟨(some 31), none, (.call 12 .fz), [.t 29, .t 30]⟩, ⟨(some 32), none, (.bin .eql), [.t 28, .t 31]⟩, ⟨(some 33), none, .mv, [.t 32]⟩, ⟨(some 34), (some (33, true)), (.ld (some 6)), [.t 3]⟩, ⟨(some 35), (some (33, true)), .mv, [.t 8]⟩, ⟨(some 36), (some (33, true)), (.call 13 .fz), [.t 34, .t 35]⟩, ⟨(some 37), (some (33, true)), (.ld (some 6)), [.t 3]⟩, ⟨(some 38), (some (33, true)), .mv, [.t 2]⟩, ⟨(some 39), (some (33, true)), (.call 14 .fz), [.t 37, .t 38]⟩, ⟨(some 40), (some (33, true)), (.bb .eql), [.t 36, .t 39]⟩, ⟨(some 41), none, .pick, [.t 33, .t 40, .k (.c (.bool false))]⟩, ⟨(some 42), none, .mv, [.t 41]⟩, ⟨(some 43), (some (42, true)), .mv, [.t 7]⟩, ⟨(some 44), (some (42, true)), .mv, [.t 1]⟩, ⟨(some 45), (some (42, true)), (.call 15 .fz), [.t 43, .t 44]⟩, ⟨(some 46), none, .pick, [.t 42, .t 45, .k (.c (.bool false))]⟩, ⟨(some 47), none, .mv, [.t 46]⟩, ⟨(some 48), (some (47, true)), .mv, [.t 8]⟩, ⟨(some 49), (some (47, true)), .mv, [.t 2]⟩, ⟨(some 50), (some (47, true)), (.call 16 .fz), [.t 48, .t 49]⟩, ⟨(some 51), none, .pick, [.t 47, .t 50, .k (.c (.bool false))]⟩, ⟨(some 52), none, .mv, [.t 51]⟩, ⟨(some 53), (some (52, true)), (.call 17 .fz), []⟩, ⟨(some 54), none, .pick, [.t 52, .t 53, .k (.c (.bool false))]⟩, ⟨(some 6), none, .mv, [.t 54]⟩] true) (.rt))))
theorem cf3 : compF Try.prog 3 c3 = some ⟨c3, [.t 6], 55⟩ := by kernel_rfl

-- raddle/raddlelaw15.PredThree
def c4 : IC := .sq (.rg [⟨(some 7), none, (.box (some 3)), [.t 3]⟩, ⟨(some 8), none, .mv, [.k (.c (.bool false))]⟩] false) (.sq (.sq (.rg [⟨(some 13), none, .mv, [.t 0]⟩, ⟨(some 14), none, (.call 8 .fz), [.t 13]⟩, ⟨(some 15), none, .mv, [.t 14]⟩, ⟨(some 16), (some (15, false)), .mv, [.t 0]⟩, ⟨(some 17), (some (15, false)), .len, [.t 16]⟩, ⟨(some 18), (some (15, false)), (.bin .eql), [.t 17, .k (.c (.int .i64 0))]⟩, ⟨(some 19), none, .pick, [.t 15, .k (.c (.bool true)), .t 18]⟩, ⟨(some 20), none, .mv, [.t 19]⟩, ⟨(some 21), (some (20, false)), (.ld (some 3)), [.t 7]⟩, ⟨(some 22), (some (20, false)), (.bsl 3 [(.c (.int .i64 0)), (.c (.int .i64 0)), (.c (.string ⟨#[]⟩))] [0] 1 true), [.t 21]⟩, ⟨(some 23), (some (20, false)), (.call 7 .fz), [.t 22]⟩, ⟨(some 24), none, .pick, [.t 20, .k (.c (.bool true)), .t 23]⟩] false) (.cn (.t 24) (.sq (.rg [⟨(some 8), none, .mv, [.k (.c (.bool true))]⟩] false) (.rt)) (.skip))) (.sq (.rg [⟨(some 25), none, .mv, [.t 1]⟩, ⟨(some 26), none, (.conv .u64), [.t 25]⟩, ⟨(some 27), none, .mv, [.t 0]⟩, ⟨(some 28), none, .len, [.t 27]⟩, ⟨(some 29), none, (.conv .u64), [.t 28]⟩, ⟨(some 30), none, (.bin .rem), [.t 26, .t 29]⟩, ⟨(some 31), none, (.conv .i64), [.t 30]⟩, ⟨(some 32), none, .mv, [.t 2]⟩, ⟨(some 33), none, (.conv .u64), [.t 32]⟩, ⟨(some 34), none, .mv, [.t 0]⟩, ⟨(some 35), none, .len, [.t 34]⟩, ⟨(some 36), none, (.conv .u64), [.t 35]⟩, ⟨(some 37), none, (.bin .rem), [.t 33, .t 36]⟩, ⟨(some 38), none, (.conv .i64), [.t 37]⟩, ⟨(some 1), none, .mv, [.t 31]⟩, ⟨(some 2), none, .mv, [.t 38]⟩] true) (.sq (.rg [⟨(some 39), none, .mv, [.t 1]⟩, ⟨(some 40), none, .mv, [.t 2]⟩, ⟨(some 41), none, (.bld [(.c (.int .i64 0)), (.c (.int .i64 0)), (.c (.int .i64 0)), (.c (.int .i64 0)), (.c (.int .i64 0)), (.c (.string ⟨#[]⟩))] [(0, 1), (1, 1), (2, 1)]), [.k (.c (.int .i64 4)), .t 39, .t 40]⟩, ⟨(some 42), none, .mv, [.t 0]⟩, ⟨(some 43), none, (.call 13 .fz), [.t 41, .t 42]⟩, ⟨(some 44), none, .mv, [.t 2]⟩, ⟨(some 45), none, .mv, [.t 1]⟩, ⟨(some 46), none, (.bld [(.c (.int .i64 0)), (.c (.int .i64 0)), (.c (.int .i64 0)), (.c (.int .i64 0)), (.c (.int .i64 0)), (.c (.string ⟨#[]⟩))] [(0, 1), (1, 1), (2, 1)]), [.k (.c (.int .i64 4)), .t 44, .t 45]⟩, ⟨(some 47), none, .mv, [.t 0]⟩, ⟨(some 48), none, (.call 13 .fz), [.t 46, .t 47]⟩, ⟨(some 49), none, .mv, [.t 1]⟩, ⟨(some 50), none, .mv, [.t 2]⟩, ⟨(some 51), none, (.bld [(.c (.int .i64 0)), (.c (.int .i64 0)), (.c (.int .i64 0)), (.c (.int .i64 0)), (.c (.int .i64 0)), (.c (.string ⟨#[]⟩))] [(0, 1), (1, 1), (2, 1)]), [.k (.c (.int .i64 3)), .t 49, .t 50]⟩, ⟨(some 52), none, .mv, [.t 0]⟩, ⟨(some 53), none, (.call 13 .fz), [.t 51, .t 52]⟩, ⟨(some 54), none, (.bsl 1 [(.c (.bool false))] [0, 1, 2] 3 true), [.t 43, .t 48, .t 53]⟩, ⟨(some 55), none, (.call 18 .fz), [.t 54]⟩, ⟨(some 9), none, .mv, [.t 55]⟩] false) (.sq (.rg [⟨(some 56), none, .mv, [.t 1]⟩, ⟨(some 57), none, (.bld [(.c (.int .i64 0)), (.c (.int .i64 0)), (.c (.int .i64 0)), (.c (.int .i64 0)), (.c (.int .i64 0)), (.c (.string ⟨#[]⟩))] [(0, 1), (1, 1)]), [.k (.c (.int .i64 5)), .t 56]⟩, ⟨(some 58), none, .mv, [.t 0]⟩, ⟨(some 59), none, (.call 13 .fz), [.t 57, .t 58]⟩, ⟨(some 60), none, .mv, [.t 1]⟩, ⟨(some 61), none, (.bld [(.c (.int .i64 0)), (.c (.int .i64 0)), (.c (.int .i64 0)), (.c (.int .i64 0)), (.c (.int .i64 0)), (.c (.string ⟨#[]⟩))] [(0, 1), (1, 1)]), [.k (.c (.int .i64 6)), .t 60]⟩, ⟨(some 62), none, .mv, [.t 0]⟩, ⟨(some 63), none, (.call 13 .fz), [.t 61, .t 62]⟩, ⟨(some 64), none, (.bsl 1 [(.c (.bool false))] [0, 1] 2 true), [.t 59, .t 63]⟩, ⟨(some 65), none, (.call 18 .fz), [.t 64]⟩, ⟨(some 10), none, .mv, [.t 65]⟩] false) (.sq (.rg [⟨(some 66), none, .mv, [.t 1]⟩, ⟨(some 67), none, (.ld (some 3)), [.t 7]⟩, ⟨(some 68), none, (.bld [(.c (.int .i64 0)), (.c (.int .i64 0)), (.c (.int .i64 0)), (.c (.int .i64 0)), (.c (.int .i64 0)), (.c (.string ⟨#[]⟩))] [(0, 1), (1, 1), (3, 3)]), [.k (.c (.int .i64 2)), .t 66, .t 67]⟩, ⟨(some 69), none, .mv, [.t 0]⟩, ⟨(some 70), none, (.call 13 .fz), [.t 68, .t 69]⟩, ⟨(some 71), none, .mv, [.t 1]⟩, ⟨(some 72), none, (.ld (some 3)), [.t 7]⟩, ⟨(some 73), none, (.bld [(.c (.int .i64 0)), (.c (.int .i64 0)), (.c (.int .i64 0)), (.c (.int .i64 0)), (.c (.int .i64 0)), (.c (.string ⟨#[]⟩))] [(0, 1), (1, 1), (3, 3)]), [.k (.c (.int .i64 1)), .t 71, .t 72]⟩, ⟨(some 74), none, .mv, [.t 0]⟩, ⟨(some 75), none, (.call 13 .fz), [.t 73, .t 74]⟩, ⟨(some 11), none, .mv, [.t 70]⟩, ⟨(some 12), none, .mv, [.t 75]⟩] true) (.sq (.rg [⟨(some 76), none, .mv, [.t 9]⟩, ⟨(some 77), none, (.bin .eql), [.t 76, .k (.c (.int .i64 1))]⟩, ⟨(some 78), none, .mv, [.t 77]⟩, ⟨(some 79), (some (78, true)), .mv, [.t 10]⟩, ⟨(some 80), (some (78, true)), (.bin .eql), [.t 79, .k (.c (.int .i64 1))]⟩, ⟨(some 81), none, .pick, [.t 78, .t 80, .k (.c (.bool false))]⟩, ⟨(some 82), none, .mv, [.t 81]⟩, ⟨(some 83), (some (82, true)), .mv, [.t 11]⟩, ⟨(some 84), (some (82, true)), .mv, [.t 83]⟩, ⟨(some 85), (some (84, true)), .mv, [.t 12]⟩, ⟨(some 86), (some (82, true)), .pick, [.t 84, .t 85, .k (.c (.bool false))]⟩, ⟨(some 87), (some (82, true)), (.un .not), [.t 86]⟩, ⟨(some 88), none, .pick, [.t 82, .t 87, .k (.c (.bool false))]⟩, ⟨(some 89), none, .mv, [.t 88]⟩, ⟨(some 90), (some (89, true)), .mv, [.t 12]⟩, ⟨(some 91), (some (89, true)), .mv, [.t 0]⟩, ⟨(some 92), (some (89, true)), .mv, [.t 1]⟩, ⟨(some 93), (some (89, true)), (.ia 3), [.t 91, .t 92]⟩, ⟨(some 94), (some (89, true)), (.ld (some 3)), [.t 93]⟩, ⟨(some 95), (some (89, true)), (.ld (some 3)), [.t 7]⟩, ⟨(some 96), (some (89, true)), (.call 19 .fz), [.t 94, .t 95]⟩, ⟨(some 97), (some (89, true)), (.bb .eql), [.t 90, .t 96]⟩, ⟨(some 98), none, .pick, [.t 89, .t 97, .k (.c (.bool false))]⟩, ⟨(some 99), none, .mv, [.t 98]⟩, ⟨(some 100), (some (99, true)), .mv, [.t 1]⟩, ⟨(some 101), (some (99, true)), .mv, [.t 2]⟩, ⟨(some 102), (some (99, true)), (.bld [(.c (.int .i64 0)), (.c (.int .i64 0)), (.c (.int .i64 0)), (.c (.int .i64 0)), (.c (.int .i64 0)), (.c (.string ⟨#[]⟩))] [(0, 1), (1, 1), (2, 1)]), [.k (.c (.int .i64 3)), .t 100, .t 101]⟩, ⟨(some 103), (some (99, true)), .mv, [.t 0]⟩, ⟨(some 104), (some (99, true)), (.call 13 .fz), [.t 102, .t 103]⟩, ⟨(some 105), (some (99, true)), .mv, [.t 0]⟩, ⟨(some 106), (some (99, true)), .mv, [.t 1]⟩, ⟨(some 107), (some (99, true)), (.ia 3), [.t 105, .t 106]⟩, ⟨(some 108), (some (99, true)), (.ld (some 3)), [.t 107]⟩, ⟨(some 109), (some (99, true)), .mv, [.t 0]⟩, ⟨(some 110), (some (99, true)), .mv, [.t 2]⟩, ⟨(some 111), (some (99, true)), (.ia 3), [.t 109, .t 110]⟩, ⟨(some 112), (some (99, true)), (.ld (some 3)), [.t 111]⟩, ⟨(some 113), (some (99, true)), (.call 19 .fz), [.t 108, .t 112]⟩, ⟨(some 114), (some (99, true)), (.bb .eql), [.t 104, .t 113]⟩, ⟨(some 115), none, .pick, [.t 99, .t 114, .k (.c (.bool false))]⟩, ⟨(some 116), none, .mv, [.t 115]⟩, ⟨(some 117), (some (116, true)), .mv, [.t 0]⟩, ⟨(some 118), (some (116, true)), .len, [.t 117]⟩, ⟨(some 119), (some (116, true)), (.bld [(.c (.int .i64 0)), (.c (.int .i64 0)), (.c (.int .i64 0)), (.c (.int .i64 0)), (.c (.int .i64 0)), (.c (.string ⟨#[]⟩))] [(0, 1), (1, 1)]), [.k (.c (.int .i64 5)), .t 118]⟩, ⟨(some 120), (some (116, true)), .mv, [.t 0]⟩, ⟨(some 121), (some (116, true)), (.call 13 .fz), [.t 119, .t 120]⟩, ⟨(some 122), (some (116, true)), (.un .not), [.t 121]⟩, ⟨(some 123), none, .pick, [.t 116, .t 122, .k (.c (.bool false))]⟩, ⟨(some 124), none, .mv, [.t 123]⟩, ⟨(some 125), (some (124, true)), (.bld [(.c (.int .i64 0)), (.c (.int .i64 0)), (.c (.int .i64 0)), (.c (.int .i64 0)), (.c (.int .i64 0)), (.c (.string ⟨#[]⟩))] [(0, 1), (1, 1)]), [.k (.c (.int .i64 6)), .k (.c (.int .i64 (-1)))]⟩, ⟨(some 126), (some (124, true)), .mv, [.t 0]⟩, ⟨(some 127), (some (124, true)), (.call 13 .fz), [.t 125, .t 126]⟩, ⟨(some 128), (some (124, true)), (.un .not), [.t 127]⟩, ⟨(some 129), none, .pick, [.t 124, .t 128, .k (.c (.bool false))]⟩, ⟨(some 130), none, .mv, [.t 129]⟩, ⟨(some 131), (some (130, true)), (.call 17 .fz), []⟩, ⟨(some 132), none, .pick, [.t 130, .t 131, .k (.c (.bool false))]⟩, ⟨(some 8), none, .mv, [.t 132]⟩] true) (.rt)))))))
theorem cf4 : compF Try.prog 4 c4 = some ⟨c4, [.t 8], 133⟩ := by kernel_rfl

-- raddle/raddlelaw15.PredNulls
def c5 : IC := .sq (.rg [⟨(some 5), none, (.box (some 3)), [.t 2]⟩, ⟨(some 6), none, .mv, [.k (.c (.bool false))]⟩] false) (.sq (.sq (.rg [⟨(some 12), none, .mv, [.t 0]⟩, ⟨(some 13), none, .len, [.t 12]⟩, ⟨(some 14), none, (.bin .eql), [.t 13, .k (.c (.int .i64 0))]⟩, ⟨(some 15), none, .mv, [.t 14]⟩, ⟨(some 16), (some (15, false)), .mv, [.t 0]⟩, ⟨(some 17), (some (15, false)), .len, [.t 16]⟩, ⟨(some 18), (some (15, false)), (.bin .gtr), [.t 17, .k (.c (.int .i64 12))]⟩, ⟨(some 19), none, .pick, [.t 15, .k (.c (.bool true)), .t 18]⟩, ⟨(some 20), none, .mv, [.t 19]⟩, ⟨(some 21), (some (20, false)), (.ld (some 3)), [.t 5]⟩, ⟨(some 22), (some (20, false)), (.bsl 3 [(.c (.int .i64 0)), (.c (.int .i64 0)), (.c (.string ⟨#[]⟩))] [0] 1 true), [.t 21]⟩, ⟨(some 23), (some (20, false)), (.call 7 .fz), [.t 22]⟩, ⟨(some 24), none, .pick, [.t 20, .k (.c (.bool true)), .t 23]⟩, ⟨(some 25), none, .mv, [.t 24]⟩, ⟨(some 26), (some (25, false)), (.ld (some 3)), [.t 5]⟩, ⟨(some 27), (some (25, false)), (.call 20 .fz), [.t 26]⟩, ⟨(some 28), (some (25, false)), (.un .not), [.t 27]⟩, ⟨(some 29), none, .pick, [.t 25, .k (.c (.bool true)), .t 28]⟩] false) (.cn (.t 29) (.sq (.rg [⟨(some 6), none, .mv, [.k (.c (.bool true))]⟩] false) (.rt)) (.skip))) (.sq (.rg [⟨(some 30), none, .mv, [.t 1]⟩, ⟨(some 31), none, (.conv .u64), [.t 30]⟩, ⟨(some 32), none, .mv, [.t 0]⟩, ⟨(some 33), none, .len, [.t 32]⟩, ⟨(some 34), none, (.conv .u64), [.t 33]⟩, ⟨(some 35), none, (.bin .rem), [.t 31, .t 34]⟩, ⟨(some 36), none, (.conv .i64), [.t 35]⟩, ⟨(some 1), none, .mv, [.t 36]⟩] false) (.sq (.rg [⟨(some 37), none, .mv, [.t 0]⟩, ⟨(some 38), none, .len, [.t 37]⟩, ⟨(some 39), none, (.mks 3 [(.c (.int .i64 0)), (.c (.int .i64 0)), (.c (.string ⟨#[]⟩))] false), [.t 38, .t 38]⟩, ⟨(some 7), none, .mv, [.t 39]⟩] false) (.sq (.sq (.rg [⟨(some 8), none, .mv, [.k (.c (.int .i64 0))]⟩] false) (.bl 0 (.lp (.sq (.sq (.rg [⟨(some 40), none, .mv, [.t 8]⟩, ⟨(some 41), none, .mv, [.t 7]⟩, ⟨(some 42), none, .len, [.t 41]⟩, ⟨(some 43), none, (.bin .lss), [.t 40, .t 42]⟩] false) (.cn (.t 43) (.skip) (.ex 0))) (.sq (.bl 1 (.rg [⟨(some 46), none, .mv, [.t 7]⟩, ⟨(some 47), none, .mv, [.t 8]⟩, ⟨(some 48), none, (.bld [(.c (.int .i64 0)), (.c (.int .i64 0)), (.c (.string ⟨#[]⟩))] [(0, 1)]), [.k (.c (.int .i64 1))]⟩, ⟨(some 49), none, (.ia 3), [.t 46, .t 47]⟩, ⟨none, none, (.st 3), [.t 49, .t 48]⟩] false)) (.rg [⟨(some 44), none, .mv, [.t 8]⟩, ⟨(some 45), none, (.bin .add), [.t 44, .k (.c (.int .i64 1))]⟩, ⟨(some 8), none, .mv, [.t 45]⟩] false)))))) (.sq (.rg [⟨(some 50), none, (.bld [(.c (.int .i64 0)), (.c (.int .i64 0)), (.c (.string ⟨#[]⟩))] [(0, 1)]), [.k (.c (.int .i64 1))]⟩, ⟨(some 9), none, (.alloc [(.c (.int .i64 0)), (.c (.int .i64 0)), (.c (.string ⟨#[]⟩))]), []⟩, ⟨none, none, (.st 3), [.t 9, .t 50]⟩] false) (.sq (.re [⟨(some 51), none, .mv, [.t 1]⟩, ⟨(some 52), none, (.ld (some 3)), [.t 9]⟩, ⟨(some 53), none, (.bld [(.c (.int .i64 0)), (.c (.int .i64 0)), (.c (.int .i64 0)), (.c (.int .i64 0)), (.c (.int .i64 0)), (.c (.string ⟨#[]⟩))] [(0, 1), (1, 1), (3, 3)]), [.k (.c (.int .i64 1)), .t 51, .t 52]⟩, ⟨(some 54), none, .mv, [.t 1]⟩, ⟨(some 55), none, (.ld (some 3)), [.t 9]⟩, ⟨(some 56), none, (.bld [(.c (.int .i64 0)), (.c (.int .i64 0)), (.c (.int .i64 0)), (.c (.int .i64 0)), (.c (.int .i64 0)), (.c (.string ⟨#[]⟩))] [(0, 1), (1, 1), (3, 3)]), [.k (.c (.int .i64 2)), .t 54, .t 55]⟩, ⟨(some 10), none, (.alloc [(.c (.int .i64 0)), (.c (.int .i64 0)), (.c (.int .i64 0)), (.c (.int .i64 0)), (.c (.int .i64 0)), (.c (.string ⟨#[]⟩))]), []⟩, ⟨(some 11), none, (.alloc [(.c (.int .i64 0)), (.c (.int .i64 0)), (.c (.int .i64 0)), (.c (.int .i64 0)), (.c (.int .i64 0)), (.c (.string ⟨#[]⟩))]), []⟩, ⟨none, none, (.st 6), [.t 10, .t 53]⟩, ⟨none, none, (.st 6), [.t 11, .t 56]⟩] [[], [], [], [], [], [], [1, 4], [1, 4, 6], [4], []]) (.sq (.sq (.rg [⟨(some 57), none, (.ld (some 6)), [.t 10]⟩, ⟨(some 58), none, .mv, [.t 7]⟩, ⟨(some 59), none, (.call 13 .fz), [.t 57, .t 58]⟩, ⟨(some 60), none, (.un .not), [.t 59]⟩, ⟨(some 61), none, .mv, [.t 60]⟩, ⟨(some 62), (some (61, false)), (.ld (some 6)), [.t 11]⟩, ⟨(some 63), (some (61, false)), .mv, [.t 7]⟩, ⟨(some 64), (some (61, false)), (.call 13 .fz), [.t 62, .t 63]⟩, ⟨(some 65), none, .pick, [.t 61, .k (.c (.bool true)), .t 64]⟩, ⟨(some 66), none, .mv, [.t 65]⟩, ⟨(some 67), (some (66, false)), .mv, [.t 1]⟩, ⟨(some 68), (some (66, false)), (.ld (some 3)), [.t 5]⟩, ⟨(some 69), (some (66, false)), (.bld [(.c (.int .i64 0)), (.c (.int .i64 0)), (.c (.int .i64 0)), (.c (.int .i64 0)), (.c (.int .i64 0)), (.c (.string ⟨#[]⟩))] [(0, 1), (1, 1), (3, 3)]), [.k (.c (.int .i64 2)), .t 67, .t 68]⟩, ⟨(some 70), (some (66, false)), .mv, [.t 7]⟩, ⟨(some 71), (some (66, false)), (.call 13 .fz), [.t 69, .t 70]⟩, ⟨(some 72), (some (66, false)), (.fa 0), [.t 5]⟩, ⟨(some 73), (some (66, false)), (.ld none), [.t 72]⟩, ⟨(some 74), (some (66, false)), (.bin .neq), [.t 73, .k (.c (.int .i64 1))]⟩, ⟨(some 75), (some (66, false)), (.bb .neq), [.t 71, .t 74]⟩, ⟨(some 76), none, .pick, [.t 66, .k (.c (.bool true)), .t 75]⟩] true) (.cn (.t 76) (.sq (.rg [⟨(some 6), none, .mv, [.k (.c (.bool false))]⟩] false) (.rt)) (.skip))) (.sq (.rg [⟨(some 77), none, .mv, [.t 7]⟩, ⟨(some 78), none, .mv, [.t 1]⟩, ⟨(some 79), none, (.ld (some 3)), [.t 5]⟩, ⟨(some 80), none, (.ia 3), [.t 77, .t 78]⟩, ⟨none, none, (.st 3), [.t 80, .t 79]⟩] false) (.sq (.sq (.rg [⟨(some 81), none, (.ld (some 6)), [.t 10]⟩, ⟨(some 82), none, .mv, [.t 7]⟩, ⟨(some 83), none, (.call 13 .fz), [.t 81, .t 82]⟩, ⟨(some 84), none, (.fa 0), [.t 5]⟩, ⟨(some 85), none, (.ld none), [.t 84]⟩, ⟨(some 86), none, (.bin .eql), [.t 85, .k (.c (.int .i64 1))]⟩, ⟨(some 87), none, (.bb .neq), [.t 83, .t 86]⟩, ⟨(some 88), none, .mv, [.t 87]⟩, ⟨(some 89), (some (88, false)), (.ld (some 6)), [.t 11]⟩, ⟨(some 90), (some (88, false)), .mv, [.t 7]⟩, ⟨(some 91), (some (88, false)), (.call 13 .fz), [.t 89, .t 90]⟩, ⟨(some 92), none, .pick, [.t 88, .k (.c (.bool true)), .t 91]⟩, ⟨(some 93), none, .mv, [.t 92]⟩, ⟨(some 94), (some (93, false)), .mv, [.t 1]⟩, ⟨(some 95), (some (93, false)), (.bld [(.c (.int .i64 0)), (.c (.int .i64 0)), (.c (.int .i64 0)), (.c (.int .i64 0)), (.c (.int .i64 0)), (.c (.string ⟨#[]⟩))] [(0, 1), (1, 1)]), [.k (.c (.int .i64 5)), .t 94]⟩, ⟨(some 96), (some (93, false)), .mv, [.t 7]⟩, ⟨(some 97), (some (93, false)), (.call 13 .fz), [.t 95, .t 96]⟩, ⟨(some 98), (some (93, false)), (.fa 0), [.t 5]⟩, ⟨(some 99), (some (93, false)), (.ld none), [.t 98]⟩, ⟨(some 100), (some (93, false)), (.bin .eql), [.t 99, .k (.c (.int .i64 1))]⟩, ⟨(some 101), (some (93, false)), (.bb .neq), [.t 97, .t 100]⟩, ⟨(some 102), none, .pick, [.t 93, .k (.c (.bool true)), .t 101]⟩] true) (.cn (.t 102) (.sq (.rg [⟨(some 6), none, .mv, [.k (.c (.bool false))]⟩] false) (.rt)) (.skip))) (.sq (.sq (.rg [⟨(some 103), none, .mv, [.t 0]⟩, ⟨(some 104), none, .mv, [.t 1]⟩, ⟨(some 105), none, (.ia 1), [.t 103, .t 104]⟩, ⟨(some 106), none, (.ld none), [.t 105]⟩, ⟨(some 107), none, (.bin .lss), [.t 106, .k (.c (.int .i64 2))]⟩, ⟨(some 108), none, .mv, [.t 107]⟩, ⟨(some 109), (some (108, false)), .mv, [.t 0]⟩, ⟨(some 110), (some (108, false)), .mv, [.t 1]⟩, ⟨(some 111), (some (108, false)), (.ia 1), [.t 109, .t 110]⟩, ⟨(some 112), (some (108, false)), (.ld none), [.t 111]⟩, ⟨(some 113), (some (108, false)), (.bin .gtr), [.t 112, .k (.c (.int .i64 4))]⟩, ⟨(some 114), none, .pick, [.t 108, .k (.c (.bool true)), .t 113]⟩] false) (.cn (.t 114) (.sq (.rg [⟨(some 115), none, (.call 17 .fz), []⟩, ⟨(some 6), none, .mv, [.t 115]⟩] false) (.rt)) (.skip))) (.sq (.rg [⟨(some 116), none, (.ld (some 6)), [.t 10]⟩, ⟨(some 117), none, .mv, [.t 0]⟩, ⟨(some 118), none, (.call 11 .fz), [.t 116, .t 117]⟩, ⟨(some 119), none, (.bin .eql), [.t 118, .k (.c (.int .i64 0))]⟩, ⟨(some 120), none, .mv, [.t 119]⟩, ⟨(some 121), (some (120, true)), (.ld (some 6)), [.t 11]⟩, ⟨(some 122), (some (120, true)), .mv, [.t 0]⟩, ⟨(some 123), (some (120, true)), (.call 11 .fz), [.t 121, .t 122]⟩, ⟨(some 124), (some (120, true)), (.bin .eql), [.t 123, .k (.c (.int .i64 0))]⟩, ⟨(some 125), none, .pick, [.t 120, .t 124, .k (.c (.bool false))]⟩, ⟨(some 126), none, .mv, [.t 125]⟩, ⟨(some 127), (some (126, true)), (.call 17 .fz), []⟩, ⟨(some 128), none, .pick, [.t 126, .t 127, .k (.c (.bool false))]⟩, ⟨(some 6), none, .mv, [.t 128]⟩] false) (.rt))))))))))))
theorem cf5 : compF Try.prog 5 c5 = some ⟨c5, [.t 6], 129⟩ := by kernel_rfl

-- raddle/raddlelaw15.PredBent
def c6 : IC := .sq (.rg [⟨(some 6), none, .mv, [.k (.c (.bool false))]⟩] false) (.sq (.sq (.rg [⟨(some 10), none, .mv, [.t 0]⟩, ⟨(some 11), none, .len, [.t 10]⟩, ⟨(some 12), none, (.bin .eql), [.t 11, .k (.c (.int .i64 0))]⟩, ⟨(some 13), none, .mv, [.t 12]⟩, ⟨(some 14), (some (13, false)), .mv, [.t 0]⟩, ⟨(some 15), (some (13, false)), .len, [.t 14]⟩, ⟨(some 16), (some (13, false)), (.bin .gtr), [.t 15, .k (.c (.int .i64 12))]⟩, ⟨(some 17), none, .pick, [.t 13, .k (.c (.bool true)), .t 16]⟩] false) (.cn (.t 17) (.sq (.rg [⟨(some 6), none, .mv, [.k (.c (.bool true))]⟩] false) (.rt)) (.skip))) (.sq (.sq (.rg [⟨(some 7), none, .mv, [.k (.c (.int .i64 0))]⟩] false) (.bl 0 (.lp (.sq (.sq (.rg [⟨(some 18), none, .mv, [.t 7]⟩, ⟨(some 19), none, .mv, [.t 0]⟩, ⟨(some 20), none, .len, [.t 19]⟩, ⟨(some 21), none, (.bin .lss), [.t 18, .t 20]⟩] false) (.cn (.t 21) (.skip) (.ex 0))) (.sq (.bl 1 (.sq (.rg [⟨(some 24), none, .mv, [.t 0]⟩, ⟨(some 25), none, .mv, [.t 7]⟩, ⟨(some 26), none, (.ia 1), [.t 24, .t 25]⟩, ⟨(some 27), none, (.ld none), [.t 26]⟩, ⟨(some 28), none, (.bin .lss), [.t 27, .k (.c (.int .i64 2))]⟩, ⟨(some 29), none, .mv, [.t 28]⟩, ⟨(some 30), (some (29, false)), .mv, [.t 0]⟩, ⟨(some 31), (some (29, false)), .mv, [.t 7]⟩, ⟨(some 32), (some (29, false)), (.ia 1), [.t 30, .t 31]⟩, ⟨(some 33), (some (29, false)), (.ld none), [.t 32]⟩, ⟨(some 34), (some (29, false)), (.bin .gtr), [.t 33, .k (.c (.int .i64 4))]⟩, ⟨(some 35), none, .pick, [.t 29, .k (.c (.bool true)), .t 34]⟩] false) (.cn (.t 35) (.sq (.rg [⟨(some 6), none, .mv, [.k (.c (.bool true))]⟩] false) (.rt)) (.skip)))) (.rg [⟨(some 22), none, .mv, [.t 7]⟩, ⟨(some 23), none, (.bin .add), [.t 22, .k (.c (.int .i64 1))]⟩, ⟨(some 7), none, .mv, [.t 23]⟩] false)))))) (.sq (.rg [⟨(some 36), none, .mv, [.t 1]⟩, ⟨(some 37), none, (.conv .u64), [.t 36]⟩, ⟨(some 38), none, .mv, [.t 0]⟩, ⟨(some 39), none, .len, [.t 38]⟩, ⟨(some 40), none, (.conv .u64), [.t 39]⟩, ⟨(some 41), none, (.bin .rem), [.t 37, .t 40]⟩, ⟨(some 42), none, (.conv .i64), [.t 41]⟩, ⟨(some 1), none, .mv, [.t 42]⟩] false) (.sq (.rg [⟨(some 43), none, .mv, [.t 1]⟩, ⟨(some 44), none, (.bld [(.c (.int .i64 0)), (.c (.int .i64 0)), (.c (.int .i64 0)), (.c (.int .i64 0)), (.c (.int .i64 0)), (.c (.string ⟨#[]⟩))] [(0, 1), (1, 1)]), [.k (.c (.int .i64 6)), .t 43]⟩, ⟨(some 8), none, (.alloc [(.c (.int .i64 0)), (.c (.int .i64 0)), (.c (.int .i64 0)), (.c (.int .i64 0)), (.c (.int .i64 0)), (.c (.string ⟨#[]⟩))]), []⟩, ⟨none, none, (.st 6), [.t 8, .t 44]⟩] false) (.sq (.sq (.rg [⟨(some 45), none, (.ld (some 6)), [.t 8]⟩, ⟨(some 46), none, .mv, [.t 0]⟩, ⟨(some 47), none, (.call 11 .fz), [.t 45, .t 46]⟩, ⟨(some 48), none, (.bin .neq), [.t 47, .k (.c (.int .i64 0))]⟩] false) (.cn (.t 48) (.sq (.rg [⟨(some 6), none, .mv, [.k (.c (.bool false))]⟩] false) (.rt)) (.skip))) (.sq (.rg [⟨(some 9), none, .mv, [.k (.c (.int .i64 1))]⟩] false) (.sq (.sq (.rg [⟨(some 49), none, .mv, [.t 2]⟩, ⟨(some 50), none, (.conv .u64), [.t 49]⟩, ⟨(some 51), none, (.bin .rem), [.t 50, .k (.c (.int .u64 5))]⟩] false) (.bl 2 (.sq (.rg [⟨(some 64), none, (.bin .eql), [.t 51, .k (.c (.int .u64 0))]⟩, ⟨(some 63), none, .mv, [.t 64]⟩] false) (.cn (.t 63) (.rg [⟨(some 65), none, .mv, [.t 0]⟩, ⟨(some 66), none, .len, [.t 65]⟩, ⟨(some 67), none, (.fa 1), [.t 8]⟩, ⟨none, none, (.st 1), [.t 67, .t 66]⟩] false) (.sq (.rg [⟨(some 69), none, (.bin .eql), [.t 51, .k (.c (.int .u64 1))]⟩, ⟨(some 68), none, .mv, [.t 69]⟩] false) (.cn (.t 68) (.rg [⟨(some 70), none, (.fa 0), [.t 8]⟩, ⟨none, none, (.st 1), [.t 70, .k (.c (.int .i64 7))]⟩] false) (.sq (.rg [⟨(some 72), none, (.bin .eql), [.t 51, .k (.c (.int .u64 2))]⟩, ⟨(some 71), none, .mv, [.t 72]⟩] false) (.cn (.t 71) (.rg [⟨(some 73), none, (.fa 0), [.t 8]⟩, ⟨none, none, (.st 1), [.t 73, .k (.c (.int .i64 0))]⟩] false) (.sq (.rg [⟨(some 75), none, (.bin .eql), [.t 51, .k (.c (.int .u64 3))]⟩, ⟨(some 74), none, .mv, [.t 75]⟩] false) (.cn (.t 74) (.rg [⟨(some 76), none, .mv, [.t 1]⟩, ⟨(some 77), none, (.bld [(.c (.int .i64 0)), (.c (.int .i64 0)), (.c (.int .i64 0)), (.c (.int .i64 0)), (.c (.int .i64 0)), (.c (.string ⟨#[]⟩))] [(0, 1), (1, 1), (2, 1)]), [.k (.c (.int .i64 3)), .t 76, .k (.c (.int .i64 (-1)))]⟩, ⟨none, none, (.st 6), [.t 8, .t 77]⟩] false) (.sq (.rg [⟨(some 52), none, .mv, [.t 1]⟩, ⟨(some 53), none, .mv, [.t 0]⟩, ⟨(some 54), none, .mv, [.t 1]⟩, ⟨(some 55), none, (.ia 1), [.t 53, .t 54]⟩, ⟨(some 56), none, (.ld none), [.t 55]⟩, ⟨(some 57), none, (.bin .sub), [.t 56, .k (.c (.int .i64 2))]⟩, ⟨(some 58), none, (.bin .add), [.t 57, .k (.c (.int .i64 1))]⟩, ⟨(some 59), none, (.bin .rem), [.t 58, .k (.c (.int .i64 3))]⟩, ⟨(some 60), none, (.bin .add), [.k (.c (.int .i64 2)), .t 59]⟩, ⟨(some 61), none, (.bld [(.c (.int .i64 0)), (.c (.int .i64 0)), (.c (.string ⟨#[]⟩))] [(0, 1)]), [.t 60]⟩, ⟨(some 62), none, (.bld [(.c (.int .i64 0)), (.c (.int .i64 0)), (.c (.int .i64 0)), (.c (.int .i64 0)), (.c (.int .i64 0)), (.c (.string ⟨#[]⟩))] [(0, 1), (1, 1), (3, 3)]), [.k (.c (.int .i64 1)), .t 52, .t 61]⟩, ⟨none, none, (.st 6), [.t 8, .t 62]⟩] false) (.rg [⟨(some 9), none, .mv, [.k (.c (.int .i64 10))]⟩] false)))))))))))) (.sq (.rg [⟨(some 78), none, (.ld (some 6)), [.t 8]⟩, ⟨(some 79), none, .mv, [.t 0]⟩, ⟨(some 80), none, (.call 11 .fz), [.t 78, .t 79]⟩, ⟨(some 81), none, .mv, [.t 9]⟩, ⟨(some 82), none, (.bin .eql), [.t 80, .t 81]⟩, ⟨(some 83), none, .mv, [.t 82]⟩, ⟨(some 84), (some (83, true)), (.call 17 .fz), []⟩, ⟨(some 85), none, .pick, [.t 83, .t 84, .k (.c (.bool false))]⟩, ⟨(some 6), none, .mv, [.t 85]⟩] false) (.rt)))))))))
theorem cf6 : compF Try.prog 6 c6 = some ⟨c6, [.t 6], 86⟩ := by kernel_rfl

-- raddle/raddlelaw03.Long
def c7 : IC := .sq (.rg [⟨(some 2), none, .mv, [.k (.c (.bool false))]⟩] false) (.sq (.sq (.rg [⟨(some 3), none, .mv, [.k (.c (.int .i64 0))]⟩] false) (.bl 0 (.lp (.sq (.sq (.rg [⟨(some 4), none, .mv, [.t 3]⟩, ⟨(some 5), none, .mv, [.t 0]⟩, ⟨(some 6), none, .len, [.t 5]⟩, ⟨(some 7), none, (.bin .lss), [.t 4, .t 6]⟩] false) (.cn (.t 7) (.skip) (.ex 0))) (.sq (.bl 1 (.sq (.rg [⟨(some 10), none, .mv, [.t 0]⟩, ⟨(some 11), none, .mv, [.t 3]⟩, ⟨(some 12), none, (.ia 3), [.t 10, .t 11]⟩, ⟨(some 13), none, (.fa 2), [.t 12]⟩, ⟨(some 14), none, (.ld none), [.t 13]⟩, ⟨(some 15), none, .slen, [.t 14]⟩, ⟨(some 16), none, (.bin .gtr), [.t 15, .k (.c (.int .i64 300))]⟩] false) (.cn (.t 16) (.sq (.rg [⟨(some 2), none, .mv, [.k (.c (.bool true))]⟩] false) (.rt)) (.skip)))) (.rg [⟨(some 8), none, .mv, [.t 3]⟩, ⟨(some 9), none, (.bin .add), [.t 8, .k (.c (.int .i64 1))]⟩, ⟨(some 3), none, .mv, [.t 9]⟩] false)))))) (.sq (.rg [⟨(some 2), none, .mv, [.k (.c (.bool false))]⟩] false) (.rt)))
theorem cf7 : compF Try.prog 7 c7 = some ⟨c7, [.t 2], 17⟩ := by kernel_rfl

-- raddle/raddlelaw04.Heavy
def c8 : IC := .sq (.rg [⟨(some 2), none, .mv, [.k (.c (.bool false))]⟩] false) (.sq (.rg [⟨(some 3), none, .mv, [.t 0]⟩, ⟨(some 4), none, .len, [.t 3]⟩, ⟨(some 5), none, (.bin .gtr), [.t 4, .k (.c (.int .i64 40))]⟩, ⟨(some 6), none, .mv, [.t 5]⟩, ⟨(some 7), (some (6, false)), .mv, [.t 0]⟩, ⟨(some 8), (some (6, false)), (.call 7 .fz), [.t 7]⟩, ⟨(some 9), none, .pick, [.t 6, .k (.c (.bool true)), .t 8]⟩, ⟨(some 2), none, .mv, [.t 9]⟩] false) (.rt))
theorem cf8 : compF Try.prog 8 c8 = some ⟨c8, [.t 2], 10⟩ := by kernel_rfl

-- raddle/raddlekeep.TwinInts
def c9 : IC := .sq (.rg [⟨(some 2), none, .mv, [.k .z]⟩] false) (.sq (.rg [⟨(some 3), none, .mv, [.k .z]⟩] false) (.sq (.rg [⟨(some 4), none, .mv, [.t 3]⟩, ⟨(some 5), none, .mv, [.t 0]⟩, ⟨(some 6), none, (.app 1), [.t 4, .t 5]⟩, ⟨(some 2), none, .mv, [.t 6]⟩] false) (.rt)))
theorem cf9 : compF Try.prog 9 c9 = some ⟨c9, [.t 2], 7⟩ := by kernel_rfl

-- raddle/raddlekeep.TwinRow
def c10 : IC := .sq (.rg [⟨(some 2), none, .mv, [.k .z]⟩] false) (.sq (.rg [⟨(some 3), none, .mv, [.k .z]⟩] false) (.sq (.rg [⟨(some 4), none, .mv, [.t 3]⟩, ⟨(some 5), none, .mv, [.t 0]⟩, ⟨(some 6), none, (.app 3), [.t 4, .t 5]⟩, ⟨(some 2), none, .mv, [.t 6]⟩] false) (.rt)))
theorem cf10 : compF Try.prog 10 c10 = some ⟨c10, [.t 2], 7⟩ := by kernel_rfl

-- raddle/pred.Check
def c11 : IC := .sq (.rg [⟨(some 2), none, (.box (some 6)), [.t 0]⟩, ⟨(some 4), none, .mv, [.k (.c (.int .i64 0))]⟩] false) (.sq (.rg [⟨(some 6), none, .mv, [.t 1]⟩, ⟨(some 7), none, .len, [.t 6]⟩, ⟨(some 5), none, .mv, [.t 7]⟩] false) (.sq (.bl 0 (.sq (.rg [⟨(some 9), none, (.fa 0), [.t 2]⟩, ⟨(some 10), none, (.ld none), [.t 9]⟩, ⟨(some 11), none, (.bin .lss), [.t 10, .k (.c (.int .i64 1))]⟩, ⟨(some 12), none, .mv, [.t 11]⟩, ⟨(some 13), (some (12, false)), (.fa 0), [.t 2]⟩, ⟨(some 14), (some (12, false)), (.ld none), [.t 13]⟩, ⟨(some 15), (some (12, false)), (.bin .gtr), [.t 14, .k (.c (.int .i64 6))]⟩, ⟨(some 16), none, .pick, [.t 12, .k (.c (.bool true)), .t 15]⟩, ⟨(some 17), none, .mv, [.t 16]⟩, ⟨(some 18), (some (17, false)), (.fa 1), [.t 2]⟩, ⟨(some 19), (some (17, false)), (.ld none), [.t 18]⟩, ⟨(some 20), (some (17, false)), .mv, [.t 5]⟩, ⟨(some 21), (some (17, false)), (.call 21 .fz), [.t 19, .t 20]⟩, ⟨(some 22), (some (17, false)), (.un .not), [.t 21]⟩, ⟨(some 23), none, .pick, [.t 17, .k (.c (.bool true)), .t 22]⟩, ⟨(some 24), none, .mv, [.t 23]⟩, ⟨(some 25), (some (24, false)), (.ld (some 6)), [.t 2]⟩, ⟨(some 26), (some (24, false)), (.call 22 .fz), [.t 25]⟩, ⟨(some 27), (some (24, false)), .mv, [.t 26]⟩, ⟨(some 28), (some (27, true)), (.fa 2), [.t 2]⟩, ⟨(some 29), (some (27, true)), (.ld none), [.t 28]⟩, ⟨(some 30), (some (27, true)), .mv, [.t 5]⟩, ⟨(some 31), (some (27, true)), (.call 21 .fz), [.t 29, .t 30]⟩, ⟨(some 32), (some (27, true)), (.un .not), [.t 31]⟩, ⟨(some 33), (some (24, false)), .pick, [.t 27, .t 32, .k (.c (.bool false))]⟩, ⟨(some 34), none, .pick, [.t 24, .k (.c (.bool true)), .t 33]⟩, ⟨(some 35), none, .mv, [.t 34]⟩, ⟨(some 36), (some (35, false)), (.ld (some 6)), [.t 2]⟩, ⟨(some 37), (some (35, false)), (.call 23 .fz), [.t 36]⟩, ⟨(some 38), (some (35, false)), .mv, [.t 37]⟩, ⟨(some 39), (some (38, true)), (.fa 3), [.t 2]⟩, ⟨(some 40), (some (38, true)), (.ld (some 3)), [.t 39]⟩, ⟨(some 41), (some (38, true)), (.call 24 .fz), [.t 40]⟩, ⟨(some 42), (some (38, true)), (.bin .neq), [.t 41, .k (.c (.int .i64 0))]⟩, ⟨(some 43), (some (35, false)), .pick, [.t 38, .t 42, .k (.c (.bool false))]⟩, ⟨(some 44), none, .pick, [.t 35, .k (.c (.bool true)), .t 43]⟩, ⟨(some 8), none, .mv, [.t 44]⟩] false) (.cn (.t 8) (.sq (.rg [⟨(some 4), none, .mv, [.k (.c (.int .i64 1))]⟩] false) (.rt)) (.sq (.rg [⟨(some 46), none, (.ld (some 6)), [.t 2]⟩, ⟨(some 47), none, (.call 23 .fz), [.t 46]⟩, ⟨(some 48), none, .mv, [.t 47]⟩, ⟨(some 49), (some (48, true)), (.fa 3), [.t 2]⟩, ⟨(some 50), (some (48, true)), (.ld (some 3)), [.t 49]⟩, ⟨(some 51), (some (48, true)), .mv, [.t 1]⟩, ⟨(some 52), (some (48, true)), (.fa 1), [.t 2]⟩, ⟨(some 53), (some (48, true)), (.ld none), [.t 52]⟩, ⟨(some 54), (some (48, true)), (.ia 1), [.t 51, .t 53]⟩, ⟨(some 55), (some (48, true)), (.ld none), [.t 54]⟩, ⟨(some 56), (some (48, true)), (.call 25 .fz), [.t 50, .t 55]⟩, ⟨(some 57), (some (48, true)), (.un .not), [.t 56]⟩, ⟨(some 58), none, .pick, [.t 48, .t 57, .k (.c (.bool false))]⟩, ⟨(some 59), none, .mv, [.t 58]⟩, ⟨(some 60), (some (59, false)), (.ld (some 6)), [.t 2]⟩, ⟨(some 61), (some (59, false)), (.call 22 .fz), [.t 60]⟩, ⟨(some 62), (some (59, false)), .mv, [.t 61]⟩, ⟨(some 63), (some (62, true)), .mv, [.t 1]⟩, ⟨(some 64), (some (62, true)), (.fa 2), [.t 2]⟩, ⟨(some 65), (some (62, true)), (.ld none), [.t 64]⟩, ⟨(some 66), (some (62, true)), (.ia 1), [.t 63, .t 65]⟩, ⟨(some 67), (some (62, true)), (.ld none), [.t 66]⟩, ⟨(some 68), (some (62, true)), .mv, [.t 1]⟩, ⟨(some 69), (some (62, true)), (.fa 1), [.t 2]⟩, ⟨(some 70), (some (62, true)), (.ld none), [.t 69]⟩, ⟨(some 71), (some (62, true)), (.ia 1), [.t 68, .t 70]⟩, ⟨(some 72), (some (62, true)), (.ld none), [.t 71]⟩, ⟨(some 73), (some (62, true)), (.bin .neq), [.t 67, .t 72]⟩, ⟨(some 74), (some (59, false)), .pick, [.t 62, .t 73, .k (.c (.bool false))]⟩, ⟨(some 75), none, .pick, [.t 59, .k (.c (.bool true)), .t 74]⟩, ⟨(some 45), none, .mv, [.t 75]⟩] true) (.cn (.t 45) (.sq (.rg [⟨(some 4), none, .mv, [.k (.c (.int .i64 10))]⟩] false) (.rt)) (.skip)))))) (.sq (.rg [⟨(some 4), none, .mv, [.k (.c (.int .i64 0))]⟩] false) (.rt))))
theorem cf11 : compF Try.prog 11 c11 = some ⟨c11, [.t 4], 76⟩ := by kernel_rfl

-- raddle/raddleref14.Pred
def c12 : IC := .sq (.rg [⟨(some 2), none, (.box (some 6)), [.t 0]⟩, ⟨(some 4), none, .mv, [.k (.c (.int .i64 0))]⟩] false) (.sq (.rg [⟨(some 7), none, (.fa 0), [.t 2]⟩, ⟨(some 8), none, (.ld none), [.t 7]⟩, ⟨(some 9), none, (.bin .eql), [.t 8, .k (.c (.int .i64 3))]⟩, ⟨(some 10), none, .mv, [.t 9]⟩, ⟨(some 11), (some (10, false)), (.fa 0), [.t 2]⟩, ⟨(some 12), (some (10, false)), (.ld none), [.t 11]⟩, ⟨(some 13), (some (10, false)), (.bin .eql), [.t 12, .k (.c (.int .i64 4))]⟩, ⟨(some 14), none, .pick, [.t 10, .k (.c (.bool true)), .t 13]⟩, ⟨(some 5), none, .mv, [.t 14]⟩] false) (.sq (.rg [⟨(some 15), none, (.fa 0), [.t 2]⟩, ⟨(some 16), none, (.ld none), [.t 15]⟩, ⟨(some 17), none, (.bin .eql), [.t 16, .k (.c (.int .i64 1))]⟩, ⟨(some 18), none, .mv, [.t 17]⟩, ⟨(some 19), (some (18, false)), (.fa 0), [.t 2]⟩, ⟨(some 20), (some (18, false)), (.ld none), [.t 19]⟩, ⟨(some 21), (some (18, false)), (.bin .eql), [.t 20, .k (.c (.int .i64 2))]⟩, ⟨(some 22), none, .pick, [.t 18, .k (.c (.bool true)), .t 21]⟩, ⟨(some 6), none, .mv, [.t 22]⟩] false) (.sq (.sq (.rg [⟨(some 23), none, (.fa 0), [.t 2]⟩, ⟨(some 24), none, (.ld none), [.t 23]⟩, ⟨(some 25), none, (.call 26 .fz), [.t 24, .k (.c (.int .i64 1)), .k (.c (.int .i64 6))]⟩, ⟨(some 26), none, (.un .not), [.t 25]⟩, ⟨(some 27), none, .mv, [.t 26]⟩, ⟨(some 28), (some (27, false)), (.fa 1), [.t 2]⟩, ⟨(some 29), (some (27, false)), (.ld none), [.t 28]⟩, ⟨(some 30), (some (27, false)), .mv, [.t 1]⟩, ⟨(some 31), (some (27, false)), .len, [.t 30]⟩, ⟨(some 32), (some (27, false)), (.bin .sub), [.t 31, .k (.c (.int .i64 1))]⟩, ⟨(some 33), (some (27, false)), (.call 26 .fz), [.t 29, .k (.c (.int .i64 0)), .t 32]⟩, ⟨(some 34), (some (27, false)), (.un .not), [.t 33]⟩, ⟨(some 35), none, .pick, [.t 27, .k (.c (.bool true)), .t 34]⟩, ⟨(some 36), none, .mv, [.t 35]⟩, ⟨(some 37), (some (36, false)), .mv, [.t 5]⟩, ⟨(some 38), (some (36, false)), .mv, [.t 37]⟩, ⟨(some 39), (some (38, true)), (.fa 2), [.t 2]⟩, ⟨(some 40), (some (38, true)), (.ld none), [.t 39]⟩, ⟨(some 41), (some (38, true)), .mv, [.t 1]⟩, ⟨(some 42), (some (38, true)), .len, [.t 41]⟩, ⟨(some 43), (some (38, true)), (.bin .sub), [.t 42, .k (.c (.int .i64 1))]⟩, ⟨(some 44), (some (38, true)), (.call 26 .fz), [.t 40, .k (.c (.int .i64 0)), .t 43]⟩, ⟨(some 45), (some (38, true)), (.un .not), [.t 44]⟩, ⟨(some 46), (some (36, false)), .pick, [.t 38, .t 45, .k (.c (.bool false))]⟩, ⟨(some 47), none, .pick, [.t 36, .k (.c (.bool true)), .t 46]⟩, ⟨(some 48), none, .mv, [.t 47]⟩, ⟨(some 49), (some (48, false)), .mv, [.t 6]⟩, ⟨(some 50), (some (48, false)), .mv, [.t 49]⟩, ⟨(some 51), (some (50, true)), (.fa 3), [.t 2]⟩, ⟨(some 52), (some (50, true)), (.ld (some 3)), [.t 51]⟩, ⟨(some 53), (some (50, true)), (.call 20 .fz), [.t 52]⟩, ⟨(some 54), (some (50, true)), (.un .not), [.t 53]⟩, ⟨(some 55), (some (48, false)), .pick, [.t 50, .t 54, .k (.c (.bool false))]⟩, ⟨(some 56), none, .pick, [.t 48, .k (.c (.bool true)), .t 55]⟩] false) (.cn (.t 56) (.sq (.rg [⟨(some 4), none, .mv, [.k (.c (.int .i64 1))]⟩] false) (.rt)) (.skip))) (.sq (.sq (.rg [⟨(some 57), none, .mv, [.t 6]⟩, ⟨(some 58), none, .mv, [.t 57]⟩, ⟨(some 59), (some (58, true)), (.fa 3), [.t 2]⟩, ⟨(some 60), (some (58, true)), (.ld (some 3)), [.t 59]⟩, ⟨(some 61), (some (58, true)), .mv, [.t 1]⟩, ⟨(some 62), (some (58, true)), (.fa 1), [.t 2]⟩, ⟨(some 63), (some (58, true)), (.ld none), [.t 62]⟩, ⟨(some 64), (some (58, true)), (.ia 1), [.t 61, .t 63]⟩, ⟨(some 65), (some (58, true)), (.ld none), [.t 64]⟩, ⟨(some 66), (some (58, true)), (.call 27 .fz), [.t 60, .t 65]⟩, ⟨(some 67), (some (58, true)), (.un .not), [.t 66]⟩, ⟨(some 68), none, .pick, [.t 58, .t 67, .k (.c (.bool false))]⟩, ⟨(some 69), none, .mv, [.t 68]⟩, ⟨(some 70), (some (69, false)), .mv, [.t 5]⟩, ⟨(some 71), (some (69, false)), .mv, [.t 70]⟩, ⟨(some 72), (some (71, true)), .mv, [.t 1]⟩, ⟨(some 73), (some (71, true)), (.fa 2), [.t 2]⟩, ⟨(some 74), (some (71, true)), (.ld none), [.t 73]⟩, ⟨(some 75), (some (71, true)), (.ia 1), [.t 72, .t 74]⟩, ⟨(some 76), (some (71, true)), (.ld none), [.t 75]⟩, ⟨(some 77), (some (71, true)), .mv, [.t 1]⟩, ⟨(some 78), (some (71, true)), (.fa 1), [.t 2]⟩, ⟨(some 79), (some (71, true)), (.ld none), [.t 78]⟩, ⟨(some 80), (some (71, true)), (.ia 1), [.t 77, .t 79]⟩, ⟨(some 81), (some (71, true)), (.ld none), [.t 80]⟩, ⟨(some 82), (some (71, true)), (.bin .neq), [.t 76, .t 81]⟩, ⟨(some 83), (some (69, false)), .pick, [.t 71, .t 82, .k (.c (.bool false))]⟩, ⟨(some 84), none, .pick, [.t 69, .k (.c (.bool true)), .t 83]⟩] true) (.cn (.t 84) (.sq (.rg [⟨(some 4), none, .mv, [.k (.c (.int .i64 10))]⟩] false) (.rt)) (.skip))) (.sq (.rg [⟨(some 4), none, .mv, [.k (.c (.int .i64 0))]⟩] false) (.rt))))))
theorem cf12 : compF Try.prog 12 c12 = some ⟨c12, [.t 4], 85⟩ := by kernel_rfl

-- raddle/pred.Holds
def c13 : IC := .sq (.rg [⟨(some 2), none, (.box (some 6)), [.t 0]⟩, ⟨(some 4), none, .mv, [.k (.c (.bool false))]⟩] false) (.sq (.sq (.rg [⟨(some 6), none, (.fa 1), [.t 2]⟩, ⟨(some 7), none, (.ld none), [.t 6]⟩, ⟨(some 8), none, .mv, [.t 1]⟩, ⟨(some 9), none, .len, [.t 8]⟩, ⟨(some 10), none, (.call 21 .fz), [.t 7, .t 9]⟩, ⟨(some 11), none, (.un .not), [.t 10]⟩, ⟨(some 12), none, .mv, [.t 11]⟩, ⟨(some 13), (some (12, false)), (.ld (some 6)), [.t 2]⟩, ⟨(some 14), (some (12, false)), (.call 22 .fz), [.t 13]⟩, ⟨(some 15), (some (12, false)), .mv, [.t 14]⟩, ⟨(some 16), (some (15, true)), (.fa 2), [.t 2]⟩, ⟨(some 17), (some (15, true)), (.ld none), [.t 16]⟩, ⟨(some 18), (some (15, true)), .mv, [.t 1]⟩, ⟨(some 19), (some (15, true)), .len, [.t 18]⟩, ⟨(some 20), (some (15, true)), (.call 21 .fz), [.t 17, .t 19]⟩, ⟨(some 21), (some (15, true)), (.un .not), [.t 20]⟩, ⟨(some 22), (some (12, false)), .pick, [.t 15, .t 21, .k (.c (.bool false))]⟩, ⟨(some 23), none, .pick, [.t 12, .k (.c (.bool true)), .t 22]⟩] false) (.cn (.t 23) (.sq (.rg [⟨(some 4), none, .mv, [.k (.c (.bool false))]⟩] false) (.rt)) (.skip))) (.sq (.rg [⟨(some 24), none, .mv, [.t 1]⟩, ⟨(some 25), none, (.fa 1), [.t 2]⟩, ⟨(some 26), none, (.ld none), [.t 25]⟩, ⟨(some 27), none, (.ia 3), [.t 24, .t 26]⟩, ⟨(some 28), none, (.ld (some 3)), [.t 27]⟩, ⟨(some 5), none, (.alloc [(.c (.int .i64 0)), (.c (.int .i64 0)), (.c (.string ⟨#[]⟩))]), []⟩, ⟨none, none, (.st 3), [.t 5, .t 28]⟩] false) (.sq (.sq (.rg [⟨(some 29), none, (.fa 0), [.t 2]⟩, ⟨(some 30), none, (.ld none), [.t 29]⟩] false) (.bl 0 (.sq (.rg [⟨(some 32), none, (.bin .eql), [.t 30, .k (.c (.int .i64 1))]⟩, ⟨(some 31), none, .mv, [.t 32]⟩] false) (.cn (.t 31) (.sq (.rg [⟨(some 33), none, (.ld (some 3)), [.t 5]⟩, ⟨(some 34), none, (.fa 3), [.t 2]⟩, ⟨(some 35), none, (.ld (some 3)), [.t 34]⟩, ⟨(some 36), none, (.call 28 .fz), [.t 33, .t 35]⟩, ⟨(some 37), none, (.bin .eql), [.t 36, .k (.c (.int .i64 0))]⟩, ⟨(some 4), none, .mv, [.t 37]⟩] false) (.rt)) (.sq (.rg [⟨(some 39), none, (.bin .eql), [.t 30, .k (.c (.int .i64 2))]⟩, ⟨(some 38), none, .mv, [.t 39]⟩] false) (.cn (.t 38) (.sq (.rg [⟨(some 40), none, (.ld (some 3)), [.t 5]⟩, ⟨(some 41), none, (.fa 3), [.t 2]⟩, ⟨(some 42), none, (.ld (some 3)), [.t 41]⟩, ⟨(some 43), none, (.call 28 .fz), [.t 40, .t 42]⟩, ⟨(some 44), none, (.bin .lss), [.t 43, .k (.c (.int .i64 0))]⟩, ⟨(some 4), none, .mv, [.t 44]⟩] false) (.rt)) (.sq (.rg [⟨(some 46), none, (.bin .eql), [.t 30, .k (.c (.int .i64 3))]⟩, ⟨(some 45), none, .mv, [.t 46]⟩] false) (.cn (.t 45) (.sq (.rg [⟨(some 47), none, (.ld (some 3)), [.t 5]⟩, ⟨(some 48), none, .mv, [.t 1]⟩, ⟨(some 49), none, (.fa 2), [.t 2]⟩, ⟨(some 50), none, (.ld none), [.t 49]⟩, ⟨(some 51), none, (.ia 3), [.t 48, .t 50]⟩, ⟨(some 52), none, (.ld (some 3)), [.t 51]⟩, ⟨(some 53), none, (.call 28 .fz), [.t 47, .t 52]⟩, ⟨(some 54), none, (.bin .eql), [.t 53, .k (.c (.int .i64 0))]⟩, ⟨(some 4), none, .mv, [.t 54]⟩] true) (.rt)) (.sq (.rg [⟨(some 56), none, (.bin .eql), [.t 30, .k (.c (.int .i64 4))]⟩, ⟨(some 55), none, .mv, [.t 56]⟩] false) (.cn (.t 55) (.sq (.rg [⟨(some 57), none, (.ld (some 3)), [.t 5]⟩, ⟨(some 58), none, .mv, [.t 1]⟩, ⟨(some 59), none, (.fa 2), [.t 2]⟩, ⟨(some 60), none, (.ld none), [.t 59]⟩, ⟨(some 61), none, (.ia 3), [.t 58, .t 60]⟩, ⟨(some 62), none, (.ld (some 3)), [.t 61]⟩, ⟨(some 63), none, (.call 28 .fz), [.t 57, .t 62]⟩, ⟨(some 64), none, (.bin .lss), [.t 63, .k (.c (.int .i64 0))]⟩, ⟨(some 4), none, .mv, [.t 64]⟩] true) (.rt)) (.sq (.rg [⟨(some 66), none, (.bin .eql), [.t 30, .k (.c (.int .i64 5))]⟩, ⟨(some 65), none, .mv, [.t 66]⟩] false) (.cn (.t 65) (.sq (.rg [⟨(some 67), none, (.fa 0), [.t 5]⟩, ⟨(some 68), none, (.ld none), [.t 67]⟩, ⟨(some 69), none, (.bin .eql), [.t 68, .k (.c (.int .i64 1))]⟩, ⟨(some 4), none, .mv, [.t 69]⟩] false) (.rt)) (.sq (.rg [⟨(some 71), none, (.bin .eql), [.t 30, .k (.c (.int .i64 6))]⟩, ⟨(some 70), none, .mv, [.t 71]⟩] false) (.cn (.t 70) (.sq (.rg [⟨(some 72), none, (.fa 0), [.t 5]⟩, ⟨(some 73), none, (.ld none), [.t 72]⟩, ⟨(some 74), none, (.bin .neq), [.t 73, .k (.c (.int .i64 1))]⟩, ⟨(some 4), none, .mv, [.t 74]⟩] false) (.rt)) (.skip))))))))))))))) (.sq (.rg [⟨(some 4), none, .mv, [.k (.c (.bool false))]⟩] false) (.rt)))))
theorem cf13 : compF Try.prog 13 c13 = some ⟨c13, [.t 4], 75⟩ := by kernel_rfl

-- raddle/raddleref14.Holds
def c14 : IC := .sq (.rg [⟨(some 2), none, (.box (some 6)), [.t 0]⟩, ⟨(some 4), none, .mv, [.k (.c (.bool false))]⟩] false) (.sq (.sq (.rg [⟨(some 6), none, (.fa 1), [.t 2]⟩, ⟨(some 7), none, (.ld none), [.t 6]⟩, ⟨(some 8), none, .mv, [.t 1]⟩, ⟨(some 9), none, .len, [.t 8]⟩, ⟨(some 10), none, (.bin .sub), [.t 9, .k (.c (.int .i64 1))]⟩, ⟨(some 11), none, (.call 26 .fz), [.t 7, .k (.c (.int .i64 0)), .t 10]⟩, ⟨(some 12), none, (.un .not), [.t 11]⟩] false) (.cn (.t 12) (.sq (.rg [⟨(some 4), none, .mv, [.k (.c (.bool false))]⟩] false) (.rt)) (.skip))) (.sq (.rg [⟨(some 13), none, .mv, [.t 1]⟩, ⟨(some 14), none, (.fa 1), [.t 2]⟩, ⟨(some 15), none, (.ld none), [.t 14]⟩, ⟨(some 16), none, (.ia 3), [.t 13, .t 15]⟩, ⟨(some 17), none, (.ld (some 3)), [.t 16]⟩, ⟨(some 5), none, (.alloc [(.c (.int .i64 0)), (.c (.int .i64 0)), (.c (.string ⟨#[]⟩))]), []⟩, ⟨none, none, (.st 3), [.t 5, .t 17]⟩] false) (.sq (.sq (.rg [⟨(some 18), none, (.fa 0), [.t 2]⟩, ⟨(some 19), none, (.ld none), [.t 18]⟩] false) (.bl 0 (.sq (.rg [⟨(some 21), none, (.bin .eql), [.t 19, .k (.c (.int .i64 1))]⟩, ⟨(some 20), none, .mv, [.t 21]⟩] false) (.cn (.t 20) (.sq (.rg [⟨(some 22), none, (.ld (some 3)), [.t 5]⟩, ⟨(some 23), none, (.fa 3), [.t 2]⟩, ⟨(some 24), none, (.ld (some 3)), [.t 23]⟩, ⟨(some 25), none, (.call 29 .fz), [.t 22, .t 24]⟩, ⟨(some 26), none, (.bin .eql), [.t 25, .k (.c (.int .i64 0))]⟩, ⟨(some 4), none, .mv, [.t 26]⟩] false) (.rt)) (.sq (.rg [⟨(some 28), none, (.bin .eql), [.t 19, .k (.c (.int .i64 2))]⟩, ⟨(some 27), none, .mv, [.t 28]⟩] false) (.cn (.t 27) (.sq (.rg [⟨(some 29), none, (.ld (some 3)), [.t 5]⟩, ⟨(some 30), none, (.fa 3), [.t 2]⟩, ⟨(some 31), none, (.ld (some 3)), [.t 30]⟩, ⟨(some 32), none, (.call 29 .fz), [.t 29, .t 31]⟩, ⟨(some 33), none, (.bin .lss), [.t 32, .k (.c (.int .i64 0))]⟩, ⟨(some 4), none, .mv, [.t 33]⟩] false) (.rt)) (.sq (.rg [⟨(some 35), none, (.bin .eql), [.t 19, .k (.c (.int .i64 3))]⟩, ⟨(some 34), none, .mv, [.t 35]⟩] false) (.cn (.t 34) (.sq (.rg [⟨(some 36), none, (.fa 2), [.t 2]⟩, ⟨(some 37), none, (.ld none), [.t 36]⟩, ⟨(some 38), none, .mv, [.t 1]⟩, ⟨(some 39), none, .len, [.t 38]⟩, ⟨(some 40), none, (.bin .sub), [.t 39, .k (.c (.int .i64 1))]⟩, ⟨(some 41), none, (.call 26 .fz), [.t 37, .k (.c (.int .i64 0)), .t 40]⟩, ⟨(some 42), none, .mv, [.t 41]⟩, ⟨(some 43), (some (42, true)), (.ld (some 3)), [.t 5]⟩, ⟨(some 44), (some (42, true)), .mv, [.t 1]⟩, ⟨(some 45), (some (42, true)), (.fa 2), [.t 2]⟩, ⟨(some 46), (some (42, true)), (.ld none), [.t 45]⟩, ⟨(some 47), (some (42, true)), (.ia 3), [.t 44, .t 46]⟩, ⟨(some 48), (some (42, true)), (.ld (some 3)), [.t 47]⟩, ⟨(some 49), (some (42, true)), (.call 29 .fz), [.t 43, .t 48]⟩, ⟨(some 50), (some (42, true)), (.bin .eql), [.t 49, .k (.c (.int .i64 0))]⟩, ⟨(some 51), none, .pick, [.t 42, .t 50, .k (.c (.bool false))]⟩, ⟨(some 4), none, .mv, [.t 51]⟩] true) (.rt)) (.sq (.rg [⟨(some 53), none, (.bin .eql), [.t 19, .k (.c (.int .i64 4))]⟩, ⟨(some 52), none, .mv, [.t 53]⟩] false) (.cn (.t 52) (.sq (.rg [⟨(some 54), none, (.fa 2), [.t 2]⟩, ⟨(some 55), none, (.ld none), [.t 54]⟩, ⟨(some 56), none, .mv, [.t 1]⟩, ⟨(some 57), none, .len, [.t 56]⟩, ⟨(some 58), none, (.bin .sub), [.t 57, .k (.c (.int .i64 1))]⟩, ⟨(some 59), none, (.call 26 .fz), [.t 55, .k (.c (.int .i64 0)), .t 58]⟩, ⟨(some 60), none, .mv, [.t 59]⟩, ⟨(some 61), (some (60, true)), (.ld (some 3)), [.t 5]⟩, ⟨(some 62), (some (60, true)), .mv, [.t 1]⟩, ⟨(some 63), (some (60, true)), (.fa 2), [.t 2]⟩, ⟨(some 64), (some (60, true)), (.ld none), [.t 63]⟩, ⟨(some 65), (some (60, true)), (.ia 3), [.t 62, .t 64]⟩, ⟨(some 66), (some (60, true)), (.ld (some 3)), [.t 65]⟩, ⟨(some 67), (some (60, true)), (.call 29 .fz), [.t 61, .t 66]⟩, ⟨(some 68), (some (60, true)), (.bin .lss), [.t 67, .k (.c (.int .i64 0))]⟩, ⟨(some 69), none, .pick, [.t 60, .t 68, .k (.c (.bool false))]⟩, ⟨(some 4), none, .mv, [.t 69]⟩] true) (.rt)) (.sq (.rg [⟨(some 71), none, (.bin .eql), [.t 19, .k (.c (.int .i64 5))]⟩, ⟨(some 70), none, .mv, [.t 71]⟩] false) (.cn (.t 70) (.sq (.rg [⟨(some 72), none, (.fa 0), [.t 5]⟩, ⟨(some 73), none, (.ld none), [.t 72]⟩, ⟨(some 74), none, (.bin .eql), [.t 73, .k (.c (.int .i64 1))]⟩, ⟨(some 4), none, .mv, [.t 74]⟩] false) (.rt)) (.sq (.rg [⟨(some 76), none, (.bin .eql), [.t 19, .k (.c (.int .i64 6))]⟩, ⟨(some 75), none, .mv, [.t 76]⟩] false) (.cn (.t 75) (.sq (.rg [⟨(some 77), none, (.fa 0), [.t 5]⟩, ⟨(some 78), none, (.ld none), [.t 77]⟩, ⟨(some 79), none, (.bin .neq), [.t 78, .k (.c (.int .i64 1))]⟩, ⟨(some 4), none, .mv, [.t 79]⟩] false) (.rt)) (.skip))))))))))))))) (.sq (.rg [⟨(some 4), none, .mv, [.k (.c (.bool false))]⟩] false) (.rt)))))
theorem cf14 : compF Try.prog 14 c14 = some ⟨c14, [.t 4], 80⟩ := by kernel_rfl

-- raddle/raddlekeep.Ints
def c15 : IC := .sq (.rg [⟨(some 4), none, .mv, [.k (.c (.bool false))]⟩] false) (.sq (.sq (.rg [⟨(some 6), none, .mv, [.t 0]⟩, ⟨(some 7), none, .len, [.t 6]⟩, ⟨(some 8), none, .mv, [.t 1]⟩, ⟨(some 9), none, .len, [.t 8]⟩, ⟨(some 10), none, (.bin .neq), [.t 7, .t 9]⟩] false) (.cn (.t 10) (.sq (.rg [⟨(some 4), none, .mv, [.k (.c (.bool false))]⟩] false) (.rt)) (.skip))) (.sq (.sq (.rg [⟨(some 5), none, .mv, [.k (.c (.int .i64 0))]⟩] false) (.bl 0 (.lp (.sq (.sq (.rg [⟨(some 11), none, .mv, [.t 5]⟩, ⟨(some 12), none, .mv, [.t 0]⟩, ⟨(some 13), none, .len, [.t 12]⟩, ⟨(some 14), none, (.bin .lss), [.t 11, .t 13]⟩] false) (.cn (.t 14) (.skip) (.ex 0))) (.sq (.bl 1 (.sq (.rg [⟨(some 17), none, .mv, [.t 0]⟩, ⟨(some 18), none, .mv, [.t 5]⟩, ⟨(some 19), none, (.ia 1), [.t 17, .t 18]⟩, ⟨(some 20), none, (.ld none), [.t 19]⟩, ⟨(some 21), none, .mv, [.t 1]⟩, ⟨(some 22), none, .mv, [.t 5]⟩, ⟨(some 23), none, (.ia 1), [.t 21, .t 22]⟩, ⟨(some 24), none, (.ld none), [.t 23]⟩, ⟨(some 25), none, (.bin .neq), [.t 20, .t 24]⟩] true) (.cn (.t 25) (.sq (.rg [⟨(some 4), none, .mv, [.k (.c (.bool false))]⟩] false) (.rt)) (.skip)))) (.rg [⟨(some 15), none, .mv, [.t 5]⟩, ⟨(some 16), none, (.bin .add), [.t 15, .k (.c (.int .i64 1))]⟩, ⟨(some 5), none, .mv, [.t 16]⟩] false)))))) (.sq (.rg [⟨(some 4), none, .mv, [.k (.c (.bool true))]⟩] false) (.rt))))
theorem cf15 : compF Try.prog 15 c15 = some ⟨c15, [.t 4], 26⟩ := by kernel_rfl

-- raddle/raddlekeep.Row
def c16 : IC := .sq (.rg [⟨(some 4), none, .mv, [.k (.c (.bool false))]⟩] false) (.sq (.sq (.rg [⟨(some 6), none, .mv, [.t 0]⟩, ⟨(some 7), none, .len, [.t 6]⟩, ⟨(some 8), none, .mv, [.t 1]⟩, ⟨(some 9), none, .len, [.t 8]⟩, ⟨(some 10), none, (.bin .neq), [.t 7, .t 9]⟩] false) (.cn (.t 10) (.sq (.rg [⟨(some 4), none, .mv, [.k (.c (.bool false))]⟩] false) (.rt)) (.skip))) (.sq (.sq (.rg [⟨(some 5), none, .mv, [.k (.c (.int .i64 0))]⟩] false) (.bl 0 (.lp (.sq (.sq (.rg [⟨(some 11), none, .mv, [.t 5]⟩, ⟨(some 12), none, .mv, [.t 0]⟩, ⟨(some 13), none, .len, [.t 12]⟩, ⟨(some 14), none, (.bin .lss), [.t 11, .t 13]⟩] false) (.cn (.t 14) (.skip) (.ex 0))) (.sq (.bl 1 (.sq (.rg [⟨(some 17), none, .mv, [.t 0]⟩, ⟨(some 18), none, .mv, [.t 5]⟩, ⟨(some 19), none, (.ia 3), [.t 17, .t 18]⟩, ⟨(some 20), none, (.ld (some 3)), [.t 19]⟩, ⟨(some 21), none, .mv, [.t 1]⟩, ⟨(some 22), none, .mv, [.t 5]⟩, ⟨(some 23), none, (.ia 3), [.t 21, .t 22]⟩, ⟨(some 24), none, (.ld (some 3)), [.t 23]⟩, ⟨(some 25), none, (.call 19 .fz), [.t 20, .t 24]⟩, ⟨(some 26), none, (.un .not), [.t 25]⟩] true) (.cn (.t 26) (.sq (.rg [⟨(some 4), none, .mv, [.k (.c (.bool false))]⟩] false) (.rt)) (.skip)))) (.rg [⟨(some 15), none, .mv, [.t 5]⟩, ⟨(some 16), none, (.bin .add), [.t 15, .k (.c (.int .i64 1))]⟩, ⟨(some 5), none, .mv, [.t 16]⟩] false)))))) (.sq (.rg [⟨(some 4), none, .mv, [.k (.c (.bool true))]⟩] false) (.rt))))
theorem cf16 : compF Try.prog 16 c16 = some ⟨c16, [.t 4], 27⟩ := by kernel_rfl

-- raddle/raddlelaw15.wakes
def c17 : IC := .sq (.rg [⟨(some 0), none, .mv, [.k (.c (.bool false))]⟩] false) (.sq (.rg [⟨(some 2), none, (.bld [(.c (.int .i64 0)), (.c (.int .i64 0)), (.c (.string ⟨#[]⟩))] [(0, 1), (1, 1)]), [.k (.c (.int .i64 3)), .k (.c (.int .i64 5))]⟩, ⟨(some 3), none, (.bld [(.c (.int .i64 0)), (.c (.int .i64 0)), (.c (.int .i64 0)), (.c (.int .i64 0)), (.c (.int .i64 0)), (.c (.string ⟨#[]⟩))] [(0, 1), (3, 3)]), [.k (.c (.int .i64 2)), .t 2]⟩, ⟨(some 1), none, (.alloc [(.c (.int .i64 0)), (.c (.int .i64 0)), (.c (.int .i64 0)), (.c (.int .i64 0)), (.c (.int .i64 0)), (.c (.string ⟨#[]⟩))]), []⟩, ⟨none, none, (.st 6), [.t 1, .t 3]⟩] false) (.sq (.rg [⟨(some 4), none, (.ld (some 6)), [.t 1]⟩, ⟨(some 5), none, (.bsl 1 [(.c (.int .i64 0))] [0] 1 true), [.k (.c (.int .i64 3))]⟩, ⟨(some 6), none, (.call 11 .fz), [.t 4, .t 5]⟩, ⟨(some 7), none, (.bin .eql), [.t 6, .k (.c (.int .i64 0))]⟩, ⟨(some 8), none, .mv, [.t 7]⟩, ⟨(some 9), (some (8, true)), (.ld (some 6)), [.t 1]⟩, ⟨(some 10), (some (8, true)), (.bld [(.c (.int .i64 0)), (.c (.int .i64 0)), (.c (.string ⟨#[]⟩))] [(0, 1), (1, 1)]), [.k (.c (.int .i64 3)), .k (.c (.int .i64 4))]⟩, ⟨(some 11), (some (8, true)), (.bsl 3 [(.c (.int .i64 0)), (.c (.int .i64 0)), (.c (.string ⟨#[]⟩))] [0] 1 true), [.t 10]⟩, ⟨(some 12), (some (8, true)), (.call 13 .fz), [.t 9, .t 11]⟩, ⟨(some 13), none, .pick, [.t 8, .t 12, .k (.c (.bool false))]⟩, ⟨(some 14), none, .mv, [.t 13]⟩, ⟨(some 15), (some (14, true)), (.ld (some 6)), [.t 1]⟩, ⟨(some 16), (some (14, true)), (.bld [(.c (.int .i64 0)), (.c (.int .i64 0)), (.c (.string ⟨#[]⟩))] [(0, 1), (1, 1)]), [.k (.c (.int .i64 3)), .k (.c (.int .i64 5))]⟩, ⟨(some 17), (some (14, true)), (.bsl 3 [(.c (.int .i64 0)), (.c (.int .i64 0)), (.c (.string ⟨#[]⟩))] [0] 1 true), [.t 16]⟩, ⟨(some 18), (some (14, true)), (.call 13 .fz), [.t 15, .t 17]⟩, ⟨(some 19), (some (14, true)), (.un .not), [.t 18]⟩, ⟨(some 20), none, .pick, [.t 14, .t 19, .k (.c (.bool false))]⟩, ⟨(some 0), none, .mv, [.t 20]⟩] false) (.rt)))
theorem cf17 : compF Try.prog 17 c17 = some ⟨c17, [.t 0], 21⟩ := by kernel_rfl

-- raddle/raddlelaw15.count
def c18 : IC := .sq (.rg [⟨(some 2), none, .mv, [.k (.c (.int .i64 0))]⟩] false) (.sq (.rg [⟨(some 3), none, .mv, [.k (.c (.int .i64 0))]⟩] false) (.sq (.sq (.rg [⟨(some 4), none, .mv, [.k (.c (.int .i64 0))]⟩] false) (.bl 0 (.lp (.sq (.sq (.rg [⟨(some 5), none, .mv, [.t 4]⟩, ⟨(some 6), none, .mv, [.t 0]⟩, ⟨(some 7), none, .len, [.t 6]⟩, ⟨(some 8), none, (.bin .lss), [.t 5, .t 7]⟩] false) (.cn (.t 8) (.skip) (.ex 0))) (.sq (.bl 1 (.sq (.rg [⟨(some 11), none, .mv, [.t 0]⟩, ⟨(some 12), none, .mv, [.t 4]⟩, ⟨(some 13), none, (.ia 1), [.t 11, .t 12]⟩, ⟨(some 14), none, (.ld none), [.t 13]⟩] false) (.cn (.t 14) (.rg [⟨(some 15), none, .mv, [.t 3]⟩, ⟨(some 16), none, (.bin .add), [.t 15, .k (.c (.int .i64 1))]⟩, ⟨(some 3), none, .mv, [.t 16]⟩] false) (.skip)))) (.rg [⟨(some 9), none, .mv, [.t 4]⟩, ⟨(some 10), none, (.bin .add), [.t 9, .k (.c (.int .i64 1))]⟩, ⟨(some 4), none, .mv, [.t 10]⟩] false)))))) (.sq (.rg [⟨(some 17), none, .mv, [.t 3]⟩, ⟨(some 2), none, .mv, [.t 17]⟩] false) (.rt))))
theorem cf18 : compF Try.prog 18 c18 = some ⟨c18, [.t 2], 18⟩ := by kernel_rfl

-- raddle/raddlekeep.Value
def c19 : IC := .sq (.rg [⟨(some 2), none, (.box (some 3)), [.t 0]⟩, ⟨(some 3), none, (.box (some 3)), [.t 1]⟩, ⟨(some 4), none, .mv, [.k (.c (.bool false))]⟩] false) (.sq (.rg [⟨(some 5), none, (.fa 0), [.t 2]⟩, ⟨(some 6), none, (.ld none), [.t 5]⟩, ⟨(some 7), none, (.fa 0), [.t 3]⟩, ⟨(some 8), none, (.ld none), [.t 7]⟩, ⟨(some 9), none, (.bin .eql), [.t 6, .t 8]⟩, ⟨(some 10), none, .mv, [.t 9]⟩, ⟨(some 11), (some (10, true)), (.fa 1), [.t 2]⟩, ⟨(some 12), (some (10, true)), (.ld none), [.t 11]⟩, ⟨(some 13), (some (10, true)), (.fa 1), [.t 3]⟩, ⟨(some 14), (some (10, true)), (.ld none), [.t 13]⟩, ⟨(some 15), (some (10, true)), (.bin .eql), [.t 12, .t 14]⟩, ⟨(some 16), none, .pick, [.t 10, .t 15, .k (.c (.bool false))]⟩, ⟨(some 17), none, .mv, [.t 16]⟩, ⟨(some 18), (some (17, true)), (.fa 2), [.t 2]⟩, ⟨(some 19), (some (17, true)), (.ld none), [.t 18]⟩, ⟨(some 20), (some (17, true)), (.fa 2), [.t 3]⟩, ⟨(some 21), (some (17, true)), (.ld none), [.t 20]⟩, ⟨(some 22), (some (17, true)), (.bin .eql), [.t 19, .t 21]⟩, ⟨(some 23), none, .pick, [.t 17, .t 22, .k (.c (.bool false))]⟩, ⟨(some 4), none, .mv, [.t 23]⟩] false) (.rt))
theorem cf19 : compF Try.prog 19 c19 = some ⟨c19, [.t 4], 24⟩ := by kernel_rfl

-- raddle/raddleref01.Value
def c20 : IC := .sq (.rg [⟨(some 1), none, (.box (some 3)), [.t 0]⟩, ⟨(some 2), none, .mv, [.k (.c (.bool false))]⟩] false) (.sq (.sq (.rg [⟨(some 3), none, (.fa 0), [.t 1]⟩, ⟨(some 4), none, (.ld none), [.t 3]⟩] false) (.bl 0 (.sq (.rg [⟨(some 6), none, (.bin .eql), [.t 4, .k (.c (.int .i64 1))]⟩, ⟨(some 5), none, .mv, [.t 6]⟩] false) (.cn (.t 5) (.sq (.rg [⟨(some 7), none, (.fa 1), [.t 1]⟩, ⟨(some 8), none, (.ld none), [.t 7]⟩, ⟨(some 9), none, (.bin .eql), [.t 8, .k (.c (.int .i64 0))]⟩, ⟨(some 10), none, .mv, [.t 9]⟩, ⟨(some 11), (some (10, true)), (.fa 2), [.t 1]⟩, ⟨(some 12), (some (10, true)), (.ld none), [.t 11]⟩, ⟨(some 13), (some (10, true)), (.bin .eql), [.t 12, .k (.c (.string ⟨#[]⟩))]⟩, ⟨(some 14), none, .pick, [.t 10, .t 13, .k (.c (.bool false))]⟩, ⟨(some 2), none, .mv, [.t 14]⟩] false) (.rt)) (.sq (.rg [⟨(some 16), none, (.bin .eql), [.t 4, .k (.c (.int .i64 2))]⟩, ⟨(some 15), none, .mv, [.t 16]⟩] false) (.cn (.t 15) (.sq (.rg [⟨(some 17), none, (.fa 1), [.t 1]⟩, ⟨(some 18), none, (.ld none), [.t 17]⟩, ⟨(some 19), none, (.call 30 .fz), [.t 18, .k (.c (.int .i64 0)), .k (.c (.int .i64 1))]⟩, ⟨(some 20), none, .mv, [.t 19]⟩, ⟨(some 21), (some (20, true)), (.fa 2), [.t 1]⟩, ⟨(some 22), (some (20, true)), (.ld none), [.t 21]⟩, ⟨(some 23), (some (20, true)), (.bin .eql), [.t 22, .k (.c (.string ⟨#[]⟩))]⟩, ⟨(some 24), none, .pick, [.t 20, .t 23, .k (.c (.bool false))]⟩, ⟨(some 2), none, .mv, [.t 24]⟩] false) (.rt)) (.sq (.rg [⟨(some 26), none, (.bin .eql), [.t 4, .k (.c (.int .i64 3))]⟩, ⟨(some 25), none, .mv, [.t 26]⟩] false) (.cn (.t 25) (.sq (.rg [⟨(some 27), none, (.fa 1), [.t 1]⟩, ⟨(some 28), none, (.ld none), [.t 27]⟩, ⟨(some 29), none, (.call 30 .fz), [.t 28, .k (.c (.int .i64 (-1152921504606846976))), .k (.c (.int .i64 1152921504606846976))]⟩, ⟨(some 30), none, .mv, [.t 29]⟩, ⟨(some 31), (some (30, true)), (.fa 2), [.t 1]⟩, ⟨(some 32), (some (30, true)), (.ld none), [.t 31]⟩, ⟨(some 33), (some (30, true)), (.bin .eql), [.t 32, .k (.c (.string ⟨#[]⟩))]⟩, ⟨(some 34), none, .pick, [.t 30, .t 33, .k (.c (.bool false))]⟩, ⟨(some 2), none, .mv, [.t 34]⟩] false) (.rt)) (.sq (.rg [⟨(some 36), none, (.bin .eql), [.t 4, .k (.c (.int .i64 4))]⟩, ⟨(some 35), none, .mv, [.t 36]⟩] false) (.cn (.t 35) (.sq (.rg [⟨(some 37), none, (.fa 1), [.t 1]⟩, ⟨(some 38), none, (.ld none), [.t 37]⟩, ⟨(some 39), none, (.bin .eql), [.t 38, .k (.c (.int .i64 0))]⟩, ⟨(some 40), none, .mv, [.t 39]⟩, ⟨(some 41), (some (40, true)), (.fa 2), [.t 1]⟩, ⟨(some 42), (some (40, true)), (.ld none), [.t 41]⟩, ⟨(some 43), (some (40, true)), .slen, [.t 42]⟩, ⟨(some 44), (some (40, true)), (.bin .leq), [.t 43, .k (.c (.int .i64 24))]⟩, ⟨(some 45), none, .pick, [.t 40, .t 44, .k (.c (.bool false))]⟩, ⟨(some 2), none, .mv, [.t 45]⟩] false) (.rt)) (.skip))))))))))) (.sq (.rg [⟨(some 2), none, .mv, [.k (.c (.bool false))]⟩] false) (.rt)))
theorem cf20 : compF Try.prog 20 c20 = some ⟨c20, [.t 2], 46⟩ := by kernel_rfl

-- raddle/pred.in
def c21 : IC := .sq (.rg [⟨(some 4), none, .mv, [.k (.c (.bool false))]⟩] false) (.sq (.rg [⟨(some 5), none, .mv, [.t 0]⟩, ⟨(some 6), none, (.bin .geq), [.t 5, .k (.c (.int .i64 0))]⟩, ⟨(some 7), none, .mv, [.t 6]⟩, ⟨(some 8), (some (7, true)), .mv, [.t 0]⟩, ⟨(some 9), (some (7, true)), .mv, [.t 1]⟩, ⟨(some 10), (some (7, true)), (.bin .lss), [.t 8, .t 9]⟩, ⟨(some 11), none, .pick, [.t 7, .t 10, .k (.c (.bool false))]⟩, ⟨(some 4), none, .mv, [.t 11]⟩] false) (.rt))
theorem cf21 : compF Try.prog 21 c21 = some ⟨c21, [.t 4], 12⟩ := by kernel_rfl

-- raddle/pred.other
def c22 : IC := .sq (.rg [⟨(some 1), none, (.box (some 6)), [.t 0]⟩, ⟨(some 2), none, .mv, [.k (.c (.bool false))]⟩] false) (.sq (.rg [⟨(some 3), none, (.fa 0), [.t 1]⟩, ⟨(some 4), none, (.ld none), [.t 3]⟩, ⟨(some 5), none, (.bin .eql), [.t 4, .k (.c (.int .i64 3))]⟩, ⟨(some 6), none, .mv, [.t 5]⟩, ⟨(some 7), (some (6, false)), (.fa 0), [.t 1]⟩, ⟨(some 8), (some (6, false)), (.ld none), [.t 7]⟩, ⟨(some 9), (some (6, false)), (.bin .eql), [.t 8, .k (.c (.int .i64 4))]⟩, ⟨(some 10), none, .pick, [.t 6, .k (.c (.bool true)), .t 9]⟩, ⟨(some 2), none, .mv, [.t 10]⟩] false) (.rt))
theorem cf22 : compF Try.prog 22 c22 = some ⟨c22, [.t 2], 11⟩ := by kernel_rfl

-- raddle/pred.given
def c23 : IC := .sq (.rg [⟨(some 1), none, (.box (some 6)), [.t 0]⟩, ⟨(some 2), none, .mv, [.k (.c (.bool false))]⟩] false) (.sq (.rg [⟨(some 3), none, (.fa 0), [.t 1]⟩, ⟨(some 4), none, (.ld none), [.t 3]⟩, ⟨(some 5), none, (.bin .eql), [.t 4, .k (.c (.int .i64 1))]⟩, ⟨(some 6), none, .mv, [.t 5]⟩, ⟨(some 7), (some (6, false)), (.fa 0), [.t 1]⟩, ⟨(some 8), (some (6, false)), (.ld none), [.t 7]⟩, ⟨(some 9), (some (6, false)), (.bin .eql), [.t 8, .k (.c (.int .i64 2))]⟩, ⟨(some 10), none, .pick, [.t 6, .k (.c (.bool true)), .t 9]⟩, ⟨(some 2), none, .mv, [.t 10]⟩] false) (.rt))
theorem cf23 : compF Try.prog 23 c23 = some ⟨c23, [.t 2], 11⟩ := by kernel_rfl

-- raddle/value.Check
def c24 : IC := .sq (.rg [⟨(some 1), none, (.box (some 3)), [.t 0]⟩, ⟨(some 2), none, .mv, [.k (.c (.int .i64 0))]⟩] false) (.sq (.rg [⟨(some 3), none, .mv, [.k (.c (.bool false))]⟩] false) (.sq (.sq (.rg [⟨(some 4), none, (.fa 0), [.t 1]⟩, ⟨(some 5), none, (.ld none), [.t 4]⟩] false) (.bl 0 (.sq (.rg [⟨(some 7), none, (.bin .eql), [.t 5, .k (.c (.int .i64 1))]⟩, ⟨(some 6), none, .mv, [.t 7]⟩] false) (.cn (.t 6) (.rg [⟨(some 8), none, (.fa 1), [.t 1]⟩, ⟨(some 9), none, (.ld none), [.t 8]⟩, ⟨(some 10), none, (.bin .eql), [.t 9, .k (.c (.int .i64 0))]⟩, ⟨(some 11), none, .mv, [.t 10]⟩, ⟨(some 12), (some (11, true)), (.fa 2), [.t 1]⟩, ⟨(some 13), (some (11, true)), (.ld none), [.t 12]⟩, ⟨(some 14), (some (11, true)), (.bin .eql), [.t 13, .k (.c (.string ⟨#[]⟩))]⟩, ⟨(some 15), none, .pick, [.t 11, .t 14, .k (.c (.bool false))]⟩, ⟨(some 3), none, .mv, [.t 15]⟩] false) (.sq (.rg [⟨(some 17), none, (.bin .eql), [.t 5, .k (.c (.int .i64 2))]⟩, ⟨(some 16), none, .mv, [.t 17]⟩] false) (.cn (.t 16) (.rg [⟨(some 18), none, (.fa 1), [.t 1]⟩, ⟨(some 19), none, (.ld none), [.t 18]⟩, ⟨(some 20), none, (.bin .eql), [.t 19, .k (.c (.int .i64 0))]⟩, ⟨(some 21), none, .mv, [.t 20]⟩, ⟨(some 22), (some (21, false)), (.fa 1), [.t 1]⟩, ⟨(some 23), (some (21, false)), (.ld none), [.t 22]⟩, ⟨(some 24), (some (21, false)), (.bin .eql), [.t 23, .k (.c (.int .i64 1))]⟩, ⟨(some 25), none, .pick, [.t 21, .k (.c (.bool true)), .t 24]⟩, ⟨(some 26), none, .mv, [.t 25]⟩, ⟨(some 27), (some (26, true)), (.fa 2), [.t 1]⟩, ⟨(some 28), (some (26, true)), (.ld none), [.t 27]⟩, ⟨(some 29), (some (26, true)), (.bin .eql), [.t 28, .k (.c (.string ⟨#[]⟩))]⟩, ⟨(some 30), none, .pick, [.t 26, .t 29, .k (.c (.bool false))]⟩, ⟨(some 3), none, .mv, [.t 30]⟩] false) (.sq (.rg [⟨(some 32), none, (.bin .eql), [.t 5, .k (.c (.int .i64 3))]⟩, ⟨(some 31), none, .mv, [.t 32]⟩] false) (.cn (.t 31) (.rg [⟨(some 33), none, (.fa 1), [.t 1]⟩, ⟨(some 34), none, (.ld none), [.t 33]⟩, ⟨(some 35), none, (.call 31 .fz), [.t 34, .k (.c (.int .i64 1152921504606846976))]⟩, ⟨(some 36), none, .mv, [.t 35]⟩, ⟨(some 37), (some (36, true)), (.fa 2), [.t 1]⟩, ⟨(some 38), (some (36, true)), (.ld none), [.t 37]⟩, ⟨(some 39), (some (36, true)), (.bin .eql), [.t 38, .k (.c (.string ⟨#[]⟩))]⟩, ⟨(some 40), none, .pick, [.t 36, .t 39, .k (.c (.bool false))]⟩, ⟨(some 3), none, .mv, [.t 40]⟩] false) (.sq (.rg [⟨(some 42), none, (.bin .eql), [.t 5, .k (.c (.int .i64 4))]⟩, ⟨(some 41), none, .mv, [.t 42]⟩] false) (.cn (.t 41) (.rg [⟨(some 43), none, (.fa 1), [.t 1]⟩, ⟨(some 44), none, (.ld none), [.t 43]⟩, ⟨(some 45), none, (.bin .eql), [.t 44, .k (.c (.int .i64 0))]⟩, ⟨(some 46), none, .mv, [.t 45]⟩, ⟨(some 47), (some (46, true)), (.fa 2), [.t 1]⟩, ⟨(some 48), (some (46, true)), (.ld none), [.t 47]⟩, ⟨(some 49), (some (46, true)), .slen, [.t 48]⟩, ⟨(some 50), (some (46, true)), (.bin .leq), [.t 49, .k (.c (.int .i64 24))]⟩, ⟨(some 51), none, .pick, [.t 46, .t 50, .k (.c (.bool false))]⟩, ⟨(some 3), none, .mv, [.t 51]⟩] false) (.skip))))))))))) (.sq (.sq (.rg [⟨(some 52), none, .mv, [.t 3]⟩, ⟨(some 53), none, (.un .not), [.t 52]⟩] false) (.cn (.t 53) (.sq (.rg [⟨(some 2), none, .mv, [.k (.c (.int .i64 1))]⟩] false) (.rt)) (.skip))) (.sq (.rg [⟨(some 2), none, .mv, [.k (.c (.int .i64 0))]⟩] false) (.rt)))))
theorem cf24 : compF Try.prog 24 c24 = some ⟨c24, [.t 2], 54⟩ := by kernel_rfl

-- raddle/value.Fits
def c25 : IC := .sq (.rg [⟨(some 2), none, (.box (some 3)), [.t 0]⟩, ⟨(some 4), none, .mv, [.k (.c (.bool false))]⟩] false) (.sq (.rg [⟨(some 5), none, .mv, [.t 1]⟩, ⟨(some 6), none, (.bin .eql), [.t 5, .k (.c (.int .i64 2))]⟩, ⟨(some 7), none, .mv, [.t 6]⟩, ⟨(some 8), (some (7, false)), .mv, [.t 1]⟩, ⟨(some 9), (some (7, false)), (.bin .eql), [.t 8, .k (.c (.int .i64 3))]⟩, ⟨(some 10), none, .pick, [.t 7, .k (.c (.bool true)), .t 9]⟩, ⟨(some 11), none, .mv, [.t 10]⟩, ⟨(some 12), (some (11, false)), .mv, [.t 1]⟩, ⟨(some 13), (some (11, false)), (.bin .eql), [.t 12, .k (.c (.int .i64 4))]⟩, ⟨(some 14), none, .pick, [.t 11, .k (.c (.bool true)), .t 13]⟩, ⟨(some 15), none, .mv, [.t 14]⟩, ⟨(some 16), (some (15, true)), (.ld (some 3)), [.t 2]⟩, ⟨(some 17), (some (15, true)), (.call 24 .fz), [.t 16]⟩, ⟨(some 18), (some (15, true)), (.bin .eql), [.t 17, .k (.c (.int .i64 0))]⟩, ⟨(some 19), none, .pick, [.t 15, .t 18, .k (.c (.bool false))]⟩, ⟨(some 20), none, .mv, [.t 19]⟩, ⟨(some 21), (some (20, true)), (.fa 0), [.t 2]⟩, ⟨(some 22), (some (20, true)), (.ld none), [.t 21]⟩, ⟨(some 23), (some (20, true)), .mv, [.t 1]⟩, ⟨(some 24), (some (20, true)), (.bin .eql), [.t 22, .t 23]⟩, ⟨(some 25), (some (20, true)), .mv, [.t 24]⟩, ⟨(some 26), (some (25, false)), (.fa 0), [.t 2]⟩, ⟨(some 27), (some (25, false)), (.ld none), [.t 26]⟩, ⟨(some 28), (some (25, false)), (.bin .eql), [.t 27, .k (.c (.int .i64 1))]⟩, ⟨(some 29), (some (20, true)), .pick, [.t 25, .k (.c (.bool true)), .t 28]⟩, ⟨(some 30), none, .pick, [.t 20, .t 29, .k (.c (.bool false))]⟩, ⟨(some 4), none, .mv, [.t 30]⟩] false) (.rt))
theorem cf25 : compF Try.prog 25 c25 = some ⟨c25, [.t 4], 31⟩ := by kernel_rfl

-- raddle/raddleref14.in
def c26 : IC := .sq (.rg [⟨(some 6), none, .mv, [.k (.c (.bool false))]⟩] false) (.sq (.rg [⟨(some 7), none, .mv, [.t 0]⟩, ⟨(some 8), none, .mv, [.t 1]⟩, ⟨(some 9), none, (.bin .geq), [.t 7, .t 8]⟩, ⟨(some 10), none, .mv, [.t 9]⟩, ⟨(some 11), (some (10, true)), .mv, [.t 0]⟩, ⟨(some 12), (some (10, true)), .mv, [.t 2]⟩, ⟨(some 13), (some (10, true)), (.bin .leq), [.t 11, .t 12]⟩, ⟨(some 14), none, .pick, [.t 10, .t 13, .k (.c (.bool false))]⟩, ⟨(some 6), none, .mv, [.t 14]⟩] false) (.rt))
theorem cf26 : compF Try.prog 26 c26 = some ⟨c26, [.t 6], 15⟩ := by kernel_rfl

-- raddle/raddleref01.Fits
def c27 : IC := .sq (.rg [⟨(some 2), none, (.box (some 3)), [.t 0]⟩, ⟨(some 4), none, .mv, [.k (.c (.bool false))]⟩] false) (.sq (.rg [⟨(some 5), none, .mv, [.t 1]⟩, ⟨(some 6), none, (.call 32 .fz), [.t 5]⟩, ⟨(some 7), none, .mv, [.t 6]⟩, ⟨(some 8), (some (7, true)), (.ld (some 3)), [.t 2]⟩, ⟨(some 9), (some (7, true)), (.call 20 .fz), [.t 8]⟩, ⟨(some 10), none, .pick, [.t 7, .t 9, .k (.c (.bool false))]⟩, ⟨(some 11), none, .mv, [.t 10]⟩, ⟨(some 12), (some (11, true)), (.fa 0), [.t 2]⟩, ⟨(some 13), (some (11, true)), (.ld none), [.t 12]⟩, ⟨(some 14), (some (11, true)), .mv, [.t 1]⟩, ⟨(some 15), (some (11, true)), (.bin .eql), [.t 13, .t 14]⟩, ⟨(some 16), (some (11, true)), .mv, [.t 15]⟩, ⟨(some 17), (some (16, false)), (.fa 0), [.t 2]⟩, ⟨(some 18), (some (16, false)), (.ld none), [.t 17]⟩, ⟨(some 19), (some (16, false)), (.bin .eql), [.t 18, .k (.c (.int .i64 1))]⟩, ⟨(some 20), (some (11, true)), .pick, [.t 16, .k (.c (.bool true)), .t 19]⟩, ⟨(some 21), none, .pick, [.t 11, .t 20, .k (.c (.bool false))]⟩, ⟨(some 4), none, .mv, [.t 21]⟩] false) (.rt))
theorem cf27 : compF Try.prog 27 c27 = some ⟨c27, [.t 4], 22⟩ := by kernel_rfl

-- raddle/value.Compare
def c28 : IC := .sq (.rg [⟨(some 2), none, (.box (some 3)), [.t 0]⟩, ⟨(some 3), none, (.box (some 3)), [.t 1]⟩, ⟨(some 4), none, .mv, [.k (.c (.int .i64 0))]⟩] false) (.sq (.rg [⟨(some 5), none, (.fa 0), [.t 2]⟩, ⟨(some 6), none, (.ld none), [.t 5]⟩, ⟨(some 7), none, (.fa 0), [.t 3]⟩, ⟨(some 8), none, (.ld none), [.t 7]⟩, ⟨(some 9), none, (.call 34 .fz), [.t 6, .t 8]⟩, ⟨(some 10), none, (.fa 1), [.t 2]⟩, ⟨(some 11), none, (.ld none), [.t 10]⟩, ⟨(some 12), none, (.fa 1), [.t 3]⟩, ⟨(some 13), none, (.ld none), [.t 12]⟩, ⟨(some 14), none, (.call 34 .fz), [.t 11, .t 13]⟩, ⟨(some 15), none, (.fa 2), [.t 2]⟩, ⟨(some 16), none, (.ld none), [.t 15]⟩, ⟨(some 17), none, (.fa 2), [.t 3]⟩, ⟨(some 18), none, (.ld none), [.t 17]⟩, ⟨(some 19), none, (.call 35 .fz), [.t 16, .t 18]⟩, ⟨(some 20), none, (.bsl 1 [(.c (.int .i64 0))] [0, 1, 2] 3 true), [.t 9, .t 14, .t 19]⟩, ⟨(some 21), none, (.call 33 .fz), [.t 20]⟩, ⟨(some 4), none, .mv, [.t 21]⟩] true) (.rt))
theorem cf28 : compF Try.prog 28 c28 = some ⟨c28, [.t 4], 22⟩ := by kernel_rfl

-- raddle/raddleref01.Compare
def c29 : IC := .sq (.rg [⟨(some 2), none, (.box (some 3)), [.t 0]⟩, ⟨(some 3), none, (.box (some 3)), [.t 1]⟩, ⟨(some 4), none, .mv, [.k (.c (.int .i64 0))]⟩] false) (.sq (.sq (.rg [⟨(some 5), none, (.fa 0), [.t 2]⟩, ⟨(some 6), none, (.ld none), [.t 5]⟩, ⟨(some 7), none, (.fa 0), [.t 3]⟩, ⟨(some 8), none, (.ld none), [.t 7]⟩, ⟨(some 9), none, (.bin .neq), [.t 6, .t 8]⟩] false) (.cn (.t 9) (.sq (.rg [⟨(some 10), none, (.fa 0), [.t 2]⟩, ⟨(some 11), none, (.ld none), [.t 10]⟩, ⟨(some 12), none, (.fa 0), [.t 3]⟩, ⟨(some 13), none, (.ld none), [.t 12]⟩, ⟨(some 14), none, (.bin .lss), [.t 11, .t 13]⟩, ⟨(some 15), none, (.call 36 .fz), [.t 14]⟩, ⟨(some 4), none, .mv, [.t 15]⟩] false) (.rt)) (.skip))) (.sq (.sq (.rg [⟨(some 16), none, (.fa 1), [.t 2]⟩, ⟨(some 17), none, (.ld none), [.t 16]⟩, ⟨(some 18), none, (.fa 1), [.t 3]⟩, ⟨(some 19), none, (.ld none), [.t 18]⟩, ⟨(some 20), none, (.bin .neq), [.t 17, .t 19]⟩] false) (.cn (.t 20) (.sq (.rg [⟨(some 21), none, (.fa 1), [.t 2]⟩, ⟨(some 22), none, (.ld none), [.t 21]⟩, ⟨(some 23), none, (.fa 1), [.t 3]⟩, ⟨(some 24), none, (.ld none), [.t 23]⟩, ⟨(some 25), none, (.bin .lss), [.t 22, .t 24]⟩, ⟨(some 26), none, (.call 36 .fz), [.t 25]⟩, ⟨(some 4), none, .mv, [.t 26]⟩] false) (.rt)) (.skip))) (.sq (.sq (.rg [⟨(some 27), none, (.fa 2), [.t 2]⟩, ⟨(some 28), none, (.ld none), [.t 27]⟩, ⟨(some 29), none, (.fa 2), [.t 3]⟩, ⟨(some 30), none, (.ld none), [.t 29]⟩, ⟨(some 31), none, (.bin .neq), [.t 28, .t 30]⟩] false) (.cn (.t 31) (.sq (.rg [⟨(some 32), none, (.fa 2), [.t 2]⟩, ⟨(some 33), none, (.ld none), [.t 32]⟩, ⟨(some 34), none, (.fa 2), [.t 3]⟩, ⟨(some 35), none, (.ld none), [.t 34]⟩, ⟨(some 36), none, (.bin .lss), [.t 33, .t 35]⟩, ⟨(some 37), none, (.call 36 .fz), [.t 36]⟩, ⟨(some 4), none, .mv, [.t 37]⟩] false) (.rt)) (.skip))) (.sq (.rg [⟨(some 4), none, .mv, [.k (.c (.int .i64 0))]⟩] false) (.rt)))))
theorem cf29 : compF Try.prog 29 c29 = some ⟨c29, [.t 4], 38⟩ := by kernel_rfl

-- raddle/raddleref01.in
def c30 : IC := .sq (.rg [⟨(some 6), none, .mv, [.k (.c (.bool false))]⟩] false) (.sq (.rg [⟨(some 7), none, .mv, [.t 0]⟩, ⟨(some 8), none, .mv, [.t 1]⟩, ⟨(some 9), none, (.bin .geq), [.t 7, .t 8]⟩, ⟨(some 10), none, .mv, [.t 9]⟩, ⟨(some 11), (some (10, true)), .mv, [.t 0]⟩, ⟨(some 12), (some (10, true)), .mv, [.t 2]⟩, ⟨(some 13), (some (10, true)), (.bin .leq), [.t 11, .t 12]⟩, ⟨(some 14), none, .pick, [.t 10, .t 13, .k (.c (.bool false))]⟩, ⟨(some 6), none, .mv, [.t 14]⟩] false) (.rt))
theorem cf30 : compF Try.prog 30 c30 = some ⟨c30, [.t 6], 15⟩ := by kernel_rfl

-- raddle/value.within
def c31 : IC := .sq (.rg [⟨(some 4), none, .mv, [.k (.c (.bool false))]⟩] false) (.sq (.rg [⟨(some 5), none, .mv, [.t 0]⟩, ⟨(some 6), none, .mv, [.t 1]⟩, ⟨(some 7), none, (.un .neg), [.t 6]⟩, ⟨(some 8), none, (.bin .geq), [.t 5, .t 7]⟩, ⟨(some 9), none, .mv, [.t 8]⟩, ⟨(some 10), (some (9, true)), .mv, [.t 0]⟩, ⟨(some 11), (some (9, true)), .mv, [.t 1]⟩, ⟨(some 12), (some (9, true)), (.bin .leq), [.t 10, .t 11]⟩, ⟨(some 13), none, .pick, [.t 9, .t 12, .k (.c (.bool false))]⟩, ⟨(some 4), none, .mv, [.t 13]⟩] false) (.rt))
theorem cf31 : compF Try.prog 31 c31 = some ⟨c31, [.t 4], 14⟩ := by kernel_rfl

-- raddle/raddleref01.Type
def c32 : IC := .sq (.rg [⟨(some 2), none, .mv, [.k (.c (.bool false))]⟩] false) (.sq (.rg [⟨(some 3), none, .mv, [.t 0]⟩, ⟨(some 4), none, (.call 30 .fz), [.t 3, .k (.c (.int .i64 2)), .k (.c (.int .i64 4))]⟩, ⟨(some 2), none, .mv, [.t 4]⟩] false) (.rt))
theorem cf32 : compF Try.prog 32 c32 = some ⟨c32, [.t 2], 5⟩ := by kernel_rfl

-- cmp.Or[int]
def c33 : IC := .sq (.rg [⟨(some 2), none, .mv, [.k (.c (.int .i64 0))]⟩] false) (.sq (.rg [⟨(some 3), none, .mv, [.k (.c (.int .i64 0))]⟩] false) (.sq (.sq (.rg [⟨(some 6), none, .mv, [.t 0]⟩, ⟨(some 7), none, .len, [.t 6]⟩, ⟨(some 8), none, .mv, [.k (.c (.int .i64 0))]⟩] false) (.bl 0 (.lp (.sq (.rg [⟨(some 9), none, (.bin .lss), [.t 8, .t 7]⟩] false) (.sq (.cn (.t 9) (.skip) (.ex 0)) (.sq (.bl 1 (.sq (.rg [⟨(some 10), none, (.ia 1), [.t 6, .t 8]⟩, ⟨(some 11), none, (.ld none), [.t 10]⟩, ⟨(some 5), none, .mv, [.t 11]⟩] false) (.sq (.rg [⟨(some 12), none, .mv, [.t 5]⟩, ⟨(some 13), none, .mv, [.t 3]⟩, ⟨(some 14), none, (.bin .neq), [.t 12, .t 13]⟩] false) (.cn (.t 14) (.sq (.rg [⟨(some 15), none, .mv, [.t 5]⟩, ⟨(some 2), none, .mv, [.t 15]⟩] false) (.rt)) (.skip))))) (.rg [⟨(some 16), none, (.bin .add), [.t 8, .k (.c (.int .i64 1))]⟩, ⟨(some 8), none, .mv, [.t 16]⟩] false))))))) (.sq (.rg [⟨(some 17), none, .mv, [.t 3]⟩, ⟨(some 2), none, .mv, [.t 17]⟩] false) (.rt))))
theorem cf33 : compF Try.prog 33 c33 = some ⟨c33, [.t 2], 18⟩ := by kernel_rfl

-- cmp.Compare[int]
def c34 : IC := .sq (.rg [⟨(some 4), none, .mv, [.k (.c (.int .i64 0))]⟩] false) (.sq (.rg [⟨(some 7), none, .mv, [.t 0]⟩, ⟨(some 8), none, (.call 37 .fz), [.t 7]⟩, ⟨(some 5), none, .mv, [.t 8]⟩] false) (.sq (.rg [⟨(some 9), none, .mv, [.t 1]⟩, ⟨(some 10), none, (.call 37 .fz), [.t 9]⟩, ⟨(some 6), none, .mv, [.t 10]⟩] false) (.sq (.sq (.rg [⟨(some 11), none, .mv, [.t 5]⟩] false) (.cn (.t 11) (.sq (.sq (.rg [⟨(some 12), none, .mv, [.t 6]⟩] false) (.cn (.t 12) (.sq (.rg [⟨(some 4), none, .mv, [.k (.c (.int .i64 0))]⟩] false) (.rt)) (.skip))) (.sq (.rg [⟨(some 4), none, .mv, [.k (.c (.int .i64 (-1)))]⟩] false) (.rt))) (.skip))) (.sq (.sq (.rg [⟨(some 13), none, .mv, [.t 6]⟩] false) (.cn (.t 13) (.sq (.rg [⟨(some 4), none, .mv, [.k (.c (.int .i64 1))]⟩] false) (.rt)) (.skip))) (.sq (.sq (.rg [⟨(some 14), none, .mv, [.t 0]⟩, ⟨(some 15), none, .mv, [.t 1]⟩, ⟨(some 16), none, (.bin .lss), [.t 14, .t 15]⟩] false) (.cn (.t 16) (.sq (.rg [⟨(some 4), none, .mv, [.k (.c (.int .i64 (-1)))]⟩] false) (.rt)) (.skip))) (.sq (.sq (.rg [⟨(some 17), none, .mv, [.t 0]⟩, ⟨(some 18), none, .mv, [.t 1]⟩, ⟨(some 19), none, (.bin .gtr), [.t 17, .t 18]⟩] false) (.cn (.t 19) (.sq (.rg [⟨(some 4), none, .mv, [.k (.c (.int .i64 1))]⟩] false) (.rt)) (.skip))) (.sq (.rg [⟨(some 4), none, .mv, [.k (.c (.int .i64 0))]⟩] false) (.rt))))))))
theorem cf34 : compF Try.prog 34 c34 = some ⟨c34, [.t 4], 20⟩ := by kernel_rfl

-- cmp.Compare[string]
def c35 : IC := .sq (.rg [⟨(some 4), none, .mv, [.k (.c (.int .i64 0))]⟩] false) (.sq (.rg [⟨(some 7), none, .mv, [.t 0]⟩, ⟨(some 8), none, (.call 38 .fz), [.t 7]⟩, ⟨(some 5), none, .mv, [.t 8]⟩] false) (.sq (.rg [⟨(some 9), none, .mv, [.t 1]⟩, ⟨(some 10), none, (.call 38 .fz), [.t 9]⟩, ⟨(some 6), none, .mv, [.t 10]⟩] false) (.sq (.sq (.rg [⟨(some 11), none, .mv, [.t 5]⟩] false) (.cn (.t 11) (.sq (.sq (.rg [⟨(some 12), none, .mv, [.t 6]⟩] false) (.cn (.t 12) (.sq (.rg [⟨(some 4), none, .mv, [.k (.c (.int .i64 0))]⟩] false) (.rt)) (.skip))) (.sq (.rg [⟨(some 4), none, .mv, [.k (.c (.int .i64 (-1)))]⟩] false) (.rt))) (.skip))) (.sq (.sq (.rg [⟨(some 13), none, .mv, [.t 6]⟩] false) (.cn (.t 13) (.sq (.rg [⟨(some 4), none, .mv, [.k (.c (.int .i64 1))]⟩] false) (.rt)) (.skip))) (.sq (.sq (.rg [⟨(some 14), none, .mv, [.t 0]⟩, ⟨(some 15), none, .mv, [.t 1]⟩, ⟨(some 16), none, (.bin .lss), [.t 14, .t 15]⟩] false) (.cn (.t 16) (.sq (.rg [⟨(some 4), none, .mv, [.k (.c (.int .i64 (-1)))]⟩] false) (.rt)) (.skip))) (.sq (.sq (.rg [⟨(some 17), none, .mv, [.t 0]⟩, ⟨(some 18), none, .mv, [.t 1]⟩, ⟨(some 19), none, (.bin .gtr), [.t 17, .t 18]⟩] false) (.cn (.t 19) (.sq (.rg [⟨(some 4), none, .mv, [.k (.c (.int .i64 1))]⟩] false) (.rt)) (.skip))) (.sq (.rg [⟨(some 4), none, .mv, [.k (.c (.int .i64 0))]⟩] false) (.rt))))))))
theorem cf35 : compF Try.prog 35 c35 = some ⟨c35, [.t 4], 20⟩ := by kernel_rfl

-- raddle/raddleref01.sign
def c36 : IC := .sq (.rg [⟨(some 2), none, .mv, [.k (.c (.int .i64 0))]⟩] false) (.sq (.sq (.rg [⟨(some 3), none, .mv, [.t 0]⟩] false) (.cn (.t 3) (.sq (.rg [⟨(some 2), none, .mv, [.k (.c (.int .i64 (-1)))]⟩] false) (.rt)) (.skip))) (.sq (.rg [⟨(some 2), none, .mv, [.k (.c (.int .i64 1))]⟩] false) (.rt)))
theorem cf36 : compF Try.prog 36 c36 = some ⟨c36, [.t 2], 4⟩ := by kernel_rfl

-- cmp.isNaN[int]
def c37 : IC := .sq (.rg [⟨(some 2), none, .mv, [.k (.c (.bool false))]⟩] false) (.sq (.rg [⟨(some 3), none, .mv, [.t 0]⟩, ⟨(some 4), none, .mv, [.t 0]⟩, ⟨(some 5), none, (.bin .neq), [.t 3, .t 4]⟩, ⟨(some 2), none, .mv, [.t 5]⟩] false) (.rt))
theorem cf37 : compF Try.prog 37 c37 = some ⟨c37, [.t 2], 6⟩ := by kernel_rfl

-- cmp.isNaN[string]
def c38 : IC := .sq (.rg [⟨(some 2), none, .mv, [.k (.c (.bool false))]⟩] false) (.sq (.rg [⟨(some 3), none, .mv, [.t 0]⟩, ⟨(some 4), none, .mv, [.t 0]⟩, ⟨(some 5), none, (.bin .neq), [.t 3, .t 4]⟩, ⟨(some 2), none, .mv, [.t 5]⟩] false) (.rt))
theorem cf38 : compF Try.prog 38 c38 = some ⟨c38, [.t 2], 6⟩ := by kernel_rfl

end Go.Proofs.Ytfddkjoklcbjeaa.D
end
section
set_option linter.unusedVariables false
set_option linter.unusedSimpArgs false
set_option maxRecDepth 100000
set_option linter.constructorNameAsVariable false

/- What functions of raddlekeep, raddleref01 and dot answer. No condition. -/
namespace Go.Proofs.Ytfddkjoklcbjeaa.D
open Go Go.Proofs

theorem refIn_ok (n lo hi : Int) : FnB Try.prog 30 [vi n, vi lo, vi hi] (vb (decide (lo ≤ n ∧ n ≤ hi))) := by
  refine fnB_intro cf30 (by simp) ?_
  simp (config := {contextual := true, maxSteps := 1000000}) only [go_sem, ints, intRows, iv_c, Nat.reduceAdd, Nat.reduceBEq, Nat.reduceEqDiff, Nat.reduceLeDiff, Nat.reduceLT, reduceIte, Nat.le_refl, true_or, or_true, and_self, Int.reduceLE, Int.reduceLT, Int.reduceEq, Int.reduceNeg, Int.natCast_nonneg, Int.reduceToNat, c30]
  simp

theorem take_succ_iff {α : Type} [Inhabited α] {p : α → Prop} {l : List α} {i : Nat} (h : i < l.length) : (∀ n ∈ l.take (i + 1), p n) ↔ (∀ n ∈ l.take i, p n) ∧ p (gN l i) := by
  rw [List.take_add_one, gN_at h]; simp [or_imp, forall_and]
theorem take_succ_eq {α : Type} [Inhabited α] {a b : List α} {i : Nat} (h : i < a.length) (h' : i < b.length) (e : a.take i = b.take i) (e' : gN a i = gN b i) : a.take (i + 1) = b.take (i + 1) := by
  rw [List.take_add_one, List.take_add_one, gN_at h, gN_at h', e, e']

theorem Ints_ok {fl fm : Fl} (a b : List Int) (ha : a.length ≤ maxLen) : FnB Try.prog 15 [ints fl a, ints fm b] (vb (decide (a = b))) := by
  unfold maxLen at ha
  refine fnB_intro cf15 (by simp) ?_
  simp (config := {contextual := true, maxSteps := 1000000}) only [go_sem, ints, intRows, iv_c, Nat.reduceAdd, Nat.reduceBEq, Nat.reduceEqDiff, Nat.reduceLeDiff, Nat.reduceLT, reduceIte, Nat.le_refl, true_or, or_true, and_self, Int.reduceLE, Int.reduceLT, Int.reduceEq, Int.reduceNeg, Int.natCast_nonneg, Int.reduceToNat, c15]
  refine ⟨?_, ?_⟩
  · intro h; simp at h ⊢
    intro e; exact absurd (congrArg List.length e) (by omega)
  · intro h; simp at h
    refine wpC_lp (fun env ob n => env 0 = ints fl a ∧ env 1 = ints fm b ∧ ∃ i : Nat, env 5 = vi i ∧ i ≤ a.length ∧ a.take i = b.take i) (fun env ob n => (a.length - iv (env 5)).toNat) ?_ ?_
    · simp (config := {contextual := true, maxSteps := 1000000}) only [go_sem, ints, intRows, iv_c, Nat.reduceAdd, Nat.reduceBEq, Nat.reduceEqDiff, Nat.reduceLeDiff, Nat.reduceLT, reduceIte, Nat.le_refl, true_or, or_true, and_self, Int.reduceLE, Int.reduceLT, Int.reduceEq, Int.reduceNeg, Int.natCast_nonneg, Int.reduceToNat]
      simp
      exact ⟨0, by simp⟩
    · rintro env ob n ⟨h0, h1, i, h5, hi, he⟩
      simp (config := {contextual := true, maxSteps := 1000000}) only [go_sem, ints, intRows, iv_c, Nat.reduceAdd, Nat.reduceBEq, Nat.reduceEqDiff, Nat.reduceLeDiff, Nat.reduceLT, reduceIte, Nat.le_refl, true_or, or_true, and_self, Int.reduceLE, Int.reduceLT, Int.reduceEq, Int.reduceNeg, Int.natCast_nonneg, Int.reduceToNat, h0, h1, h5]
      simp
      refine ⟨fun hlt => ⟨by omega, by omega, fun hne e => hne (by rw [e]), fun heq => ⟨⟨i + 1, ?_, by omega, take_succ_eq (by omega) (by omega) he heq⟩, ?_⟩⟩, fun hge => ?_⟩
      · rw [w64 (by omega)]; simp
      · rw [w64 (by omega)]; omega
      · rw [List.take_of_length_le (by omega), List.take_of_length_le (by omega)] at he; exact he

/-- Whether a vector may be. -/
def vecE (v : List Int) : Int := if 1 ≤ v.length ∧ v.length ≤ 5 then (if ∀ n ∈ v, 0 ≤ n ∧ n ≤ 1073741824 then 0 else 1) else 2

end Go.Proofs.Ytfddkjoklcbjeaa.D
end
section
set_option linter.unusedVariables false
set_option linter.unusedSimpArgs false
set_option maxRecDepth 100000
set_option linter.constructorNameAsVariable false

/- What functions of slices and dot answer. No condition. -/
namespace Go.Proofs.Ytfddkjoklcbjeaa.D
open Go Go.Proofs

/-- Where the first stands, if any does. -/
def idxI {α : Type} (p : α → Bool) (l : List α) : Int := if l.any p then (l.findIdx p : Nat) else -1
theorem idxI_ge {α : Type} (p : α → Bool) (l : List α) : decide (0 ≤ idxI p l) = l.any p := by
  unfold idxI; split <;> simp_all
theorem idxI_at {α : Type} [Inhabited α] {p : α → Bool} {l : List α} {i : Nat} (h : i < l.length) (h1 : ∀ n ∈ l.take i, p n = false) (h2 : p (gN l i) = true) : idxI p l = i := by
  rw [gN_eq h] at h2
  have : l.any p = true := List.any_eq_true.2 ⟨l[i], List.getElem_mem _, h2⟩
  rw [idxI, if_pos this, (List.findIdx_eq h).2 ⟨h2, fun j hj => h1 _ (List.mem_take_iff_getElem.2 ⟨j, by omega, rfl⟩)⟩]
theorem idxI_no {α : Type} {p : α → Bool} {l : List α} (h1 : ∀ n ∈ l, p n = false) : idxI p l = -1 := by
  rw [idxI, if_neg]; simp; exact h1

end Go.Proofs.Ytfddkjoklcbjeaa.D
end
section
set_option linter.unusedVariables false
set_option linter.unusedSimpArgs false
set_option maxRecDepth 100000
set_option linter.constructorNameAsVariable false

/- What functions of dot answer: dots. No condition. -/
namespace Go.Proofs.Ytfddkjoklcbjeaa.D
open Go Go.Proofs

structure Dt where
  p : Int
  n : Int
instance : Inhabited Dt := ⟨⟨0, 0⟩⟩
def dotV (d : Dt) : List V := [vi d.p, vi d.n]
def hasB (v : List Int) (d : Dt) : Bool := decide (0 ≤ d.p ∧ d.p < v.length ∧ 1 ≤ d.n ∧ d.n ≤ gN v d.p.toNat)
def nextB (v : List Int) (d : Dt) : Bool := decide (0 ≤ d.p ∧ d.p < v.length ∧ d.n = gN v d.p.toNat + 1)
def inI (n : Int) : Prop := -9223372036854775808 ≤ n ∧ n ≤ 9223372036854775807

end Go.Proofs.Ytfddkjoklcbjeaa.D
end
section
set_option linter.unusedVariables false
set_option linter.unusedSimpArgs false
set_option maxRecDepth 100000
set_option linter.constructorNameAsVariable false

/- What functions of dot answer: vectors. No condition. -/
namespace Go.Proofs.Ytfddkjoklcbjeaa.D
open Go Go.Proofs

/-- Place by place. -/
def allB (p : Int → Int → Bool) (a b : List Int) : Bool := decide (a.length = b.length ∧ ∀ i, i < a.length → p (gN a i) (gN b i) = true)

/-- No number is greater. -/
def leB (a b : List Int) : Bool := allB (fun x y => decide (x ≤ y)) a b
theorem vecE_range (v : List Int) : vecE v = 0 → 1 ≤ v.length ∧ v.length ≤ 5 ∧ ∀ n ∈ v, 0 ≤ n ∧ n ≤ 1073741824 := by
  unfold vecE; split
  · rename_i h; split
    · rename_i h2; exact fun _ => ⟨h.1, h.2, h2⟩
    · intro h; cases h
  · intro h; cases h

/-- With the next dot. -/
def addV (v : List Int) (d : Dt) : List Int × Int :=
  if vecE v ≠ 0 then ([], vecE v) else if nextB v d = false ∨ 1073741824 < d.n then ([], 1) else (v.set d.p.toNat d.n, 0)

/-- Of two, place by place. -/
def eachV (p : Int → Int → Int) (a b : List Int) : List Int × Int :=
  if vecE a ≠ 0 then ([], vecE a) else if vecE b ≠ 0 then ([], vecE b) else if a.length ≠ b.length then ([], 2) else (List.zipWith p a b, 0)

def mergeV (a b : List Int) : List Int × Int := eachV max a b
end Go.Proofs.Ytfddkjoklcbjeaa.D
end
section
set_option linter.unusedVariables false
set_option linter.unusedSimpArgs false
set_option maxRecDepth 100000
set_option linter.constructorNameAsVariable false

/- What functions of dot answer: the least of several. No condition. -/
namespace Go.Proofs.Ytfddkjoklcbjeaa.D
open Go Go.Proofs

def firstE : List (List Int) → Int
  | [] => 0
  | v :: l => if vecE v ≠ 0 then vecE v else firstE l
theorem firstE_at : ∀ {l : List (List Int)} {i : Nat}, i < l.length → (∀ v ∈ l.take i, vecE v = 0) → vecE (gN l i) ≠ 0 → firstE l = vecE (gN l i)
  | [], i, h, _, _ => by simp at h
  | v :: l, 0, h, h1, h2 => by simp [gN] at h2; simp [firstE, gN, h2]
  | v :: l, i + 1, h, h1, h2 => by
    have : vecE v = 0 := h1 v (by simp)
    simp only [firstE, this]
    simp
    have e : gN (v :: l) (i + 1) = gN l i := by simp [gN]
    rw [e] at h2 ⊢
    exact firstE_at (by simpa using h) (fun w hw => h1 w (by simp [hw])) h2
theorem firstE_no : ∀ {l : List (List Int)}, (∀ v ∈ l, vecE v = 0) → firstE l = 0
  | [], _ => rfl
  | v :: l, h => by simp only [firstE, h v (by simp)]; simp; exact firstE_no fun w hw => h w (by simp [hw])

def leastF : List Int → List (List Int) → List Int × Int
  | out, [] => (out, 0)
  | out, v :: l => if (eachV min out v).2 ≠ 0 then ([], (eachV min out v).2) else leastF (eachV min out v).1 l
/-- The least of several. -/
def leastV (l : List (List Int)) : List Int × Int :=
  if l = [] then ([], 2) else if firstE l ≠ 0 then ([], firstE l) else leastF (gN l 0) l

theorem eachV_len {p : Int → Int → Int} {a b : List Int} : ((eachV p a b).2 = 0 → (eachV p a b).1.length = a.length ∧ a.length ≠ 0) ∧ ((eachV p a b).2 ≠ 0 → (eachV p a b).1 = []) := by
  unfold eachV
  split
  · rename_i h; exact ⟨fun h2 => absurd h2 h, fun _ => rfl⟩
  · split
    · rename_i h; exact ⟨fun h2 => absurd h2 h, fun _ => rfl⟩
    · split
      · exact ⟨fun h2 => (by cases h2), fun _ => rfl⟩
      · rename_i h h1 h2
        have := vecE_range a (by simpa using h)
        exact ⟨fun _ => ⟨by simp; omega, by omega⟩, fun h => absurd rfl h⟩

theorem drop_gN {α : Type} [Inhabited α] {l : List α} {i : Nat} (h : i < l.length) : l.drop i = gN l i :: l.drop (i + 1) := by
  rw [gN_eq h]; exact List.drop_eq_getElem_cons h

end Go.Proofs.Ytfddkjoklcbjeaa.D
end
section
set_option linter.unusedVariables false
set_option linter.unusedSimpArgs false
set_option maxRecDepth 100000
set_option linter.constructorNameAsVariable false

/- What functions of raddlelaw05 answer. No condition. -/
namespace Go.Proofs.Ytfddkjoklcbjeaa.D
open Go Go.Proofs

/-- More than is played? -/
def heavyB (l : List (List Int)) : Bool := decide (30 < l.length ∨ ∃ v ∈ l, 30 < v.length)
end Go.Proofs.Ytfddkjoklcbjeaa.D
end
section
set_option linter.unusedVariables false
set_option linter.unusedSimpArgs false
set_option maxRecDepth 100000
set_option linter.constructorNameAsVariable false

/- The least of several, plainly. No condition. -/
namespace Go.Proofs.Ytfddkjoklcbjeaa.D
open Go Go.Proofs

theorem eachV_yes {p : Int → Int → Int} {a b : List Int} (ha : vecE a = 0) (hb : vecE b = 0) (hl : a.length = b.length) : eachV p a b = (List.zipWith p a b, 0) := by simp [eachV, ha, hb, hl]
theorem eachV_zero {p : Int → Int → Int} {a b : List Int} (h : (eachV p a b).2 = 0) : vecE a = 0 ∧ vecE b = 0 ∧ a.length = b.length ∧ (eachV p a b).1 = List.zipWith p a b := by
  unfold eachV at *
  by_cases h1 : vecE a = 0 <;> by_cases h2 : vecE b = 0 <;> by_cases h3 : a.length = b.length <;> simp [h1, h2, h3] at h ⊢
theorem zip_self (v : List Int) : List.zipWith min v v = v := List.ext_getElem (by simp) (by simp)
theorem gN_zip {p : Int → Int → Int} {a b : List Int} {i : Nat} (h1 : i < a.length) (h2 : i < b.length) : gN (List.zipWith p a b) i = p (gN a i) (gN b i) := by
  rw [gN_eq (by simp; omega), gN_eq h1, gN_eq h2]; simp
theorem leB_left {a b : List Int} (h : a.length = b.length) : leB (List.zipWith min a b) a = true := by
  simp only [leB, allB]; rw [decide_eq_true]
  refine ⟨by simp; omega, fun i hi => ?_⟩
  have : i < a.length := by simp at hi; omega
  rw [gN_zip this (by omega)]; simp; omega
theorem leB_right {a b : List Int} (h : a.length = b.length) : leB (List.zipWith min a b) b = true := by
  simp only [leB, allB]; rw [decide_eq_true]
  refine ⟨by simp; omega, fun i hi => ?_⟩
  have : i < a.length := by simp at hi; omega
  rw [gN_zip this (by omega)]; simp; omega
theorem leastF_app : ∀ (l : List (List Int)) (out v : List Int), leastF out (l ++ [v]) = if (leastF out l).2 ≠ 0 then ([], (leastF out l).2) else if (eachV min (leastF out l).1 v).2 ≠ 0 then ([], (eachV min (leastF out l).1 v).2) else ((eachV min (leastF out l).1 v).1, 0)
  | [], out, v => by by_cases h : (eachV min out v).2 = 0 <;> simp [leastF, h]
  | w :: l, out, v => by
    simp only [List.cons_append, leastF]
    by_cases h : (eachV min out w).2 = 0
    · simp [h]; simpa using leastF_app l (eachV min out w).1 v
    · simp [h]
theorem firstE_app {v : List Int} (hv : vecE v = 0) : ∀ l : List (List Int), firstE (l ++ [v]) = firstE l
  | [] => by simp [firstE, hv]
  | w :: l => by simp only [List.cons_append, firstE, firstE_app hv l]
theorem leastF_err : ∀ (l : List (List Int)) (out : List Int), (leastF out l).2 = 0 ∨ (leastF out l).1 = []
  | [], out => .inl rfl
  | w :: l, out => by
    simp only [leastF]; split
    · exact .inr rfl
    · exact leastF_err l _
theorem leastV_err (l : List (List Int)) : (leastV l).2 = 0 ∨ (leastV l).1 = [] := by
  unfold leastV; split
  · exact .inr rfl
  · split
    · exact .inr rfl
    · exact leastF_err _ _
theorem leastV_one {v : List Int} (hv : vecE v = 0) : leastV [v] = (v, 0) := by
  simp [leastV, firstE, hv, leastF, gN, eachV_yes hv hv rfl, zip_self]
theorem leastV_app {v : List Int} (hv : vecE v = 0) (l : List (List Int)) (h : (leastV l).2 = 0) (h2 : (leastV (l ++ [v])).2 = 0) : leB (leastV (l ++ [v])).1 (leastV l).1 = true ∧ leB (leastV (l ++ [v])).1 v = true := by
  have hl : l ≠ [] := by intro e; subst e; simp [leastV] at h
  have hf : firstE l = 0 := by
    by_cases h3 : firstE l = 0
    · exact h3
    · simp [leastV, hl, h3] at h
  have e1 : leastV l = leastF (gN l 0) l := by simp [leastV, hl, hf]
  have e2 : leastV (l ++ [v]) = leastF (gN l 0) (l ++ [v]) := by
    have : gN (l ++ [v]) 0 = gN l 0 := by obtain ⟨x, m, rfl⟩ := List.exists_cons_of_ne_nil hl; rfl
    simp [leastV, firstE_app hv, hf, this]
  rw [e1] at h ⊢
  rw [e2, leastF_app] at h2 ⊢
  simp [h] at h2 ⊢
  by_cases h3 : (eachV min (leastF (gN l 0) l).1 v).2 = 0
  · simp [h3]
    obtain ⟨k1, k2, k3, k4⟩ := eachV_zero h3
    rw [k4]
    exact ⟨leB_left k3, leB_right k3⟩
  · simp [h3] at h2
theorem leastV_two {v : List Int} (hv : vecE v = 0) : leastV [v, List.replicate v.length 0] = (List.replicate v.length 0, 0) := by
  obtain ⟨h1, h2, h3⟩ := vecE_range v hv
  have hz : vecE (List.replicate v.length 0) = 0 := by
    rw [vecE, if_pos (by simp; omega), if_pos]
    intro n hn; rw [List.eq_of_mem_replicate hn]; omega
  have e : List.zipWith min v (List.replicate v.length 0) = List.replicate v.length 0 := by
    refine List.ext_getElem (by simp) fun i h4 h5 => ?_
    simp
    have h6 : i < v.length := by simpa using h5
    have := h3 v[i] (List.getElem_mem _)
    omega
  simp [leastV, firstE, hv, hz, leastF, gN, eachV_yes hv hv rfl, zip_self, eachV_yes hv hz (by simp), e]

end Go.Proofs.Ytfddkjoklcbjeaa.D
end
section
set_option linter.unusedVariables false
set_option linter.unusedSimpArgs false
set_option maxRecDepth 100000
set_option linter.constructorNameAsVariable false

/- Merging and the least, plainly. No condition. -/
namespace Go.Proofs.Ytfddkjoklcbjeaa.D
open Go Go.Proofs

theorem vecE_mk {v : List Int} (h1 : 1 ≤ v.length) (h2 : v.length ≤ 5) (h3 : ∀ i, i < v.length → 0 ≤ gN v i ∧ gN v i ≤ 1073741824) : vecE v = 0 := by
  rw [vecE, if_pos ⟨h1, h2⟩, if_pos]
  intro n hn
  obtain ⟨i, hi, rfl⟩ := List.getElem_of_mem hn
  rw [← gN_eq hi]; exact h3 i hi
theorem vecE_at {v : List Int} (h : vecE v = 0) {i : Nat} (hi : i < v.length) : 0 ≤ gN v i ∧ gN v i ≤ 1073741824 := (vecE_range v h).2.2 _ (by rw [gN_eq hi]; exact List.getElem_mem _)
theorem vecE_zip {p : Int → Int → Int} (hp : ∀ x y, p x y = x ∨ p x y = y) {a b : List Int} (ha : vecE a = 0) (hb : vecE b = 0) (h : a.length = b.length) : vecE (List.zipWith p a b) = 0 := by
  obtain ⟨h1, h2, _⟩ := vecE_range a ha
  refine vecE_mk (by simp; omega) (by simp; omega) fun i hi => ?_
  have h3 : i < a.length := by simp at hi; omega
  rw [gN_zip h3 (by omega)]
  rcases hp (gN a i) (gN b i) with e | e <;> rw [e]
  · exact vecE_at ha h3
  · exact vecE_at hb (by omega)
theorem min_or (x y : Int) : min x y = x ∨ min x y = y := by omega
theorem max_or (x y : Int) : max x y = x ∨ max x y = y := by omega
theorem merge_yes {a b : List Int} (ha : vecE a = 0) (hb : vecE b = 0) (h : a.length = b.length) : mergeV a b = (List.zipWith max a b, 0) := eachV_yes ha hb h
theorem least3 {a b c : List Int} (ha : vecE a = 0) (hb : vecE b = 0) (hc : vecE c = 0) (h : a.length = b.length) (k : b.length = c.length) : leastV [a, b, c] = (List.zipWith min (List.zipWith min a b) c, 0) := by
  have e2 : eachV min a b = (List.zipWith min a b, 0) := eachV_yes ha hb h
  have e3 : eachV min (List.zipWith min a b) c = (List.zipWith min (List.zipWith min a b) c, 0) := eachV_yes (vecE_zip min_or ha hb h) hc (by simp; omega)
  simp [leastV, firstE, ha, hb, hc, leastF, gN, eachV_yes ha ha rfl, zip_self, e2, e3]
theorem zip_comm {p : Int → Int → Int} (hp : ∀ x y, p x y = p y x) (a b : List Int) : List.zipWith p a b = List.zipWith p b a := by
  refine List.ext_getElem (by simp; omega) fun i h1 h2 => ?_
  simp; exact hp _ _
theorem leB_iff {a b : List Int} : leB a b = true ↔ a.length = b.length ∧ ∀ i, i < a.length → gN a i ≤ gN b i := by
  simp [leB, allB]
theorem list_iff {a b : List Int} : a = b ↔ a.length = b.length ∧ ∀ i, i < a.length → gN a i = gN b i := by
  constructor
  · rintro rfl; exact ⟨rfl, fun _ _ => rfl⟩
  · rintro ⟨h1, h2⟩
    refine List.ext_getElem h1 fun i h3 h4 => ?_
    rw [← gN_eq h3, ← gN_eq h4]; exact h2 i h3
end Go.Proofs.Ytfddkjoklcbjeaa.D
end
section
set_option linter.unusedVariables false
set_option linter.unusedSimpArgs false
set_option maxRecDepth 100000
set_option linter.constructorNameAsVariable false

/- DotLattice. No condition. -/
namespace Go.Proofs.Ytfddkjoklcbjeaa.D
open Go Go.Proofs

theorem dec10 : decide ((1 : Int) = 0) = false := (rfl)
def gDt (d : Dt) : Prop := gInt .i64 d.p ∧ gInt .i64 d.n
end Go.Proofs.Ytfddkjoklcbjeaa.D
end
section
set_option linter.unusedVariables false
set_option linter.unusedSimpArgs false
set_option maxRecDepth 100000
set_option linter.constructorNameAsVariable false

/- What functions of raddlekeep and mat answer. No condition. -/
namespace Go.Proofs.Ytfddkjoklcbjeaa.D
open Go Go.Proofs

attribute [go_sem] List.set_cons_zero List.set_cons_succ
theorem set_gN {α : Type} [Inhabited α] {l : List α} {i : Nat} (h : i < l.length) : l.set i (gN l i) = l := by rw [gN_eq h]; simp
/-- A pointer, as a call sees it. -/
def resP (ob : OB) (n o : Nat) : Option (List V) → V
  | some r => .bp ((r.drop o).map (resV ob n))
  | none => .u
@[go_sem] theorem resP_s (ob : OB) (n o : Nat) (r : List V) : resP ob n o (some r) = .bp ((r.drop o).map (resV ob n)) := (rfl)
@[go_sem] theorem res_pt (ob : OB) (n id i o : Nat) : resV ob (n + 1) (.pt id i o) = resP ob n o ((ob id).bind fun x => x.l[i]?) := by
  simp only [resV]; cases (ob id).bind fun x => x.l[i]? <;> rfl
theorem Own.mono {n n' : Nat} {ob : OB} {v : V} {k : Nat} {rows : List (List V)} (h : Own n ob v k rows) (hn : n ≤ n') : Own n' ob v k rows := by
  rcases h with h | ⟨h1, id, cap, h2, h3, h4⟩
  · exact .inl h
  · exact .inr ⟨h1, id, cap, by omega, h3, h4⟩

/-- Whether a matrix may be. -/
def matE (m : List (List Int)) : Int := if 1 ≤ m.length ∧ m.length ≤ 5 ∧ ∀ v ∈ m, v.length = m.length then (if ∀ v ∈ m, vecE v = 0 then 0 else 1) else 2

/-- A matrix of noughts. -/
def newM (n : Nat) : List (List Int) := List.replicate n (List.replicate n 0)
def newV (n : Int) : List (List Int) × Int := if 1 ≤ n ∧ n ≤ 5 then (newM n.toNat, 0) else ([], 1)
def vecB (v : List Int) (n : Int) : Bool := decide ((v.length : Int) = n) && decide (vecE v = 0)
/-- What a matrix becomes. -/
def learnOk (m : List (List Int)) (have_ : List Int) (p : Int) (safe : List Int) : Bool := vecB have_ m.length && vecB safe m.length && (decide (0 ≤ p) && decide (p < m.length))
def learnV (m : List (List Int)) (have_ : List Int) (p : Int) (safe : List Int) : List (List Int) × Bool × Int :=
  if matE m ≠ 0 then ([], false, matE m) else if learnOk m have_ p safe = false then ([], false, 1)
  else if gN have_ p.toNat < gN safe p.toNat then (m, false, 0) else (m.set p.toNat (List.zipWith max (gN m p.toNat) safe), true, 0)
theorem matE_at {m : List (List Int)} (h : matE m = 0) : (1 ≤ m.length ∧ m.length ≤ 5) ∧ ∀ v ∈ m, v.length = m.length ∧ vecE v = 0 := by
  unfold matE at h
  split at h
  · rename_i h1; split at h
    · rename_i h2; exact ⟨⟨h1.1, h1.2.1⟩, fun v hv => ⟨h1.2.2 v hv, h2 v hv⟩⟩
    · cases h
  · cases h
theorem learn_n (m : List (List Int)) (have_ : List Int) (p : Int) (safe : List Int) : (((if vecB have_ m.length = true then !vecB safe m.length else true) || decide (p < 0)) || decide ((m.length : Int) ≤ p)) = !learnOk m have_ p safe := by
  have e1 : decide (p < 0) = !decide (0 ≤ p) := by rw [Bool.eq_iff_iff]; simp
  have e2 : decide ((m.length : Int) ≤ p) = !decide (p < m.length) := by rw [Bool.eq_iff_iff]; simp
  rw [learnOk, e1, e2]
  cases vecB have_ m.length <;> cases vecB safe m.length <;> cases decide (0 ≤ p) <;> cases decide (p < m.length) <;> rfl
theorem vecB_t {v : List Int} {n : Int} (h : vecB v n = true) : (v.length : Int) = n ∧ vecE v = 0 := by simpa [vecB] using h
theorem learn_y {m : List (List Int)} {have_ : List Int} {p : Int} {safe : List Int} (h : learnOk m have_ p safe = true) : (have_.length = m.length ∧ vecE have_ = 0) ∧ (safe.length = m.length ∧ vecE safe = 0) ∧ (0 ≤ p ∧ p < m.length) := by
  simp only [learnOk, Bool.and_eq_true, decide_eq_true_iff] at h
  obtain ⟨⟨h1, h2⟩, h3⟩ := h
  have h1 := vecB_t h1; have h2 := vecB_t h2
  exact ⟨⟨by omega, h1.2⟩, ⟨by omega, h2.2⟩, h3⟩
def frontV (m : List (List Int)) : List Int × Int := if matE m ≠ 0 then ([], matE m) else leastV m
end Go.Proofs.Ytfddkjoklcbjeaa.D
end
section
set_option linter.unusedVariables false
set_option linter.unusedSimpArgs false
set_option maxRecDepth 100000
set_option linter.constructorNameAsVariable false

/- MatLater. No condition. -/
namespace Go.Proofs.Ytfddkjoklcbjeaa.D
open Go Go.Proofs

theorem w1 : newV 2 = ([[0, 0], [0, 0]], 0) := by decide
theorem w2 : learnV [[0, 0], [0, 0]] [3, 2] 1 [1, 2] = ([[0, 0], [1, 2]], true, 0) := by decide
theorem w3 : frontV [[0, 0], [1, 2]] = ([0, 0], 0) := by decide
@[go_sem] theorem ia_1 (ob : OB) (f : Fl) (r : List V) (x : V) (l : List (List V)) : iaV ob 1 (.im f (r :: [x] :: l)) 1 = some (.bp [x]) := by simp [iaV]; omega
/-- What is over, of a whole number read without sign. -/
theorem u64_range (n : Int) : 0 ≤ IntKind.u64.wrap n ∧ IntKind.u64.wrap n < 18446744073709551616 := by
  unfold IntKind.wrap IntKind.signed IntKind.bits; simp; omega
theorem u64 {n : Int} (h : 0 ≤ n ∧ n < 18446744073709551616) : IntKind.u64.wrap n = n := by
  unfold IntKind.wrap IntKind.signed IntKind.bits; simp; omega
theorem modU (n : Int) {k : Int} (h : 0 < k ∧ k < 9223372036854775808) : ∃ x : Nat, IntKind.i64.wrap ((IntKind.u64.wrap n).tmod k) = x ∧ (x : Int) < k := by
  have h1 := u64_range n
  have h2 : (IntKind.u64.wrap n).tmod k = (IntKind.u64.wrap n) % k := Int.tmod_eq_emod_of_nonneg h1.1
  have h3 := Int.emod_nonneg (IntKind.u64.wrap n) (Int.ne_of_gt h.1)
  have h4 := Int.emod_lt_of_pos (IntKind.u64.wrap n) h.1
  refine ⟨(IntKind.u64.wrap n % k).toNat, ?_, by omega⟩
  rw [h2, w64 (by omega)]; omega

theorem vecE_rep {n : Nat} (h : 1 ≤ n ∧ n ≤ 5) : vecE (List.replicate n 0) = 0 :=
  vecE_mk (by simp; omega) (by simp; omega) fun i hi => by rw [gN_eq hi]; simp
theorem vecE_set {v : List Int} (h : vecE v = 0) (p : Nat) {x : Int} (hx : 0 ≤ x ∧ x ≤ 1073741824) : vecE (v.set p x) = 0 := by
  have h1 := vecE_range v h
  refine vecE_mk (by simp; omega) (by simp; omega) fun i hi => ?_
  rw [gN_eq hi, List.getElem_set]
  split
  · exact hx
  · exact h1.2.2 _ (List.getElem_mem _)
theorem matE_new {n : Nat} (h : 1 ≤ n ∧ n ≤ 5) : matE (newM n) = 0 := by
  rw [matE, if_pos, if_pos]
  · intro v hv; rw [List.eq_of_mem_replicate hv]; exact vecE_rep h
  · refine ⟨by simp [newM]; omega, by simp [newM]; omega, fun v hv => ?_⟩
    rw [List.eq_of_mem_replicate hv]; simp [newM]
theorem learnOk_y {m : List (List Int)} {h_ : List Int} {p : Nat} {safe : List Int} (h1 : h_.length = m.length) (h2 : vecE h_ = 0) (h3 : safe.length = m.length) (h4 : vecE safe = 0) (h5 : p < m.length) : learnOk m h_ (p : Int) safe = true := by
  simp [learnOk, vecB, h1, h2, h3, h4]; omega
theorem learn_no {m : List (List Int)} {h_ : List Int} {p : Nat} {safe : List Int} (h : matE m = 0) (h1 : h_.length = m.length) (h2 : vecE h_ = 0) (h3 : safe.length = m.length) (h4 : vecE safe = 0) (h5 : p < m.length) (h6 : gN h_ p < gN safe p) : learnV m h_ (p : Int) safe = (m, false, 0) := by
  rw [learnV, if_neg (by simpa using h), if_neg (by rw [learnOk_y h1 h2 h3 h4 h5]; simp), Int.toNat_natCast, if_pos h6]
theorem learn_yes {m : List (List Int)} {h_ : List Int} {p : Nat} {safe : List Int} (h : matE m = 0) (h1 : h_.length = m.length) (h2 : vecE h_ = 0) (h3 : safe.length = m.length) (h4 : vecE safe = 0) (h5 : p < m.length) (h6 : gN safe p ≤ gN h_ p) : learnV m h_ (p : Int) safe = (m.set p (List.zipWith max (gN m p) safe), true, 0) := by
  rw [learnV, if_neg (by simpa using h), if_neg (by rw [learnOk_y h1 h2 h3 h4 h5]; simp), Int.toNat_natCast, if_neg (by omega)]
theorem gN_set {α : Type} [Inhabited α] {l : List α} {i : Nat} (h : i < l.length) (x : α) : gN (l.set i x) i = x := by rw [gN_eq (by simpa using h)]; simp
theorem zip_rep {n : Nat} {v : List Int} (h : v.length = n) (h0 : ∀ x ∈ v, 0 ≤ x) : List.zipWith max (List.replicate n 0) v = v := by
  refine List.ext_getElem (by simp [h]) fun i h1 h2 => ?_
  have := h0 v[i] (List.getElem_mem _)
  simp; omega

end Go.Proofs.Ytfddkjoklcbjeaa.D
end
section
set_option linter.unusedVariables false
set_option linter.unusedSimpArgs false
set_option maxRecDepth 100000
set_option linter.constructorNameAsVariable false

/- MatAll. No condition. -/
namespace Go.Proofs.Ytfddkjoklcbjeaa.D
open Go Go.Proofs

/-- Appending to a slice of one's own, in a region of any order. -/
theorem nxD_app {P : Program} {nid : Nat} {env : Env} {ob : OB} {K : Env → OB → Prop} {l : List RO} {dl : Ups} {d : Option Nat} {n k : Nat} {v x : V} {rows xs : List (List V)} (h : Own n ob v k rows) (hn : n ≤ nid) (hx : rowsOf ob x = some xs) (hk : xs.all (okRow k) = true) (hlen : rows.length + xs.length ≤ maxLen)
    (hK : ∀ v' ob', Own (nid + 1) ob' v' k (rows ++ xs) → (∀ id, id < n → v ≠ .sl id 0 rows.length → ob' id = ob id) → wpD P l (nid + 1) (put env d v') ob' dl K) : nxD P true d l nid env ob dl K (opF (.app k) [v, x] ob nid) := by
  obtain ⟨v', us, e, h1, h2⟩ := app_own h hn hx hk hlen
  rw [e]
  exact hK _ _ h1 h2

theorem take_zip {a b : List Int} {p : Int → Int → Int} {i : Nat} (h : i < a.length) (h' : i < b.length) : (List.zipWith p a b).take (i + 1) = (List.zipWith p a b).take i ++ [p (gN a i) (gN b i)] := by
  rw [List.take_add_one, gN_eq h, gN_eq h']; congr 1
  rw [List.getElem?_eq_getElem (by simp; omega)]; simp

/-- The least of right vectors of one length. -/
theorem leastF_yes {n : Nat} : ∀ (l : List (List Int)) (out : List Int), vecE out = 0 → out.length = n → (∀ v ∈ l, vecE v = 0 ∧ v.length = n) →
    ∃ L, leastF out l = (L, 0) ∧ vecE L = 0 ∧ L.length = n ∧ ∀ k, k < n → (gN L k ≤ gN out k ∧ ∀ v ∈ l, gN L k ≤ gN v k) ∧ (gN L k = gN out k ∨ ∃ v ∈ l, gN L k = gN v k)
  | [], out, h1, h2, _ => ⟨out, rfl, h1, h2, fun k hk => ⟨⟨Int.le_refl _, fun v hv => (by simp at hv)⟩, .inl rfl⟩⟩
  | v :: l, out, h1, h2, h3 => by
    have hv := h3 v (by simp)
    have e : eachV min out v = (List.zipWith min out v, 0) := eachV_yes h1 hv.1 (by omega)
    obtain ⟨L, a1, a2, a3, a4⟩ := leastF_yes l (List.zipWith min out v) (vecE_zip min_or h1 hv.1 (by omega)) (by simp; omega) (fun w hw => h3 w (by simp [hw]))
    refine ⟨L, by rw [leastF, e]; simpa using a1, a2, a3, fun k hk => ?_⟩
    obtain ⟨⟨b1, b2⟩, b3⟩ := a4 k hk
    rw [gN_zip (by omega) (by omega)] at b1 b3
    refine ⟨⟨by omega, fun w hw => ?_⟩, ?_⟩
    · rcases List.mem_cons.1 hw with rfl | hw
      · omega
      · exact b2 w hw
    · rcases b3 with b3 | ⟨w, hw, b3⟩
      · rcases min_or (gN out k) (gN v k) with e | e
        · exact .inl (by omega)
        · exact .inr ⟨v, by simp, by omega⟩
      · exact .inr ⟨w, by simp [hw], b3⟩
theorem least_yes {n : Nat} {l : List (List Int)} (h0 : l ≠ []) (h : ∀ v ∈ l, vecE v = 0 ∧ v.length = n) :
    ∃ L, leastV l = (L, 0) ∧ vecE L = 0 ∧ L.length = n ∧ ∀ k, k < n → (∀ v ∈ l, gN L k ≤ gN v k) ∧ ∃ v ∈ l, gN L k = gN v k := by
  have hpos : 0 < l.length := List.length_pos_iff.2 h0
  have hm : gN l 0 ∈ l := by rw [gN_eq hpos]; exact List.getElem_mem _
  obtain ⟨L, a1, a2, a3, a4⟩ := leastF_yes (n := n) l (gN l 0) (h _ hm).1 (h _ hm).2 h
  refine ⟨L, by rw [leastV, if_neg h0, if_neg (by rw [firstE_no fun v hv => (h v hv).1]; simp), a1], a2, a3, fun k hk => ?_⟩
  obtain ⟨⟨b1, b2⟩, b3⟩ := a4 k hk
  refine ⟨b2, ?_⟩
  rcases b3 with b3 | b3
  · exact ⟨_, hm, b3⟩
  · exact b3
theorem list_iff' {α : Type} [Inhabited α] {a b : List α} : a = b ↔ a.length = b.length ∧ ∀ i, i < a.length → gN a i = gN b i :=
  ⟨fun h => by subst h; exact ⟨rfl, fun _ _ => rfl⟩, fun ⟨h1, h2⟩ => List.ext_getElem h1 fun i h3 h4 => by have := h2 i h3; rw [gN_eq h3, gN_eq h4] at this; exact this⟩
theorem matE_mk {m : List (List Int)} (h1 : 1 ≤ m.length ∧ m.length ≤ 5) (h : ∀ i, i < m.length → (gN m i).length = m.length ∧ vecE (gN m i) = 0) : matE m = 0 := by
  have h' : ∀ v ∈ m, v.length = m.length ∧ vecE v = 0 := fun v hv => by
    obtain ⟨i, hi, rfl⟩ := List.getElem_of_mem hv
    have := h i hi; rw [gN_eq hi] at this; exact this
  rw [matE, if_pos ⟨h1.1, h1.2, fun v hv => (h' v hv).1⟩, if_pos fun v hv => (h' v hv).2]
theorem gN_set2 {α : Type} [Inhabited α] {l : List α} {i j : Nat} (h : j ≠ i) (x : α) : gN (l.set i x) j = gN l j := by simp [gN, List.getElem?_set, Ne.symm h]
theorem gN_mem {α : Type} [Inhabited α] {l : List α} {i : Nat} (h : i < l.length) : gN l i ∈ l := by rw [gN_eq h]; exact List.getElem_mem _
theorem gN_rep {α : Type} [Inhabited α] {n i : Nat} {x : α} (h : i < n) : gN (List.replicate n x) i = x := by rw [gN_eq (by simpa using h)]; simp

end Go.Proofs.Ytfddkjoklcbjeaa.D
end
section
set_option linter.unusedVariables false
set_option linter.unusedSimpArgs false
set_option maxRecDepth 100000
set_option linter.constructorNameAsVariable false

/- What the reference's functions answer: twins, matrices, vectors. No condition. -/
namespace Go.Proofs.Ytfddkjoklcbjeaa.D
open Go Go.Proofs

theorem TwinInts_ok {fl : Fl} (l : List Int) (hl : l.length ≤ maxLen) : FnB Try.prog 9 [ints fl l] (ints .o l) := by
  refine fnB_intro cf9 (by simp) ?_
  simp (config := {contextual := true, maxSteps := 1000000}) only [go_sem, ints, intRows, iv_c, Nat.reduceAdd, Nat.reduceBEq, Nat.reduceEqDiff, Nat.reduceLeDiff, Nat.reduceLT, reduceIte, Nat.le_refl, true_or, or_true, and_self, Int.reduceLE, Int.reduceLT, Int.reduceEq, Int.reduceNeg, Int.natCast_nonneg, Int.reduceToNat, c9]
  refine nxS_app Own.nil (Nat.zero_le _) rfl (allInts l) (by simpa using hl) fun v' ob' ho _ => ?_
  simp (config := {contextual := true, maxSteps := 1000000}) only [go_sem, ints, intRows, iv_c, Nat.reduceAdd, Nat.reduceBEq, Nat.reduceEqDiff, Nat.reduceLeDiff, Nat.reduceLT, reduceIte, Nat.le_refl, true_or, or_true, and_self, Int.reduceLE, Int.reduceLT, Int.reduceEq, Int.reduceNeg, Int.natCast_nonneg, Int.reduceToNat]
  rw [List.nil_append] at ho
  rw [out_own ho (fun ob' => gInts ob' l) [] (fun _ => rfl)]; rfl

theorem take_gN {α : Type} [Inhabited α] {l : List α} {i : Nat} (h : i < l.length) : l.take (i + 1) = l.take i ++ [gN l i] := by
  rw [List.take_add_one, gN_at h]; simp
/-- The least, of the reference. -/
theorem leastF_bad {n : Nat} : ∀ (l : List (List Int)) (out : List Int), vecE out = 0 → out.length = n → (∀ v ∈ l, vecE v = 0) → (∃ v ∈ l, v.length ≠ n) → leastF out l = ([], 2)
  | [], out, _, _, _, h => by obtain ⟨v, hv, _⟩ := h; simp at hv
  | v :: l, out, h1, h2, h3, h4 => by
    have hv := h3 v (by simp)
    by_cases e : v.length = n
    · have e : eachV min out v = (List.zipWith min out v, 0) := eachV_yes h1 hv (by omega)
      rw [leastF, e]
      simp only [ne_eq, not_true_eq_false, if_false]
      refine leastF_bad (n := n) l _ (vecE_zip min_or h1 hv (by omega)) (by simp; omega) (fun w hw => h3 w (by simp [hw])) ?_
      obtain ⟨w, hw, hn⟩ := h4
      rcases List.mem_cons.1 hw with rfl | hw
      · exact absurd ‹_› hn
      · exact ⟨w, hw, hn⟩
    · have e : eachV min out v = ([], 2) := by rw [eachV, if_neg (by simpa using h1), if_neg (by simpa using hv), if_pos (by omega)]
      rw [leastF, e]; simp

end Go.Proofs.Ytfddkjoklcbjeaa.D
end
section
set_option linter.unusedVariables false
set_option linter.unusedSimpArgs false
set_option maxRecDepth 100000
set_option linter.constructorNameAsVariable false

/- MatRises. No condition. -/
namespace Go.Proofs.Ytfddkjoklcbjeaa.D
open Go Go.Proofs

/-- What learning does. -/
theorem learn_all {m : List (List Int)} {h_ : List Int} {p : Nat} {safe : List Int} (h : matE m = 0) (h1 : h_.length = m.length) (h2 : vecE h_ = 0) (h3 : safe.length = m.length) (h4 : vecE safe = 0) (h5 : p < m.length) :
    ∃ x ok, learnV m h_ (p : Int) safe = (x, ok, 0) ∧ learnV x h_ (p : Int) safe = (x, ok, 0) ∧ ok = decide (gN safe p ≤ gN h_ p) ∧ x.length = m.length ∧ matE x = 0 ∧ (∀ k, k < m.length → leB (gN m k) (gN x k) = true) ∧ (∀ k, k < m.length → k ≠ p → gN m k = gN x k) ∧ (ok = true → leB safe (gN x p) = true) := by
  have hm := matE_at h
  have hr : ∀ k, k < m.length → (gN m k).length = m.length ∧ vecE (gN m k) = 0 := fun k hk => hm.2 _ (gN_mem hk)
  by_cases h6 : gN safe p ≤ gN h_ p
  · have hp := hr p h5
    have hz : ∀ k, k < m.length → gN (List.zipWith max (gN m p) safe) k = max (gN (gN m p) k) (gN safe k) := fun k hk => gN_zip (by omega) (by omega)
    have hzl : (List.zipWith max (gN m p) safe).length = m.length := by simp; omega
    have hE : matE (m.set p (List.zipWith max (gN m p) safe)) = 0 := by
      refine matE_mk (by simpa using hm.1) fun i hi => ?_
      simp at hi
      by_cases hip : i = p
      · subst hip; rw [gN_set hi]; exact ⟨by simpa using hzl, vecE_zip max_or hp.2 h4 (by omega)⟩
      · rw [gN_set2 hip]; simpa using hr i hi
    refine ⟨m.set p (List.zipWith max (gN m p) safe), true, learn_yes h h1 h2 h3 h4 h5 h6, ?_, by simp [h6], by simp, hE, fun k hk => ?_, fun k hk hkp => by rw [gN_set2 hkp], fun _ => ?_⟩
    · rw [learn_yes hE (by simpa using h1) h2 (by simpa using h3) h4 (by simpa using h5) h6, gN_set h5, List.set_set]
      have : List.zipWith max (List.zipWith max (gN m p) safe) safe = List.zipWith max (gN m p) safe := list_iff'.2 ⟨by simp <;> omega, fun k hk => by
        simp at hk; rw [gN_zip (by simp; omega) (by omega), gN_zip (by omega) (by omega)]; omega⟩
      rw [this]
    · by_cases hkp : k = p
      · subst hkp; rw [gN_set h5]; exact leB_iff.2 ⟨by omega, fun i hi => by rw [hz i (by omega)]; omega⟩
      · rw [gN_set2 hkp]; exact leB_iff.2 ⟨rfl, fun _ _ => Int.le_refl _⟩
    · rw [gN_set h5]; exact leB_iff.2 ⟨by omega, fun i hi => by rw [hz i (by omega)]; omega⟩
  · have e := learn_no h h1 h2 h3 h4 h5 (by omega)
    exact ⟨m, false, e, e, by simp; omega, rfl, h, fun k hk => leB_iff.2 ⟨rfl, fun _ _ => Int.le_refl _⟩, fun _ _ _ => rfl, fun h => by cases h⟩

theorem front_yes {m : List (List Int)} (h : matE m = 0) : ∃ L, frontV m = (L, 0) ∧ vecE L = 0 ∧ L.length = m.length ∧ ∀ k, k < m.length → (∀ j, j < m.length → gN L k ≤ gN (gN m j) k) ∧ ∃ j, j < m.length ∧ gN L k = gN (gN m j) k := by
  have hm := matE_at h
  obtain ⟨L, a1, a2, a3, a4⟩ := least_yes (n := m.length) (l := m) (by intro e; rw [e] at hm; simp at hm) fun v hv => ⟨(hm.2 v hv).2, (hm.2 v hv).1⟩
  refine ⟨L, by rw [frontV, if_neg (by simpa using h), a1], a2, a3, fun k hk => ?_⟩
  obtain ⟨b1, v, hv, b2⟩ := a4 k hk
  refine ⟨fun j hj => b1 _ (gN_mem hj), ?_⟩
  obtain ⟨j, hj, rfl⟩ := List.getElem_of_mem hv
  exact ⟨j, hj, by rw [b2, gN_eq hj]⟩

end Go.Proofs.Ytfddkjoklcbjeaa.D
end
section
set_option linter.unusedVariables false
set_option linter.unusedSimpArgs false
set_option maxRecDepth 100000
set_option linter.constructorNameAsVariable false

/- MatExact. No condition. -/
namespace Go.Proofs.Ytfddkjoklcbjeaa.D
open Go Go.Proofs

theorem heavy_no {l : List (List Int)} (h : heavyB l = false) : l.length ≤ 30 ∧ ∀ v ∈ l, v.length ≤ 30 := by
  simp only [heavyB, decide_eq_false_iff_not] at h
  refine ⟨by omega, fun v hv => ?_⟩
  rcases Nat.lt_or_ge 30 v.length with h2 | h2
  · exact absurd (.inr ⟨v, hv, h2⟩) h
  · exact h2

end Go.Proofs.Ytfddkjoklcbjeaa.D
end
section
set_option linter.unusedVariables false
set_option linter.unusedSimpArgs false
set_option maxRecDepth 100000
set_option linter.constructorNameAsVariable false

/- Comparing dots; spoiling; DotExact. No condition. -/
namespace Go.Proofs.Ytfddkjoklcbjeaa.D
open Go Go.Proofs

def cmpI (x y : Int) : Int := if x < y then -1 else if y < x then 1 else 0
theorem isNaN_ok (x : Int) : FnB Try.prog 37 [vi x] (vb false) := by
  refine fnB_intro cf37 (by simp) ?_
  simp (config := {contextual := true, maxSteps := 1000000}) only [go_sem, ints, intRows, iv_c, Nat.reduceAdd, Nat.reduceBEq, Nat.reduceEqDiff, Nat.reduceLeDiff, Nat.reduceLT, reduceIte, Nat.le_refl, true_or, or_true, and_self, Int.reduceLE, Int.reduceLT, Int.reduceEq, Int.reduceNeg, Int.natCast_nonneg, Int.reduceToNat, c37]
theorem cmpI_ok (x y : Int) : FnB Try.prog 34 [vi x, vi y] (vi (cmpI x y)) := by
  refine fnB_intro cf34 (by simp) ?_
  simp (config := {contextual := true, maxSteps := 1000000}) only [go_sem, ints, intRows, iv_c, Nat.reduceAdd, Nat.reduceBEq, Nat.reduceEqDiff, Nat.reduceLeDiff, Nat.reduceLT, reduceIte, Nat.le_refl, true_or, or_true, and_self, Int.reduceLE, Int.reduceLT, Int.reduceEq, Int.reduceNeg, Int.natCast_nonneg, Int.reduceToNat, c34]
  first | refine caS_i (isNaN_ok x) trivial ?_ | refine caD_i (isNaN_ok x) trivial ?_ | refine gC_i (fun _ => isNaN_ok x) trivial ?_ | refine gCD_i (fun _ => isNaN_ok x) trivial ?_ | refine caE_i (isNaN_ok x) trivial ?_
  simp (config := {contextual := true, maxSteps := 1000000}) only [go_sem, ints, intRows, iv_c, Nat.reduceAdd, Nat.reduceBEq, Nat.reduceEqDiff, Nat.reduceLeDiff, Nat.reduceLT, reduceIte, Nat.le_refl, true_or, or_true, and_self, Int.reduceLE, Int.reduceLT, Int.reduceEq, Int.reduceNeg, Int.natCast_nonneg, Int.reduceToNat]
  first | refine caS_i (isNaN_ok y) trivial ?_ | refine caD_i (isNaN_ok y) trivial ?_ | refine gC_i (fun _ => isNaN_ok y) trivial ?_ | refine gCD_i (fun _ => isNaN_ok y) trivial ?_ | refine caE_i (isNaN_ok y) trivial ?_
  simp (config := {contextual := true, maxSteps := 1000000}) only [go_sem, ints, intRows, iv_c, Nat.reduceAdd, Nat.reduceBEq, Nat.reduceEqDiff, Nat.reduceLeDiff, Nat.reduceLT, reduceIte, Nat.le_refl, true_or, or_true, and_self, Int.reduceLE, Int.reduceLT, Int.reduceEq, Int.reduceNeg, Int.natCast_nonneg, Int.reduceToNat]
  refine ⟨fun h => ?_, fun h => ⟨fun h2 => ?_, fun h2 => ?_⟩⟩ <;> simp at *
  · rw [cmpI, if_pos h]
  · rw [cmpI, if_neg (by omega), if_pos h2]
  · rw [cmpI, if_neg (by omega), if_neg (by omega)]
def orV : List Int → Int
  | [] => 0
  | x :: l => if x ≠ 0 then x else orV l
theorem cmpOr_ok {fl : Fl} (l : List Int) (hl : l.length ≤ maxLen) : FnB Try.prog 33 [ints fl l] (vi (orV l)) := by
  unfold maxLen at hl
  refine fnB_intro cf33 (by simp) ?_
  simp (config := {contextual := true, maxSteps := 1000000}) only [go_sem, ints, intRows, iv_c, Nat.reduceAdd, Nat.reduceBEq, Nat.reduceEqDiff, Nat.reduceLeDiff, Nat.reduceLT, reduceIte, Nat.le_refl, true_or, or_true, and_self, Int.reduceLE, Int.reduceLT, Int.reduceEq, Int.reduceNeg, Int.natCast_nonneg, Int.reduceToNat, c33]
  refine wpC_lp (fun env ob n' => env 3 = vi 0 ∧ env 6 = ints fl l ∧ env 7 = vi l.length ∧ ∃ i : Nat, env 8 = vi i ∧ i ≤ l.length ∧ orV l = orV (l.drop i)) (fun env ob _ => (l.length - iv (env 8)).toNat) ?_ ?_
  · simp (config := {contextual := true, maxSteps := 1000000}) only [go_sem, ints, intRows, iv_c, Nat.reduceAdd, Nat.reduceBEq, Nat.reduceEqDiff, Nat.reduceLeDiff, Nat.reduceLT, reduceIte, Nat.le_refl, true_or, or_true, and_self, Int.reduceLE, Int.reduceLT, Int.reduceEq, Int.reduceNeg, Int.natCast_nonneg, Int.reduceToNat]
    exact ⟨0, rfl, by omega, by simp⟩
  rintro env ob n' ⟨h3, h6, h7, i, h8, hi, he⟩
  simp (config := {contextual := true, maxSteps := 1000000}) only [go_sem, ints, intRows, iv_c, Nat.reduceAdd, Nat.reduceBEq, Nat.reduceEqDiff, Nat.reduceLeDiff, Nat.reduceLT, reduceIte, Nat.le_refl, true_or, or_true, and_self, Int.reduceLE, Int.reduceLT, Int.reduceEq, Int.reduceNeg, Int.natCast_nonneg, Int.reduceToNat, h3, h6, h7, h8]
  refine ⟨fun hlt => ?_, fun hge => ?_⟩
  · simp at hlt
    rw [drop_gN hlt, orV] at he
    refine ⟨by omega, fun hb => ?_, fun hg => ⟨⟨i + 1, ?_, by omega, ?_⟩, ?_⟩⟩
    · simp at hb; rw [if_pos hb] at he; rw [he]
    · rw [w64 (by omega)]; simp
    · simp at hg; rw [if_neg (by simpa using hg)] at he; exact he
    · rw [w64 (by omega)]; omega
  · simp at hge
    rw [List.drop_eq_nil_of_le (by omega), orV] at he
    rw [he]
def cmpD (a b : Dt) : Int := orV [cmpI a.p b.p, cmpI a.n b.n]
def lessD (a b : Dt) : Bool := decide (a.p < b.p ∨ a.p = b.p ∧ a.n < b.n)
theorem cmpD_less (a b : Dt) : decide (cmpD a b < 0) = lessD a b := by
  unfold cmpD lessD orV orV orV cmpI
  rw [decide_eq_decide]
  repeat' split
  all_goals first | omega | simp_all | skip
theorem leastF_len : ∀ (l : List (List Int)) (out : List Int), vecE out = 0 → (leastF out l).1.length ≤ 5
  | [], out, h => by have := vecE_range _ h; simpa [leastF] using this.2.1
  | v :: l, out, h => by
    rw [leastF]
    split
    · simp
    · rename_i h1
      have h1 : (eachV min out v).2 = 0 := by simpa using h1
      have h2 := (@eachV_len min out v).1 h1
      refine leastF_len l _ ?_
      have h3 : vecE v = 0 ∧ out.length = v.length := by
        unfold eachV at h1
        split at h1
        · exact absurd h ‹_›
        · split at h1
          · exact absurd h1 ‹_›
          · rename_i h4; split at h1
            · cases h1
            · rename_i h5; exact ⟨by simpa using h4, by omega⟩
      rw [eachV_yes h h3.1 h3.2]
      exact vecE_zip min_or h h3.1 h3.2
theorem least_len (l : List (List Int)) : (leastV l).1.length ≤ 5 := by
  unfold leastV
  split
  · simp
  · split
    · simp
    · rename_i h1 h2
      refine leastF_len l _ ?_
      cases l with
      | nil => exact absurd rfl h1
      | cons v l =>
        have h2 : firstE (v :: l) = 0 := by simpa using h2
        simp only [firstE] at h2
        simp only [gN, List.getElem?_cons_zero, Option.getD_some]
        split at h2
        · exact h2
        · rename_i h3; simpa using h3
theorem gi {n : Int} (h : gInt .i64 n) : inI n := by simp [gInt, Lit.wf, IntKind.min, IntKind.max, IntKind.signed, IntKind.bits] at h; unfold inI; omega

end Go.Proofs.Ytfddkjoklcbjeaa.D
end
section
set_option linter.unusedVariables false
set_option linter.unusedSimpArgs false
set_option maxRecDepth 100000
set_option linter.constructorNameAsVariable false

/- Operations as plain values; what functions of slices answer to them. No condition. -/
namespace Go.Proofs.Ytfddkjoklcbjeaa.D
open Go Go.Proofs

structure Vl where
  k : Int
  i : Int
  s : ByteArray
instance : Inhabited Vl := ⟨⟨0, 0, ⟨#[]⟩⟩⟩
def vlV (v : Vl) : List V := [vi v.k, vi v.i, .c (.string v.s)]
structure St3 where
  p : Int
  l : Int
  q : Int
instance : Inhabited St3 := ⟨⟨0, 0, 0⟩⟩
def stV (s : St3) : List V := [vi s.p, vi s.l, vi s.q]
structure Opx where
  dot : Dt
  deps : List Int
  st : St3
  kind : Int
  table : Int
  key : ByteArray
  col : Int
  vals : List Vl
  dots : List Dt
instance : Inhabited Opx := ⟨⟨default, [], default, 0, 0, ⟨#[]⟩, 0, [], []⟩⟩
def vals (f : Fl) (l : List Vl) : V := .im f (l.map vlV)
def dots (f : Fl) (l : List Dt) : V := .im f (l.map dotV)
def opV (x : Opx) : List V := [vi x.dot.p, vi x.dot.n, ints .b x.deps, vi x.st.p, vi x.st.l, vi x.st.q, vi x.kind, vi x.table, .c (.string x.key), vi x.col, vals .b x.vals, dots .b x.dots]
def ops (f : Fl) (l : List Opx) : V := .im f (l.map opV)

@[go_sem] theorem opV_d1 (x : Opx) : (opV x).drop 1 = [vi x.dot.n, ints .b x.deps, vi x.st.p, vi x.st.l, vi x.st.q, vi x.kind, vi x.table, .c (.string x.key), vi x.col, vals .b x.vals, dots .b x.dots] := (rfl)
@[go_sem] theorem opV_d2 (x : Opx) : (opV x).drop 2 = [ints .b x.deps, vi x.st.p, vi x.st.l, vi x.st.q, vi x.kind, vi x.table, .c (.string x.key), vi x.col, vals .b x.vals, dots .b x.dots] := (rfl)
@[go_sem] theorem opV_d3 (x : Opx) : (opV x).drop 3 = [vi x.st.p, vi x.st.l, vi x.st.q, vi x.kind, vi x.table, .c (.string x.key), vi x.col, vals .b x.vals, dots .b x.dots] := (rfl)
@[go_sem] theorem opV_d4 (x : Opx) : (opV x).drop 4 = [vi x.st.l, vi x.st.q, vi x.kind, vi x.table, .c (.string x.key), vi x.col, vals .b x.vals, dots .b x.dots] := (rfl)
@[go_sem] theorem opV_d5 (x : Opx) : (opV x).drop 5 = [vi x.st.q, vi x.kind, vi x.table, .c (.string x.key), vi x.col, vals .b x.vals, dots .b x.dots] := (rfl)
@[go_sem] theorem opV_d6 (x : Opx) : (opV x).drop 6 = [vi x.kind, vi x.table, .c (.string x.key), vi x.col, vals .b x.vals, dots .b x.dots] := (rfl)
@[go_sem] theorem opV_d7 (x : Opx) : (opV x).drop 7 = [vi x.table, .c (.string x.key), vi x.col, vals .b x.vals, dots .b x.dots] := (rfl)
@[go_sem] theorem opV_d8 (x : Opx) : (opV x).drop 8 = [.c (.string x.key), vi x.col, vals .b x.vals, dots .b x.dots] := (rfl)
@[go_sem] theorem opV_d9 (x : Opx) : (opV x).drop 9 = [vi x.col, vals .b x.vals, dots .b x.dots] := (rfl)
@[go_sem] theorem opV_d10 (x : Opx) : (opV x).drop 10 = [vals .b x.vals, dots .b x.dots] := (rfl)
@[go_sem] theorem opV_d11 (x : Opx) : (opV x).drop 11 = [dots .b x.dots] := (rfl)
@[go_sem] theorem opV_t1 (x : Opx) : (opV x).take 1 = [vi x.dot.p] := (rfl)
@[go_sem] theorem opV_t2 (x : Opx) : (opV x).take 2 = [vi x.dot.p, vi x.dot.n] := (rfl)
@[go_sem] theorem opV_t3 (x : Opx) : (opV x).take 3 = [vi x.dot.p, vi x.dot.n, ints .b x.deps] := (rfl)
@[go_sem] theorem opV_t4 (x : Opx) : (opV x).take 4 = [vi x.dot.p, vi x.dot.n, ints .b x.deps, vi x.st.p] := (rfl)
@[go_sem] theorem opV_t5 (x : Opx) : (opV x).take 5 = [vi x.dot.p, vi x.dot.n, ints .b x.deps, vi x.st.p, vi x.st.l] := (rfl)
@[go_sem] theorem opV_t6 (x : Opx) : (opV x).take 6 = [vi x.dot.p, vi x.dot.n, ints .b x.deps, vi x.st.p, vi x.st.l, vi x.st.q] := (rfl)
@[go_sem] theorem opV_t7 (x : Opx) : (opV x).take 7 = [vi x.dot.p, vi x.dot.n, ints .b x.deps, vi x.st.p, vi x.st.l, vi x.st.q, vi x.kind] := (rfl)
@[go_sem] theorem opV_t8 (x : Opx) : (opV x).take 8 = [vi x.dot.p, vi x.dot.n, ints .b x.deps, vi x.st.p, vi x.st.l, vi x.st.q, vi x.kind, vi x.table] := (rfl)
@[go_sem] theorem opV_t9 (x : Opx) : (opV x).take 9 = [vi x.dot.p, vi x.dot.n, ints .b x.deps, vi x.st.p, vi x.st.l, vi x.st.q, vi x.kind, vi x.table, .c (.string x.key)] := (rfl)
@[go_sem] theorem opV_t10 (x : Opx) : (opV x).take 10 = [vi x.dot.p, vi x.dot.n, ints .b x.deps, vi x.st.p, vi x.st.l, vi x.st.q, vi x.kind, vi x.table, .c (.string x.key), vi x.col] := (rfl)
@[go_sem] theorem opV_t11 (x : Opx) : (opV x).take 11 = [vi x.dot.p, vi x.dot.n, ints .b x.deps, vi x.st.p, vi x.st.l, vi x.st.q, vi x.kind, vi x.table, .c (.string x.key), vi x.col, vals .b x.vals] := (rfl)
@[go_sem] theorem opV_t12 (x : Opx) : (opV x).take 12 = opV x := (rfl)
@[go_sem] theorem opV_d12 (x : Opx) : (opV x).drop 12 = [] := (rfl)
@[go_sem] theorem opV_len (x : Opx) : (opV x).length = 12 := (rfl)
@[go_sem] theorem opV_leaf (x : Opx) : (opV x).all leaf = true := (rfl)
@[go_sem] theorem opV_row (x : Opx) : okRow 12 (opV x) = true := (rfl)
@[go_sem] theorem vlV_row (x : Vl) : okRow 3 (vlV x) = true := (rfl)
@[go_sem] theorem dotV_row (x : Dt) : okRow 2 (dotV x) = true := (rfl)
@[go_sem] theorem res_vl (ob : OB) (n : Nat) (x : Vl) : (vlV x).map (resV ob (n + 1)) = vlV x := (rfl)
@[go_sem] theorem res_dt (ob : OB) (n : Nat) (x : Dt) : (dotV x).map (resV ob (n + 1)) = dotV x := (rfl)
@[go_sem] theorem g_vl (ob : OB) (n : Nat) (x : Vl) : (vlV x).map (gV ob (n + 1)) = vlV x := (rfl)
@[go_sem] theorem g_dt (ob : OB) (n : Nat) (x : Dt) : (dotV x).map (gV ob (n + 1)) = dotV x := (rfl)
@[go_sem] theorem g_op (ob : OB) (n : Nat) (x : Opx) : (opV x).map (gV ob (n + 3)) = opV x := by
  simp [opV, gV, ints, vals, dots, vlV, dotV, Function.comp_def]
@[go_sem] theorem res_op (ob : OB) (n : Nat) (x : Opx) : (opV x).map (resV ob (n + 3)) = opV x := by
  simp [opV, resV, ints, vals, dots, resFl, vlV, dotV, Function.comp_def]

theorem allVals (l : List Vl) : (l.map vlV).all (okRow 3) = true := all_map _ _ (fun _ => rfl) l
theorem allDots (l : List Dt) : (l.map dotV).all (okRow 2) = true := all_map _ _ (fun _ => rfl) l
theorem allOps (l : List Opx) : (l.map opV).all (okRow 12) = true := all_map _ _ (fun _ => rfl) l
theorem gVals (ob' : OB) (l : List Vl) : ∀ r ∈ l.map vlV, r.map (gV ob' 6) = r := g_map _ (fun _ _ => rfl) ob' l
theorem gDots (ob' : OB) (l : List Dt) : ∀ r ∈ l.map dotV, r.map (gV ob' 6) = r := g_map _ (fun _ _ => rfl) ob' l
theorem gOps (ob' : OB) (l : List Opx) : ∀ r ∈ l.map opV, r.map (gV ob' 6) = r := g_map _ (fun ob' a => g_op ob' 3 a) ob' l

theorem bsl_row {k : Nat} {z l : List V} (ob : OB) (i : Nat) (hz : z.length = k) (h : okRow k l = true) : fill z [(0, k)] [.ag l] = some l ∧ l.take k = l := by
  simp only [okRow, Bool.and_eq_true, beq_iff_eq] at h
  obtain ⟨h1, h2⟩ := h
  refine ⟨?_, by simp [← h1]⟩
  simp only [fill, cellsV, Nat.zero_add]
  rw [if_pos ⟨h1, by simp [hz], h2⟩]
  simp [hz]
theorem op_bsl_r {k : Nat} {z l : List V} (ob : OB) (i : Nat) (hz : z.length = k) (h : okRow k l = true) : opF (.bsl k z [0] 1 true) [.ag l] ob i = some (.im .b [l], []) := by
  obtain ⟨h1, h2⟩ := bsl_row ob i hz h
  simp [opF, h1, h2, h]
theorem op_bsl_o {k : Nat} {z l : List V} (ob : OB) (i : Nat) (hz : z.length = k) (h : okRow k l = true) : opF (.bsl k z [0] 1 false) [.ag l] ob i = some (.sl i 0 1, [(i, some ⟨k, [l], none⟩)]) := by
  obtain ⟨h1, h2⟩ := bsl_row ob i hz h
  simp [opF, h1, h2, h]
def gVl (v : Vl) : Prop := gInt .i64 v.k ∧ gInt .i64 v.i ∧ gStr v.s
def gSt3 (s : St3) : Prop := gInt .i64 s.p ∧ gInt .i64 s.l ∧ gInt .i64 s.q
end Go.Proofs.Ytfddkjoklcbjeaa.D
end
section
set_option linter.unusedVariables false
set_option linter.unusedSimpArgs false
set_option maxRecDepth 100000
set_option linter.constructorNameAsVariable false

/- Times. No condition. -/
namespace Go.Proofs.Ytfddkjoklcbjeaa.D
open Go Go.Proofs

@[go_sem] theorem stV_t3 (x : St3) : (stV x).take 3 = stV x := (rfl)
@[go_sem] theorem stV_t1 (x : St3) : (stV x).take 1 = [vi x.p] := (rfl)
@[go_sem] theorem stV_d1 (x : St3) : (stV x).drop 1 = [vi x.l, vi x.q] := (rfl)
@[go_sem] theorem stV_d2 (x : St3) : (stV x).drop 2 = [vi x.q] := (rfl)
@[go_sem] theorem stV_leaf (x : St3) : (stV x).all leaf = true := (rfl)
@[go_sem] theorem stV_len (x : St3) : (stV x).length = 3 := (rfl)
@[go_sem] theorem stV_row (x : St3) : okRow 3 (stV x) = true := (rfl)
@[go_sem] theorem res_st (ob : OB) (n : Nat) (x : St3) : (stV x).map (resV ob (n + 1)) = stV x := (rfl)
@[go_sem] theorem frz1_st (x : St3) : frz1 (.ag (stV x)) = .ag (stV x) := (rfl)
@[go_sem] theorem flat_st (x : St3) : flatV (.ag (stV x)) = true := (rfl)
@[go_sem] theorem g_st (ob : OB) (n : Nat) (x : St3) : (stV x).map (gV ob (n + 1)) = stV x := (rfl)
@[go_sem] theorem op_bsl_st (z : List V) (x : St3) (ob : OB) (i : Nat) (hz : (z.length == 3) = true) : opF (.bsl 3 z [0] 1 true) [.ag (stV x)] ob i = some (.im .b [stV x], []) := op_bsl_r ob i (by simpa using hz) (stV_row x)
def okS (s : St3) : Bool := decide (0 ≤ s.p ∧ s.p ≤ 1099511627776) && decide (0 ≤ s.l ∧ s.l ≤ 65536) && decide (0 ≤ s.q ∧ s.q ≤ 4)
def hlcE (s : St3) : Int := if okS s then 0 else 1
def cmpT (a b : St3) : Int := orV [cmpI a.p b.p, cmpI a.l b.l, cmpI a.q b.q]
def laterT (a b : St3) : St3 := if cmpT a b < 0 then b else a
def nextT (s : St3) (wall q : Int) : St3 × Int :=
  if hlcE s ≠ 0 ∨ ¬ (0 ≤ wall ∧ wall ≤ 1099511627776) ∨ ¬ (0 ≤ q ∧ q ≤ 4) then (⟨0, 0, 0⟩, 1)
  else if s.p < wall then (⟨wall, 0, q⟩, 0)
  else if 65536 ≤ s.l then (⟨0, 0, 0⟩, 12) else (⟨s.p, s.l + 1, q⟩, 0)
end Go.Proofs.Ytfddkjoklcbjeaa.D
end
section
set_option linter.unusedVariables false
set_option linter.unusedSimpArgs false
set_option maxRecDepth 100000
set_option linter.constructorNameAsVariable false

/- Values. No condition. -/
namespace Go.Proofs.Ytfddkjoklcbjeaa.D
open Go Go.Proofs

theorem within_ok (n m : Int) (hm : IntKind.i64.wrap (0 - m) = -m) : FnB Try.prog 31 [vi n, vi m] (vb (decide (-m ≤ n ∧ n ≤ m))) := by
  refine fnB_intro cf31 (by simp) ?_
  simp (config := {contextual := true, maxSteps := 1000000}) only [go_sem, ints, intRows, iv_c, Nat.reduceAdd, Nat.reduceBEq, Nat.reduceEqDiff, Nat.reduceLeDiff, Nat.reduceLT, reduceIte, Nat.le_refl, true_or, or_true, and_self, Int.reduceLE, Int.reduceLT, Int.reduceEq, Int.reduceNeg, Int.natCast_nonneg, Int.reduceToNat, ops, vals, dots, c31, hm]
  rw [← Bool.decide_and]
@[reducible] def noS : ByteArray := ⟨#[]⟩
theorem toList_inj {a b : ByteArray} (h : a.toList = b.toList) : a = b := by
  have h2 : a.data.toList = b.data.toList := by
    rw [ByteArray.toList_eq, ByteArray.toList_eq] at h
    exact h
  cases a; cases b; simp at h2; simp [h2]
theorem eqStr (a b : ByteArray) : (a.toList = b.toList) = (a = b) := propext ⟨toList_inj, fun h => by rw [h]⟩
@[go_sem] theorem so_eql (a b : ByteArray) : strsOp .eql a b = some (.bool (decide (a.toList = b.toList))) := (rfl)
@[go_sem] theorem so_neq (a b : ByteArray) : strsOp .neq a b = some (.bool (!decide (a.toList = b.toList))) := (rfl)
@[go_sem] theorem vlV_leaf (x : Vl) : (vlV x).all leaf = true := (rfl)
@[go_sem] theorem dotV_leaf (x : Dt) : (dotV x).all leaf = true := (rfl)
@[go_sem] theorem vlV_len (x : Vl) : (vlV x).length = 3 := (rfl)
@[go_sem] theorem vlV_t1 (x : Vl) : (vlV x).take 1 = [vi x.k] := (rfl)
@[go_sem] theorem dotV_t1 (x : Dt) : (dotV x).take 1 = [vi x.p] := (rfl)
@[go_sem] theorem dotV_d1 (x : Dt) : (dotV x).drop 1 = [vi x.n] := (rfl)
@[go_sem] theorem vlV_d1 (x : Vl) : (vlV x).drop 1 = [vi x.i, .c (.string x.s)] := (rfl)
@[go_sem] theorem vlV_d2 (x : Vl) : (vlV x).drop 2 = [.c (.string x.s)] := (rfl)
@[go_sem] theorem vlV_t3 (x : Vl) : (vlV x).take 3 = vlV x := (rfl)
@[go_sem] theorem dotV_len (x : Dt) : (dotV x).length = 2 := (rfl)
@[go_sem] theorem dotV_t2 (x : Dt) : (dotV x).take 2 = dotV x := (rfl)
/-- May a value be? -/
def okVl (v : Vl) : Bool :=
  if v.k = 1 then decide (v.i = 0) && decide (v.s.toList = noS.toList)
  else if v.k = 2 then (decide (v.i = 0) || decide (v.i = 1)) && decide (v.s.toList = noS.toList)
  else if v.k = 3 then decide (-1152921504606846976 ≤ v.i ∧ v.i ≤ 1152921504606846976) && decide (v.s.toList = noS.toList)
  else if v.k = 4 then decide (v.i = 0) && decide ((v.s.size : Int) ≤ 24) else false
def valE (v : Vl) : Int := if okVl v then 0 else 1
theorem vCheck_ok (v : Vl) : FnB Try.prog 24 [.ag (vlV v)] (vi (valE v)) := by
  refine fnB_intro cf24 (by simp) ?_
  have hm : IntKind.i64.wrap (0 - 1152921504606846976) = -1152921504606846976 := by decide
  simp (config := {contextual := true, maxSteps := 1000000}) only [go_sem, ints, intRows, iv_c, Nat.reduceAdd, Nat.reduceBEq, Nat.reduceEqDiff, Nat.reduceLeDiff, Nat.reduceLT, reduceIte, Nat.le_refl, true_or, or_true, and_self, Int.reduceLE, Int.reduceLT, Int.reduceEq, Int.reduceNeg, Int.natCast_nonneg, Int.reduceToNat, ops, vals, dots, c24, vlV]
  have no : okVl v = false → vi 1 = vi (valE v) := fun h => by rw [valE, h]; rfl
  have yes : okVl v = true → vi 0 = vi (valE v) := fun h => by rw [valE, h]; rfl
  refine ⟨fun h1 => ?_, fun h1 => ⟨fun h2 => ?_, fun h2 => ⟨fun h3 => ?_, fun h3 => ⟨fun h4 => ?_, fun h4 => ?_⟩⟩⟩⟩
  · have e : okVl v = (decide (v.i = 0) && decide (v.s.toList = noS.toList)) := by unfold okVl; rw [if_pos (by simpa using h1)]
    exact ⟨fun h => no (by rw [e, h]), fun h => yes (by rw [e]; rw [Bool.not_eq_false'] at h; exact h)⟩
  · have e : okVl v = ((decide (v.i = 0) || decide (v.i = 1)) && decide (v.s.toList = noS.toList)) := by unfold okVl; rw [if_neg (by simpa using h1), if_pos (by simpa using h2)]
    exact ⟨fun h => no (by rw [e, h]), fun h => yes (by rw [e]; rw [Bool.not_eq_false'] at h; exact h)⟩
  · have e : okVl v = (decide (-1152921504606846976 ≤ v.i ∧ v.i ≤ 1152921504606846976) && decide (v.s.toList = noS.toList)) := by unfold okVl; rw [if_neg (by simpa using h1), if_neg (by simpa using h2), if_pos (by simpa using h3)]
    first | refine caS_i (within_ok v.i 1152921504606846976 hm) trivial ?_ | refine caD_i (within_ok v.i 1152921504606846976 hm) trivial ?_ | refine gC_i (fun _ => within_ok v.i 1152921504606846976 hm) trivial ?_ | refine gCD_i (fun _ => within_ok v.i 1152921504606846976 hm) trivial ?_ | refine caE_i (within_ok v.i 1152921504606846976 hm) trivial ?_
    simp (config := {contextual := true, maxSteps := 1000000}) only [go_sem, ints, intRows, iv_c, Nat.reduceAdd, Nat.reduceBEq, Nat.reduceEqDiff, Nat.reduceLeDiff, Nat.reduceLT, reduceIte, Nat.le_refl, true_or, or_true, and_self, Int.reduceLE, Int.reduceLT, Int.reduceEq, Int.reduceNeg, Int.natCast_nonneg, Int.reduceToNat, ops, vals, dots]
    exact ⟨fun h => no (by rw [e, h]), fun h => yes (by rw [e]; rw [Bool.not_eq_false'] at h; exact h)⟩
  · have e : okVl v = (decide (v.i = 0) && decide ((v.s.size : Int) ≤ 24)) := by unfold okVl; rw [if_neg (by simpa using h1), if_neg (by simpa using h2), if_neg (by simpa using h3), if_pos (by simpa using h4)]
    exact ⟨fun h => no (by rw [e, h]), fun h => yes (by rw [e]; rw [Bool.not_eq_false'] at h; exact h)⟩
  · exact no (by unfold okVl; rw [if_neg (by simpa using h1), if_neg (by simpa using h2), if_neg (by simpa using h3), if_neg (by simpa using h4)])
def fitsV (v : Vl) (t : Int) : Bool := (decide (t = 2) || decide (t = 3) || decide (t = 4)) && okVl v && (decide (v.k = t) || decide (v.k = 1))
theorem valE_0 (v : Vl) : decide (valE v = 0) = okVl v := by unfold valE; cases okVl v <;> rfl
theorem vFits_ok (v : Vl) (t : Int) : FnB Try.prog 25 [.ag (vlV v), vi t] (vb (fitsV v t)) := by
  refine fnB_intro cf25 (by simp) ?_
  simp (config := {contextual := true, maxSteps := 1000000}) only [go_sem, ints, intRows, iv_c, Nat.reduceAdd, Nat.reduceBEq, Nat.reduceEqDiff, Nat.reduceLeDiff, Nat.reduceLT, reduceIte, Nat.le_refl, true_or, or_true, and_self, Int.reduceLE, Int.reduceLT, Int.reduceEq, Int.reduceNeg, Int.natCast_nonneg, Int.reduceToNat, ops, vals, dots, c25]
  first | refine caS_i (vCheck_ok v) trivial ?_ | refine caD_i (vCheck_ok v) trivial ?_ | refine gC_i (fun _ => vCheck_ok v) trivial ?_ | refine gCD_i (fun _ => vCheck_ok v) trivial ?_ | refine caE_i (vCheck_ok v) trivial ?_
  simp (config := {contextual := true, maxSteps := 1000000}) only [go_sem, ints, intRows, iv_c, Nat.reduceAdd, Nat.reduceBEq, Nat.reduceEqDiff, Nat.reduceLeDiff, Nat.reduceLT, reduceIte, Nat.le_refl, true_or, or_true, and_self, Int.reduceLE, Int.reduceLT, Int.reduceEq, Int.reduceNeg, Int.natCast_nonneg, Int.reduceToNat, ops, vals, dots, valE_0]
  rfl
def smallV (v : Vl) : Bool := okVl v && (!decide (v.k = 3) || decide (-2147483648 ≤ v.i ∧ v.i ≤ 2147483648))
end Go.Proofs.Ytfddkjoklcbjeaa.D
end
section
set_option linter.unusedVariables false
set_option linter.unusedSimpArgs false
set_option maxRecDepth 100000
set_option linter.constructorNameAsVariable false

/- Predicates. No condition. -/
namespace Go.Proofs.Ytfddkjoklcbjeaa.D
open Go Go.Proofs

@[go_sem] theorem so_lss (a b : ByteArray) : strsOp .lss a b = some (.bool (Op.bytesLess a.toList b.toList)) := (rfl)
@[go_sem] theorem so_gtr (a b : ByteArray) : strsOp .gtr a b = some (.bool (!(Op.bytesLess a.toList b.toList || decide (a.toList = b.toList)))) := (rfl)
def cmpS (a b : ByteArray) : Int := if Op.bytesLess a.toList b.toList then -1 else if a.toList = b.toList then 0 else 1
theorem bl_irr (a : ByteArray) : Op.bytesLess a.toList a.toList = false := by
  generalize a.toList = l
  induction l with
  | nil => rfl
  | cons x l ih => simp [Op.bytesLess, ih]
theorem isNaNS_ok (x : ByteArray) : FnB Try.prog 38 [.c (.string x)] (vb false) := by
  refine fnB_intro cf38 (by simp) ?_
  simp (config := {contextual := true, maxSteps := 1000000}) only [go_sem, ints, intRows, iv_c, Nat.reduceAdd, Nat.reduceBEq, Nat.reduceEqDiff, Nat.reduceLeDiff, Nat.reduceLT, reduceIte, Nat.le_refl, true_or, or_true, and_self, Int.reduceLE, Int.reduceLT, Int.reduceEq, Int.reduceNeg, Int.natCast_nonneg, Int.reduceToNat, ops, vals, dots, c38]
theorem cmpS_ok (x y : ByteArray) : FnB Try.prog 35 [.c (.string x), .c (.string y)] (vi (cmpS x y)) := by
  refine fnB_intro cf35 (by simp) ?_
  simp (config := {contextual := true, maxSteps := 1000000}) only [go_sem, ints, intRows, iv_c, Nat.reduceAdd, Nat.reduceBEq, Nat.reduceEqDiff, Nat.reduceLeDiff, Nat.reduceLT, reduceIte, Nat.le_refl, true_or, or_true, and_self, Int.reduceLE, Int.reduceLT, Int.reduceEq, Int.reduceNeg, Int.natCast_nonneg, Int.reduceToNat, ops, vals, dots, c35]
  first | refine caS_i (isNaNS_ok x) trivial ?_ | refine caD_i (isNaNS_ok x) trivial ?_ | refine gC_i (fun _ => isNaNS_ok x) trivial ?_ | refine gCD_i (fun _ => isNaNS_ok x) trivial ?_ | refine caE_i (isNaNS_ok x) trivial ?_
  simp (config := {contextual := true, maxSteps := 1000000}) only [go_sem, ints, intRows, iv_c, Nat.reduceAdd, Nat.reduceBEq, Nat.reduceEqDiff, Nat.reduceLeDiff, Nat.reduceLT, reduceIte, Nat.le_refl, true_or, or_true, and_self, Int.reduceLE, Int.reduceLT, Int.reduceEq, Int.reduceNeg, Int.natCast_nonneg, Int.reduceToNat, ops, vals, dots]
  first | refine caS_i (isNaNS_ok y) trivial ?_ | refine caD_i (isNaNS_ok y) trivial ?_ | refine gC_i (fun _ => isNaNS_ok y) trivial ?_ | refine gCD_i (fun _ => isNaNS_ok y) trivial ?_ | refine caE_i (isNaNS_ok y) trivial ?_
  simp (config := {contextual := true, maxSteps := 1000000}) only [go_sem, ints, intRows, iv_c, Nat.reduceAdd, Nat.reduceBEq, Nat.reduceEqDiff, Nat.reduceLeDiff, Nat.reduceLT, reduceIte, Nat.le_refl, true_or, or_true, and_self, Int.reduceLE, Int.reduceLT, Int.reduceEq, Int.reduceNeg, Int.natCast_nonneg, Int.reduceToNat, ops, vals, dots]
  refine ⟨fun h => by rw [cmpS, if_pos h], fun h => ⟨fun h2 => ?_, fun h2 => ?_⟩⟩
  · simp at h2
    rw [cmpS, if_neg (by simp [h]), if_neg h2]
  · simp at h2
    rw [cmpS, if_neg (by simp [h]), if_pos h2]
def cmpVl (a b : Vl) : Int := orV [cmpI a.k b.k, cmpI a.i b.i, cmpS a.s b.s]
theorem cmpVl_ok (a b : Vl) : FnB Try.prog 28 [.ag (vlV a), .ag (vlV b)] (vi (cmpVl a b)) := by
  refine fnB_intro cf28 (by simp) ?_
  simp (config := {contextual := true, maxSteps := 1000000}) only [go_sem, ints, intRows, iv_c, Nat.reduceAdd, Nat.reduceBEq, Nat.reduceEqDiff, Nat.reduceLeDiff, Nat.reduceLT, reduceIte, Nat.le_refl, true_or, or_true, and_self, Int.reduceLE, Int.reduceLT, Int.reduceEq, Int.reduceNeg, Int.natCast_nonneg, Int.reduceToNat, ops, vals, dots, c28, vlV]
  first | refine caS_i (cmpI_ok a.k b.k) trivial ?_ | refine caD_i (cmpI_ok a.k b.k) trivial ?_ | refine gC_i (fun _ => cmpI_ok a.k b.k) trivial ?_ | refine gCD_i (fun _ => cmpI_ok a.k b.k) trivial ?_ | refine caE_i (cmpI_ok a.k b.k) trivial ?_
  simp (config := {contextual := true, maxSteps := 1000000}) only [go_sem, ints, intRows, iv_c, Nat.reduceAdd, Nat.reduceBEq, Nat.reduceEqDiff, Nat.reduceLeDiff, Nat.reduceLT, reduceIte, Nat.le_refl, true_or, or_true, and_self, Int.reduceLE, Int.reduceLT, Int.reduceEq, Int.reduceNeg, Int.natCast_nonneg, Int.reduceToNat, ops, vals, dots]
  first | refine caS_i (cmpI_ok a.i b.i) trivial ?_ | refine caD_i (cmpI_ok a.i b.i) trivial ?_ | refine gC_i (fun _ => cmpI_ok a.i b.i) trivial ?_ | refine gCD_i (fun _ => cmpI_ok a.i b.i) trivial ?_ | refine caE_i (cmpI_ok a.i b.i) trivial ?_
  simp (config := {contextual := true, maxSteps := 1000000}) only [go_sem, ints, intRows, iv_c, Nat.reduceAdd, Nat.reduceBEq, Nat.reduceEqDiff, Nat.reduceLeDiff, Nat.reduceLT, reduceIte, Nat.le_refl, true_or, or_true, and_self, Int.reduceLE, Int.reduceLT, Int.reduceEq, Int.reduceNeg, Int.natCast_nonneg, Int.reduceToNat, ops, vals, dots]
  first | refine caS_i (cmpS_ok a.s b.s) trivial ?_ | refine caD_i (cmpS_ok a.s b.s) trivial ?_ | refine gC_i (fun _ => cmpS_ok a.s b.s) trivial ?_ | refine gCD_i (fun _ => cmpS_ok a.s b.s) trivial ?_ | refine caE_i (cmpS_ok a.s b.s) trivial ?_
  simp (config := {contextual := true, maxSteps := 1000000}) only [go_sem, ints, intRows, iv_c, Nat.reduceAdd, Nat.reduceBEq, Nat.reduceEqDiff, Nat.reduceLeDiff, Nat.reduceLT, reduceIte, Nat.le_refl, true_or, or_true, and_self, Int.reduceLE, Int.reduceLT, Int.reduceEq, Int.reduceNeg, Int.natCast_nonneg, Int.reduceToNat, ops, vals, dots]
  first | refine caS_i (cmpOr_ok [cmpI a.k b.k, cmpI a.i b.i, cmpS a.s b.s] (by simp [maxLen])) trivial ?_ | refine caD_i (cmpOr_ok [cmpI a.k b.k, cmpI a.i b.i, cmpS a.s b.s] (by simp [maxLen])) trivial ?_ | refine gC_i (fun _ => cmpOr_ok [cmpI a.k b.k, cmpI a.i b.i, cmpS a.s b.s] (by simp [maxLen])) trivial ?_ | refine gCD_i (fun _ => cmpOr_ok [cmpI a.k b.k, cmpI a.i b.i, cmpS a.s b.s] (by simp [maxLen])) trivial ?_ | refine caE_i (cmpOr_ok [cmpI a.k b.k, cmpI a.i b.i, cmpS a.s b.s] (by simp [maxLen])) trivial ?_
  simp (config := {contextual := true, maxSteps := 1000000}) only [go_sem, ints, intRows, iv_c, Nat.reduceAdd, Nat.reduceBEq, Nat.reduceEqDiff, Nat.reduceLeDiff, Nat.reduceLT, reduceIte, Nat.le_refl, true_or, or_true, and_self, Int.reduceLE, Int.reduceLT, Int.reduceEq, Int.reduceNeg, Int.natCast_nonneg, Int.reduceToNat, ops, vals, dots, cmpVl]
theorem inR_ok (n a b : Int) : FnB Try.prog 30 [vi n, vi a, vi b] (vb (decide (a ≤ n ∧ n ≤ b))) := by
  refine fnB_intro cf30 (by simp) ?_
  simp (config := {contextual := true, maxSteps := 1000000}) only [go_sem, ints, intRows, iv_c, Nat.reduceAdd, Nat.reduceBEq, Nat.reduceEqDiff, Nat.reduceLeDiff, Nat.reduceLT, reduceIte, Nat.le_refl, true_or, or_true, and_self, Int.reduceLE, Int.reduceLT, Int.reduceEq, Int.reduceNeg, Int.natCast_nonneg, Int.reduceToNat, ops, vals, dots, c30]
  rw [← Bool.decide_and]
theorem RValue_ok (v : Vl) : FnB Try.prog 20 [.ag (vlV v)] (vb (okVl v)) := by
  refine fnB_intro cf20 (by simp) ?_
  simp (config := {contextual := true, maxSteps := 1000000}) only [go_sem, ints, intRows, iv_c, Nat.reduceAdd, Nat.reduceBEq, Nat.reduceEqDiff, Nat.reduceLeDiff, Nat.reduceLT, reduceIte, Nat.le_refl, true_or, or_true, and_self, Int.reduceLE, Int.reduceLT, Int.reduceEq, Int.reduceNeg, Int.natCast_nonneg, Int.reduceToNat, ops, vals, dots, c20, vlV]
  refine ⟨fun h1 => ?_, fun h1 => ⟨fun h2 => ?_, fun h2 => ⟨fun h3 => ?_, fun h3 => ⟨fun h4 => ?_, fun h4 => ?_⟩⟩⟩⟩
  · unfold okVl; rw [if_pos (by simpa using h1)]
  · first | refine caS_i (inR_ok v.i 0 1) trivial ?_ | refine caD_i (inR_ok v.i 0 1) trivial ?_ | refine gC_i (fun _ => inR_ok v.i 0 1) trivial ?_ | refine gCD_i (fun _ => inR_ok v.i 0 1) trivial ?_ | refine caE_i (inR_ok v.i 0 1) trivial ?_
    simp (config := {contextual := true, maxSteps := 1000000}) only [go_sem, ints, intRows, iv_c, Nat.reduceAdd, Nat.reduceBEq, Nat.reduceEqDiff, Nat.reduceLeDiff, Nat.reduceLT, reduceIte, Nat.le_refl, true_or, or_true, and_self, Int.reduceLE, Int.reduceLT, Int.reduceEq, Int.reduceNeg, Int.natCast_nonneg, Int.reduceToNat, ops, vals, dots]
    unfold okVl; rw [if_neg (by simpa using h1), if_pos (by simpa using h2)]
    have : decide (0 ≤ v.i ∧ v.i ≤ 1) = (decide (v.i = 0) || decide (v.i = 1)) := by rw [← Bool.decide_or]; congr 1; apply propext; omega
    rw [this]
  · first | refine caS_i (inR_ok v.i (-1152921504606846976) 1152921504606846976) trivial ?_ | refine caD_i (inR_ok v.i (-1152921504606846976) 1152921504606846976) trivial ?_ | refine gC_i (fun _ => inR_ok v.i (-1152921504606846976) 1152921504606846976) trivial ?_ | refine gCD_i (fun _ => inR_ok v.i (-1152921504606846976) 1152921504606846976) trivial ?_ | refine caE_i (inR_ok v.i (-1152921504606846976) 1152921504606846976) trivial ?_
    simp (config := {contextual := true, maxSteps := 1000000}) only [go_sem, ints, intRows, iv_c, Nat.reduceAdd, Nat.reduceBEq, Nat.reduceEqDiff, Nat.reduceLeDiff, Nat.reduceLT, reduceIte, Nat.le_refl, true_or, or_true, and_self, Int.reduceLE, Int.reduceLT, Int.reduceEq, Int.reduceNeg, Int.natCast_nonneg, Int.reduceToNat, ops, vals, dots]
    unfold okVl; rw [if_neg (by simpa using h1), if_neg (by simpa using h2), if_pos (by simpa using h3)]
  · unfold okVl; rw [if_neg (by simpa using h1), if_neg (by simpa using h2), if_neg (by simpa using h3), if_pos (by simpa using h4)]
  · unfold okVl; rw [if_neg (by simpa using h1), if_neg (by simpa using h2), if_neg (by simpa using h3), if_neg (by simpa using h4)]
/-- A predicate. -/
structure Prd where
  k : Int
  col : Int
  other : Int
  v : Vl
@[reducible] def prdV (p : Prd) : List V := vi p.k :: vi p.col :: vi p.other :: vlV p.v
theorem prIn_ok (c many : Int) : FnB Try.prog 21 [vi c, vi many] (vb (decide (0 ≤ c ∧ c < many))) := by
  refine fnB_intro cf21 (by simp) ?_
  simp (config := {contextual := true, maxSteps := 1000000}) only [go_sem, ints, intRows, iv_c, Nat.reduceAdd, Nat.reduceBEq, Nat.reduceEqDiff, Nat.reduceLeDiff, Nat.reduceLT, reduceIte, Nat.le_refl, true_or, or_true, and_self, Int.reduceLE, Int.reduceLT, Int.reduceEq, Int.reduceNeg, Int.natCast_nonneg, Int.reduceToNat, ops, vals, dots, c21]
  rw [← Bool.decide_and]
def oth (p : Prd) : Bool := decide (p.k = 3) || decide (p.k = 4)
def giv (p : Prd) : Bool := decide (p.k = 1) || decide (p.k = 2)
theorem prOther_ok (p : Prd) : FnB Try.prog 22 [.ag (prdV p)] (vb (oth p)) := by
  refine fnB_intro cf22 (by simp) ?_
  simp (config := {contextual := true, maxSteps := 1000000}) only [go_sem, ints, intRows, iv_c, Nat.reduceAdd, Nat.reduceBEq, Nat.reduceEqDiff, Nat.reduceLeDiff, Nat.reduceLT, reduceIte, Nat.le_refl, true_or, or_true, and_self, Int.reduceLE, Int.reduceLT, Int.reduceEq, Int.reduceNeg, Int.natCast_nonneg, Int.reduceToNat, ops, vals, dots, c22]
  rfl
theorem prGiven_ok (p : Prd) : FnB Try.prog 23 [.ag (prdV p)] (vb (giv p)) := by
  refine fnB_intro cf23 (by simp) ?_
  simp (config := {contextual := true, maxSteps := 1000000}) only [go_sem, ints, intRows, iv_c, Nat.reduceAdd, Nat.reduceBEq, Nat.reduceEqDiff, Nat.reduceLeDiff, Nat.reduceLT, reduceIte, Nat.le_refl, true_or, or_true, and_self, Int.reduceLE, Int.reduceLT, Int.reduceEq, Int.reduceNeg, Int.natCast_nonneg, Int.reduceToNat, ops, vals, dots, c23]
  rfl
theorem g_vals {r : List Vl} {c : Nat} (h : c < r.length) : gN (r.map vlV) c = vlV (gN r c) := by rw [gN_eq (by simpa using h), gN_eq h]; simp
theorem chk1_ok {fl : Fl} (types : List Int) (c : Nat) (v : Vl) (hc : c < types.length) (hv : okVl v = true) (hf : fitsV v (gN types c) = true) : FnB Try.prog 11 [.ag (prdV ⟨1, c, 0, v⟩), ints fl types] (vi 0) := by
  refine fnB_intro cf11 (by simp) ?_
  have oc : oth ⟨1, c, 0, v⟩ = false := rfl
  have gc : giv ⟨1, c, 0, v⟩ = true := rfl
  have vc : valE v = 0 := by rw [valE, hv]; rfl
  simp (config := {contextual := true, maxSteps := 1000000}) only [go_sem, ints, intRows, iv_c, Nat.reduceAdd, Nat.reduceBEq, Nat.reduceEqDiff, Nat.reduceLeDiff, Nat.reduceLT, reduceIte, Nat.le_refl, true_or, or_true, and_self, Int.reduceLE, Int.reduceLT, Int.reduceEq, Int.reduceNeg, Int.natCast_nonneg, Int.reduceToNat, ops, vals, dots, c11]
  first | refine caS_i (prIn_ok c types.length) trivial ?_ | refine caD_i (prIn_ok c types.length) trivial ?_ | refine gC_i (fun _ => prIn_ok c types.length) trivial ?_ | refine gCD_i (fun _ => prIn_ok c types.length) trivial ?_ | refine caE_i (prIn_ok c types.length) trivial ?_
  have ic : decide ((c : Int) < types.length) = true := by simp; omega
  simp (config := {contextual := true, maxSteps := 1000000}) only [go_sem, ints, intRows, iv_c, Nat.reduceAdd, Nat.reduceBEq, Nat.reduceEqDiff, Nat.reduceLeDiff, Nat.reduceLT, reduceIte, Nat.le_refl, true_or, or_true, and_self, Int.reduceLE, Int.reduceLT, Int.reduceEq, Int.reduceNeg, Int.natCast_nonneg, Int.reduceToNat, ops, vals, dots, ic, Bool.not_true, Bool.not_false, Bool.or_false, Bool.false_or, Bool.and_false, Bool.true_and, Bool.and_true]
  first | refine caS_i (prOther_ok ⟨1, c, 0, v⟩) trivial ?_ | refine caD_i (prOther_ok ⟨1, c, 0, v⟩) trivial ?_ | refine gC_i (fun _ => prOther_ok ⟨1, c, 0, v⟩) trivial ?_ | refine gCD_i (fun _ => prOther_ok ⟨1, c, 0, v⟩) trivial ?_ | refine caE_i (prOther_ok ⟨1, c, 0, v⟩) trivial ?_
  simp (config := {contextual := true, maxSteps := 1000000}) only [go_sem, ints, intRows, iv_c, Nat.reduceAdd, Nat.reduceBEq, Nat.reduceEqDiff, Nat.reduceLeDiff, Nat.reduceLT, reduceIte, Nat.le_refl, true_or, or_true, and_self, Int.reduceLE, Int.reduceLT, Int.reduceEq, Int.reduceNeg, Int.natCast_nonneg, Int.reduceToNat, ops, vals, dots, oc, Bool.not_true, Bool.not_false, Bool.or_false, Bool.false_or, Bool.and_false, Bool.true_and, Bool.and_true]
  first | refine caS_i (prGiven_ok ⟨1, c, 0, v⟩) trivial ?_ | refine caD_i (prGiven_ok ⟨1, c, 0, v⟩) trivial ?_ | refine gC_i (fun _ => prGiven_ok ⟨1, c, 0, v⟩) trivial ?_ | refine gCD_i (fun _ => prGiven_ok ⟨1, c, 0, v⟩) trivial ?_ | refine caE_i (prGiven_ok ⟨1, c, 0, v⟩) trivial ?_
  simp (config := {contextual := true, maxSteps := 1000000}) only [go_sem, ints, intRows, iv_c, Nat.reduceAdd, Nat.reduceBEq, Nat.reduceEqDiff, Nat.reduceLeDiff, Nat.reduceLT, reduceIte, Nat.le_refl, true_or, or_true, and_self, Int.reduceLE, Int.reduceLT, Int.reduceEq, Int.reduceNeg, Int.natCast_nonneg, Int.reduceToNat, ops, vals, dots, gc, Bool.not_true, Bool.not_false, Bool.or_false, Bool.false_or, Bool.and_false, Bool.true_and, Bool.and_true]
  first | refine caS_i (vCheck_ok v) trivial ?_ | refine caD_i (vCheck_ok v) trivial ?_ | refine gC_i (fun _ => vCheck_ok v) trivial ?_ | refine gCD_i (fun _ => vCheck_ok v) trivial ?_ | refine caE_i (vCheck_ok v) trivial ?_
  simp (config := {contextual := true, maxSteps := 1000000}) only [go_sem, ints, intRows, iv_c, Nat.reduceAdd, Nat.reduceBEq, Nat.reduceEqDiff, Nat.reduceLeDiff, Nat.reduceLT, reduceIte, Nat.le_refl, true_or, or_true, and_self, Int.reduceLE, Int.reduceLT, Int.reduceEq, Int.reduceNeg, Int.natCast_nonneg, Int.reduceToNat, ops, vals, dots, vc, Bool.not_true, Bool.not_false, Bool.or_false, Bool.false_or, Bool.and_false, Bool.true_and, Bool.and_true]
  first | refine caS_i (prGiven_ok ⟨1, c, 0, v⟩) trivial ?_ | refine caD_i (prGiven_ok ⟨1, c, 0, v⟩) trivial ?_ | refine gC_i (fun _ => prGiven_ok ⟨1, c, 0, v⟩) trivial ?_ | refine gCD_i (fun _ => prGiven_ok ⟨1, c, 0, v⟩) trivial ?_ | refine caE_i (prGiven_ok ⟨1, c, 0, v⟩) trivial ?_
  simp (config := {contextual := true, maxSteps := 1000000}) only [go_sem, ints, intRows, iv_c, Nat.reduceAdd, Nat.reduceBEq, Nat.reduceEqDiff, Nat.reduceLeDiff, Nat.reduceLT, reduceIte, Nat.le_refl, true_or, or_true, and_self, Int.reduceLE, Int.reduceLT, Int.reduceEq, Int.reduceNeg, Int.natCast_nonneg, Int.reduceToNat, ops, vals, dots, gc, Bool.not_true, Bool.not_false, Bool.or_false, Bool.false_or, Bool.and_false, Bool.true_and, Bool.and_true]
  repeat (refine And.intro (by omega) ?_)
  first | refine caS_i (vFits_ok v (gN types c)) trivial ?_ | refine caD_i (vFits_ok v (gN types c)) trivial ?_ | refine gC_i (fun _ => vFits_ok v (gN types c)) trivial ?_ | refine gCD_i (fun _ => vFits_ok v (gN types c)) trivial ?_ | refine caE_i (vFits_ok v (gN types c)) trivial ?_
  simp (config := {contextual := true, maxSteps := 1000000}) only [go_sem, ints, intRows, iv_c, Nat.reduceAdd, Nat.reduceBEq, Nat.reduceEqDiff, Nat.reduceLeDiff, Nat.reduceLT, reduceIte, Nat.le_refl, true_or, or_true, and_self, Int.reduceLE, Int.reduceLT, Int.reduceEq, Int.reduceNeg, Int.natCast_nonneg, Int.reduceToNat, ops, vals, dots, hf, Bool.not_true, Bool.not_false, Bool.or_false, Bool.false_or, Bool.and_false, Bool.true_and, Bool.and_true]
  first | refine caS_i (prOther_ok ⟨1, c, 0, v⟩) trivial ?_ | refine caD_i (prOther_ok ⟨1, c, 0, v⟩) trivial ?_ | refine gC_i (fun _ => prOther_ok ⟨1, c, 0, v⟩) trivial ?_ | refine gCD_i (fun _ => prOther_ok ⟨1, c, 0, v⟩) trivial ?_ | refine caE_i (prOther_ok ⟨1, c, 0, v⟩) trivial ?_
  simp (config := {contextual := true, maxSteps := 1000000}) only [go_sem, ints, intRows, iv_c, Nat.reduceAdd, Nat.reduceBEq, Nat.reduceEqDiff, Nat.reduceLeDiff, Nat.reduceLT, reduceIte, Nat.le_refl, true_or, or_true, and_self, Int.reduceLE, Int.reduceLT, Int.reduceEq, Int.reduceNeg, Int.natCast_nonneg, Int.reduceToNat, ops, vals, dots, oc, Bool.not_true, Bool.not_false, Bool.or_false, Bool.false_or, Bool.and_false, Bool.true_and, Bool.and_true]
theorem chk2_ok {fl : Fl} (types : List Int) (c : Nat) (v : Vl) (hc : c < types.length) (hv : okVl v = true) (hf : fitsV v (gN types c) = true) : FnB Try.prog 11 [.ag (prdV ⟨2, c, 0, v⟩), ints fl types] (vi 0) := by
  refine fnB_intro cf11 (by simp) ?_
  have oc : oth ⟨2, c, 0, v⟩ = false := rfl
  have gc : giv ⟨2, c, 0, v⟩ = true := rfl
  have vc : valE v = 0 := by rw [valE, hv]; rfl
  simp (config := {contextual := true, maxSteps := 1000000}) only [go_sem, ints, intRows, iv_c, Nat.reduceAdd, Nat.reduceBEq, Nat.reduceEqDiff, Nat.reduceLeDiff, Nat.reduceLT, reduceIte, Nat.le_refl, true_or, or_true, and_self, Int.reduceLE, Int.reduceLT, Int.reduceEq, Int.reduceNeg, Int.natCast_nonneg, Int.reduceToNat, ops, vals, dots, c11]
  first | refine caS_i (prIn_ok c types.length) trivial ?_ | refine caD_i (prIn_ok c types.length) trivial ?_ | refine gC_i (fun _ => prIn_ok c types.length) trivial ?_ | refine gCD_i (fun _ => prIn_ok c types.length) trivial ?_ | refine caE_i (prIn_ok c types.length) trivial ?_
  have ic : decide ((c : Int) < types.length) = true := by simp; omega
  simp (config := {contextual := true, maxSteps := 1000000}) only [go_sem, ints, intRows, iv_c, Nat.reduceAdd, Nat.reduceBEq, Nat.reduceEqDiff, Nat.reduceLeDiff, Nat.reduceLT, reduceIte, Nat.le_refl, true_or, or_true, and_self, Int.reduceLE, Int.reduceLT, Int.reduceEq, Int.reduceNeg, Int.natCast_nonneg, Int.reduceToNat, ops, vals, dots, ic, Bool.not_true, Bool.not_false, Bool.or_false, Bool.false_or, Bool.and_false, Bool.true_and, Bool.and_true]
  first | refine caS_i (prOther_ok ⟨2, c, 0, v⟩) trivial ?_ | refine caD_i (prOther_ok ⟨2, c, 0, v⟩) trivial ?_ | refine gC_i (fun _ => prOther_ok ⟨2, c, 0, v⟩) trivial ?_ | refine gCD_i (fun _ => prOther_ok ⟨2, c, 0, v⟩) trivial ?_ | refine caE_i (prOther_ok ⟨2, c, 0, v⟩) trivial ?_
  simp (config := {contextual := true, maxSteps := 1000000}) only [go_sem, ints, intRows, iv_c, Nat.reduceAdd, Nat.reduceBEq, Nat.reduceEqDiff, Nat.reduceLeDiff, Nat.reduceLT, reduceIte, Nat.le_refl, true_or, or_true, and_self, Int.reduceLE, Int.reduceLT, Int.reduceEq, Int.reduceNeg, Int.natCast_nonneg, Int.reduceToNat, ops, vals, dots, oc, Bool.not_true, Bool.not_false, Bool.or_false, Bool.false_or, Bool.and_false, Bool.true_and, Bool.and_true]
  first | refine caS_i (prGiven_ok ⟨2, c, 0, v⟩) trivial ?_ | refine caD_i (prGiven_ok ⟨2, c, 0, v⟩) trivial ?_ | refine gC_i (fun _ => prGiven_ok ⟨2, c, 0, v⟩) trivial ?_ | refine gCD_i (fun _ => prGiven_ok ⟨2, c, 0, v⟩) trivial ?_ | refine caE_i (prGiven_ok ⟨2, c, 0, v⟩) trivial ?_
  simp (config := {contextual := true, maxSteps := 1000000}) only [go_sem, ints, intRows, iv_c, Nat.reduceAdd, Nat.reduceBEq, Nat.reduceEqDiff, Nat.reduceLeDiff, Nat.reduceLT, reduceIte, Nat.le_refl, true_or, or_true, and_self, Int.reduceLE, Int.reduceLT, Int.reduceEq, Int.reduceNeg, Int.natCast_nonneg, Int.reduceToNat, ops, vals, dots, gc, Bool.not_true, Bool.not_false, Bool.or_false, Bool.false_or, Bool.and_false, Bool.true_and, Bool.and_true]
  first | refine caS_i (vCheck_ok v) trivial ?_ | refine caD_i (vCheck_ok v) trivial ?_ | refine gC_i (fun _ => vCheck_ok v) trivial ?_ | refine gCD_i (fun _ => vCheck_ok v) trivial ?_ | refine caE_i (vCheck_ok v) trivial ?_
  simp (config := {contextual := true, maxSteps := 1000000}) only [go_sem, ints, intRows, iv_c, Nat.reduceAdd, Nat.reduceBEq, Nat.reduceEqDiff, Nat.reduceLeDiff, Nat.reduceLT, reduceIte, Nat.le_refl, true_or, or_true, and_self, Int.reduceLE, Int.reduceLT, Int.reduceEq, Int.reduceNeg, Int.natCast_nonneg, Int.reduceToNat, ops, vals, dots, vc, Bool.not_true, Bool.not_false, Bool.or_false, Bool.false_or, Bool.and_false, Bool.true_and, Bool.and_true]
  first | refine caS_i (prGiven_ok ⟨2, c, 0, v⟩) trivial ?_ | refine caD_i (prGiven_ok ⟨2, c, 0, v⟩) trivial ?_ | refine gC_i (fun _ => prGiven_ok ⟨2, c, 0, v⟩) trivial ?_ | refine gCD_i (fun _ => prGiven_ok ⟨2, c, 0, v⟩) trivial ?_ | refine caE_i (prGiven_ok ⟨2, c, 0, v⟩) trivial ?_
  simp (config := {contextual := true, maxSteps := 1000000}) only [go_sem, ints, intRows, iv_c, Nat.reduceAdd, Nat.reduceBEq, Nat.reduceEqDiff, Nat.reduceLeDiff, Nat.reduceLT, reduceIte, Nat.le_refl, true_or, or_true, and_self, Int.reduceLE, Int.reduceLT, Int.reduceEq, Int.reduceNeg, Int.natCast_nonneg, Int.reduceToNat, ops, vals, dots, gc, Bool.not_true, Bool.not_false, Bool.or_false, Bool.false_or, Bool.and_false, Bool.true_and, Bool.and_true]
  repeat (refine And.intro (by omega) ?_)
  first | refine caS_i (vFits_ok v (gN types c)) trivial ?_ | refine caD_i (vFits_ok v (gN types c)) trivial ?_ | refine gC_i (fun _ => vFits_ok v (gN types c)) trivial ?_ | refine gCD_i (fun _ => vFits_ok v (gN types c)) trivial ?_ | refine caE_i (vFits_ok v (gN types c)) trivial ?_
  simp (config := {contextual := true, maxSteps := 1000000}) only [go_sem, ints, intRows, iv_c, Nat.reduceAdd, Nat.reduceBEq, Nat.reduceEqDiff, Nat.reduceLeDiff, Nat.reduceLT, reduceIte, Nat.le_refl, true_or, or_true, and_self, Int.reduceLE, Int.reduceLT, Int.reduceEq, Int.reduceNeg, Int.natCast_nonneg, Int.reduceToNat, ops, vals, dots, hf, Bool.not_true, Bool.not_false, Bool.or_false, Bool.false_or, Bool.and_false, Bool.true_and, Bool.and_true]
  first | refine caS_i (prOther_ok ⟨2, c, 0, v⟩) trivial ?_ | refine caD_i (prOther_ok ⟨2, c, 0, v⟩) trivial ?_ | refine gC_i (fun _ => prOther_ok ⟨2, c, 0, v⟩) trivial ?_ | refine gCD_i (fun _ => prOther_ok ⟨2, c, 0, v⟩) trivial ?_ | refine caE_i (prOther_ok ⟨2, c, 0, v⟩) trivial ?_
  simp (config := {contextual := true, maxSteps := 1000000}) only [go_sem, ints, intRows, iv_c, Nat.reduceAdd, Nat.reduceBEq, Nat.reduceEqDiff, Nat.reduceLeDiff, Nat.reduceLT, reduceIte, Nat.le_refl, true_or, or_true, and_self, Int.reduceLE, Int.reduceLT, Int.reduceEq, Int.reduceNeg, Int.natCast_nonneg, Int.reduceToNat, ops, vals, dots, oc, Bool.not_true, Bool.not_false, Bool.or_false, Bool.false_or, Bool.and_false, Bool.true_and, Bool.and_true]
theorem holds1_ok {fl : Fl} (r : List Vl) (c : Nat) (v : Vl) (hc : c < r.length) : FnB Try.prog 13 [.ag (prdV ⟨1, c, 0, v⟩), vals fl r] (vb (decide (cmpVl (gN r c) v = 0))) := by
  refine fnB_intro cf13 (by simp) ?_
  have oc : oth ⟨1, c, 0, v⟩ = false := rfl
  simp (config := {contextual := true, maxSteps := 1000000}) only [go_sem, ints, intRows, iv_c, Nat.reduceAdd, Nat.reduceBEq, Nat.reduceEqDiff, Nat.reduceLeDiff, Nat.reduceLT, reduceIte, Nat.le_refl, true_or, or_true, and_self, Int.reduceLE, Int.reduceLT, Int.reduceEq, Int.reduceNeg, Int.natCast_nonneg, Int.reduceToNat, ops, vals, dots, c13]
  first | refine caS_i (prIn_ok c r.length) trivial ?_ | refine caD_i (prIn_ok c r.length) trivial ?_ | refine gC_i (fun _ => prIn_ok c r.length) trivial ?_ | refine gCD_i (fun _ => prIn_ok c r.length) trivial ?_ | refine caE_i (prIn_ok c r.length) trivial ?_
  have ic : decide ((c : Int) < r.length) = true := by simp; omega
  simp (config := {contextual := true, maxSteps := 1000000}) only [go_sem, ints, intRows, iv_c, Nat.reduceAdd, Nat.reduceBEq, Nat.reduceEqDiff, Nat.reduceLeDiff, Nat.reduceLT, reduceIte, Nat.le_refl, true_or, or_true, and_self, Int.reduceLE, Int.reduceLT, Int.reduceEq, Int.reduceNeg, Int.natCast_nonneg, Int.reduceToNat, ops, vals, dots, ic, Bool.not_true, Bool.not_false, Bool.or_false, Bool.false_or, Bool.and_false, Bool.true_and, Bool.and_true]
  first | refine caS_i (prOther_ok ⟨1, c, 0, v⟩) trivial ?_ | refine caD_i (prOther_ok ⟨1, c, 0, v⟩) trivial ?_ | refine gC_i (fun _ => prOther_ok ⟨1, c, 0, v⟩) trivial ?_ | refine gCD_i (fun _ => prOther_ok ⟨1, c, 0, v⟩) trivial ?_ | refine caE_i (prOther_ok ⟨1, c, 0, v⟩) trivial ?_
  simp (config := {contextual := true, maxSteps := 1000000}) only [go_sem, ints, intRows, iv_c, Nat.reduceAdd, Nat.reduceBEq, Nat.reduceEqDiff, Nat.reduceLeDiff, Nat.reduceLT, reduceIte, Nat.le_refl, true_or, or_true, and_self, Int.reduceLE, Int.reduceLT, Int.reduceEq, Int.reduceNeg, Int.natCast_nonneg, Int.reduceToNat, ops, vals, dots, oc, Bool.not_true, Bool.not_false, Bool.or_false, Bool.false_or, Bool.and_false, Bool.true_and, Bool.and_true]
  repeat (refine And.intro (by omega) ?_)
  first
    | first | refine caS_i (cmpVl_ok (gN r c) v) trivial ?_ | refine caD_i (cmpVl_ok (gN r c) v) trivial ?_ | refine gC_i (fun _ => cmpVl_ok (gN r c) v) trivial ?_ | refine gCD_i (fun _ => cmpVl_ok (gN r c) v) trivial ?_ | refine caE_i (cmpVl_ok (gN r c) v) trivial ?_
      simp (config := {contextual := true, maxSteps := 1000000}) only [go_sem, ints, intRows, iv_c, Nat.reduceAdd, Nat.reduceBEq, Nat.reduceEqDiff, Nat.reduceLeDiff, Nat.reduceLT, reduceIte, Nat.le_refl, true_or, or_true, and_self, Int.reduceLE, Int.reduceLT, Int.reduceEq, Int.reduceNeg, Int.natCast_nonneg, Int.reduceToNat, ops, vals, dots]
      done
    | omega
theorem holds2_ok {fl : Fl} (r : List Vl) (c : Nat) (v : Vl) (hc : c < r.length) : FnB Try.prog 13 [.ag (prdV ⟨2, c, 0, v⟩), vals fl r] (vb (decide (cmpVl (gN r c) v < 0))) := by
  refine fnB_intro cf13 (by simp) ?_
  have oc : oth ⟨2, c, 0, v⟩ = false := rfl
  simp (config := {contextual := true, maxSteps := 1000000}) only [go_sem, ints, intRows, iv_c, Nat.reduceAdd, Nat.reduceBEq, Nat.reduceEqDiff, Nat.reduceLeDiff, Nat.reduceLT, reduceIte, Nat.le_refl, true_or, or_true, and_self, Int.reduceLE, Int.reduceLT, Int.reduceEq, Int.reduceNeg, Int.natCast_nonneg, Int.reduceToNat, ops, vals, dots, c13]
  first | refine caS_i (prIn_ok c r.length) trivial ?_ | refine caD_i (prIn_ok c r.length) trivial ?_ | refine gC_i (fun _ => prIn_ok c r.length) trivial ?_ | refine gCD_i (fun _ => prIn_ok c r.length) trivial ?_ | refine caE_i (prIn_ok c r.length) trivial ?_
  have ic : decide ((c : Int) < r.length) = true := by simp; omega
  simp (config := {contextual := true, maxSteps := 1000000}) only [go_sem, ints, intRows, iv_c, Nat.reduceAdd, Nat.reduceBEq, Nat.reduceEqDiff, Nat.reduceLeDiff, Nat.reduceLT, reduceIte, Nat.le_refl, true_or, or_true, and_self, Int.reduceLE, Int.reduceLT, Int.reduceEq, Int.reduceNeg, Int.natCast_nonneg, Int.reduceToNat, ops, vals, dots, ic, Bool.not_true, Bool.not_false, Bool.or_false, Bool.false_or, Bool.and_false, Bool.true_and, Bool.and_true]
  first | refine caS_i (prOther_ok ⟨2, c, 0, v⟩) trivial ?_ | refine caD_i (prOther_ok ⟨2, c, 0, v⟩) trivial ?_ | refine gC_i (fun _ => prOther_ok ⟨2, c, 0, v⟩) trivial ?_ | refine gCD_i (fun _ => prOther_ok ⟨2, c, 0, v⟩) trivial ?_ | refine caE_i (prOther_ok ⟨2, c, 0, v⟩) trivial ?_
  simp (config := {contextual := true, maxSteps := 1000000}) only [go_sem, ints, intRows, iv_c, Nat.reduceAdd, Nat.reduceBEq, Nat.reduceEqDiff, Nat.reduceLeDiff, Nat.reduceLT, reduceIte, Nat.le_refl, true_or, or_true, and_self, Int.reduceLE, Int.reduceLT, Int.reduceEq, Int.reduceNeg, Int.natCast_nonneg, Int.reduceToNat, ops, vals, dots, oc, Bool.not_true, Bool.not_false, Bool.or_false, Bool.false_or, Bool.and_false, Bool.true_and, Bool.and_true]
  repeat (refine And.intro (by omega) ?_)
  first
    | first | refine caS_i (cmpVl_ok (gN r c) v) trivial ?_ | refine caD_i (cmpVl_ok (gN r c) v) trivial ?_ | refine gC_i (fun _ => cmpVl_ok (gN r c) v) trivial ?_ | refine gCD_i (fun _ => cmpVl_ok (gN r c) v) trivial ?_ | refine caE_i (cmpVl_ok (gN r c) v) trivial ?_
      simp (config := {contextual := true, maxSteps := 1000000}) only [go_sem, ints, intRows, iv_c, Nat.reduceAdd, Nat.reduceBEq, Nat.reduceEqDiff, Nat.reduceLeDiff, Nat.reduceLT, reduceIte, Nat.le_refl, true_or, or_true, and_self, Int.reduceLE, Int.reduceLT, Int.reduceEq, Int.reduceNeg, Int.natCast_nonneg, Int.reduceToNat, ops, vals, dots]
      done
    | omega
theorem holds5_ok {fl : Fl} (r : List Vl) (c : Nat) (v : Vl) (hc : c < r.length) : FnB Try.prog 13 [.ag (prdV ⟨5, c, 0, ⟨0, 0, noS⟩⟩), vals fl r] (vb (decide ((gN r c).k = 1))) := by
  refine fnB_intro cf13 (by simp) ?_
  have oc : oth ⟨5, c, 0, ⟨0, 0, noS⟩⟩ = false := rfl
  simp (config := {contextual := true, maxSteps := 1000000}) only [go_sem, ints, intRows, iv_c, Nat.reduceAdd, Nat.reduceBEq, Nat.reduceEqDiff, Nat.reduceLeDiff, Nat.reduceLT, reduceIte, Nat.le_refl, true_or, or_true, and_self, Int.reduceLE, Int.reduceLT, Int.reduceEq, Int.reduceNeg, Int.natCast_nonneg, Int.reduceToNat, ops, vals, dots, c13]
  first | refine caS_i (prIn_ok c r.length) trivial ?_ | refine caD_i (prIn_ok c r.length) trivial ?_ | refine gC_i (fun _ => prIn_ok c r.length) trivial ?_ | refine gCD_i (fun _ => prIn_ok c r.length) trivial ?_ | refine caE_i (prIn_ok c r.length) trivial ?_
  have ic : decide ((c : Int) < r.length) = true := by simp; omega
  simp (config := {contextual := true, maxSteps := 1000000}) only [go_sem, ints, intRows, iv_c, Nat.reduceAdd, Nat.reduceBEq, Nat.reduceEqDiff, Nat.reduceLeDiff, Nat.reduceLT, reduceIte, Nat.le_refl, true_or, or_true, and_self, Int.reduceLE, Int.reduceLT, Int.reduceEq, Int.reduceNeg, Int.natCast_nonneg, Int.reduceToNat, ops, vals, dots, ic, Bool.not_true, Bool.not_false, Bool.or_false, Bool.false_or, Bool.and_false, Bool.true_and, Bool.and_true]
  first | refine caS_i (prOther_ok ⟨5, c, 0, ⟨0, 0, noS⟩⟩) trivial ?_ | refine caD_i (prOther_ok ⟨5, c, 0, ⟨0, 0, noS⟩⟩) trivial ?_ | refine gC_i (fun _ => prOther_ok ⟨5, c, 0, ⟨0, 0, noS⟩⟩) trivial ?_ | refine gCD_i (fun _ => prOther_ok ⟨5, c, 0, ⟨0, 0, noS⟩⟩) trivial ?_ | refine caE_i (prOther_ok ⟨5, c, 0, ⟨0, 0, noS⟩⟩) trivial ?_
  simp (config := {contextual := true, maxSteps := 1000000}) only [go_sem, ints, intRows, iv_c, Nat.reduceAdd, Nat.reduceBEq, Nat.reduceEqDiff, Nat.reduceLeDiff, Nat.reduceLT, reduceIte, Nat.le_refl, true_or, or_true, and_self, Int.reduceLE, Int.reduceLT, Int.reduceEq, Int.reduceNeg, Int.natCast_nonneg, Int.reduceToNat, ops, vals, dots, oc, Bool.not_true, Bool.not_false, Bool.or_false, Bool.false_or, Bool.and_false, Bool.true_and, Bool.and_true]
  repeat (refine And.intro (by omega) ?_)
  first
    | first | refine caS_i (cmpVl_ok (gN r c) v) trivial ?_ | refine caD_i (cmpVl_ok (gN r c) v) trivial ?_ | refine gC_i (fun _ => cmpVl_ok (gN r c) v) trivial ?_ | refine gCD_i (fun _ => cmpVl_ok (gN r c) v) trivial ?_ | refine caE_i (cmpVl_ok (gN r c) v) trivial ?_
      simp (config := {contextual := true, maxSteps := 1000000}) only [go_sem, ints, intRows, iv_c, Nat.reduceAdd, Nat.reduceBEq, Nat.reduceEqDiff, Nat.reduceLeDiff, Nat.reduceLT, reduceIte, Nat.le_refl, true_or, or_true, and_self, Int.reduceLE, Int.reduceLT, Int.reduceEq, Int.reduceNeg, Int.natCast_nonneg, Int.reduceToNat, ops, vals, dots]
      done
    | omega
theorem ia_h (ob : OB) (k : Nat) (f : Fl) (r : List V) (l : List (List V)) : iaV ob k (.im f (r :: l)) 0 = if r.length = k then some (.bp r) else none := by
  simp [iaV]
@[go_sem] theorem frz1_vl (x : Vl) : frz1 (.ag (vlV x)) = .ag (vlV x) := (rfl)
@[go_sem] theorem op_bsl_vl (z : List V) (x : Vl) (ob : OB) (i : Nat) (hz : (z.length == 3) = true) : opF (.bsl 3 z [0] 1 true) [.ag (vlV x)] ob i = some (.im .b [vlV x], []) := op_bsl_r ob i (by simpa using hz) (vlV_row x)
@[go_sem] theorem op_bsl_isc (z : List V) (i j : Int) (s : ByteArray) (ob : OB) (n : Nat) (hz : (z.length == 3) = true) : opF (.bsl 3 z [0] 1 true) [.ag [.c (.int .i64 i), .c (.int .i64 j), .c (.string s)]] ob n = some (.im .b [[.c (.int .i64 i), .c (.int .i64 j), .c (.string s)]], []) := op_bsl_vl z ⟨i, j, s⟩ ob n hz
theorem Long1_ok {fl : Fl} (v : Vl) : FnB Try.prog 7 [vals fl [v]] (vb (decide (300 < (v.s.size : Int)))) := by
  refine fnB_intro cf7 (by simp) ?_
  simp (config := {contextual := true, maxSteps := 1000000}) only [go_sem, ints, intRows, iv_c, Nat.reduceAdd, Nat.reduceBEq, Nat.reduceEqDiff, Nat.reduceLeDiff, Nat.reduceLT, reduceIte, Nat.le_refl, true_or, or_true, and_self, Int.reduceLE, Int.reduceLT, Int.reduceEq, Int.reduceNeg, Int.natCast_nonneg, Int.reduceToNat, ops, vals, dots, c7]
  refine wpC_lp (fun env ob n' => env 0 = vals fl [v] ∧ ((env 3 = vi 0) ∨ (env 3 = vi 1 ∧ ¬ 300 < (v.s.size : Int)))) (fun env ob _ => (1 - iv (env 3)).toNat) ?_ ?_
  · simp (config := {contextual := true, maxSteps := 1000000}) only [go_sem, ints, intRows, iv_c, Nat.reduceAdd, Nat.reduceBEq, Nat.reduceEqDiff, Nat.reduceLeDiff, Nat.reduceLT, reduceIte, Nat.le_refl, true_or, or_true, and_self, Int.reduceLE, Int.reduceLT, Int.reduceEq, Int.reduceNeg, Int.natCast_nonneg, Int.reduceToNat, ops, vals, dots]
  rintro env ob n' ⟨h0, h3 | ⟨h3, hv⟩⟩
  · simp (config := {contextual := true, maxSteps := 1000000}) only [go_sem, ints, intRows, iv_c, Nat.reduceAdd, Nat.reduceBEq, Nat.reduceEqDiff, Nat.reduceLeDiff, Nat.reduceLT, reduceIte, Nat.le_refl, true_or, or_true, and_self, Int.reduceLE, Int.reduceLT, Int.reduceEq, Int.reduceNeg, Int.natCast_nonneg, Int.reduceToNat, ops, vals, dots, h0, h3, ia_h]
    have w1 : IntKind.i64.wrap (0 + 1) = 1 := by decide
    rw [w1]
    exact fun h => ⟨.inr ⟨rfl, by simpa using h⟩, by decide⟩
  · simp (config := {contextual := true, maxSteps := 1000000}) only [go_sem, ints, intRows, iv_c, Nat.reduceAdd, Nat.reduceBEq, Nat.reduceEqDiff, Nat.reduceLeDiff, Nat.reduceLT, reduceIte, Nat.le_refl, true_or, or_true, and_self, Int.reduceLE, Int.reduceLT, Int.reduceEq, Int.reduceNeg, Int.natCast_nonneg, Int.reduceToNat, ops, vals, dots, h0, h3]
    rw [decide_eq_false hv]
theorem wakes15_ok : FnB Try.prog 17 [] (vb true) := by
  refine fnB_intro cf17 (by simp) ?_
  simp (config := {contextual := true, maxSteps := 1000000}) only [go_sem, ints, intRows, iv_c, Nat.reduceAdd, Nat.reduceBEq, Nat.reduceEqDiff, Nat.reduceLeDiff, Nat.reduceLT, reduceIte, Nat.le_refl, true_or, or_true, and_self, Int.reduceLE, Int.reduceLT, Int.reduceEq, Int.reduceNeg, Int.natCast_nonneg, Int.reduceToNat, ops, vals, dots, c17]
  have a1 : FnB Try.prog 11 [.ag (prdV ⟨2, 0, 0, ⟨3, 5, noS⟩⟩), ints .b [3]] (vi 0) := chk2_ok [3] 0 ⟨3, 5, noS⟩ (by simp) (by simp [okVl]) (by simp [fitsV, okVl, gN])
  first | refine caS_i (a1) trivial ?_ | refine caD_i (a1) trivial ?_ | refine gC_i (fun _ => a1) trivial ?_ | refine gCD_i (fun _ => a1) trivial ?_ | refine caE_i (a1) trivial ?_
  simp (config := {contextual := true, maxSteps := 1000000}) only [go_sem, ints, intRows, iv_c, Nat.reduceAdd, Nat.reduceBEq, Nat.reduceEqDiff, Nat.reduceLeDiff, Nat.reduceLT, reduceIte, Nat.le_refl, true_or, or_true, and_self, Int.reduceLE, Int.reduceLT, Int.reduceEq, Int.reduceNeg, Int.natCast_nonneg, Int.reduceToNat, ops, vals, dots]
  have a2 : FnB Try.prog 13 [.ag (prdV ⟨2, 0, 0, ⟨3, 5, noS⟩⟩), vals .b [⟨3, 4, noS⟩]] (vb true) := by
    have := holds2_ok (fl := .b) [⟨3, 4, noS⟩] 0 ⟨3, 5, noS⟩ (by simp)
    simpa [cmpVl, orV, cmpI, gN] using this
  have a3 : FnB Try.prog 13 [.ag (prdV ⟨2, 0, 0, ⟨3, 5, noS⟩⟩), vals .b [⟨3, 5, noS⟩]] (vb false) := by
    have := holds2_ok (fl := .b) [⟨3, 5, noS⟩] 0 ⟨3, 5, noS⟩ (by simp)
    have hc : cmpS noS noS = 0 := by rw [cmpS, bl_irr]; simp
    simpa [cmpVl, orV, cmpI, gN, hc] using this
  first | refine caS_i (a2) trivial ?_ | refine caD_i (a2) trivial ?_ | refine gC_i (fun _ => a2) trivial ?_ | refine gCD_i (fun _ => a2) trivial ?_ | refine caE_i (a2) trivial ?_
  simp (config := {contextual := true, maxSteps := 1000000}) only [go_sem, ints, intRows, iv_c, Nat.reduceAdd, Nat.reduceBEq, Nat.reduceEqDiff, Nat.reduceLeDiff, Nat.reduceLT, reduceIte, Nat.le_refl, true_or, or_true, and_self, Int.reduceLE, Int.reduceLT, Int.reduceEq, Int.reduceNeg, Int.natCast_nonneg, Int.reduceToNat, ops, vals, dots]
  first | refine caS_i (a3) trivial ?_ | refine caD_i (a3) trivial ?_ | refine gC_i (fun _ => a3) trivial ?_ | refine gCD_i (fun _ => a3) trivial ?_ | refine caE_i (a3) trivial ?_
  simp (config := {contextual := true, maxSteps := 1000000}) only [go_sem, ints, intRows, iv_c, Nat.reduceAdd, Nat.reduceBEq, Nat.reduceEqDiff, Nat.reduceLeDiff, Nat.reduceLT, reduceIte, Nat.le_refl, true_or, or_true, and_self, Int.reduceLE, Int.reduceLT, Int.reduceEq, Int.reduceNeg, Int.natCast_nonneg, Int.reduceToNat, ops, vals, dots]
@[reducible] def nul : Vl := ⟨1, 0, noS⟩
theorem cmp_nul {v : Vl} (h : okVl v = true) : decide (cmpVl nul v < 0) = !decide (v.k = 1) ∧ decide (cmpVl v nul = 0) = decide (v.k = 1) ∧ decide (cmpVl v nul < 0) = false := by
  have hc : cmpS noS noS = 0 := by rw [cmpS, bl_irr]; simp
  unfold okVl at h
  by_cases h1 : v.k = 1
  · rw [if_pos h1] at h
    simp only [Bool.and_eq_true, decide_eq_true_eq] at h
    have : v = nul := by obtain ⟨k, i, s⟩ := v; simp only at h1 h; rw [h1, h.1, toList_inj (b := noS) h.2]
    subst this
    simp [cmpVl, orV, cmpI, hc]
  · have : 1 < v.k := by
      rw [if_neg h1] at h
      split at h
      · omega
      · split at h
        · omega
        · split at h
          · omega
          · cases h
    have a1 : cmpI 1 v.k = -1 := by unfold cmpI; rw [if_pos this]
    have a2 : cmpI v.k 1 = 1 := by unfold cmpI; rw [if_neg (by omega), if_pos this]
    simp [cmpVl, orV, a1, a2, h1]
theorem cmp_nn : decide (cmpVl nul nul = 0) = true ∧ decide (cmpVl nul nul < 0) = false := by
  have hc : cmpS noS noS = 0 := by rw [cmpS, bl_irr]; simp
  simp [cmpVl, orV, cmpI, hc]
theorem vlV_d3 (x : Vl) : (vlV x).drop 3 = [] := (rfl)
theorem beq_add (n a b : Nat) : (n + a == n + b) = (a == b) := by rw [Bool.eq_iff_iff, beq_iff_eq, beq_iff_eq]; omega
set_option maxHeartbeats 4000000 in
theorem PredNulls_ok (types : List Int) (col : Int) (v : Vl) : FnB Try.prog 5 [ints .b types, vi col, .ag (vlV v)] (vb true) := by
  refine fnB_intro cf5 (by simp) ?_
  simp (config := {contextual := true, maxSteps := 1000000}) only [go_sem, ints, intRows, iv_c, Nat.reduceAdd, Nat.reduceBEq, Nat.reduceEqDiff, Nat.reduceLeDiff, Nat.reduceLT, reduceIte, Nat.le_refl, true_or, or_true, and_self, Int.reduceLE, Int.reduceLT, Int.reduceEq, Int.reduceNeg, Int.natCast_nonneg, Int.reduceToNat, ops, vals, dots, c5]
  first | refine caS_i (Long1_ok v) trivial ?_ | refine caD_i (Long1_ok v) trivial ?_ | refine gC_i (fun _ => Long1_ok v) trivial ?_ | refine gCD_i (fun _ => Long1_ok v) trivial ?_ | refine caE_i (Long1_ok v) trivial ?_
  simp (config := {contextual := true, maxSteps := 1000000}) only [go_sem, ints, intRows, iv_c, Nat.reduceAdd, Nat.reduceBEq, Nat.reduceEqDiff, Nat.reduceLeDiff, Nat.reduceLT, reduceIte, Nat.le_refl, true_or, or_true, and_self, Int.reduceLE, Int.reduceLT, Int.reduceEq, Int.reduceNeg, Int.natCast_nonneg, Int.reduceToNat, ops, vals, dots]
  first | refine caS_i (RValue_ok v) trivial ?_ | refine caD_i (RValue_ok v) trivial ?_ | refine gC_i (fun _ => RValue_ok v) trivial ?_ | refine gCD_i (fun _ => RValue_ok v) trivial ?_ | refine caE_i (RValue_ok v) trivial ?_
  simp (config := {contextual := true, maxSteps := 1000000}) only [go_sem, ints, intRows, iv_c, Nat.reduceAdd, Nat.reduceBEq, Nat.reduceEqDiff, Nat.reduceLeDiff, Nat.reduceLT, reduceIte, Nat.le_refl, true_or, or_true, and_self, Int.reduceLE, Int.reduceLT, Int.reduceEq, Int.reduceNeg, Int.natCast_nonneg, Int.reduceToNat, ops, vals, dots]
  refine fun hg => ?_
  have hg : (0 < types.length ∧ types.length ≤ 12) ∧ okVl v = true := by
    rcases hk : okVl v with _ | _
    · rw [hk] at hg; simp at hg
    · refine ⟨?_, rfl⟩
      rw [hk] at hg
      by_cases h0 : types.length = 0
      · simp [h0] at hg
      · by_cases h1 : (12 : Int) < types.length
        · simp [h0, h1] at hg
        · omega
  obtain ⟨⟨hg1, hg2⟩, hok⟩ := hg
  have b3 : IntKind.u64.wrap (types.length : Int) = types.length := by rw [u64]; omega
  obtain ⟨c, hc1, hc2⟩ := modU col (k := (types.length : Int)) (by omega)
  have hl0 : ((types.length : Int) = 0) = False := eq_false (by omega)
  simp (config := {contextual := true, maxSteps := 1000000}) only [go_sem, ints, intRows, iv_c, Nat.reduceAdd, Nat.reduceBEq, Nat.reduceEqDiff, Nat.reduceLeDiff, Nat.reduceLT, reduceIte, Nat.le_refl, true_or, or_true, and_self, Int.reduceLE, Int.reduceLT, Int.reduceEq, Int.reduceNeg, Int.natCast_nonneg, Int.reduceToNat, ops, vals, dots, b3, hl0, hc1]
  have hml : types.length ≤ maxLen := by unfold maxLen; omega
  refine ⟨by exact_mod_cast hml, ?_⟩
  refine wpC_lp (fun env ob n' => env 0 = ints .b types ∧ env 1 = vi c ∧ env 5 = .pt 0 0 0 ∧ ob 0 = some ⟨3, [vlV v], none⟩ ∧ ∃ (R i : Nat) (l : List Vl), env 7 = .sl R 0 types.length ∧ 0 < R ∧ R < n' ∧ ob R = some ⟨3, l.map vlV, none⟩ ∧ l.length = types.length ∧ env 8 = vi i ∧ i ≤ types.length ∧ ∀ j, j < i → gN l j = nul) (fun env ob _ => (types.length - iv (env 8)).toNat) ?_ ?_
  · simp (config := {contextual := true, maxSteps := 1000000}) only [go_sem, ints, intRows, iv_c, Nat.reduceAdd, Nat.reduceBEq, Nat.reduceEqDiff, Nat.reduceLeDiff, Nat.reduceLT, reduceIte, Nat.le_refl, true_or, or_true, and_self, Int.reduceLE, Int.reduceLT, Int.reduceEq, Int.reduceNeg, Int.natCast_nonneg, Int.reduceToNat, ops, vals, dots]
    refine ⟨30, 0, List.replicate types.length ⟨0, 0, noS⟩, rfl, by omega, by omega, ?_, by simp, rfl, Nat.zero_le _, fun j hj => by omega⟩
    rw [updO_s, List.map_replicate]
    rfl
  rintro env ob n' ⟨h0, h1, h5, ho0, R, i, l, h7, hR0, hR, hoR, hll, h8, hi, hn⟩
  have hRe : ∀ k, (R == n' + k) = false := fun k => by simp; omega
  have h0e : ∀ k, (0 == n' + k) = false := fun k => by simp; omega
  have htk : (if types.length ≤ l.length then some (List.take types.length (List.map vlV l)) else none) = some (l.map vlV) := by rw [if_pos (by omega), List.take_of_length_le (by simp; omega)]
  simp (config := {contextual := true, maxSteps := 1000000}) only [go_sem, ints, intRows, iv_c, Nat.reduceAdd, Nat.reduceBEq, Nat.reduceEqDiff, Nat.reduceLeDiff, Nat.reduceLT, reduceIte, Nat.le_refl, true_or, or_true, and_self, Int.reduceLE, Int.reduceLT, Int.reduceEq, Int.reduceNeg, Int.natCast_nonneg, Int.reduceToNat, ops, vals, dots, h0, h1, h5, h7, h8, hoR, ho0, htk, Nat.zero_add, Nat.add_zero, Nat.add_assoc, beq_add, hRe, h0e]
  refine ⟨fun hlt => ?_, fun hge => ?_⟩
  · simp at hlt
    have w1 : IntKind.i64.wrap ((i : Int) + 1) = ((i + 1 : Nat) : Int) := by rw [w64 (by omega)]; omega
    rw [w1]
    refine ⟨by omega, by omega, ⟨by rw [updO, if_neg (by omega), ho0], R, i + 1, l.set i nul, rfl, hR0, by omega, ?_, by simpa using hll, rfl, by omega, fun j hj => ?_⟩, by omega⟩
    · rw [updO_s, List.map_set]; rfl
    · by_cases hji : j = i
      · rw [hji, gN_set (by omega)]
      · have hj2 : j < i := by omega
        have := hn j hj2
        rw [gN_eq (by omega)] at this
        rw [gN_eq (by simp; omega), List.getElem_set_ne (by omega), this]
  · have hei : i = types.length := by simp at hge; omega
    have hgc : gN l c = nul := hn c (by omega)
    repeat (refine And.intro (by omega) ?_)
    first | refine caS_i (holds1_ok (fl := .n) l c nul (by omega)) trivial ?_ | refine caD_i (holds1_ok (fl := .n) l c nul (by omega)) trivial ?_ | refine gC_i (fun _ => holds1_ok (fl := .n) l c nul (by omega)) trivial ?_ | refine gCD_i (fun _ => holds1_ok (fl := .n) l c nul (by omega)) trivial ?_ | refine caE_i (holds1_ok (fl := .n) l c nul (by omega)) trivial ?_
    rw [hgc, cmp_nn.1]
    simp (config := {contextual := true, maxSteps := 1000000}) only [go_sem, ints, intRows, iv_c, Nat.reduceAdd, Nat.reduceBEq, Nat.reduceEqDiff, Nat.reduceLeDiff, Nat.reduceLT, reduceIte, Nat.le_refl, true_or, or_true, and_self, Int.reduceLE, Int.reduceLT, Int.reduceEq, Int.reduceNeg, Int.natCast_nonneg, Int.reduceToNat, ops, vals, dots, h0, h1, h5, h7, h8, hoR, ho0, htk, Nat.zero_add, Nat.add_zero, Nat.add_assoc, beq_add, hRe, h0e]
    first | refine caS_i (holds2_ok (fl := .n) l c nul (by omega)) trivial ?_ | refine caD_i (holds2_ok (fl := .n) l c nul (by omega)) trivial ?_ | refine gC_i (fun _ => holds2_ok (fl := .n) l c nul (by omega)) trivial ?_ | refine gCD_i (fun _ => holds2_ok (fl := .n) l c nul (by omega)) trivial ?_ | refine caE_i (holds2_ok (fl := .n) l c nul (by omega)) trivial ?_
    rw [hgc, cmp_nn.2]
    simp (config := {contextual := true, maxSteps := 1000000}) only [go_sem, ints, intRows, iv_c, Nat.reduceAdd, Nat.reduceBEq, Nat.reduceEqDiff, Nat.reduceLeDiff, Nat.reduceLT, reduceIte, Nat.le_refl, true_or, or_true, and_self, Int.reduceLE, Int.reduceLT, Int.reduceEq, Int.reduceNeg, Int.natCast_nonneg, Int.reduceToNat, ops, vals, dots, h0, h1, h5, h7, h8, hoR, ho0, htk, Nat.zero_add, Nat.add_zero, Nat.add_assoc, beq_add, hRe, h0e]
    first | refine caS_i (holds2_ok (fl := .n) l c v (by omega)) trivial ?_ | refine caD_i (holds2_ok (fl := .n) l c v (by omega)) trivial ?_ | refine gC_i (fun _ => holds2_ok (fl := .n) l c v (by omega)) trivial ?_ | refine gCD_i (fun _ => holds2_ok (fl := .n) l c v (by omega)) trivial ?_ | refine caE_i (holds2_ok (fl := .n) l c v (by omega)) trivial ?_
    rw [hgc, (cmp_nul hok).1]
    simp (config := {contextual := true, maxSteps := 1000000}) only [go_sem, ints, intRows, iv_c, Nat.reduceAdd, Nat.reduceBEq, Nat.reduceEqDiff, Nat.reduceLeDiff, Nat.reduceLT, reduceIte, Nat.le_refl, true_or, or_true, and_self, Int.reduceLE, Int.reduceLT, Int.reduceEq, Int.reduceNeg, Int.natCast_nonneg, Int.reduceToNat, ops, vals, dots, h0, h1, h5, h7, h8, hoR, ho0, htk, Nat.zero_add, Nat.add_zero, Nat.add_assoc, beq_add, hRe, h0e]
    have hset : ∀ y, (l.map vlV).set c (vlV y) = (l.set c y).map vlV := fun y => by rw [List.map_set]
    have hRe2 : ∀ k, (n' + k == R) = false := fun k => by simp; omega
    have hR0' : (0 == R) = false := by simp; omega
    have htk2 : (if types.length ≤ (l.set c v).length then some (List.take types.length (List.map vlV (l.set c v))) else none) = some ((l.set c v).map vlV) := by rw [if_pos (by simp; omega), List.take_of_length_le (by simp; omega)]
    have hg2' : gN (l.set c v) c = v := gN_set (by omega) v
    repeat (refine And.intro (by omega) ?_)
    simp (config := {contextual := true, maxSteps := 1000000}) only [go_sem, ints, intRows, iv_c, Nat.reduceAdd, Nat.reduceBEq, Nat.reduceEqDiff, Nat.reduceLeDiff, Nat.reduceLT, reduceIte, Nat.le_refl, true_or, or_true, and_self, Int.reduceLE, Int.reduceLT, Int.reduceEq, Int.reduceNeg, Int.natCast_nonneg, Int.reduceToNat, ops, vals, dots, h0, h1, h5, h7, h8, hoR, ho0, hset, htk2, vlV_d3, List.append_nil, Nat.zero_add, Nat.add_zero, Nat.add_assoc, beq_add, hRe, h0e, hRe2, hR0', Bool.not_true, Bool.not_false, Bool.or_false, Bool.false_or, Bool.and_false, Bool.true_and, Bool.and_true]
    first | refine caS_i (holds1_ok (fl := .n) (l.set c v) c nul (by simp; omega)) trivial ?_ | refine caD_i (holds1_ok (fl := .n) (l.set c v) c nul (by simp; omega)) trivial ?_ | refine gC_i (fun _ => holds1_ok (fl := .n) (l.set c v) c nul (by simp; omega)) trivial ?_ | refine gCD_i (fun _ => holds1_ok (fl := .n) (l.set c v) c nul (by simp; omega)) trivial ?_ | refine caE_i (holds1_ok (fl := .n) (l.set c v) c nul (by simp; omega)) trivial ?_
    rw [hg2', (cmp_nul hok).2.1]
    simp (config := {contextual := true, maxSteps := 1000000}) only [go_sem, ints, intRows, iv_c, Nat.reduceAdd, Nat.reduceBEq, Nat.reduceEqDiff, Nat.reduceLeDiff, Nat.reduceLT, reduceIte, Nat.le_refl, true_or, or_true, and_self, Int.reduceLE, Int.reduceLT, Int.reduceEq, Int.reduceNeg, Int.natCast_nonneg, Int.reduceToNat, ops, vals, dots, h0, h1, h5, h7, h8, hoR, ho0, hset, htk2, vlV_d3, List.append_nil, Nat.zero_add, Nat.add_zero, Nat.add_assoc, beq_add, hRe, h0e, hRe2, hR0', Bool.not_true, Bool.not_false, Bool.or_false, Bool.false_or, Bool.and_false, Bool.true_and, Bool.and_true]
    first | refine caS_i (holds2_ok (fl := .n) (l.set c v) c nul (by simp; omega)) trivial ?_ | refine caD_i (holds2_ok (fl := .n) (l.set c v) c nul (by simp; omega)) trivial ?_ | refine gC_i (fun _ => holds2_ok (fl := .n) (l.set c v) c nul (by simp; omega)) trivial ?_ | refine gCD_i (fun _ => holds2_ok (fl := .n) (l.set c v) c nul (by simp; omega)) trivial ?_ | refine caE_i (holds2_ok (fl := .n) (l.set c v) c nul (by simp; omega)) trivial ?_
    rw [hg2', (cmp_nul hok).2.2]
    simp (config := {contextual := true, maxSteps := 1000000}) only [go_sem, ints, intRows, iv_c, Nat.reduceAdd, Nat.reduceBEq, Nat.reduceEqDiff, Nat.reduceLeDiff, Nat.reduceLT, reduceIte, Nat.le_refl, true_or, or_true, and_self, Int.reduceLE, Int.reduceLT, Int.reduceEq, Int.reduceNeg, Int.natCast_nonneg, Int.reduceToNat, ops, vals, dots, h0, h1, h5, h7, h8, hoR, ho0, hset, htk2, vlV_d3, List.append_nil, Nat.zero_add, Nat.add_zero, Nat.add_assoc, beq_add, hRe, h0e, hRe2, hR0', Bool.not_true, Bool.not_false, Bool.or_false, Bool.false_or, Bool.and_false, Bool.true_and, Bool.and_true]
    first | refine caS_i (holds5_ok (fl := .n) (l.set c v) c v (by simp; omega)) trivial ?_ | refine caD_i (holds5_ok (fl := .n) (l.set c v) c v (by simp; omega)) trivial ?_ | refine gC_i (fun _ => holds5_ok (fl := .n) (l.set c v) c v (by simp; omega)) trivial ?_ | refine gCD_i (fun _ => holds5_ok (fl := .n) (l.set c v) c v (by simp; omega)) trivial ?_ | refine caE_i (holds5_ok (fl := .n) (l.set c v) c v (by simp; omega)) trivial ?_
    rw [hg2']
    simp (config := {contextual := true, maxSteps := 1000000}) only [go_sem, ints, intRows, iv_c, Nat.reduceAdd, Nat.reduceBEq, Nat.reduceEqDiff, Nat.reduceLeDiff, Nat.reduceLT, reduceIte, Nat.le_refl, true_or, or_true, and_self, Int.reduceLE, Int.reduceLT, Int.reduceEq, Int.reduceNeg, Int.natCast_nonneg, Int.reduceToNat, ops, vals, dots, h0, h1, h5, h7, h8, hoR, ho0, hset, htk2, vlV_d3, List.append_nil, Nat.zero_add, Nat.add_zero, Nat.add_assoc, beq_add, hRe, h0e, hRe2, hR0', Bool.not_true, Bool.not_false, Bool.or_false, Bool.false_or, Bool.and_false, Bool.true_and, Bool.and_true]
    refine ⟨by omega, fun _ => by omega, fun _ => ?_, fun hty => ?_⟩
    · first | refine caS_i (wakes15_ok) trivial ?_ | refine caD_i (wakes15_ok) trivial ?_ | refine gC_i (fun _ => wakes15_ok) trivial ?_ | refine gCD_i (fun _ => wakes15_ok) trivial ?_ | refine caE_i (wakes15_ok) trivial ?_
      simp (config := {contextual := true, maxSteps := 1000000}) only [go_sem, ints, intRows, iv_c, Nat.reduceAdd, Nat.reduceBEq, Nat.reduceEqDiff, Nat.reduceLeDiff, Nat.reduceLT, reduceIte, Nat.le_refl, true_or, or_true, and_self, Int.reduceLE, Int.reduceLT, Int.reduceEq, Int.reduceNeg, Int.natCast_nonneg, Int.reduceToNat, ops, vals, dots]
    · have hno : okVl nul = true := by simp [okVl]
      have hft : fitsV nul (gN types c) = true := by
        simp at hty
        have : gN types c = 2 ∨ gN types c = 3 ∨ gN types c = 4 := by omega
        simp only [fitsV, hno]
        rcases this with h | h | h <;> simp [h]
      first | refine caS_i (chk1_ok (fl := .b) types c nul (by omega) hno hft) trivial ?_ | refine caD_i (chk1_ok (fl := .b) types c nul (by omega) hno hft) trivial ?_ | refine gC_i (fun _ => chk1_ok (fl := .b) types c nul (by omega) hno hft) trivial ?_ | refine gCD_i (fun _ => chk1_ok (fl := .b) types c nul (by omega) hno hft) trivial ?_ | refine caE_i (chk1_ok (fl := .b) types c nul (by omega) hno hft) trivial ?_
      simp (config := {contextual := true, maxSteps := 1000000}) only [go_sem, ints, intRows, iv_c, Nat.reduceAdd, Nat.reduceBEq, Nat.reduceEqDiff, Nat.reduceLeDiff, Nat.reduceLT, reduceIte, Nat.le_refl, true_or, or_true, and_self, Int.reduceLE, Int.reduceLT, Int.reduceEq, Int.reduceNeg, Int.natCast_nonneg, Int.reduceToNat, ops, vals, dots, h0, h1, h5, h7, h8, hoR, ho0, hset, htk2, vlV_d3, List.append_nil, Nat.zero_add, Nat.add_zero, Nat.add_assoc, beq_add, hRe, h0e, hRe2, hR0']
      first | refine caS_i (chk2_ok (fl := .b) types c nul (by omega) hno hft) trivial ?_ | refine caD_i (chk2_ok (fl := .b) types c nul (by omega) hno hft) trivial ?_ | refine gC_i (fun _ => chk2_ok (fl := .b) types c nul (by omega) hno hft) trivial ?_ | refine gCD_i (fun _ => chk2_ok (fl := .b) types c nul (by omega) hno hft) trivial ?_ | refine caE_i (chk2_ok (fl := .b) types c nul (by omega) hno hft) trivial ?_
      simp (config := {contextual := true, maxSteps := 1000000}) only [go_sem, ints, intRows, iv_c, Nat.reduceAdd, Nat.reduceBEq, Nat.reduceEqDiff, Nat.reduceLeDiff, Nat.reduceLT, reduceIte, Nat.le_refl, true_or, or_true, and_self, Int.reduceLE, Int.reduceLT, Int.reduceEq, Int.reduceNeg, Int.natCast_nonneg, Int.reduceToNat, ops, vals, dots, h0, h1, h5, h7, h8, hoR, ho0, hset, htk2, vlV_d3, List.append_nil, Nat.zero_add, Nat.add_zero, Nat.add_assoc, beq_add, hRe, h0e, hRe2, hR0']
      first | refine caS_i (wakes15_ok) trivial ?_ | refine caD_i (wakes15_ok) trivial ?_ | refine gC_i (fun _ => wakes15_ok) trivial ?_ | refine gCD_i (fun _ => wakes15_ok) trivial ?_ | refine caE_i (wakes15_ok) trivial ?_
      simp (config := {contextual := true, maxSteps := 1000000}) only [go_sem, ints, intRows, iv_c, Nat.reduceAdd, Nat.reduceBEq, Nat.reduceEqDiff, Nat.reduceLeDiff, Nat.reduceLT, reduceIte, Nat.le_refl, true_or, or_true, and_self, Int.reduceLE, Int.reduceLT, Int.reduceEq, Int.reduceNeg, Int.natCast_nonneg, Int.reduceToNat, ops, vals, dots]
theorem PredNulls_law (types : List Int) (col : Int) (v : Vl) (_ : gList (gInt .i64) types) (_ : gInt .i64 col) (_ : gVl v) : FnB Try.prog 5 [ints .b types, vi col, .ag (vlV v)] (vb true) := PredNulls_ok types col v
end Go.Proofs.Ytfddkjoklcbjeaa.D
end
section
set_option linter.unusedVariables false
set_option linter.unusedSimpArgs false
set_option linter.constructorNameAsVariable false
/- The row of PredNulls, out of what the law answers to plain values. No condition beyond the statement's own. -/
namespace Go.Proofs.Ytfddkjoklcbjeaa.predNulls
open Go.ChangeShapes Go.WideShapes Go.ChangeAt Go.RowKit Go.Proofs.Ytfddkjoklcbjeaa.D
open Go.ChangeMaps (open_string shut_string)
theorem own : ownKnob Try.prog.godebug = none := by kernel_rfl
theorem laidOut : laidOutB Try.prog = true := by kernel_rfl
theorem opn23 {H : Type} {enc : TypeId × Value → H} : Opn enc Try.prog 23 vlV gVl := by
  intro W base sp held fuel cs x h
  obtain ⟨xs, n, rfl, rfl, hl, hxl, hf⟩ := DataW.trod_struct Try.underlying23 h
  obtain ⟨a0, K0, G0⟩ := opn_field (sz := 1) hxl hf 0 _ rfl (opn_int Try.underlying3) (by kernel_rfl)
  obtain ⟨a1, K1, G1⟩ := opn_field (sz := 1) hxl hf 1 _ rfl (opn_int Try.underlying3) (by kernel_rfl)
  obtain ⟨a2, K2, G2⟩ := opn_field (sz := 1) hxl hf 2 _ rfl (opn_string Try.underlying9) (by kernel_rfl)
  have hc : Try.prog.cellsOf 23 = 3 := by kernel_rfl
  rw [hc] at hl
  exact ⟨⟨a0, a1, a2⟩, (rv_fields K0 (rv_fields K1 (rv_last K2 hl))), ⟨G0, G1, G2⟩⟩
set_option maxRecDepth 100000 in
set_option maxHeartbeats 2000000 in
theorem lifted (os : Os) (started : os.Started) (H : Type) (enc : TypeId × Value → H) :
    ReturnsInHanded {} Try.checked os 5 .any (Rows.predNullsSpec.pre6 enc Try.prog Try.f5 Rows.predNullsRow.domain false) (Rows.predNullsSpec.post enc Try.prog Try.f5 false true false false) := by
  refine returnsInHanded_of_change_sized (C := Try.checked) own started (by kernel_rfl) Try.func5
    (ChangeSpec.witness6 (enc := enc) (C := Try.checked) false ⟨#[], #[.slice none 0 0, .int .i64 0, .agg #[(.int .i64 0), (.int .i64 0), (.string ⟨#[]⟩)]], []⟩ 8 (by kernel_rfl) (by kernel_rfl) (by kernel_rfl) (by kernel_rfl)) ?_
  intro W base args ds gs before hval0 hW hcnd hsz0 _
  have hval : ∀ (j : Nat) t v, Try.f5.params[j]? = some t → args[j]? = some v → Value.okWide Try.prog W .any base t v := hval0
  have hW' := hW
  obtain ⟨p, q, hA0, hV, rfl, hfz, hnd⟩ := hW
  have hA : DataW.TrodAll enc Try.prog W 0 (fun _ => true) true Try.f5.params.toList args.toList ds p := hA0
  rw [Try.params5] at hA hval
  obtain ⟨v0, vs0, d0, ds0, p0, q0, hargs, rfl, rfl, h0, r0⟩ := trodAll_cons hA
  obtain ⟨v1, vs1, d1, ds1, p1, q1, rfl, rfl, rfl, h1, r1⟩ := trodAll_cons r0
  obtain ⟨v2, vs2, d2, ds2, p2, q2, rfl, rfl, rfl, h2, r2⟩ := trodAll_cons r1
  obtain ⟨rfl, rfl, rfl⟩ := trodAll_nil r2
  obtain rfl : args = #[v0, v1, v2] := by cases args; simp_all
  obtain ⟨rfl, rfl⟩ := trodVars_none hV
  have k0 := h0
  have lt0 : ∀ x ∈ p0, x.block < W.heap.size := by obtain ⟨m, hm⟩ := k0; exact DataW.trod_lt m _ _ _ hm
  obtain ⟨_, _, _, e0⟩ := okWide_slice Try.underlying26 (hval 0 26 v0 rfl rfl)
  obtain ⟨a0, R0, G0⟩ := arg_one (opn_slice (sz := 1) Try.underlying26 (opn_int Try.underlying3) (by kernel_rfl) (by decide) (fun _ => rfl)) (by rw [e0]; rfl) h0
  have k1 := h1
  have lt1 : ∀ x ∈ p1, x.block < W.heap.size := by obtain ⟨m, hm⟩ := k1; exact DataW.trod_lt m _ _ _ hm
  obtain ⟨_, e1⟩ := okWide_int Try.underlying3 (hval 1 3 v1 rfl rfl)
  obtain ⟨a1, R1, G1⟩ := arg_one (opn_int Try.underlying3) (by rw [e1]; rfl) h1
  have k2 := h2
  have lt2 : ∀ x ∈ p2, x.block < W.heap.size := by obtain ⟨m, hm⟩ := k2; exact DataW.trod_lt m _ _ _ hm
  obtain ⟨cs2, hagg2, hsz2, _⟩ : ∃ cs, v2 = .agg cs ∧ cs.size = _ ∧ _ := by have z := (hval 2 23 v2 rfl rfl); unfold Value.okWide at z; rw [Try.underlying23] at z; exact z
  subst hagg2
  obtain ⟨a2, R2, G2⟩ := arg_ag opn23 h2
  clear hA0 hval0 hsz0
  have hfn := PredNulls_law a0 a1 a2 G0 G1 G2
  refine (hfn.2 bkA W [v0, v1, .agg cs2] (RVs_cons R0 (RVs_cons R1 (RVs_cons R2 RVs_nil)))).mono fun e W' ⟨x, he, hr, bel⟩ => ?_
  subst he
  obtain rfl := res_true hr
  exact ⟨_, rfl, _, _, _, [], _, [], hW', trodAll_mk1 (shut_bool Try.underlying4 _), (trodAll_cons_mk (Below.trod laidOut (by kernel_rfl) (of_decide_eq_true (by kernel_rfl)) k0 bel lt0) (trodAll_cons_mk (Below.trod laidOut (by kernel_rfl) (of_decide_eq_true (by kernel_rfl)) k1 bel lt1) (trodAll_cons_mk (Below.trod laidOut (by kernel_rfl) (of_decide_eq_true (by kernel_rfl)) k2 bel lt2) trodAll_mk0))), rfl, bel.frame _, fun h => by cases h⟩
theorem over : Rows.predNullsRow.holds Try.pinned (OpenSpec.ofChange Rows.predNullsSpec) :=
  OpenClaim.holds_of_wide 5 Try.f5 rfl rfl rfl rfl rfl rfl rfl ⟨rfl, rfl, rfl, rfl, rfl⟩ rfl rfl rfl rfl rfl (by kernel_rfl) Try.func5 (by kernel_rfl)
    (of_decide_eq_true (by kernel_rfl)) (by unfold Func.isWrapper; first | (rw [if_pos (by decide +kernel)]; kernel_rfl) | (rw [if_neg (by decide +kernel)]; exact ⟨rfl, rfl⟩))
    (fun os started H enc _ => lifted os started H enc)
theorem proved : Rows.PredNullsSaid := over
#print axioms proved
end Go.Proofs.Ytfddkjoklcbjeaa.predNulls
namespace Go.Proofs.Ytfddkjoklcbjeaa
/-- The row, under a short name, for the claim. -/
theorem predNulls_holds : Rows.PredNullsSaid := predNulls.proved
end Go.Proofs.Ytfddkjoklcbjeaa
end
