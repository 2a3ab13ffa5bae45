/- HlcMeets, packed. No condition beyond the statement's own. -/
import Derived.Test.YtelgaglbkcacnaaMHlcMeetsb
import Derived.Test.YtelgaglbkcacnaaProg
import Derived.Test.YtelgaglbkcacnaaRows
import Derived.WalkKit
import Derived.ProofKit
import Derived.OpenShut
import Derived.ShutString
import Derived.ChangeOld
import Derived.Below
import Derived.SizedLaws
section
set_option linter.unusedVariables false
set_option linter.unusedSimpArgs false
set_option linter.constructorNameAsVariable false
/- Walking over plain values: joins, and functions that share the store. No condition. -/
namespace Go.Proofs.Ytelgaglbkcacnaa.D
open Go Go.RowKit

section
variable {P : Program}
theorem gd_mono {g : Option (Nat × Bool)} {env : Env} {A B A' B' : Prop} (hA : A → A') (hB : B → B') (h : gd g env A B) : gd g env A' B' := by
  unfold gd at *
  split
  · exact hA h
  · obtain ⟨b, h1, h2, h3⟩ := h
    exact ⟨b, h1, fun e => hA (h2 e), fun e => hB (h3 e)⟩
theorem FnS_mono {f : FuncId} {args : List V} {ob : OB} {nid : Nat} {C C' : V → OB → Nat → Prop} (hC : ∀ r ob' n, C r ob' n → C' r ob' n) (h : FnS P f args ob nid C) : FnS P f args ob nid C' :=
  ⟨h.1, fun B n0 w own loc xs h1 h2 h3 h4 => (h.2 B n0 w own loc xs h1 h2 h3 h4).mono fun e w' ⟨x, r, ob', nid', own', loc', a1, a2, a3, a4, a5, a6⟩ => ⟨x, r, ob', nid', own', loc', a1, a2, a3, a4, a5, hC _ _ _ a6⟩⟩
theorem FnX_mono {f : FuncId} {args : List V} {ob : OB} {nid : Nat} {C C' : V → OB → Nat → Prop} (hC : ∀ r ob' n, C r ob' n → C' r ob' n) (h : FnX P f args ob nid C) : FnX P f args ob nid C' :=
  fun B n0 w own loc xs h1 h2 h3 h4 => let ⟨x, w', r, ob', nid', own', loc', a1, a2, a3, a4, a5, a6⟩ := h B n0 w own loc xs h1 h2 h3 h4; ⟨x, w', r, ob', nid', own', loc', a1, a2, a3, a4, a5, hC _ _ _ a6⟩
theorem stpR_mono {op : Ok} {vs : List V} {ob : OB} {nid : Nat} {C C' : V → OB → Nat → Prop} (hC : ∀ r ob' n, C r ob' n → C' r ob' n) (h : stpR P op vs ob nid C) : stpR P op vs ob nid C' := by
  cases op <;> first
    | exact h.imp (FnS_mono hC) (FnX_mono hC)
    | (obtain ⟨r, us, h1, h2⟩ := h; exact ⟨r, us, h1, hC _ _ _ h2⟩)
theorem wpS_mono : ∀ {l : List RO} {nid : Nat} {env : Env} {ob : OB} {J J' : Env → OB → Nat → Prop} (hJ : ∀ env ob n, J env ob n → J' env ob n), wpS P l nid env ob J → wpS P l nid env ob J'
  | [], nid, env, ob, J, J', hJ, h => hJ _ _ _ h
  | o :: l, nid, env, ob, J, J', hJ, h => by
    simp only [wpS] at h ⊢
    exact gd_mono (stpR_mono fun r ob' n h => wpS_mono hJ h) (wpS_mono hJ) h
theorem wpD_mono : ∀ {l : List RO} {nid : Nat} {env : Env} {ob : OB} {dl : Ups} {K K' : Env → OB → Prop} (hK : ∀ env ob, K env ob → K' env ob), wpD P l nid env ob dl K → wpD P l nid env ob dl K'
  | [], nid, env, ob, dl, K, K', hK, h => hK _ _ h
  | o :: l, nid, env, ob, dl, K, K', hK, h => by
    simp only [wpD] at h ⊢
    exact gd_mono (fun ⟨r, us, h1, h2⟩ => ⟨r, us, h1, wpD_mono hK h2⟩) (wpD_mono hK) h
theorem wpE_mono : ∀ {l : List RO} {nps : List (List Nat)} {nid : Nat} {env : Env} {ob : OB} {past : List (List Nat × Option (List Nat))} {K K' : Env → OB → Prop} (hK : ∀ env ob, K env ob → K' env ob), wpE P l nps nid env ob past K → wpE P l nps nid env ob past K'
  | [], nps, nid, env, ob, past, K, K', hK, h => hK _ _ h
  | o :: l, nps, nid, env, ob, past, K, K', hK, h => by
    simp only [wpE] at h ⊢
    exact gd_mono (fun ⟨r, us, h1, h2, h3⟩ => ⟨r, us, h1, h2, wpE_mono hK h3⟩) (wpE_mono hK) h
theorem wpC_mono : ∀ {c : IC} {Q Q' : Post} (hQ : ∀ e env ob n, Q e env ob n → Q' e env ob n) {env : Env} {ob : OB} {n : Nat}, wpC P c Q env ob n → wpC P c Q' env ob n := by
  intro c
  induction c with
  | skip => intro Q Q' hQ env ob n h; exact hQ _ _ _ _ h
  | rg l d =>
    intro Q Q' hQ env ob n h
    cases d with
    | false => exact wpS_mono (fun env ob n h => hQ _ _ _ _ h) h
    | true => exact wpD_mono (fun env ob h => hQ _ _ _ _ h) h
  | rb a o b =>
    intro Q Q' hQ env ob n h
    exact wpD_mono (fun env ob h => wpS_mono (fun env ob n h => wpD_mono (fun env ob h => hQ _ _ _ _ h) h) h) h
  | re m np =>
    intro Q Q' hQ env ob n h
    exact wpE_mono (fun env ob h => hQ _ _ _ _ h) h
  | sq a b iha ihb =>
    intro Q Q' hQ env ob n h
    refine iha (fun e env ob n h => ?_) h
    cases e with
    | nrm => exact ihb hQ h
    | ex i => exact hQ _ _ _ _ h
    | rt => exact hQ _ _ _ _ h
  | cn c a b iha ihb =>
    intro Q Q' hQ env ob n h
    simp only [wpC, cnd] at h ⊢
    split
    · rename_i t heq; rw [heq] at h; exact ⟨fun e => iha hQ (h.1 e), fun e => ihb hQ (h.2 e)⟩
    · rename_i heq; rw [heq] at h; exact ⟨iha hQ h.1, ihb hQ h.2⟩
    · rename_i h1 h2
      split at h
      · rename_i t heq; exact h1 t heq
      · rename_i heq; exact h2 heq
      · exact h
  | bl i a ih =>
    intro Q Q' hQ env ob n h
    refine ih (fun e env ob n h => ?_) h
    cases e with
    | ex j => simp only [blQ] at h ⊢; split <;> rename_i hj <;> simp only [hj, if_true, if_false] at h <;> exact hQ _ _ _ _ h
    | nrm => exact hQ _ _ _ _ h
    | rt => exact hQ _ _ _ _ h
  | lp a ih =>
    intro Q Q' hQ env ob n h
    obtain ⟨I, μ, h0, h1⟩ := h
    refine ⟨I, μ, h0, fun env ob n hI => ih (fun e env ob n h => ?_) (h1 env ob n hI)⟩
    cases e with
    | nrm => exact h
    | ex j => exact hQ _ _ _ _ h
    | rt => exact hQ _ _ _ _ h
  | ex i => intro Q Q' hQ env ob n h; exact hQ _ _ _ _ h
  | rt => intro Q Q' hQ env ob n h; exact hQ _ _ _ _ h

/-- A join: what holds behind the next piece of code. -/
def nJ (I : Env → OB → Nat → Prop) (Q : Post) : Post := thenQ I Q
theorem cut_C {A B : IC} {Q : Post} {env : Env} {ob : OB} {n : Nat} (I : Env → OB → Nat → Prop) (h1 : wpC P A (thenQ I Q) env ob n) (h2 : ∀ env ob n, I env ob n → wpC P B Q env ob n) : wpC P A (thenQ (wpC P B Q) Q) env ob n := by
  refine wpC_mono (fun e env ob n h => ?_) h1
  cases e with
  | nrm => exact h2 _ _ _ h
  | ex i => exact h
  | rt => exact h
theorem cut_S {A B : IC} {Q R : Post} {l : List RO} {env : Env} {ob : OB} {n : Nat} (I : Env → OB → Nat → Prop) (h1 : wpS P l n env ob (kS (thenQ (wpC P A (thenQ I Q)) R))) (h2 : ∀ env ob n, I env ob n → wpC P B Q env ob n) : wpS P l n env ob (kS (thenQ (wpC P (.sq A B) Q) R)) :=
  wpS_mono (fun env ob n h => cut_C I h h2) h1
/-- A join behind a call. -/
theorem cut_ca {A B : IC} {Q R : Post} {l : List RO} {f : Nat} {vs : List V} {m : Md} {d : Option Nat} {env : Env} {ob : OB} {n : Nat} (I : Env → OB → Nat → Prop) (h1 : caS P f vs m d l n env ob (kS (thenQ (wpC P A (thenQ I Q)) R))) (h2 : ∀ env ob n, I env ob n → wpC P B Q env ob n) : caS P f vs m d l n env ob (kS (thenQ (wpC P (.sq A B) Q) R)) := by
  obtain ⟨q, a1, a2, a3⟩ := h1
  exact ⟨q, a1, a2, cut_S I a3 h2⟩
theorem rcS_i {f : Nat} {vs : List V} {d : Option Nat} {l : List RO} {n : Nat} {env : Env} {ob : OB} {J : Env → OB → Nat → Prop} (h : FnS P f vs ob n fun r ob' n' => wpS P l n' (put env d r) ob' J) : rcS P f vs d l n env ob J := .inl h
theorem rcS_x {f : Nat} {vs : List V} {d : Option Nat} {l : List RO} {n : Nat} {env : Env} {ob : OB} {J : Env → OB → Nat → Prop} (h : FnX P f vs ob n fun r ob' n' => wpS P l n' (put env d r) ob' J) : rcS P f vs d l n env ob J := .inr h
end

section
variable {P : Program}
/-- What is behind the elements that are known: cells of whatever content. -/
theorem WF.grow [Bk] {n0 : Nat} {w : World} {own : Nat → Option Nat} {loc : Loc} {ob : OB} (hwf : WF n0 w own loc ob) {id : Nat} {o : Ob} (hob : ob id = some o) :
    ∃ c, o.l.length ≤ c ∧ (∀ c0, o.cap = some c0 → c0 = c) ∧ WF n0 w own loc (updO ob id (some ⟨o.k, o.l ++ List.replicate (c - o.l.length) (List.replicate o.k .u), some c⟩)) := by
  obtain ⟨p, hp, hor⟩ := hwf.has id o hob
  refine ⟨p.cap, hor.len, hor.cap, ⟨fun j x hx => ?_, hwf.owns, hwf.lt⟩⟩
  by_cases hj : j = id
  · subst hj
    rw [updO_s] at hx
    injection hx with hx; subst hx
    obtain ⟨cs, t, hm1, hm2⟩ := hor.mem
    refine ⟨p, hp, ⟨⟨cs, t, hm1, hm2⟩, hor.k, by simp; have := hor.len; omega, fun ch hch => ?_, fun i q v hv => ?_, fun c hc => by injection hc with hc; exact hc.symm⟩⟩
    · rcases List.mem_append.1 hch with h | h
      · exact hor.rows ch h
      · rw [List.eq_of_mem_replicate h]; simpa using hor.k
    · obtain ⟨r, h1, h2⟩ := el_some hv
      by_cases hi : i < o.l.length
      · rw [List.getElem?_append_left hi] at h1
        exact hor.cells i q v (el_mk h1 h2)
      · rw [List.getElem?_append_right (by omega)] at h1
        have hi2 : i - o.l.length < p.cap - o.l.length := by have := (List.getElem?_eq_some_iff.1 h1).1; simpa using this
        rw [List.getElem?_replicate, if_pos hi2] at h1
        injection h1 with h1; subst h1
        have hq : q < o.k := by have := (List.getElem?_eq_some_iff.1 h2).1; simpa using this
        rw [List.getElem?_replicate, if_pos hq] at h2
        injection h2 with h2; subst h2
        have hlt : p.base + i * p.k + q < cs.size := by
          have h3 : (i + 1) * p.k ≤ p.cap * p.k := Nat.mul_le_mul_right _ (by omega)
          rw [Nat.add_mul] at h3
          have := hor.k; omega
        exact ⟨cs[p.base + i * p.k + q], by simp [World.cell?, hm1, hlt], .u _⟩
  · rw [updO, if_neg hj] at hx
    exact hwf.has j x hx
theorem FnS_grow {f : FuncId} {args : List V} {ob : OB} {nid : Nat} {C : V → OB → Nat → Prop} {id : Nat} {o : Ob} (hob : ob id = some o)
    (h : ∀ c, o.l.length ≤ c → (∀ c0, o.cap = some c0 → c0 = c) → FnS P f args (updO ob id (some ⟨o.k, o.l ++ List.replicate (c - o.l.length) (List.replicate o.k .u), some c⟩)) nid C) (hcl : callable P f = true) : FnS P f args ob nid C := by
  refine ⟨hcl, fun B n0 w own loc xs h1 h2 h3 h4 => ?_⟩
  obtain ⟨c, hc1, hc2, hwf⟩ := h1.grow hob
  exact (h c hc1 hc2).2 B n0 w own loc xs hwf h2 h3 h4
/-- Less is known. -/
def Less (ob'' ob' : OB) : Prop := ∀ id o, ob'' id = some o → ∃ o', ob' id = some o' ∧ o.k = o'.k ∧ (∃ m, o.l = o'.l.take m) ∧ ∀ c, o.cap = some c → o'.cap = some c
theorem WF.less [Bk] {n0 : Nat} {w : World} {own : Nat → Option Nat} {loc : Loc} {ob' ob'' : OB} (hwf : WF n0 w own loc ob') (h : Less ob'' ob') : WF n0 w own loc ob'' := by
  refine ⟨fun id o ho => ?_, hwf.owns, hwf.lt⟩
  obtain ⟨o', h1, h2, ⟨m, h3⟩, h4⟩ := h id o ho
  obtain ⟨p, hp, hor⟩ := hwf.has id o' h1
  refine ⟨p, hp, ⟨hor.mem, by rw [h2]; exact hor.k, by rw [h3]; have := hor.len; simp; omega, fun ch hch => hor.rows ch (by rw [h3] at hch; exact List.mem_of_mem_take hch), fun i j v hv => hor.cells i j v ?_, fun c hc => hor.cap c (h4 c hc)⟩⟩
  rw [h3] at hv
  have := el_take_drop (l := o'.l) (a := 0) (n := m) (i := i) (j := j) (v := v) (by simpa using hv)
  simpa using this
theorem FnS_less {f : FuncId} {args : List V} {ob : OB} {nid : Nat} {C : V → OB → Nat → Prop} (h : FnS P f args ob nid fun r ob' n => ∃ ob'', Less ob'' ob' ∧ C r ob'' n) : FnS P f args ob nid C :=
  ⟨h.1, fun B n0 w own loc xs h1 h2 h3 h4 => (h.2 B n0 w own loc xs h1 h2 h3 h4).mono fun e w' ⟨x, r, ob', nid', own', loc', a1, a2, a3, a4, a5, ob'', a6, a7⟩ => ⟨x, r, ob'', nid', own', loc', a1, a2, a3.less a6, a4, a5, a7⟩⟩
end

end Go.Proofs.Ytelgaglbkcacnaa.D
end
section
set_option linter.unusedVariables false
set_option maxRecDepth 100000
set_option linter.constructorNameAsVariable false
/- The functions, told over by a program of this session; Lean checks that they are the program's own. No condition. -/
namespace Go.Proofs.Ytelgaglbkcacnaa.D
open Go Go.Proofs
-- raddle/raddlelaw06.HlcChains
def c3 : IC := .sq (.rg [⟨(some 4), none, .mv, [.k (.c (.bool false))]⟩] false) (.sq (.sq (.rg [⟨(some 9), none, .mv, [.t 0]⟩, ⟨(some 10), none, .len, [.t 9]⟩, ⟨(some 11), none, (.bin .gtr), [.t 10, .k (.c (.int .i64 100))]⟩, ⟨(some 12), none, .mv, [.t 11]⟩, ⟨(some 13), (some (12, false)), .mv, [.t 1]⟩, ⟨(some 14), (some (12, false)), .len, [.t 13]⟩, ⟨(some 15), (some (12, false)), (.bin .gtr), [.t 14, .k (.c (.int .i64 100))]⟩, ⟨(some 16), none, .pick, [.t 12, .k (.c (.bool true)), .t 15]⟩] false) (.cn (.t 16) (.sq (.rg [⟨(some 4), none, .mv, [.k (.c (.bool true))]⟩] false) (.rt)) (.skip))) (.sq (.rg [⟨(some 5), none, (.alloc [(.c (.int .i64 0)), (.c (.int .i64 0)), (.c (.int .i64 0))]), []⟩] false) (.sq (.sq (.rg [⟨(some 6), none, .mv, [.k (.c (.int .i64 0))]⟩] false) (.bl 0 (.lp (.sq (.sq (.rg [⟨(some 17), none, .mv, [.t 6]⟩, ⟨(some 18), none, .mv, [.t 0]⟩, ⟨(some 19), none, .len, [.t 18]⟩, ⟨(some 20), none, (.bin .lss), [.t 17, .t 19]⟩, ⟨(some 21), none, .mv, [.t 20]⟩, ⟨(some 22), (some (21, true)), .mv, [.t 6]⟩, ⟨(some 23), (some (21, true)), .mv, [.t 1]⟩, ⟨(some 24), (some (21, true)), .len, [.t 23]⟩, ⟨(some 25), (some (21, true)), (.bin .lss), [.t 22, .t 24]⟩, ⟨(some 26), none, .pick, [.t 21, .t 25, .k (.c (.bool false))]⟩] false) (.cn (.t 26) (.skip) (.ex 0))) (.sq (.bl 1 (.sq (.re [⟨(some 30), none, (.ld (some 3)), [.t 5]⟩, ⟨(some 31), none, .mv, [.t 0]⟩, ⟨(some 32), none, .mv, [.t 6]⟩, ⟨(some 33), none, (.ia 1), [.t 31, .t 32]⟩, ⟨(some 34), none, (.ld none), [.t 33]⟩, ⟨(some 35), none, (.conv .u64), [.t 34]⟩, ⟨(some 36), none, (.bin .rem), [.t 35, .k (.c (.int .u64 1099511627777))]⟩, ⟨(some 37), none, (.conv .i64), [.t 36]⟩, ⟨(some 38), none, .mv, [.t 1]⟩, ⟨(some 39), none, .mv, [.t 6]⟩, ⟨(some 40), none, (.ia 1), [.t 38, .t 39]⟩, ⟨(some 41), none, (.ld none), [.t 40]⟩, ⟨(some 42), none, (.conv .u64), [.t 41]⟩, ⟨(some 43), none, (.bin .rem), [.t 42, .k (.c (.int .u64 5))]⟩, ⟨(some 44), none, (.conv .i64), [.t 43]⟩, ⟨(some 45), none, (.call 9 .fz), [.t 30, .t 37, .t 44]⟩, ⟨(some 29), none, .mv, [.t 45]⟩, ⟨(some 46), none, (.ext 0), [.t 29]⟩, ⟨(some 47), none, (.ext 1), [.t 29]⟩, ⟨(some 7), none, (.alloc [(.c (.int .i64 0)), (.c (.int .i64 0)), (.c (.int .i64 0))]), []⟩, ⟨none, none, (.st 3), [.t 7, .t 46]⟩, ⟨(some 8), none, .mv, [.t 47]⟩] [[], [], [], [], [], [], [], [], [], [], [], [], [], [], [], [], [], [], [], [0, 3, 4, 10, 11, 15], [], []]) (.sq (.sq (.rg [⟨(some 48), none, .mv, [.t 8]⟩, ⟨(some 49), none, (.bin .neq), [.t 48, .k (.c (.int .i64 0))]⟩, ⟨(some 50), none, .mv, [.t 49]⟩, ⟨(some 51), (some (50, false)), (.ld (some 3)), [.t 7]⟩, ⟨(some 52), (some (50, false)), (.ld (some 3)), [.t 5]⟩, ⟨(some 53), (some (50, false)), (.call 10 .fz), [.t 51, .t 52]⟩, ⟨(some 54), (some (50, false)), (.bin .neq), [.t 53, .k (.c (.int .i64 1))]⟩, ⟨(some 55), none, .pick, [.t 50, .k (.c (.bool true)), .t 54]⟩] false) (.cn (.t 55) (.sq (.rg [⟨(some 4), none, .mv, [.k (.c (.bool false))]⟩] false) (.rt)) (.skip))) (.rg [⟨(some 56), none, (.ld (some 3)), [.t 7]⟩, ⟨none, none, (.st 3), [.t 5, .t 56]⟩] false)))) (.rg [⟨(some 27), none, .mv, [.t 6]⟩, ⟨(some 28), none, (.bin .add), [.t 27, .k (.c (.int .i64 1))]⟩, ⟨(some 6), none, .mv, [.t 28]⟩] false)))))) (.sq (.rg [⟨(some 57), none, (.call 11 .fz), []⟩, ⟨(some 4), none, .mv, [.t 57]⟩] false) (.rt)))))
theorem cf3 : compF Try.prog 3 c3 = some ⟨c3, [.t 4], 58⟩ := by kernel_rfl

-- raddle/raddlelaw06.HlcWalls
def c4 : IC := .sq (.rg [⟨(some 3), none, (.box (some 3)), [.t 0]⟩, ⟨(some 6), none, .mv, [.k (.c (.bool false))]⟩] false) (.sq (.sq (.rg [⟨(some 11), none, (.ld (some 3)), [.t 3]⟩, ⟨(some 12), none, (.call 12 .fz), [.t 11]⟩, ⟨(some 13), none, (.un .not), [.t 12]⟩] false) (.cn (.t 13) (.sq (.rg [⟨(some 6), none, .mv, [.k (.c (.bool true))]⟩] false) (.rt)) (.skip))) (.sq (.rg [⟨(some 14), none, .mv, [.t 1]⟩, ⟨(some 15), none, (.conv .u64), [.t 14]⟩, ⟨(some 16), none, (.bin .rem), [.t 15, .k (.c (.int .u64 1099511627777))]⟩, ⟨(some 17), none, (.conv .i64), [.t 16]⟩, ⟨(some 18), none, .mv, [.t 2]⟩, ⟨(some 19), none, (.conv .u64), [.t 18]⟩, ⟨(some 20), none, (.bin .rem), [.t 19, .k (.c (.int .u64 5))]⟩, ⟨(some 21), none, (.conv .i64), [.t 20]⟩, ⟨(some 1), none, .mv, [.t 17]⟩, ⟨(some 2), none, .mv, [.t 21]⟩] false) (.sq (.rg [⟨(some 23), none, (.ld (some 3)), [.t 3]⟩, ⟨(some 24), none, .mv, [.t 1]⟩, ⟨(some 25), none, .mv, [.t 2]⟩, ⟨(some 26), none, (.call 9 .fz), [.t 23, .t 24, .t 25]⟩, ⟨(some 22), none, .mv, [.t 26]⟩, ⟨(some 27), none, (.ext 0), [.t 22]⟩, ⟨(some 28), none, (.ext 1), [.t 22]⟩, ⟨(some 7), none, (.alloc [(.c (.int .i64 0)), (.c (.int .i64 0)), (.c (.int .i64 0))]), []⟩, ⟨none, none, (.st 3), [.t 7, .t 27]⟩, ⟨(some 8), none, .mv, [.t 28]⟩] false) (.sq (.bl 0 (.sq (.rg [⟨(some 30), none, .mv, [.t 1]⟩, ⟨(some 31), none, (.fa 0), [.t 3]⟩, ⟨(some 32), none, (.ld none), [.t 31]⟩, ⟨(some 33), none, (.bin .gtr), [.t 30, .t 32]⟩, ⟨(some 29), none, .mv, [.t 33]⟩] false) (.cn (.t 29) (.sq (.rg [⟨(some 34), none, .mv, [.t 8]⟩, ⟨(some 35), none, (.bin .eql), [.t 34, .k (.c (.int .i64 0))]⟩, ⟨(some 36), none, .mv, [.t 35]⟩, ⟨(some 37), (some (36, true)), (.fa 0), [.t 7]⟩, ⟨(some 38), (some (36, true)), (.ld none), [.t 37]⟩, ⟨(some 39), (some (36, true)), .mv, [.t 1]⟩, ⟨(some 40), (some (36, true)), (.bin .eql), [.t 38, .t 39]⟩, ⟨(some 41), none, .pick, [.t 36, .t 40, .k (.c (.bool false))]⟩, ⟨(some 42), none, .mv, [.t 41]⟩, ⟨(some 43), (some (42, true)), (.fa 1), [.t 7]⟩, ⟨(some 44), (some (42, true)), (.ld none), [.t 43]⟩, ⟨(some 45), (some (42, true)), (.bin .eql), [.t 44, .k (.c (.int .i64 0))]⟩, ⟨(some 46), none, .pick, [.t 42, .t 45, .k (.c (.bool false))]⟩, ⟨(some 47), none, .mv, [.t 46]⟩, ⟨(some 48), (some (47, true)), (.fa 2), [.t 7]⟩, ⟨(some 49), (some (47, true)), (.ld none), [.t 48]⟩, ⟨(some 50), (some (47, true)), .mv, [.t 2]⟩, ⟨(some 51), (some (47, true)), (.bin .eql), [.t 49, .t 50]⟩, ⟨(some 52), none, .pick, [.t 47, .t 51, .k (.c (.bool false))]⟩, ⟨(some 53), none, .mv, [.t 52]⟩, ⟨(some 54), (some (53, true)), (.call 11 .fz), []⟩, ⟨(some 55), none, .pick, [.t 53, .t 54, .k (.c (.bool false))]⟩, ⟨(some 6), none, .mv, [.t 55]⟩] false) (.rt)) (.sq (.rg [⟨(some 57), none, (.fa 1), [.t 3]⟩, ⟨(some 58), none, (.ld none), [.t 57]⟩, ⟨(some 59), none, (.bin .eql), [.t 58, .k (.c (.int .i64 65536))]⟩, ⟨(some 56), none, .mv, [.t 59]⟩] false) (.cn (.t 56) (.sq (.rg [⟨(some 60), none, .mv, [.t 8]⟩, ⟨(some 61), none, (.bin .eql), [.t 60, .k (.c (.int .i64 12))]⟩, ⟨(some 62), none, .mv, [.t 61]⟩, ⟨(some 63), (some (62, true)), (.fa 0), [.t 7]⟩, ⟨(some 64), (some (62, true)), (.ld none), [.t 63]⟩, ⟨(some 65), (some (62, true)), (.bin .eql), [.t 64, .k (.c (.int .i64 0))]⟩, ⟨(some 66), none, .pick, [.t 62, .t 65, .k (.c (.bool false))]⟩, ⟨(some 67), none, .mv, [.t 66]⟩, ⟨(some 68), (some (67, true)), (.fa 1), [.t 7]⟩, ⟨(some 69), (some (67, true)), (.ld none), [.t 68]⟩, ⟨(some 70), (some (67, true)), (.bin .eql), [.t 69, .k (.c (.int .i64 0))]⟩, ⟨(some 71), none, .pick, [.t 67, .t 70, .k (.c (.bool false))]⟩, ⟨(some 72), none, .mv, [.t 71]⟩, ⟨(some 73), (some (72, true)), (.fa 2), [.t 7]⟩, ⟨(some 74), (some (72, true)), (.ld none), [.t 73]⟩, ⟨(some 75), (some (72, true)), (.bin .eql), [.t 74, .k (.c (.int .i64 0))]⟩, ⟨(some 76), none, .pick, [.t 72, .t 75, .k (.c (.bool false))]⟩, ⟨(some 77), none, .mv, [.t 76]⟩, ⟨(some 78), (some (77, true)), (.call 11 .fz), []⟩, ⟨(some 79), none, .pick, [.t 77, .t 78, .k (.c (.bool false))]⟩, ⟨(some 6), none, .mv, [.t 79]⟩] false) (.rt)) (.skip)))))) (.sq (.rg [⟨(some 81), none, (.ld (some 3)), [.t 3]⟩, ⟨(some 82), none, .mv, [.t 2]⟩, ⟨(some 83), none, (.call 9 .fz), [.t 81, .k (.c (.int .i64 0)), .t 82]⟩, ⟨(some 80), none, .mv, [.t 83]⟩, ⟨(some 84), none, (.ext 0), [.t 80]⟩, ⟨(some 85), none, (.ext 1), [.t 80]⟩, ⟨(some 9), none, (.alloc [(.c (.int .i64 0)), (.c (.int .i64 0)), (.c (.int .i64 0))]), []⟩, ⟨none, none, (.st 3), [.t 9, .t 84]⟩, ⟨(some 10), none, .mv, [.t 85]⟩] false) (.sq (.rg [⟨(some 86), none, .mv, [.t 8]⟩, ⟨(some 87), none, (.bin .eql), [.t 86, .k (.c (.int .i64 0))]⟩, ⟨(some 88), none, .mv, [.t 87]⟩, ⟨(some 89), (some (88, true)), .mv, [.t 10]⟩, ⟨(some 90), (some (88, true)), (.bin .eql), [.t 89, .k (.c (.int .i64 0))]⟩, ⟨(some 91), none, .pick, [.t 88, .t 90, .k (.c (.bool false))]⟩, ⟨(some 92), none, .mv, [.t 91]⟩, ⟨(some 93), (some (92, true)), (.fa 0), [.t 7]⟩, ⟨(some 94), (some (92, true)), (.ld none), [.t 93]⟩, ⟨(some 95), (some (92, true)), (.fa 0), [.t 3]⟩, ⟨(some 96), (some (92, true)), (.ld none), [.t 95]⟩, ⟨(some 97), (some (92, true)), (.bin .eql), [.t 94, .t 96]⟩, ⟨(some 98), none, .pick, [.t 92, .t 97, .k (.c (.bool false))]⟩, ⟨(some 99), none, .mv, [.t 98]⟩, ⟨(some 100), (some (99, true)), (.fa 1), [.t 7]⟩, ⟨(some 101), (some (99, true)), (.ld none), [.t 100]⟩, ⟨(some 102), (some (99, true)), (.fa 1), [.t 3]⟩, ⟨(some 103), (some (99, true)), (.ld none), [.t 102]⟩, ⟨(some 104), (some (99, true)), (.bin .add), [.t 103, .k (.c (.int .i64 1))]⟩, ⟨(some 105), (some (99, true)), (.bin .eql), [.t 101, .t 104]⟩, ⟨(some 106), none, .pick, [.t 99, .t 105, .k (.c (.bool false))]⟩, ⟨(some 107), none, .mv, [.t 106]⟩, ⟨(some 108), (some (107, true)), (.fa 0), [.t 9]⟩, ⟨(some 109), (some (107, true)), (.ld none), [.t 108]⟩, ⟨(some 110), (some (107, true)), (.fa 0), [.t 7]⟩, ⟨(some 111), (some (107, true)), (.ld none), [.t 110]⟩, ⟨(some 112), (some (107, true)), (.bin .eql), [.t 109, .t 111]⟩, ⟨(some 113), none, .pick, [.t 107, .t 112, .k (.c (.bool false))]⟩, ⟨(some 114), none, .mv, [.t 113]⟩, ⟨(some 115), (some (114, true)), (.fa 1), [.t 9]⟩, ⟨(some 116), (some (114, true)), (.ld none), [.t 115]⟩, ⟨(some 117), (some (114, true)), (.fa 1), [.t 7]⟩, ⟨(some 118), (some (114, true)), (.ld none), [.t 117]⟩, ⟨(some 119), (some (114, true)), (.bin .eql), [.t 116, .t 118]⟩, ⟨(some 120), none, .pick, [.t 114, .t 119, .k (.c (.bool false))]⟩, ⟨(some 121), none, .mv, [.t 120]⟩, ⟨(some 122), (some (121, true)), (.call 11 .fz), []⟩, ⟨(some 123), none, .pick, [.t 121, .t 122, .k (.c (.bool false))]⟩, ⟨(some 6), none, .mv, [.t 123]⟩] false) (.rt)))))))
theorem cf4 : compF Try.prog 4 c4 = some ⟨c4, [.t 6], 124⟩ := by kernel_rfl

-- raddle/raddlelaw06.HlcExact
def c5 : IC := .sq (.rg [⟨(some 4), none, (.box (some 3)), [.t 0]⟩, ⟨(some 5), none, (.box (some 3)), [.t 1]⟩, ⟨(some 8), none, .mv, [.k (.c (.bool false))]⟩] false) (.sq (.rg [⟨(some 14), none, (.ld (some 3)), [.t 4]⟩, ⟨(some 15), none, (.call 12 .fz), [.t 14]⟩, ⟨(some 9), none, .mv, [.t 15]⟩] false) (.sq (.rg [⟨(some 17), none, (.ld (some 3)), [.t 4]⟩, ⟨(some 18), none, .mv, [.t 2]⟩, ⟨(some 19), none, .mv, [.t 3]⟩, ⟨(some 20), none, (.call 9 .fz), [.t 17, .t 18, .t 19]⟩, ⟨(some 16), none, .mv, [.t 20]⟩, ⟨(some 21), none, (.ext 0), [.t 16]⟩, ⟨(some 22), none, (.ext 1), [.t 16]⟩, ⟨(some 10), none, (.alloc [(.c (.int .i64 0)), (.c (.int .i64 0)), (.c (.int .i64 0))]), []⟩, ⟨none, none, (.st 3), [.t 10, .t 21]⟩, ⟨(some 11), none, .mv, [.t 22]⟩] false) (.sq (.rg [⟨(some 24), none, (.ld (some 3)), [.t 4]⟩, ⟨(some 25), none, .mv, [.t 2]⟩, ⟨(some 26), none, .mv, [.t 3]⟩, ⟨(some 27), none, (.call 13 .fz), [.t 24, .t 25, .t 26]⟩, ⟨(some 23), none, .mv, [.t 27]⟩, ⟨(some 28), none, (.ext 0), [.t 23]⟩, ⟨(some 29), none, (.ext 1), [.t 23]⟩, ⟨(some 12), none, (.alloc [(.c (.int .i64 0)), (.c (.int .i64 0)), (.c (.int .i64 0))]), []⟩, ⟨none, none, (.st 3), [.t 12, .t 28]⟩, ⟨(some 13), none, .mv, [.t 29]⟩] false) (.sq (.rg [⟨(some 30), none, (.ld (some 3)), [.t 4]⟩, ⟨(some 31), none, (.call 14 .fz), [.t 30]⟩, ⟨(some 32), none, (.bin .eql), [.t 31, .k (.c (.int .i64 0))]⟩, ⟨(some 33), none, .mv, [.t 9]⟩, ⟨(some 34), none, (.bb .eql), [.t 32, .t 33]⟩, ⟨(some 35), none, .mv, [.t 34]⟩, ⟨(some 36), (some (35, true)), .mv, [.t 9]⟩, ⟨(some 37), (some (35, true)), .mv, [.t 36]⟩, ⟨(some 38), (some (37, false)), (.ld (some 3)), [.t 4]⟩, ⟨(some 39), (some (37, false)), (.call 14 .fz), [.t 38]⟩, ⟨(some 40), (some (37, false)), (.bin .eql), [.t 39, .k (.c (.int .i64 1))]⟩, ⟨(some 41), (some (35, true)), .pick, [.t 37, .k (.c (.bool true)), .t 40]⟩, ⟨(some 42), none, .pick, [.t 35, .t 41, .k (.c (.bool false))]⟩, ⟨(some 43), none, .mv, [.t 42]⟩, ⟨(some 44), (some (43, true)), (.ld (some 3)), [.t 4]⟩, ⟨(some 45), (some (43, true)), (.ld (some 3)), [.t 5]⟩, ⟨(some 46), (some (43, true)), (.call 10 .fz), [.t 44, .t 45]⟩, ⟨(some 47), (some (43, true)), (.ld (some 3)), [.t 4]⟩, ⟨(some 48), (some (43, true)), (.ld (some 3)), [.t 5]⟩, ⟨(some 49), (some (43, true)), (.call 15 .fz), [.t 47, .t 48]⟩, ⟨(some 50), (some (43, true)), (.bin .eql), [.t 46, .t 49]⟩, ⟨(some 51), none, .pick, [.t 43, .t 50, .k (.c (.bool false))]⟩, ⟨(some 52), none, .mv, [.t 51]⟩, ⟨(some 53), (some (52, true)), (.ld (some 3)), [.t 4]⟩, ⟨(some 54), (some (52, true)), (.ld (some 3)), [.t 5]⟩, ⟨(some 55), (some (52, true)), (.call 17 .fz), [.t 53, .t 54]⟩, ⟨(some 56), (some (52, true)), (.ld (some 3)), [.t 4]⟩, ⟨(some 57), (some (52, true)), (.ld (some 3)), [.t 5]⟩, ⟨(some 58), (some (52, true)), (.call 18 .fz), [.t 56, .t 57]⟩, ⟨(some 59), (some (52, true)), (.call 16 .fz), [.t 55, .t 58]⟩, ⟨(some 60), none, .pick, [.t 52, .t 59, .k (.c (.bool false))]⟩, ⟨(some 61), none, .mv, [.t 60]⟩, ⟨(some 62), (some (61, true)), .mv, [.t 11]⟩, ⟨(some 63), (some (61, true)), .mv, [.t 13]⟩, ⟨(some 64), (some (61, true)), (.bin .eql), [.t 62, .t 63]⟩, ⟨(some 65), none, .pick, [.t 61, .t 64, .k (.c (.bool false))]⟩, ⟨(some 66), none, .mv, [.t 65]⟩, ⟨(some 67), (some (66, true)), (.ld (some 3)), [.t 10]⟩, ⟨(some 68), (some (66, true)), (.ld (some 3)), [.t 12]⟩, ⟨(some 69), (some (66, true)), (.call 16 .fz), [.t 67, .t 68]⟩, ⟨(some 70), none, .pick, [.t 66, .t 69, .k (.c (.bool false))]⟩, ⟨(some 71), none, .mv, [.t 70]⟩, ⟨(some 72), (some (71, true)), (.call 11 .fz), []⟩, ⟨(some 73), none, .pick, [.t 71, .t 72, .k (.c (.bool false))]⟩, ⟨(some 8), none, .mv, [.t 73]⟩] true) (.rt)))))
theorem cf5 : compF Try.prog 5 c5 = some ⟨c5, [.t 8], 74⟩ := by kernel_rfl

-- raddle/raddlelaw06.HlcRises
def c6 : IC := .sq (.rg [⟨(some 5), none, (.box (some 3)), [.t 0]⟩, ⟨(some 6), none, (.box (some 3)), [.t 1]⟩, ⟨(some 7), none, (.box (some 3)), [.t 2]⟩, ⟨(some 10), none, .mv, [.k (.c (.bool false))]⟩] false) (.sq (.rg [⟨(some 17), none, (.ld (some 3)), [.t 5]⟩, ⟨(some 18), none, (.ld (some 3)), [.t 6]⟩, ⟨(some 19), none, (.call 10 .fz), [.t 17, .t 18]⟩, ⟨(some 20), none, (.ld (some 3)), [.t 6]⟩, ⟨(some 21), none, (.ld (some 3)), [.t 7]⟩, ⟨(some 22), none, (.call 10 .fz), [.t 20, .t 21]⟩, ⟨(some 23), none, (.ld (some 3)), [.t 5]⟩, ⟨(some 24), none, (.ld (some 3)), [.t 7]⟩, ⟨(some 25), none, (.call 10 .fz), [.t 23, .t 24]⟩, ⟨(some 11), none, .mv, [.t 19]⟩, ⟨(some 12), none, .mv, [.t 22]⟩, ⟨(some 13), none, .mv, [.t 25]⟩] true) (.sq (.sq (.rg [⟨(some 26), none, .mv, [.t 11]⟩, ⟨(some 27), none, (.ld (some 3)), [.t 6]⟩, ⟨(some 28), none, (.ld (some 3)), [.t 5]⟩, ⟨(some 29), none, (.call 10 .fz), [.t 27, .t 28]⟩, ⟨(some 30), none, (.un .neg), [.t 29]⟩, ⟨(some 31), none, (.bin .neq), [.t 26, .t 30]⟩, ⟨(some 32), none, .mv, [.t 31]⟩, ⟨(some 33), (some (32, false)), .mv, [.t 11]⟩, ⟨(some 34), (some (32, false)), (.bin .eql), [.t 33, .k (.c (.int .i64 0))]⟩, ⟨(some 35), (some (32, false)), (.ld (some 3)), [.t 5]⟩, ⟨(some 36), (some (32, false)), (.ld (some 3)), [.t 6]⟩, ⟨(some 37), (some (32, false)), (.call 16 .fz), [.t 35, .t 36]⟩, ⟨(some 38), (some (32, false)), (.bb .neq), [.t 34, .t 37]⟩, ⟨(some 39), none, .pick, [.t 32, .k (.c (.bool true)), .t 38]⟩, ⟨(some 40), none, .mv, [.t 39]⟩, ⟨(some 41), (some (40, false)), .mv, [.t 11]⟩, ⟨(some 42), (some (40, false)), (.bin .lss), [.t 41, .k (.c (.int .i64 (-1)))]⟩, ⟨(some 43), none, .pick, [.t 40, .k (.c (.bool true)), .t 42]⟩, ⟨(some 44), none, .mv, [.t 43]⟩, ⟨(some 45), (some (44, false)), .mv, [.t 11]⟩, ⟨(some 46), (some (44, false)), (.bin .gtr), [.t 45, .k (.c (.int .i64 1))]⟩, ⟨(some 47), none, .pick, [.t 44, .k (.c (.bool true)), .t 46]⟩, ⟨(some 48), none, .mv, [.t 47]⟩, ⟨(some 49), (some (48, false)), .mv, [.t 11]⟩, ⟨(some 50), (some (48, false)), (.bin .gtr), [.t 49, .k (.c (.int .i64 0))]⟩, ⟨(some 51), (some (48, false)), .mv, [.t 50]⟩, ⟨(some 52), (some (51, false)), .mv, [.t 12]⟩, ⟨(some 53), (some (51, false)), (.bin .gtr), [.t 52, .k (.c (.int .i64 0))]⟩, ⟨(some 54), (some (48, false)), .pick, [.t 51, .k (.c (.bool true)), .t 53]⟩, ⟨(some 55), (some (48, false)), .mv, [.t 54]⟩, ⟨(some 56), (some (55, false)), .mv, [.t 13]⟩, ⟨(some 57), (some (55, false)), (.bin .leq), [.t 56, .k (.c (.int .i64 0))]⟩, ⟨(some 58), (some (48, false)), .pick, [.t 55, .k (.c (.bool true)), .t 57]⟩, ⟨(some 59), (some (48, false)), .mv, [.t 58]⟩, ⟨(some 60), (some (59, true)), .mv, [.t 11]⟩, ⟨(some 61), (some (59, true)), (.bin .lss), [.t 60, .k (.c (.int .i64 0))]⟩, ⟨(some 62), (some (59, true)), .mv, [.t 61]⟩, ⟨(some 63), (some (62, false)), .mv, [.t 12]⟩, ⟨(some 64), (some (62, false)), (.bin .lss), [.t 63, .k (.c (.int .i64 0))]⟩, ⟨(some 65), (some (59, true)), .pick, [.t 62, .k (.c (.bool true)), .t 64]⟩, ⟨(some 66), (some (59, true)), .mv, [.t 65]⟩, ⟨(some 67), (some (66, false)), .mv, [.t 13]⟩, ⟨(some 68), (some (66, false)), (.bin .geq), [.t 67, .k (.c (.int .i64 0))]⟩, ⟨(some 69), (some (59, true)), .pick, [.t 66, .k (.c (.bool true)), .t 68]⟩, ⟨(some 70), (some (48, false)), .pick, [.t 59, .t 69, .k (.c (.bool false))]⟩, ⟨(some 71), (some (48, false)), (.un .not), [.t 70]⟩, ⟨(some 72), none, .pick, [.t 48, .k (.c (.bool true)), .t 71]⟩] false) (.cn (.t 72) (.sq (.rg [⟨(some 10), none, .mv, [.k (.c (.bool false))]⟩] false) (.rt)) (.skip))) (.sq (.rg [⟨(some 73), none, (.ld (some 3)), [.t 5]⟩, ⟨(some 74), none, (.ld (some 3)), [.t 6]⟩, ⟨(some 75), none, (.call 17 .fz), [.t 73, .t 74]⟩, ⟨(some 14), none, (.alloc [(.c (.int .i64 0)), (.c (.int .i64 0)), (.c (.int .i64 0))]), []⟩, ⟨none, none, (.st 3), [.t 14, .t 75]⟩] false) (.sq (.sq (.rg [⟨(some 76), none, (.ld (some 3)), [.t 14]⟩, ⟨(some 77), none, (.ld (some 3)), [.t 5]⟩, ⟨(some 78), none, (.call 16 .fz), [.t 76, .t 77]⟩, ⟨(some 79), none, (.un .not), [.t 78]⟩, ⟨(some 80), none, .mv, [.t 79]⟩, ⟨(some 81), (some (80, true)), (.ld (some 3)), [.t 14]⟩, ⟨(some 82), (some (80, true)), (.ld (some 3)), [.t 6]⟩, ⟨(some 83), (some (80, true)), (.call 16 .fz), [.t 81, .t 82]⟩, ⟨(some 84), (some (80, true)), (.un .not), [.t 83]⟩, ⟨(some 85), none, .pick, [.t 80, .t 84, .k (.c (.bool false))]⟩, ⟨(some 86), none, .mv, [.t 85]⟩, ⟨(some 87), (some (86, false)), (.ld (some 3)), [.t 14]⟩, ⟨(some 88), (some (86, false)), (.ld (some 3)), [.t 5]⟩, ⟨(some 89), (some (86, false)), (.call 10 .fz), [.t 87, .t 88]⟩, ⟨(some 90), (some (86, false)), (.bin .lss), [.t 89, .k (.c (.int .i64 0))]⟩, ⟨(some 91), none, .pick, [.t 86, .k (.c (.bool true)), .t 90]⟩, ⟨(some 92), none, .mv, [.t 91]⟩, ⟨(some 93), (some (92, false)), (.ld (some 3)), [.t 14]⟩, ⟨(some 94), (some (92, false)), (.ld (some 3)), [.t 6]⟩, ⟨(some 95), (some (92, false)), (.call 10 .fz), [.t 93, .t 94]⟩, ⟨(some 96), (some (92, false)), (.bin .lss), [.t 95, .k (.c (.int .i64 0))]⟩, ⟨(some 97), none, .pick, [.t 92, .k (.c (.bool true)), .t 96]⟩] false) (.cn (.t 97) (.sq (.rg [⟨(some 10), none, .mv, [.k (.c (.bool false))]⟩] false) (.rt)) (.skip))) (.sq (.sq (.rg [⟨(some 98), none, (.ld (some 3)), [.t 5]⟩, ⟨(some 99), none, (.call 12 .fz), [.t 98]⟩, ⟨(some 100), none, (.un .not), [.t 99]⟩, ⟨(some 101), none, .mv, [.t 100]⟩, ⟨(some 102), (some (101, false)), .mv, [.t 3]⟩, ⟨(some 103), (some (101, false)), (.bin .lss), [.t 102, .k (.c (.int .i64 0))]⟩, ⟨(some 104), none, .pick, [.t 101, .k (.c (.bool true)), .t 103]⟩, ⟨(some 105), none, .mv, [.t 104]⟩, ⟨(some 106), (some (105, false)), .mv, [.t 3]⟩, ⟨(some 107), (some (105, false)), (.bin .gtr), [.t 106, .k (.c (.int .i64 1099511627776))]⟩, ⟨(some 108), none, .pick, [.t 105, .k (.c (.bool true)), .t 107]⟩, ⟨(some 109), none, .mv, [.t 108]⟩, ⟨(some 110), (some (109, false)), .mv, [.t 4]⟩, ⟨(some 111), (some (109, false)), (.bin .lss), [.t 110, .k (.c (.int .i64 0))]⟩, ⟨(some 112), none, .pick, [.t 109, .k (.c (.bool true)), .t 111]⟩, ⟨(some 113), none, .mv, [.t 112]⟩, ⟨(some 114), (some (113, false)), .mv, [.t 4]⟩, ⟨(some 115), (some (113, false)), (.bin .geq), [.t 114, .k (.c (.int .i64 5))]⟩, ⟨(some 116), none, .pick, [.t 113, .k (.c (.bool true)), .t 115]⟩] false) (.cn (.t 116) (.sq (.rg [⟨(some 117), none, (.call 11 .fz), []⟩, ⟨(some 10), none, .mv, [.t 117]⟩] false) (.rt)) (.skip))) (.sq (.rg [⟨(some 119), none, (.ld (some 3)), [.t 5]⟩, ⟨(some 120), none, .mv, [.t 3]⟩, ⟨(some 121), none, .mv, [.t 4]⟩, ⟨(some 122), none, (.call 9 .fz), [.t 119, .t 120, .t 121]⟩, ⟨(some 118), none, .mv, [.t 122]⟩, ⟨(some 123), none, (.ext 0), [.t 118]⟩, ⟨(some 124), none, (.ext 1), [.t 118]⟩, ⟨(some 15), none, (.alloc [(.c (.int .i64 0)), (.c (.int .i64 0)), (.c (.int .i64 0))]), []⟩, ⟨none, none, (.st 3), [.t 15, .t 123]⟩, ⟨(some 16), none, .mv, [.t 124]⟩] false) (.sq (.sq (.rg [⟨(some 125), none, .mv, [.t 16]⟩, ⟨(some 126), none, (.bin .neq), [.t 125, .k (.c (.int .i64 0))]⟩] false) (.cn (.t 126) (.sq (.rg [⟨(some 127), none, .mv, [.t 16]⟩, ⟨(some 128), none, (.bin .eql), [.t 127, .k (.c (.int .i64 12))]⟩, ⟨(some 129), none, .mv, [.t 128]⟩, ⟨(some 130), (some (129, true)), (.fa 1), [.t 5]⟩, ⟨(some 131), (some (129, true)), (.ld none), [.t 130]⟩, ⟨(some 132), (some (129, true)), (.bin .eql), [.t 131, .k (.c (.int .i64 65536))]⟩, ⟨(some 133), none, .pick, [.t 129, .t 132, .k (.c (.bool false))]⟩, ⟨(some 134), none, .mv, [.t 133]⟩, ⟨(some 135), (some (134, true)), .mv, [.t 3]⟩, ⟨(some 136), (some (134, true)), (.fa 0), [.t 5]⟩, ⟨(some 137), (some (134, true)), (.ld none), [.t 136]⟩, ⟨(some 138), (some (134, true)), (.bin .leq), [.t 135, .t 137]⟩, ⟨(some 139), none, .pick, [.t 134, .t 138, .k (.c (.bool false))]⟩, ⟨(some 140), none, .mv, [.t 139]⟩, ⟨(some 141), (some (140, true)), (.call 11 .fz), []⟩, ⟨(some 142), none, .pick, [.t 140, .t 141, .k (.c (.bool false))]⟩, ⟨(some 10), none, .mv, [.t 142]⟩] false) (.rt)) (.skip))) (.sq (.rg [⟨(some 143), none, (.ld (some 3)), [.t 15]⟩, ⟨(some 144), none, (.ld (some 3)), [.t 5]⟩, ⟨(some 145), none, (.call 10 .fz), [.t 143, .t 144]⟩, ⟨(some 146), none, (.bin .eql), [.t 145, .k (.c (.int .i64 1))]⟩, ⟨(some 147), none, .mv, [.t 146]⟩, ⟨(some 148), (some (147, true)), (.fa 0), [.t 15]⟩, ⟨(some 149), (some (147, true)), (.ld none), [.t 148]⟩, ⟨(some 150), (some (147, true)), .mv, [.t 3]⟩, ⟨(some 151), (some (147, true)), (.bin .geq), [.t 149, .t 150]⟩, ⟨(some 152), none, .pick, [.t 147, .t 151, .k (.c (.bool false))]⟩, ⟨(some 153), none, .mv, [.t 152]⟩, ⟨(some 154), (some (153, true)), (.fa 0), [.t 15]⟩, ⟨(some 155), (some (153, true)), (.ld none), [.t 154]⟩, ⟨(some 156), (some (153, true)), (.fa 0), [.t 5]⟩, ⟨(some 157), (some (153, true)), (.ld none), [.t 156]⟩, ⟨(some 158), (some (153, true)), (.bin .geq), [.t 155, .t 157]⟩, ⟨(some 159), none, .pick, [.t 153, .t 158, .k (.c (.bool false))]⟩, ⟨(some 160), none, .mv, [.t 159]⟩, ⟨(some 161), (some (160, true)), (.fa 2), [.t 15]⟩, ⟨(some 162), (some (160, true)), (.ld none), [.t 161]⟩, ⟨(some 163), (some (160, true)), .mv, [.t 4]⟩, ⟨(some 164), (some (160, true)), (.bin .eql), [.t 162, .t 163]⟩, ⟨(some 165), none, .pick, [.t 160, .t 164, .k (.c (.bool false))]⟩, ⟨(some 166), none, .mv, [.t 165]⟩, ⟨(some 167), (some (166, true)), (.ld (some 3)), [.t 15]⟩, ⟨(some 168), (some (166, true)), (.call 14 .fz), [.t 167]⟩, ⟨(some 169), (some (166, true)), (.bin .eql), [.t 168, .k (.c (.int .i64 0))]⟩, ⟨(some 170), none, .pick, [.t 166, .t 169, .k (.c (.bool false))]⟩, ⟨(some 171), none, .mv, [.t 170]⟩, ⟨(some 172), (some (171, true)), (.call 11 .fz), []⟩, ⟨(some 173), none, .pick, [.t 171, .t 172, .k (.c (.bool false))]⟩, ⟨(some 10), none, .mv, [.t 173]⟩] false) (.rt)))))))))
theorem cf6 : compF Try.prog 6 c6 = some ⟨c6, [.t 10], 174⟩ := by kernel_rfl

-- raddle/raddlelaw06.HlcLater
def c7 : IC := .sq (.rg [⟨(some 4), none, .mv, [.k (.c (.bool false))]⟩] false) (.sq (.sq (.rg [⟨(some 9), none, .mv, [.t 0]⟩, ⟨(some 10), none, .len, [.t 9]⟩, ⟨(some 11), none, (.bin .lss), [.t 10, .k (.c (.int .i64 1))]⟩, ⟨(some 12), none, .mv, [.t 11]⟩, ⟨(some 13), (some (12, false)), .mv, [.t 0]⟩, ⟨(some 14), (some (12, false)), .len, [.t 13]⟩, ⟨(some 15), (some (12, false)), (.bin .gtr), [.t 14, .k (.c (.int .i64 50))]⟩, ⟨(some 16), none, .pick, [.t 12, .k (.c (.bool true)), .t 15]⟩] false) (.cn (.t 16) (.sq (.rg [⟨(some 4), none, .mv, [.k (.c (.bool true))]⟩] false) (.rt)) (.skip))) (.sq (.re [⟨(some 17), none, .mv, [.t 0]⟩, ⟨(some 18), none, (.ia 3), [.t 17, .k (.c (.int .i64 0))]⟩, ⟨(some 19), none, (.ld (some 3)), [.t 18]⟩, ⟨(some 20), none, .mv, [.t 0]⟩, ⟨(some 21), none, .mv, [.t 1]⟩, ⟨(some 22), none, (.conv .u64), [.t 21]⟩, ⟨(some 23), none, .mv, [.t 0]⟩, ⟨(some 24), none, .len, [.t 23]⟩, ⟨(some 25), none, (.conv .u64), [.t 24]⟩, ⟨(some 26), none, (.bin .rem), [.t 22, .t 25]⟩, ⟨(some 27), none, (.conv .i64), [.t 26]⟩, ⟨(some 28), none, (.ia 3), [.t 20, .t 27]⟩, ⟨(some 29), none, (.ld (some 3)), [.t 28]⟩, ⟨(some 5), none, (.alloc [(.c (.int .i64 0)), (.c (.int .i64 0)), (.c (.int .i64 0))]), []⟩, ⟨(some 6), none, (.alloc [(.c (.int .i64 0)), (.c (.int .i64 0)), (.c (.int .i64 0))]), []⟩, ⟨none, none, (.st 3), [.t 5, .t 19]⟩, ⟨none, none, (.st 3), [.t 6, .t 29]⟩] [[], [], [], [], [], [], [], [], [], [], [], [], [], [1, 2, 11, 12], [1, 2, 11, 12, 13], [11, 12], []]) (.sq (.sq (.rg [⟨(some 7), none, .mv, [.k (.c (.int .i64 0))]⟩] false) (.bl 0 (.lp (.sq (.sq (.rg [⟨(some 30), none, .mv, [.t 7]⟩, ⟨(some 31), none, .mv, [.t 0]⟩, ⟨(some 32), none, .len, [.t 31]⟩, ⟨(some 33), none, (.bin .lss), [.t 30, .t 32]⟩] false) (.cn (.t 33) (.skip) (.ex 0))) (.sq (.bl 1 (.sq (.rg [⟨(some 36), none, (.ld (some 3)), [.t 5]⟩, ⟨(some 37), none, .mv, [.t 0]⟩, ⟨(some 38), none, .mv, [.t 7]⟩, ⟨(some 39), none, (.ia 3), [.t 37, .t 38]⟩, ⟨(some 40), none, (.ld (some 3)), [.t 39]⟩, ⟨(some 41), none, (.call 17 .fz), [.t 36, .t 40]⟩, ⟨none, none, (.st 3), [.t 5, .t 41]⟩] true) (.rg [⟨(some 42), none, .mv, [.t 0]⟩, ⟨(some 43), none, .mv, [.t 7]⟩, ⟨(some 44), none, .mv, [.t 1]⟩, ⟨(some 45), none, (.conv .u64), [.t 44]⟩, ⟨(some 46), none, .mv, [.t 0]⟩, ⟨(some 47), none, .len, [.t 46]⟩, ⟨(some 48), none, (.conv .u64), [.t 47]⟩, ⟨(some 49), none, (.bin .rem), [.t 45, .t 48]⟩, ⟨(some 50), none, (.conv .i64), [.t 49]⟩, ⟨(some 51), none, (.bin .add), [.t 43, .t 50]⟩, ⟨(some 52), none, .mv, [.t 0]⟩, ⟨(some 53), none, .len, [.t 52]⟩, ⟨(some 54), none, (.bin .rem), [.t 51, .t 53]⟩, ⟨(some 55), none, (.ia 3), [.t 42, .t 54]⟩, ⟨(some 56), none, (.ld (some 3)), [.t 55]⟩, ⟨(some 57), none, (.ld (some 3)), [.t 6]⟩, ⟨(some 58), none, (.call 17 .fz), [.t 56, .t 57]⟩, ⟨none, none, (.st 3), [.t 6, .t 58]⟩] true))) (.rg [⟨(some 34), none, .mv, [.t 7]⟩, ⟨(some 35), none, (.bin .add), [.t 34, .k (.c (.int .i64 1))]⟩, ⟨(some 7), none, .mv, [.t 35]⟩] false)))))) (.sq (.sq (.rg [⟨(some 8), none, .mv, [.k (.c (.int .i64 0))]⟩] false) (.bl 2 (.lp (.sq (.sq (.rg [⟨(some 59), none, .mv, [.t 8]⟩, ⟨(some 60), none, .mv, [.t 0]⟩, ⟨(some 61), none, .len, [.t 60]⟩, ⟨(some 62), none, (.bin .lss), [.t 59, .t 61]⟩] false) (.cn (.t 62) (.skip) (.ex 2))) (.sq (.bl 3 (.sq (.rg [⟨(some 65), none, .mv, [.t 0]⟩, ⟨(some 66), none, .mv, [.t 8]⟩, ⟨(some 67), none, (.ia 3), [.t 65, .t 66]⟩, ⟨(some 68), none, (.ld (some 3)), [.t 67]⟩, ⟨(some 69), none, (.ld (some 3)), [.t 5]⟩, ⟨(some 70), none, (.call 10 .fz), [.t 68, .t 69]⟩, ⟨(some 71), none, (.bin .gtr), [.t 70, .k (.c (.int .i64 0))]⟩] true) (.cn (.t 71) (.sq (.rg [⟨(some 4), none, .mv, [.k (.c (.bool false))]⟩] false) (.rt)) (.skip)))) (.rg [⟨(some 63), none, .mv, [.t 8]⟩, ⟨(some 64), none, (.bin .add), [.t 63, .k (.c (.int .i64 1))]⟩, ⟨(some 8), none, .mv, [.t 64]⟩] false)))))) (.sq (.rg [⟨(some 72), none, (.ld (some 3)), [.t 5]⟩, ⟨(some 73), none, (.ld (some 3)), [.t 6]⟩, ⟨(some 74), none, (.call 16 .fz), [.t 72, .t 73]⟩, ⟨(some 75), none, .mv, [.t 74]⟩, ⟨(some 76), (some (75, true)), (.call 11 .fz), []⟩, ⟨(some 77), none, .pick, [.t 75, .t 76, .k (.c (.bool false))]⟩, ⟨(some 4), none, .mv, [.t 77]⟩] false) (.rt))))))
theorem cf7 : compF Try.prog 7 c7 = some ⟨c7, [.t 4], 78⟩ := by kernel_rfl

-- raddle/raddlelaw06.HlcMeets
def c8 : IC := .sq (.rg [⟨(some 4), none, .mv, [.k (.c (.bool false))]⟩] false) (.sq (.sq (.rg [⟨(some 13), none, .mv, [.t 0]⟩, ⟨(some 14), none, .len, [.t 13]⟩, ⟨(some 15), none, (.bin .gtr), [.t 14, .k (.c (.int .i64 60))]⟩, ⟨(some 16), none, .mv, [.t 15]⟩, ⟨(some 17), (some (16, false)), .mv, [.t 1]⟩, ⟨(some 18), (some (16, false)), .len, [.t 17]⟩, ⟨(some 19), (some (16, false)), (.bin .gtr), [.t 18, .k (.c (.int .i64 100))]⟩, ⟨(some 20), none, .pick, [.t 16, .k (.c (.bool true)), .t 19]⟩] false) (.cn (.t 20) (.sq (.rg [⟨(some 4), none, .mv, [.k (.c (.bool true))]⟩] false) (.rt)) (.skip))) (.sq (.rg [⟨(some 5), none, (.alloc [(.c (.int .i64 0)), (.c (.int .i64 0)), (.c (.int .i64 0)), (.c (.int .i64 0)), (.c (.int .i64 0)), (.c (.int .i64 0))]), []⟩] false) (.sq (.rg [⟨(some 6), none, .mv, [.k .z]⟩] false) (.sq (.sq (.rg [⟨(some 7), none, .mv, [.k (.c (.int .i64 0))]⟩] false) (.bl 0 (.lp (.sq (.sq (.rg [⟨(some 21), none, .mv, [.t 7]⟩, ⟨(some 22), none, .mv, [.t 0]⟩, ⟨(some 23), none, .len, [.t 22]⟩, ⟨(some 24), none, (.bin .lss), [.t 21, .t 23]⟩] false) (.cn (.t 24) (.skip) (.ex 0))) (.sq (.bl 1 (.sq (.rg [⟨(some 27), none, .mv, [.t 7]⟩, ⟨(some 28), none, (.bin .rem), [.t 27, .k (.c (.int .i64 2))]⟩, ⟨(some 8), none, .mv, [.t 28]⟩] false) (.sq (.re [⟨(some 30), none, .mv, [.t 8]⟩, ⟨(some 31), none, (.iar 2 3), [.t 5, .t 30]⟩, ⟨(some 32), none, (.ld (some 3)), [.t 31]⟩, ⟨(some 33), none, .mv, [.t 0]⟩, ⟨(some 34), none, .mv, [.t 7]⟩, ⟨(some 35), none, (.ia 1), [.t 33, .t 34]⟩, ⟨(some 36), none, (.ld none), [.t 35]⟩, ⟨(some 37), none, (.conv .u64), [.t 36]⟩, ⟨(some 38), none, (.bin .rem), [.t 37, .k (.c (.int .u64 1099511627777))]⟩, ⟨(some 39), none, (.conv .i64), [.t 38]⟩, ⟨(some 40), none, .mv, [.t 8]⟩, ⟨(some 41), none, (.call 9 .fz), [.t 32, .t 39, .t 40]⟩, ⟨(some 29), none, .mv, [.t 41]⟩, ⟨(some 42), none, (.ext 0), [.t 29]⟩, ⟨(some 43), none, (.ext 1), [.t 29]⟩, ⟨(some 9), none, (.alloc [(.c (.int .i64 0)), (.c (.int .i64 0)), (.c (.int .i64 0))]), []⟩, ⟨none, none, (.st 3), [.t 9, .t 42]⟩, ⟨(some 10), none, .mv, [.t 43]⟩] [[], [], [], [], [], [], [], [], [], [], [], [], [], [], [], [1, 2, 5, 6, 11], [], []]) (.sq (.sq (.rg [⟨(some 44), none, .mv, [.t 10]⟩, ⟨(some 45), none, (.bin .neq), [.t 44, .k (.c (.int .i64 0))]⟩, ⟨(some 46), none, .mv, [.t 45]⟩, ⟨(some 47), (some (46, false)), (.ld (some 3)), [.t 9]⟩, ⟨(some 48), (some (46, false)), .mv, [.t 8]⟩, ⟨(some 49), (some (46, false)), (.iar 2 3), [.t 5, .t 48]⟩, ⟨(some 50), (some (46, false)), (.ld (some 3)), [.t 49]⟩, ⟨(some 51), (some (46, false)), (.call 10 .fz), [.t 47, .t 50]⟩, ⟨(some 52), (some (46, false)), (.bin .neq), [.t 51, .k (.c (.int .i64 1))]⟩, ⟨(some 53), none, .pick, [.t 46, .k (.c (.bool true)), .t 52]⟩] true) (.cn (.t 53) (.sq (.rg [⟨(some 4), none, .mv, [.k (.c (.bool false))]⟩] false) (.rt)) (.skip))) (.sq (.sq (.rg [⟨(some 11), none, .mv, [.k (.c (.int .i64 0))]⟩] false) (.bl 2 (.lp (.sq (.sq (.rg [⟨(some 54), none, .mv, [.t 11]⟩, ⟨(some 55), none, .mv, [.t 6]⟩, ⟨(some 56), none, .len, [.t 55]⟩, ⟨(some 57), none, (.bin .lss), [.t 54, .t 56]⟩] false) (.cn (.t 57) (.skip) (.ex 2))) (.sq (.bl 3 (.sq (.rg [⟨(some 60), none, .mv, [.t 6]⟩, ⟨(some 61), none, .mv, [.t 11]⟩, ⟨(some 62), none, (.ia 3), [.t 60, .t 61]⟩, ⟨(some 63), none, (.ld (some 3)), [.t 62]⟩, ⟨(some 64), none, (.ld (some 3)), [.t 9]⟩, ⟨(some 65), none, (.call 10 .fz), [.t 63, .t 64]⟩, ⟨(some 66), none, (.bin .eql), [.t 65, .k (.c (.int .i64 0))]⟩] true) (.cn (.t 66) (.sq (.rg [⟨(some 4), none, .mv, [.k (.c (.bool false))]⟩] false) (.rt)) (.skip)))) (.rg [⟨(some 58), none, .mv, [.t 11]⟩, ⟨(some 59), none, (.bin .add), [.t 58, .k (.c (.int .i64 1))]⟩, ⟨(some 11), none, .mv, [.t 59]⟩] false)))))) (.sq (.re [⟨(some 67), none, .mv, [.t 8]⟩, ⟨(some 68), none, (.ld (some 3)), [.t 9]⟩, ⟨(some 69), none, .mv, [.t 6]⟩, ⟨(some 70), none, (.ld (some 3)), [.t 9]⟩, ⟨(some 71), none, (.bsl 3 [(.c (.int .i64 0)), (.c (.int .i64 0)), (.c (.int .i64 0))] [0] 1 true), [.t 70]⟩, ⟨(some 72), none, (.app 3), [.t 69, .t 71]⟩, ⟨(some 73), none, (.iar 2 3), [.t 5, .t 67]⟩, ⟨none, none, (.st 3), [.t 73, .t 68]⟩, ⟨(some 6), none, .mv, [.t 72]⟩] [[], [], [], [], [1], [1], [4, 5], [], []]) (.sq (.rg [⟨(some 74), none, .mv, [.t 7]⟩, ⟨(some 75), none, .mv, [.t 1]⟩, ⟨(some 76), none, .len, [.t 75]⟩, ⟨(some 77), none, (.bin .lss), [.t 74, .t 76]⟩, ⟨(some 78), none, .mv, [.t 77]⟩, ⟨(some 79), (some (78, true)), .mv, [.t 1]⟩, ⟨(some 80), (some (78, true)), .mv, [.t 7]⟩, ⟨(some 81), (some (78, true)), (.ia 1), [.t 79, .t 80]⟩, ⟨(some 82), (some (78, true)), (.ld none), [.t 81]⟩, ⟨(some 83), none, .pick, [.t 78, .t 82, .k (.c (.bool false))]⟩] false) (.cn (.t 83) (.sq (.rb [⟨(some 84), none, .mv, [.t 8]⟩, ⟨(some 85), none, (.bin .sub), [.k (.c (.int .i64 1)), .t 84]⟩, ⟨(some 86), none, (.iar 2 3), [.t 5, .t 85]⟩, ⟨(some 87), none, (.ld (some 3)), [.t 86]⟩, ⟨(some 88), none, (.ld (some 3)), [.t 9]⟩, ⟨(some 89), none, (.call 17 .fz), [.t 87, .t 88]⟩, ⟨(some 12), none, (.alloc [(.c (.int .i64 0)), (.c (.int .i64 0)), (.c (.int .i64 0))]), []⟩] ⟨none, none, (.st 3), [.t 12, .t 89]⟩ []) (.sq (.sq (.rg [⟨(some 90), none, (.ld (some 3)), [.t 12]⟩, ⟨(some 91), none, (.ld (some 3)), [.t 9]⟩, ⟨(some 92), none, (.call 10 .fz), [.t 90, .t 91]⟩, ⟨(some 93), none, (.bin .lss), [.t 92, .k (.c (.int .i64 0))]⟩, ⟨(some 94), none, .mv, [.t 93]⟩, ⟨(some 95), (some (94, false)), (.ld (some 3)), [.t 12]⟩, ⟨(some 96), (some (94, false)), .mv, [.t 8]⟩, ⟨(some 97), (some (94, false)), (.bin .sub), [.k (.c (.int .i64 1)), .t 96]⟩, ⟨(some 98), (some (94, false)), (.iar 2 3), [.t 5, .t 97]⟩, ⟨(some 99), (some (94, false)), (.ld (some 3)), [.t 98]⟩, ⟨(some 100), (some (94, false)), (.call 10 .fz), [.t 95, .t 99]⟩, ⟨(some 101), (some (94, false)), (.bin .lss), [.t 100, .k (.c (.int .i64 0))]⟩, ⟨(some 102), none, .pick, [.t 94, .k (.c (.bool true)), .t 101]⟩] true) (.cn (.t 102) (.sq (.rg [⟨(some 4), none, .mv, [.k (.c (.bool false))]⟩] false) (.rt)) (.skip))) (.rg [⟨(some 103), none, .mv, [.t 8]⟩, ⟨(some 104), none, (.bin .sub), [.k (.c (.int .i64 1)), .t 103]⟩, ⟨(some 105), none, (.ld (some 3)), [.t 12]⟩, ⟨(some 106), none, (.iar 2 3), [.t 5, .t 104]⟩, ⟨none, none, (.st 3), [.t 106, .t 105]⟩] false))) (.skip))))))))) (.rg [⟨(some 25), none, .mv, [.t 7]⟩, ⟨(some 26), none, (.bin .add), [.t 25, .k (.c (.int .i64 1))]⟩, ⟨(some 7), none, .mv, [.t 26]⟩] false)))))) (.sq (.rg [⟨(some 107), none, (.call 11 .fz), []⟩, ⟨(some 4), none, .mv, [.t 107]⟩] false) (.rt))))))
theorem cf8 : compF Try.prog 8 c8 = some ⟨c8, [.t 4], 108⟩ := by kernel_rfl

-- raddle/hlc.Next
def c9 : IC := .sq (.rg [⟨(some 3), none, (.box (some 3)), [.t 0]⟩, ⟨(some 6), none, (.alloc [(.c (.int .i64 0)), (.c (.int .i64 0)), (.c (.int .i64 0))]), []⟩, ⟨(some 7), none, .mv, [.k (.c (.int .i64 0))]⟩] false) (.sq (.bl 0 (.sq (.rg [⟨(some 9), none, (.ld (some 3)), [.t 3]⟩, ⟨(some 10), none, (.call 14 .fz), [.t 9]⟩, ⟨(some 11), none, (.bin .neq), [.t 10, .k (.c (.int .i64 0))]⟩, ⟨(some 12), none, .mv, [.t 11]⟩, ⟨(some 13), (some (12, false)), .mv, [.t 1]⟩, ⟨(some 14), (some (12, false)), (.call 19 .fz), [.t 13, .k (.c (.int .i64 1099511627776))]⟩, ⟨(some 15), (some (12, false)), (.un .not), [.t 14]⟩, ⟨(some 16), none, .pick, [.t 12, .k (.c (.bool true)), .t 15]⟩, ⟨(some 17), none, .mv, [.t 16]⟩, ⟨(some 18), (some (17, false)), .mv, [.t 2]⟩, ⟨(some 19), (some (17, false)), (.call 19 .fz), [.t 18, .k (.c (.int .i64 4))]⟩, ⟨(some 20), (some (17, false)), (.un .not), [.t 19]⟩, ⟨(some 21), none, .pick, [.t 17, .k (.c (.bool true)), .t 20]⟩, ⟨(some 8), none, .mv, [.t 21]⟩] false) (.cn (.t 8) (.sq (.rg [⟨(some 22), none, (.bld [(.c (.int .i64 0)), (.c (.int .i64 0)), (.c (.int .i64 0))] []), []⟩, ⟨none, none, (.st 3), [.t 6, .t 22]⟩, ⟨(some 7), none, .mv, [.k (.c (.int .i64 1))]⟩] false) (.rt)) (.sq (.rg [⟨(some 24), none, .mv, [.t 1]⟩, ⟨(some 25), none, (.fa 0), [.t 3]⟩, ⟨(some 26), none, (.ld none), [.t 25]⟩, ⟨(some 27), none, (.bin .gtr), [.t 24, .t 26]⟩, ⟨(some 23), none, .mv, [.t 27]⟩] false) (.cn (.t 23) (.sq (.rg [⟨(some 28), none, .mv, [.t 1]⟩, ⟨(some 29), none, .mv, [.t 2]⟩, ⟨(some 30), none, (.bld [(.c (.int .i64 0)), (.c (.int .i64 0)), (.c (.int .i64 0))] [(0, 1), (2, 1)]), [.t 28, .t 29]⟩, ⟨none, none, (.st 3), [.t 6, .t 30]⟩, ⟨(some 7), none, .mv, [.k (.c (.int .i64 0))]⟩] false) (.rt)) (.sq (.rg [⟨(some 32), none, (.fa 1), [.t 3]⟩, ⟨(some 33), none, (.ld none), [.t 32]⟩, ⟨(some 34), none, (.bin .geq), [.t 33, .k (.c (.int .i64 65536))]⟩, ⟨(some 31), none, .mv, [.t 34]⟩] false) (.cn (.t 31) (.sq (.rg [⟨(some 35), none, (.bld [(.c (.int .i64 0)), (.c (.int .i64 0)), (.c (.int .i64 0))] []), []⟩, ⟨none, none, (.st 3), [.t 6, .t 35]⟩, ⟨(some 7), none, .mv, [.k (.c (.int .i64 12))]⟩] false) (.rt)) (.skip)))))))) (.sq (.rg [⟨(some 36), none, (.fa 0), [.t 3]⟩, ⟨(some 37), none, (.ld none), [.t 36]⟩, ⟨(some 38), none, (.fa 1), [.t 3]⟩, ⟨(some 39), none, (.ld none), [.t 38]⟩, ⟨(some 40), none, (.bin .add), [.t 39, .k (.c (.int .i64 1))]⟩, ⟨(some 41), none, .mv, [.t 2]⟩, ⟨(some 42), none, (.bld [(.c (.int .i64 0)), (.c (.int .i64 0)), (.c (.int .i64 0))] [(0, 1), (1, 1), (2, 1)]), [.t 37, .t 40, .t 41]⟩, ⟨none, none, (.st 3), [.t 6, .t 42]⟩, ⟨(some 7), none, .mv, [.k (.c (.int .i64 0))]⟩] false) (.rt)))
theorem cf9 : compF Try.prog 9 c9 = some ⟨c9, [.c 6 (some 3), .t 7], 43⟩ := by kernel_rfl

-- raddle/hlc.Compare
def c10 : IC := .sq (.rg [⟨(some 2), none, (.box (some 3)), [.t 0]⟩, ⟨(some 3), none, (.box (some 3)), [.t 1]⟩, ⟨(some 4), none, .mv, [.k (.c (.int .i64 0))]⟩] false) (.sq (.rg [⟨(some 5), none, (.fa 0), [.t 2]⟩, ⟨(some 6), none, (.ld none), [.t 5]⟩, ⟨(some 7), none, (.fa 0), [.t 3]⟩, ⟨(some 8), none, (.ld none), [.t 7]⟩, ⟨(some 9), none, (.call 21 .fz), [.t 6, .t 8]⟩, ⟨(some 10), none, (.fa 1), [.t 2]⟩, ⟨(some 11), none, (.ld none), [.t 10]⟩, ⟨(some 12), none, (.fa 1), [.t 3]⟩, ⟨(some 13), none, (.ld none), [.t 12]⟩, ⟨(some 14), none, (.call 21 .fz), [.t 11, .t 13]⟩, ⟨(some 15), none, (.fa 2), [.t 2]⟩, ⟨(some 16), none, (.ld none), [.t 15]⟩, ⟨(some 17), none, (.fa 2), [.t 3]⟩, ⟨(some 18), none, (.ld none), [.t 17]⟩, ⟨(some 19), none, (.call 21 .fz), [.t 16, .t 18]⟩, ⟨(some 20), none, (.bsl 1 [(.c (.int .i64 0))] [0, 1, 2] 3 true), [.t 9, .t 14, .t 19]⟩, ⟨(some 21), none, (.call 20 .fz), [.t 20]⟩, ⟨(some 4), none, .mv, [.t 21]⟩] true) (.rt))
theorem cf10 : compF Try.prog 10 c10 = some ⟨c10, [.t 4], 22⟩ := by kernel_rfl

-- raddle/raddlelaw06.wakes
def c11 : IC := .sq (.rg [⟨(some 0), none, .mv, [.k (.c (.bool false))]⟩] false) (.sq (.rg [⟨(some 4), none, (.bld [(.c (.int .i64 0)), (.c (.int .i64 0)), (.c (.int .i64 0))] [(0, 1), (1, 1), (2, 1)]), [.k (.c (.int .i64 5)), .k (.c (.int .i64 3)), .k (.c (.int .i64 1))]⟩, ⟨(some 5), none, (.call 9 .fz), [.t 4, .k (.c (.int .i64 5)), .k (.c (.int .i64 0))]⟩, ⟨(some 3), none, .mv, [.t 5]⟩, ⟨(some 6), none, (.ext 0), [.t 3]⟩, ⟨(some 7), none, (.ext 1), [.t 3]⟩, ⟨(some 1), none, (.alloc [(.c (.int .i64 0)), (.c (.int .i64 0)), (.c (.int .i64 0))]), []⟩, ⟨none, none, (.st 3), [.t 1, .t 6]⟩, ⟨(some 2), none, .mv, [.t 7]⟩] false) (.sq (.rg [⟨(some 8), none, .mv, [.t 2]⟩, ⟨(some 9), none, (.bin .eql), [.t 8, .k (.c (.int .i64 0))]⟩, ⟨(some 10), none, .mv, [.t 9]⟩, ⟨(some 11), (some (10, true)), (.fa 0), [.t 1]⟩, ⟨(some 12), (some (10, true)), (.ld none), [.t 11]⟩, ⟨(some 13), (some (10, true)), (.bin .eql), [.t 12, .k (.c (.int .i64 5))]⟩, ⟨(some 14), none, .pick, [.t 10, .t 13, .k (.c (.bool false))]⟩, ⟨(some 15), none, .mv, [.t 14]⟩, ⟨(some 16), (some (15, true)), (.fa 1), [.t 1]⟩, ⟨(some 17), (some (15, true)), (.ld none), [.t 16]⟩, ⟨(some 18), (some (15, true)), (.bin .eql), [.t 17, .k (.c (.int .i64 4))]⟩, ⟨(some 19), none, .pick, [.t 15, .t 18, .k (.c (.bool false))]⟩, ⟨(some 20), none, .mv, [.t 19]⟩, ⟨(some 21), (some (20, true)), (.fa 2), [.t 1]⟩, ⟨(some 22), (some (20, true)), (.ld none), [.t 21]⟩, ⟨(some 23), (some (20, true)), (.bin .eql), [.t 22, .k (.c (.int .i64 0))]⟩, ⟨(some 24), none, .pick, [.t 20, .t 23, .k (.c (.bool false))]⟩, ⟨(some 25), none, .mv, [.t 24]⟩, ⟨(some 26), (some (25, true)), (.bld [(.c (.int .i64 0)), (.c (.int .i64 0)), (.c (.int .i64 0))] []), []⟩, ⟨(some 27), (some (25, true)), (.ld (some 3)), [.t 1]⟩, ⟨(some 28), (some (25, true)), (.call 10 .fz), [.t 26, .t 27]⟩, ⟨(some 29), (some (25, true)), (.bin .eql), [.t 28, .k (.c (.int .i64 (-1)))]⟩, ⟨(some 30), none, .pick, [.t 25, .t 29, .k (.c (.bool false))]⟩, ⟨(some 0), none, .mv, [.t 30]⟩] false) (.rt)))
theorem cf11 : compF Try.prog 11 c11 = some ⟨c11, [.t 0], 31⟩ := by kernel_rfl

-- raddle/raddleref01.Stamp
def c12 : IC := .sq (.rg [⟨(some 1), none, (.box (some 3)), [.t 0]⟩, ⟨(some 2), none, .mv, [.k (.c (.bool false))]⟩] false) (.sq (.rg [⟨(some 3), none, (.fa 0), [.t 1]⟩, ⟨(some 4), none, (.ld none), [.t 3]⟩, ⟨(some 5), none, (.call 22 .fz), [.t 4, .k (.c (.int .i64 0)), .k (.c (.int .i64 1099511627776))]⟩, ⟨(some 6), none, .mv, [.t 5]⟩, ⟨(some 7), (some (6, true)), (.fa 1), [.t 1]⟩, ⟨(some 8), (some (6, true)), (.ld none), [.t 7]⟩, ⟨(some 9), (some (6, true)), (.call 22 .fz), [.t 8, .k (.c (.int .i64 0)), .k (.c (.int .i64 65536))]⟩, ⟨(some 10), none, .pick, [.t 6, .t 9, .k (.c (.bool false))]⟩, ⟨(some 11), none, .mv, [.t 10]⟩, ⟨(some 12), (some (11, true)), (.fa 2), [.t 1]⟩, ⟨(some 13), (some (11, true)), (.ld none), [.t 12]⟩, ⟨(some 14), (some (11, true)), (.call 22 .fz), [.t 13, .k (.c (.int .i64 0)), .k (.c (.int .i64 4))]⟩, ⟨(some 15), none, .pick, [.t 11, .t 14, .k (.c (.bool false))]⟩, ⟨(some 2), none, .mv, [.t 15]⟩] false) (.rt))
theorem cf12 : compF Try.prog 12 c12 = some ⟨c12, [.t 2], 16⟩ := by kernel_rfl

-- raddle/raddleref01.NextStamp
def c13 : IC := .sq (.rg [⟨(some 3), none, (.box (some 3)), [.t 0]⟩, ⟨(some 6), none, (.alloc [(.c (.int .i64 0)), (.c (.int .i64 0)), (.c (.int .i64 0))]), []⟩, ⟨(some 7), none, .mv, [.k (.c (.int .i64 0))]⟩] false) (.sq (.sq (.rg [⟨(some 8), none, (.ld (some 3)), [.t 3]⟩, ⟨(some 9), none, (.call 12 .fz), [.t 8]⟩, ⟨(some 10), none, (.un .not), [.t 9]⟩, ⟨(some 11), none, .mv, [.t 10]⟩, ⟨(some 12), (some (11, false)), .mv, [.t 1]⟩, ⟨(some 13), (some (11, false)), (.call 22 .fz), [.t 12, .k (.c (.int .i64 0)), .k (.c (.int .i64 1099511627776))]⟩, ⟨(some 14), (some (11, false)), (.un .not), [.t 13]⟩, ⟨(some 15), none, .pick, [.t 11, .k (.c (.bool true)), .t 14]⟩, ⟨(some 16), none, .mv, [.t 15]⟩, ⟨(some 17), (some (16, false)), .mv, [.t 2]⟩, ⟨(some 18), (some (16, false)), (.call 22 .fz), [.t 17, .k (.c (.int .i64 0)), .k (.c (.int .i64 4))]⟩, ⟨(some 19), (some (16, false)), (.un .not), [.t 18]⟩, ⟨(some 20), none, .pick, [.t 16, .k (.c (.bool true)), .t 19]⟩] false) (.cn (.t 20) (.sq (.rg [⟨(some 21), none, (.bld [(.c (.int .i64 0)), (.c (.int .i64 0)), (.c (.int .i64 0))] []), []⟩, ⟨none, none, (.st 3), [.t 6, .t 21]⟩, ⟨(some 7), none, .mv, [.k (.c (.int .i64 1))]⟩] false) (.rt)) (.skip))) (.sq (.sq (.rg [⟨(some 22), none, .mv, [.t 1]⟩, ⟨(some 23), none, (.fa 0), [.t 3]⟩, ⟨(some 24), none, (.ld none), [.t 23]⟩, ⟨(some 25), none, (.bin .gtr), [.t 22, .t 24]⟩] false) (.cn (.t 25) (.sq (.rg [⟨(some 26), none, .mv, [.t 1]⟩, ⟨(some 27), none, .mv, [.t 2]⟩, ⟨(some 28), none, (.bld [(.c (.int .i64 0)), (.c (.int .i64 0)), (.c (.int .i64 0))] [(0, 1), (2, 1)]), [.t 26, .t 27]⟩, ⟨none, none, (.st 3), [.t 6, .t 28]⟩, ⟨(some 7), none, .mv, [.k (.c (.int .i64 0))]⟩] false) (.rt)) (.skip))) (.sq (.sq (.rg [⟨(some 29), none, (.fa 1), [.t 3]⟩, ⟨(some 30), none, (.ld none), [.t 29]⟩, ⟨(some 31), none, (.bin .eql), [.t 30, .k (.c (.int .i64 65536))]⟩] false) (.cn (.t 31) (.sq (.rg [⟨(some 32), none, (.bld [(.c (.int .i64 0)), (.c (.int .i64 0)), (.c (.int .i64 0))] []), []⟩, ⟨none, none, (.st 3), [.t 6, .t 32]⟩, ⟨(some 7), none, .mv, [.k (.c (.int .i64 12))]⟩] false) (.rt)) (.skip))) (.sq (.rg [⟨(some 33), none, (.fa 0), [.t 3]⟩, ⟨(some 34), none, (.ld none), [.t 33]⟩, ⟨(some 35), none, (.fa 1), [.t 3]⟩, ⟨(some 36), none, (.ld none), [.t 35]⟩, ⟨(some 37), none, (.bin .add), [.t 36, .k (.c (.int .i64 1))]⟩, ⟨(some 38), none, .mv, [.t 2]⟩, ⟨(some 39), none, (.bld [(.c (.int .i64 0)), (.c (.int .i64 0)), (.c (.int .i64 0))] [(0, 1), (1, 1), (2, 1)]), [.t 34, .t 37, .t 38]⟩, ⟨none, none, (.st 3), [.t 6, .t 39]⟩, ⟨(some 7), none, .mv, [.k (.c (.int .i64 0))]⟩] false) (.rt)))))
theorem cf13 : compF Try.prog 13 c13 = some ⟨c13, [.c 6 (some 3), .t 7], 40⟩ := by kernel_rfl

-- raddle/hlc.Check
def c14 : IC := .sq (.rg [⟨(some 1), none, (.box (some 3)), [.t 0]⟩, ⟨(some 2), none, .mv, [.k (.c (.int .i64 0))]⟩] false) (.sq (.sq (.rg [⟨(some 3), none, (.fa 0), [.t 1]⟩, ⟨(some 4), none, (.ld none), [.t 3]⟩, ⟨(some 5), none, (.call 19 .fz), [.t 4, .k (.c (.int .i64 1099511627776))]⟩, ⟨(some 6), none, .mv, [.t 5]⟩, ⟨(some 7), (some (6, true)), (.fa 1), [.t 1]⟩, ⟨(some 8), (some (6, true)), (.ld none), [.t 7]⟩, ⟨(some 9), (some (6, true)), (.call 19 .fz), [.t 8, .k (.c (.int .i64 65536))]⟩, ⟨(some 10), none, .pick, [.t 6, .t 9, .k (.c (.bool false))]⟩, ⟨(some 11), none, .mv, [.t 10]⟩, ⟨(some 12), (some (11, true)), (.fa 2), [.t 1]⟩, ⟨(some 13), (some (11, true)), (.ld none), [.t 12]⟩, ⟨(some 14), (some (11, true)), (.call 19 .fz), [.t 13, .k (.c (.int .i64 4))]⟩, ⟨(some 15), none, .pick, [.t 11, .t 14, .k (.c (.bool false))]⟩] false) (.cn (.t 15) (.sq (.rg [⟨(some 2), none, .mv, [.k (.c (.int .i64 0))]⟩] false) (.rt)) (.skip))) (.sq (.rg [⟨(some 2), none, .mv, [.k (.c (.int .i64 1))]⟩] false) (.rt)))
theorem cf14 : compF Try.prog 14 c14 = some ⟨c14, [.t 2], 16⟩ := by kernel_rfl

-- raddle/raddleref01.CompareStamps
def c15 : IC := .sq (.rg [⟨(some 2), none, (.box (some 3)), [.t 0]⟩, ⟨(some 3), none, (.box (some 3)), [.t 1]⟩, ⟨(some 4), none, .mv, [.k (.c (.int .i64 0))]⟩] false) (.sq (.sq (.rg [⟨(some 5), none, (.fa 0), [.t 2]⟩, ⟨(some 6), none, (.ld none), [.t 5]⟩, ⟨(some 7), none, (.fa 0), [.t 3]⟩, ⟨(some 8), none, (.ld none), [.t 7]⟩, ⟨(some 9), none, (.bin .neq), [.t 6, .t 8]⟩] false) (.cn (.t 9) (.sq (.rg [⟨(some 10), none, (.fa 0), [.t 2]⟩, ⟨(some 11), none, (.ld none), [.t 10]⟩, ⟨(some 12), none, (.fa 0), [.t 3]⟩, ⟨(some 13), none, (.ld none), [.t 12]⟩, ⟨(some 14), none, (.bin .lss), [.t 11, .t 13]⟩, ⟨(some 15), none, (.call 23 .fz), [.t 14]⟩, ⟨(some 4), none, .mv, [.t 15]⟩] false) (.rt)) (.skip))) (.sq (.sq (.rg [⟨(some 16), none, (.fa 1), [.t 2]⟩, ⟨(some 17), none, (.ld none), [.t 16]⟩, ⟨(some 18), none, (.fa 1), [.t 3]⟩, ⟨(some 19), none, (.ld none), [.t 18]⟩, ⟨(some 20), none, (.bin .neq), [.t 17, .t 19]⟩] false) (.cn (.t 20) (.sq (.rg [⟨(some 21), none, (.fa 1), [.t 2]⟩, ⟨(some 22), none, (.ld none), [.t 21]⟩, ⟨(some 23), none, (.fa 1), [.t 3]⟩, ⟨(some 24), none, (.ld none), [.t 23]⟩, ⟨(some 25), none, (.bin .lss), [.t 22, .t 24]⟩, ⟨(some 26), none, (.call 23 .fz), [.t 25]⟩, ⟨(some 4), none, .mv, [.t 26]⟩] false) (.rt)) (.skip))) (.sq (.sq (.rg [⟨(some 27), none, (.fa 2), [.t 2]⟩, ⟨(some 28), none, (.ld none), [.t 27]⟩, ⟨(some 29), none, (.fa 2), [.t 3]⟩, ⟨(some 30), none, (.ld none), [.t 29]⟩, ⟨(some 31), none, (.bin .neq), [.t 28, .t 30]⟩] false) (.cn (.t 31) (.sq (.rg [⟨(some 32), none, (.fa 2), [.t 2]⟩, ⟨(some 33), none, (.ld none), [.t 32]⟩, ⟨(some 34), none, (.fa 2), [.t 3]⟩, ⟨(some 35), none, (.ld none), [.t 34]⟩, ⟨(some 36), none, (.bin .lss), [.t 33, .t 35]⟩, ⟨(some 37), none, (.call 23 .fz), [.t 36]⟩, ⟨(some 4), none, .mv, [.t 37]⟩] false) (.rt)) (.skip))) (.sq (.rg [⟨(some 4), none, .mv, [.k (.c (.int .i64 0))]⟩] false) (.rt)))))
theorem cf15 : compF Try.prog 15 c15 = some ⟨c15, [.t 4], 38⟩ := by kernel_rfl

-- raddle/raddlekeep.Stamp
def c16 : IC := .sq (.rg [⟨(some 2), none, (.box (some 3)), [.t 0]⟩, ⟨(some 3), none, (.box (some 3)), [.t 1]⟩, ⟨(some 4), none, .mv, [.k (.c (.bool false))]⟩] false) (.sq (.rg [⟨(some 5), none, (.fa 0), [.t 2]⟩, ⟨(some 6), none, (.ld none), [.t 5]⟩, ⟨(some 7), none, (.fa 0), [.t 3]⟩, ⟨(some 8), none, (.ld none), [.t 7]⟩, ⟨(some 9), none, (.bin .eql), [.t 6, .t 8]⟩, ⟨(some 10), none, .mv, [.t 9]⟩, ⟨(some 11), (some (10, true)), (.fa 1), [.t 2]⟩, ⟨(some 12), (some (10, true)), (.ld none), [.t 11]⟩, ⟨(some 13), (some (10, true)), (.fa 1), [.t 3]⟩, ⟨(some 14), (some (10, true)), (.ld none), [.t 13]⟩, ⟨(some 15), (some (10, true)), (.bin .eql), [.t 12, .t 14]⟩, ⟨(some 16), none, .pick, [.t 10, .t 15, .k (.c (.bool false))]⟩, ⟨(some 17), none, .mv, [.t 16]⟩, ⟨(some 18), (some (17, true)), (.fa 2), [.t 2]⟩, ⟨(some 19), (some (17, true)), (.ld none), [.t 18]⟩, ⟨(some 20), (some (17, true)), (.fa 2), [.t 3]⟩, ⟨(some 21), (some (17, true)), (.ld none), [.t 20]⟩, ⟨(some 22), (some (17, true)), (.bin .eql), [.t 19, .t 21]⟩, ⟨(some 23), none, .pick, [.t 17, .t 22, .k (.c (.bool false))]⟩, ⟨(some 4), none, .mv, [.t 23]⟩] false) (.rt))
theorem cf16 : compF Try.prog 16 c16 = some ⟨c16, [.t 4], 24⟩ := by kernel_rfl

-- raddle/hlc.Later
def c17 : IC := .sq (.rg [⟨(some 2), none, (.box (some 3)), [.t 0]⟩, ⟨(some 3), none, (.box (some 3)), [.t 1]⟩, ⟨(some 4), none, (.alloc [(.c (.int .i64 0)), (.c (.int .i64 0)), (.c (.int .i64 0))]), []⟩] false) (.sq (.sq (.rg [⟨(some 5), none, (.ld (some 3)), [.t 2]⟩, ⟨(some 6), none, (.ld (some 3)), [.t 3]⟩, ⟨(some 7), none, (.call 10 .fz), [.t 5, .t 6]⟩, ⟨(some 8), none, (.bin .lss), [.t 7, .k (.c (.int .i64 0))]⟩] false) (.cn (.t 8) (.sq (.rg [⟨(some 9), none, (.ld (some 3)), [.t 3]⟩, ⟨none, none, (.st 3), [.t 4, .t 9]⟩] false) (.rt)) (.skip))) (.sq (.rg [⟨(some 10), none, (.ld (some 3)), [.t 2]⟩, ⟨none, none, (.st 3), [.t 4, .t 10]⟩] false) (.rt)))
theorem cf17 : compF Try.prog 17 c17 = some ⟨c17, [.c 4 (some 3)], 11⟩ := by kernel_rfl

-- raddle/raddleref01.Later
def c18 : IC := .sq (.rg [⟨(some 2), none, (.box (some 3)), [.t 0]⟩, ⟨(some 3), none, (.box (some 3)), [.t 1]⟩, ⟨(some 4), none, (.alloc [(.c (.int .i64 0)), (.c (.int .i64 0)), (.c (.int .i64 0))]), []⟩] false) (.sq (.sq (.rg [⟨(some 5), none, (.ld (some 3)), [.t 3]⟩, ⟨(some 6), none, (.ld (some 3)), [.t 2]⟩, ⟨(some 7), none, (.call 15 .fz), [.t 5, .t 6]⟩, ⟨(some 8), none, (.bin .gtr), [.t 7, .k (.c (.int .i64 0))]⟩] false) (.cn (.t 8) (.sq (.rg [⟨(some 9), none, (.ld (some 3)), [.t 3]⟩, ⟨none, none, (.st 3), [.t 4, .t 9]⟩] false) (.rt)) (.skip))) (.sq (.rg [⟨(some 10), none, (.ld (some 3)), [.t 2]⟩, ⟨none, none, (.st 3), [.t 4, .t 10]⟩] false) (.rt)))
theorem cf18 : compF Try.prog 18 c18 = some ⟨c18, [.c 4 (some 3)], 11⟩ := by kernel_rfl

-- raddle/hlc.in
def c19 : IC := .sq (.rg [⟨(some 4), none, .mv, [.k (.c (.bool false))]⟩] false) (.sq (.rg [⟨(some 5), none, .mv, [.t 0]⟩, ⟨(some 6), none, (.bin .geq), [.t 5, .k (.c (.int .i64 0))]⟩, ⟨(some 7), none, .mv, [.t 6]⟩, ⟨(some 8), (some (7, true)), .mv, [.t 0]⟩, ⟨(some 9), (some (7, true)), .mv, [.t 1]⟩, ⟨(some 10), (some (7, true)), (.bin .leq), [.t 8, .t 9]⟩, ⟨(some 11), none, .pick, [.t 7, .t 10, .k (.c (.bool false))]⟩, ⟨(some 4), none, .mv, [.t 11]⟩] false) (.rt))
theorem cf19 : compF Try.prog 19 c19 = some ⟨c19, [.t 4], 12⟩ := by kernel_rfl

-- cmp.Or[int]
def c20 : IC := .sq (.rg [⟨(some 2), none, .mv, [.k (.c (.int .i64 0))]⟩] false) (.sq (.rg [⟨(some 3), none, .mv, [.k (.c (.int .i64 0))]⟩] false) (.sq (.sq (.rg [⟨(some 6), none, .mv, [.t 0]⟩, ⟨(some 7), none, .len, [.t 6]⟩, ⟨(some 8), none, .mv, [.k (.c (.int .i64 0))]⟩] false) (.bl 0 (.lp (.sq (.rg [⟨(some 9), none, (.bin .lss), [.t 8, .t 7]⟩] false) (.sq (.cn (.t 9) (.skip) (.ex 0)) (.sq (.bl 1 (.sq (.rg [⟨(some 10), none, (.ia 1), [.t 6, .t 8]⟩, ⟨(some 11), none, (.ld none), [.t 10]⟩, ⟨(some 5), none, .mv, [.t 11]⟩] false) (.sq (.rg [⟨(some 12), none, .mv, [.t 5]⟩, ⟨(some 13), none, .mv, [.t 3]⟩, ⟨(some 14), none, (.bin .neq), [.t 12, .t 13]⟩] false) (.cn (.t 14) (.sq (.rg [⟨(some 15), none, .mv, [.t 5]⟩, ⟨(some 2), none, .mv, [.t 15]⟩] false) (.rt)) (.skip))))) (.rg [⟨(some 16), none, (.bin .add), [.t 8, .k (.c (.int .i64 1))]⟩, ⟨(some 8), none, .mv, [.t 16]⟩] false))))))) (.sq (.rg [⟨(some 17), none, .mv, [.t 3]⟩, ⟨(some 2), none, .mv, [.t 17]⟩] false) (.rt))))
theorem cf20 : compF Try.prog 20 c20 = some ⟨c20, [.t 2], 18⟩ := by kernel_rfl

-- cmp.Compare[int]
def c21 : IC := .sq (.rg [⟨(some 4), none, .mv, [.k (.c (.int .i64 0))]⟩] false) (.sq (.rg [⟨(some 7), none, .mv, [.t 0]⟩, ⟨(some 8), none, (.call 24 .fz), [.t 7]⟩, ⟨(some 5), none, .mv, [.t 8]⟩] false) (.sq (.rg [⟨(some 9), none, .mv, [.t 1]⟩, ⟨(some 10), none, (.call 24 .fz), [.t 9]⟩, ⟨(some 6), none, .mv, [.t 10]⟩] false) (.sq (.sq (.rg [⟨(some 11), none, .mv, [.t 5]⟩] false) (.cn (.t 11) (.sq (.sq (.rg [⟨(some 12), none, .mv, [.t 6]⟩] false) (.cn (.t 12) (.sq (.rg [⟨(some 4), none, .mv, [.k (.c (.int .i64 0))]⟩] false) (.rt)) (.skip))) (.sq (.rg [⟨(some 4), none, .mv, [.k (.c (.int .i64 (-1)))]⟩] false) (.rt))) (.skip))) (.sq (.sq (.rg [⟨(some 13), none, .mv, [.t 6]⟩] false) (.cn (.t 13) (.sq (.rg [⟨(some 4), none, .mv, [.k (.c (.int .i64 1))]⟩] false) (.rt)) (.skip))) (.sq (.sq (.rg [⟨(some 14), none, .mv, [.t 0]⟩, ⟨(some 15), none, .mv, [.t 1]⟩, ⟨(some 16), none, (.bin .lss), [.t 14, .t 15]⟩] false) (.cn (.t 16) (.sq (.rg [⟨(some 4), none, .mv, [.k (.c (.int .i64 (-1)))]⟩] false) (.rt)) (.skip))) (.sq (.sq (.rg [⟨(some 17), none, .mv, [.t 0]⟩, ⟨(some 18), none, .mv, [.t 1]⟩, ⟨(some 19), none, (.bin .gtr), [.t 17, .t 18]⟩] false) (.cn (.t 19) (.sq (.rg [⟨(some 4), none, .mv, [.k (.c (.int .i64 1))]⟩] false) (.rt)) (.skip))) (.sq (.rg [⟨(some 4), none, .mv, [.k (.c (.int .i64 0))]⟩] false) (.rt))))))))
theorem cf21 : compF Try.prog 21 c21 = some ⟨c21, [.t 4], 20⟩ := by kernel_rfl

-- raddle/raddleref01.in
def c22 : IC := .sq (.rg [⟨(some 6), none, .mv, [.k (.c (.bool false))]⟩] false) (.sq (.rg [⟨(some 7), none, .mv, [.t 0]⟩, ⟨(some 8), none, .mv, [.t 1]⟩, ⟨(some 9), none, (.bin .geq), [.t 7, .t 8]⟩, ⟨(some 10), none, .mv, [.t 9]⟩, ⟨(some 11), (some (10, true)), .mv, [.t 0]⟩, ⟨(some 12), (some (10, true)), .mv, [.t 2]⟩, ⟨(some 13), (some (10, true)), (.bin .leq), [.t 11, .t 12]⟩, ⟨(some 14), none, .pick, [.t 10, .t 13, .k (.c (.bool false))]⟩, ⟨(some 6), none, .mv, [.t 14]⟩] false) (.rt))
theorem cf22 : compF Try.prog 22 c22 = some ⟨c22, [.t 6], 15⟩ := by kernel_rfl

-- raddle/raddleref01.sign
def c23 : IC := .sq (.rg [⟨(some 2), none, .mv, [.k (.c (.int .i64 0))]⟩] false) (.sq (.sq (.rg [⟨(some 3), none, .mv, [.t 0]⟩] false) (.cn (.t 3) (.sq (.rg [⟨(some 2), none, .mv, [.k (.c (.int .i64 (-1)))]⟩] false) (.rt)) (.skip))) (.sq (.rg [⟨(some 2), none, .mv, [.k (.c (.int .i64 1))]⟩] false) (.rt)))
theorem cf23 : compF Try.prog 23 c23 = some ⟨c23, [.t 2], 4⟩ := by kernel_rfl

-- cmp.isNaN[int]
def c24 : IC := .sq (.rg [⟨(some 2), none, .mv, [.k (.c (.bool false))]⟩] false) (.sq (.rg [⟨(some 3), none, .mv, [.t 0]⟩, ⟨(some 4), none, .mv, [.t 0]⟩, ⟨(some 5), none, (.bin .neq), [.t 3, .t 4]⟩, ⟨(some 2), none, .mv, [.t 5]⟩] false) (.rt))
theorem cf24 : compF Try.prog 24 c24 = some ⟨c24, [.t 2], 6⟩ := by kernel_rfl

end Go.Proofs.Ytelgaglbkcacnaa.D
end
section
set_option linter.unusedVariables false
set_option linter.unusedSimpArgs false
set_option maxRecDepth 100000
set_option linter.constructorNameAsVariable false

/- What functions of raddlekeep, raddleref01 and dot answer. No condition. -/
namespace Go.Proofs.Ytelgaglbkcacnaa.D
open Go Go.Proofs

theorem refIn_ok (n lo hi : Int) : FnB Try.prog 22 [vi n, vi lo, vi hi] (vb (decide (lo ≤ n ∧ n ≤ hi))) := by
  refine fnB_intro cf22 (by simp) ?_
  simp (config := {contextual := true, maxSteps := 1000000}) only [go_sem, ints, intRows, iv_c, Nat.reduceAdd, Nat.reduceBEq, Nat.reduceEqDiff, Nat.reduceLeDiff, Nat.reduceLT, reduceIte, Nat.le_refl, true_or, or_true, and_self, Int.reduceLE, Int.reduceLT, Int.reduceEq, Int.reduceNeg, Int.natCast_nonneg, Int.reduceToNat, c22]
  simp

theorem take_succ_iff {α : Type} [Inhabited α] {p : α → Prop} {l : List α} {i : Nat} (h : i < l.length) : (∀ n ∈ l.take (i + 1), p n) ↔ (∀ n ∈ l.take i, p n) ∧ p (gN l i) := by
  rw [List.take_add_one, gN_at h]; simp [or_imp, forall_and]
theorem take_succ_eq {α : Type} [Inhabited α] {a b : List α} {i : Nat} (h : i < a.length) (h' : i < b.length) (e : a.take i = b.take i) (e' : gN a i = gN b i) : a.take (i + 1) = b.take (i + 1) := by
  rw [List.take_add_one, List.take_add_one, gN_at h, gN_at h', e, e']

/-- Whether a vector may be. -/
def vecE (v : List Int) : Int := if 1 ≤ v.length ∧ v.length ≤ 5 then (if ∀ n ∈ v, 0 ≤ n ∧ n ≤ 1073741824 then 0 else 1) else 2

end Go.Proofs.Ytelgaglbkcacnaa.D
end
section
set_option linter.unusedVariables false
set_option linter.unusedSimpArgs false
set_option maxRecDepth 100000
set_option linter.constructorNameAsVariable false

/- What functions of slices and dot answer. No condition. -/
namespace Go.Proofs.Ytelgaglbkcacnaa.D
open Go Go.Proofs

/-- Where the first stands, if any does. -/
def idxI {α : Type} (p : α → Bool) (l : List α) : Int := if l.any p then (l.findIdx p : Nat) else -1
theorem idxI_ge {α : Type} (p : α → Bool) (l : List α) : decide (0 ≤ idxI p l) = l.any p := by
  unfold idxI; split <;> simp_all
theorem idxI_at {α : Type} [Inhabited α] {p : α → Bool} {l : List α} {i : Nat} (h : i < l.length) (h1 : ∀ n ∈ l.take i, p n = false) (h2 : p (gN l i) = true) : idxI p l = i := by
  rw [gN_eq h] at h2
  have : l.any p = true := List.any_eq_true.2 ⟨l[i], List.getElem_mem _, h2⟩
  rw [idxI, if_pos this, (List.findIdx_eq h).2 ⟨h2, fun j hj => h1 _ (List.mem_take_iff_getElem.2 ⟨j, by omega, rfl⟩)⟩]
theorem idxI_no {α : Type} {p : α → Bool} {l : List α} (h1 : ∀ n ∈ l, p n = false) : idxI p l = -1 := by
  rw [idxI, if_neg]; simp; exact h1

end Go.Proofs.Ytelgaglbkcacnaa.D
end
section
set_option linter.unusedVariables false
set_option linter.unusedSimpArgs false
set_option maxRecDepth 100000
set_option linter.constructorNameAsVariable false

/- What functions of dot answer: dots. No condition. -/
namespace Go.Proofs.Ytelgaglbkcacnaa.D
open Go Go.Proofs

structure Dt where
  p : Int
  n : Int
instance : Inhabited Dt := ⟨⟨0, 0⟩⟩
def dotV (d : Dt) : List V := [vi d.p, vi d.n]
def hasB (v : List Int) (d : Dt) : Bool := decide (0 ≤ d.p ∧ d.p < v.length ∧ 1 ≤ d.n ∧ d.n ≤ gN v d.p.toNat)
def nextB (v : List Int) (d : Dt) : Bool := decide (0 ≤ d.p ∧ d.p < v.length ∧ d.n = gN v d.p.toNat + 1)
def inI (n : Int) : Prop := -9223372036854775808 ≤ n ∧ n ≤ 9223372036854775807

end Go.Proofs.Ytelgaglbkcacnaa.D
end
section
set_option linter.unusedVariables false
set_option linter.unusedSimpArgs false
set_option maxRecDepth 100000
set_option linter.constructorNameAsVariable false

/- What functions of dot answer: vectors. No condition. -/
namespace Go.Proofs.Ytelgaglbkcacnaa.D
open Go Go.Proofs

/-- Place by place. -/
def allB (p : Int → Int → Bool) (a b : List Int) : Bool := decide (a.length = b.length ∧ ∀ i, i < a.length → p (gN a i) (gN b i) = true)

/-- No number is greater. -/
def leB (a b : List Int) : Bool := allB (fun x y => decide (x ≤ y)) a b
theorem vecE_range (v : List Int) : vecE v = 0 → 1 ≤ v.length ∧ v.length ≤ 5 ∧ ∀ n ∈ v, 0 ≤ n ∧ n ≤ 1073741824 := by
  unfold vecE; split
  · rename_i h; split
    · rename_i h2; exact fun _ => ⟨h.1, h.2, h2⟩
    · intro h; cases h
  · intro h; cases h

/-- With the next dot. -/
def addV (v : List Int) (d : Dt) : List Int × Int :=
  if vecE v ≠ 0 then ([], vecE v) else if nextB v d = false ∨ 1073741824 < d.n then ([], 1) else (v.set d.p.toNat d.n, 0)

/-- Of two, place by place. -/
def eachV (p : Int → Int → Int) (a b : List Int) : List Int × Int :=
  if vecE a ≠ 0 then ([], vecE a) else if vecE b ≠ 0 then ([], vecE b) else if a.length ≠ b.length then ([], 2) else (List.zipWith p a b, 0)

def mergeV (a b : List Int) : List Int × Int := eachV max a b
end Go.Proofs.Ytelgaglbkcacnaa.D
end
section
set_option linter.unusedVariables false
set_option linter.unusedSimpArgs false
set_option maxRecDepth 100000
set_option linter.constructorNameAsVariable false

/- What functions of dot answer: the least of several. No condition. -/
namespace Go.Proofs.Ytelgaglbkcacnaa.D
open Go Go.Proofs

def firstE : List (List Int) → Int
  | [] => 0
  | v :: l => if vecE v ≠ 0 then vecE v else firstE l
theorem firstE_at : ∀ {l : List (List Int)} {i : Nat}, i < l.length → (∀ v ∈ l.take i, vecE v = 0) → vecE (gN l i) ≠ 0 → firstE l = vecE (gN l i)
  | [], i, h, _, _ => by simp at h
  | v :: l, 0, h, h1, h2 => by simp [gN] at h2; simp [firstE, gN, h2]
  | v :: l, i + 1, h, h1, h2 => by
    have : vecE v = 0 := h1 v (by simp)
    simp only [firstE, this]
    simp
    have e : gN (v :: l) (i + 1) = gN l i := by simp [gN]
    rw [e] at h2 ⊢
    exact firstE_at (by simpa using h) (fun w hw => h1 w (by simp [hw])) h2
theorem firstE_no : ∀ {l : List (List Int)}, (∀ v ∈ l, vecE v = 0) → firstE l = 0
  | [], _ => rfl
  | v :: l, h => by simp only [firstE, h v (by simp)]; simp; exact firstE_no fun w hw => h w (by simp [hw])

def leastF : List Int → List (List Int) → List Int × Int
  | out, [] => (out, 0)
  | out, v :: l => if (eachV min out v).2 ≠ 0 then ([], (eachV min out v).2) else leastF (eachV min out v).1 l
/-- The least of several. -/
def leastV (l : List (List Int)) : List Int × Int :=
  if l = [] then ([], 2) else if firstE l ≠ 0 then ([], firstE l) else leastF (gN l 0) l

theorem eachV_len {p : Int → Int → Int} {a b : List Int} : ((eachV p a b).2 = 0 → (eachV p a b).1.length = a.length ∧ a.length ≠ 0) ∧ ((eachV p a b).2 ≠ 0 → (eachV p a b).1 = []) := by
  unfold eachV
  split
  · rename_i h; exact ⟨fun h2 => absurd h2 h, fun _ => rfl⟩
  · split
    · rename_i h; exact ⟨fun h2 => absurd h2 h, fun _ => rfl⟩
    · split
      · exact ⟨fun h2 => (by cases h2), fun _ => rfl⟩
      · rename_i h h1 h2
        have := vecE_range a (by simpa using h)
        exact ⟨fun _ => ⟨by simp; omega, by omega⟩, fun h => absurd rfl h⟩

theorem drop_gN {α : Type} [Inhabited α] {l : List α} {i : Nat} (h : i < l.length) : l.drop i = gN l i :: l.drop (i + 1) := by
  rw [gN_eq h]; exact List.drop_eq_getElem_cons h

end Go.Proofs.Ytelgaglbkcacnaa.D
end
section
set_option linter.unusedVariables false
set_option linter.unusedSimpArgs false
set_option maxRecDepth 100000
set_option linter.constructorNameAsVariable false

/- What functions of raddlelaw05 answer. No condition. -/
namespace Go.Proofs.Ytelgaglbkcacnaa.D
open Go Go.Proofs

/-- More than is played? -/
def heavyB (l : List (List Int)) : Bool := decide (30 < l.length ∨ ∃ v ∈ l, 30 < v.length)
end Go.Proofs.Ytelgaglbkcacnaa.D
end
section
set_option linter.unusedVariables false
set_option linter.unusedSimpArgs false
set_option maxRecDepth 100000
set_option linter.constructorNameAsVariable false

/- The least of several, plainly. No condition. -/
namespace Go.Proofs.Ytelgaglbkcacnaa.D
open Go Go.Proofs

theorem eachV_yes {p : Int → Int → Int} {a b : List Int} (ha : vecE a = 0) (hb : vecE b = 0) (hl : a.length = b.length) : eachV p a b = (List.zipWith p a b, 0) := by simp [eachV, ha, hb, hl]
theorem eachV_zero {p : Int → Int → Int} {a b : List Int} (h : (eachV p a b).2 = 0) : vecE a = 0 ∧ vecE b = 0 ∧ a.length = b.length ∧ (eachV p a b).1 = List.zipWith p a b := by
  unfold eachV at *
  by_cases h1 : vecE a = 0 <;> by_cases h2 : vecE b = 0 <;> by_cases h3 : a.length = b.length <;> simp [h1, h2, h3] at h ⊢
theorem zip_self (v : List Int) : List.zipWith min v v = v := List.ext_getElem (by simp) (by simp)
theorem gN_zip {p : Int → Int → Int} {a b : List Int} {i : Nat} (h1 : i < a.length) (h2 : i < b.length) : gN (List.zipWith p a b) i = p (gN a i) (gN b i) := by
  rw [gN_eq (by simp; omega), gN_eq h1, gN_eq h2]; simp
theorem leB_left {a b : List Int} (h : a.length = b.length) : leB (List.zipWith min a b) a = true := by
  simp only [leB, allB]; rw [decide_eq_true]
  refine ⟨by simp; omega, fun i hi => ?_⟩
  have : i < a.length := by simp at hi; omega
  rw [gN_zip this (by omega)]; simp; omega
theorem leB_right {a b : List Int} (h : a.length = b.length) : leB (List.zipWith min a b) b = true := by
  simp only [leB, allB]; rw [decide_eq_true]
  refine ⟨by simp; omega, fun i hi => ?_⟩
  have : i < a.length := by simp at hi; omega
  rw [gN_zip this (by omega)]; simp; omega
theorem leastF_app : ∀ (l : List (List Int)) (out v : List Int), leastF out (l ++ [v]) = if (leastF out l).2 ≠ 0 then ([], (leastF out l).2) else if (eachV min (leastF out l).1 v).2 ≠ 0 then ([], (eachV min (leastF out l).1 v).2) else ((eachV min (leastF out l).1 v).1, 0)
  | [], out, v => by by_cases h : (eachV min out v).2 = 0 <;> simp [leastF, h]
  | w :: l, out, v => by
    simp only [List.cons_append, leastF]
    by_cases h : (eachV min out w).2 = 0
    · simp [h]; simpa using leastF_app l (eachV min out w).1 v
    · simp [h]
theorem firstE_app {v : List Int} (hv : vecE v = 0) : ∀ l : List (List Int), firstE (l ++ [v]) = firstE l
  | [] => by simp [firstE, hv]
  | w :: l => by simp only [List.cons_append, firstE, firstE_app hv l]
theorem leastF_err : ∀ (l : List (List Int)) (out : List Int), (leastF out l).2 = 0 ∨ (leastF out l).1 = []
  | [], out => .inl rfl
  | w :: l, out => by
    simp only [leastF]; split
    · exact .inr rfl
    · exact leastF_err l _
theorem leastV_err (l : List (List Int)) : (leastV l).2 = 0 ∨ (leastV l).1 = [] := by
  unfold leastV; split
  · exact .inr rfl
  · split
    · exact .inr rfl
    · exact leastF_err _ _
theorem leastV_one {v : List Int} (hv : vecE v = 0) : leastV [v] = (v, 0) := by
  simp [leastV, firstE, hv, leastF, gN, eachV_yes hv hv rfl, zip_self]
theorem leastV_app {v : List Int} (hv : vecE v = 0) (l : List (List Int)) (h : (leastV l).2 = 0) (h2 : (leastV (l ++ [v])).2 = 0) : leB (leastV (l ++ [v])).1 (leastV l).1 = true ∧ leB (leastV (l ++ [v])).1 v = true := by
  have hl : l ≠ [] := by intro e; subst e; simp [leastV] at h
  have hf : firstE l = 0 := by
    by_cases h3 : firstE l = 0
    · exact h3
    · simp [leastV, hl, h3] at h
  have e1 : leastV l = leastF (gN l 0) l := by simp [leastV, hl, hf]
  have e2 : leastV (l ++ [v]) = leastF (gN l 0) (l ++ [v]) := by
    have : gN (l ++ [v]) 0 = gN l 0 := by obtain ⟨x, m, rfl⟩ := List.exists_cons_of_ne_nil hl; rfl
    simp [leastV, firstE_app hv, hf, this]
  rw [e1] at h ⊢
  rw [e2, leastF_app] at h2 ⊢
  simp [h] at h2 ⊢
  by_cases h3 : (eachV min (leastF (gN l 0) l).1 v).2 = 0
  · simp [h3]
    obtain ⟨k1, k2, k3, k4⟩ := eachV_zero h3
    rw [k4]
    exact ⟨leB_left k3, leB_right k3⟩
  · simp [h3] at h2
theorem leastV_two {v : List Int} (hv : vecE v = 0) : leastV [v, List.replicate v.length 0] = (List.replicate v.length 0, 0) := by
  obtain ⟨h1, h2, h3⟩ := vecE_range v hv
  have hz : vecE (List.replicate v.length 0) = 0 := by
    rw [vecE, if_pos (by simp; omega), if_pos]
    intro n hn; rw [List.eq_of_mem_replicate hn]; omega
  have e : List.zipWith min v (List.replicate v.length 0) = List.replicate v.length 0 := by
    refine List.ext_getElem (by simp) fun i h4 h5 => ?_
    simp
    have h6 : i < v.length := by simpa using h5
    have := h3 v[i] (List.getElem_mem _)
    omega
  simp [leastV, firstE, hv, hz, leastF, gN, eachV_yes hv hv rfl, zip_self, eachV_yes hv hz (by simp), e]

end Go.Proofs.Ytelgaglbkcacnaa.D
end
section
set_option linter.unusedVariables false
set_option linter.unusedSimpArgs false
set_option maxRecDepth 100000
set_option linter.constructorNameAsVariable false

/- Merging and the least, plainly. No condition. -/
namespace Go.Proofs.Ytelgaglbkcacnaa.D
open Go Go.Proofs

theorem vecE_mk {v : List Int} (h1 : 1 ≤ v.length) (h2 : v.length ≤ 5) (h3 : ∀ i, i < v.length → 0 ≤ gN v i ∧ gN v i ≤ 1073741824) : vecE v = 0 := by
  rw [vecE, if_pos ⟨h1, h2⟩, if_pos]
  intro n hn
  obtain ⟨i, hi, rfl⟩ := List.getElem_of_mem hn
  rw [← gN_eq hi]; exact h3 i hi
theorem vecE_at {v : List Int} (h : vecE v = 0) {i : Nat} (hi : i < v.length) : 0 ≤ gN v i ∧ gN v i ≤ 1073741824 := (vecE_range v h).2.2 _ (by rw [gN_eq hi]; exact List.getElem_mem _)
theorem vecE_zip {p : Int → Int → Int} (hp : ∀ x y, p x y = x ∨ p x y = y) {a b : List Int} (ha : vecE a = 0) (hb : vecE b = 0) (h : a.length = b.length) : vecE (List.zipWith p a b) = 0 := by
  obtain ⟨h1, h2, _⟩ := vecE_range a ha
  refine vecE_mk (by simp; omega) (by simp; omega) fun i hi => ?_
  have h3 : i < a.length := by simp at hi; omega
  rw [gN_zip h3 (by omega)]
  rcases hp (gN a i) (gN b i) with e | e <;> rw [e]
  · exact vecE_at ha h3
  · exact vecE_at hb (by omega)
theorem min_or (x y : Int) : min x y = x ∨ min x y = y := by omega
theorem max_or (x y : Int) : max x y = x ∨ max x y = y := by omega
theorem merge_yes {a b : List Int} (ha : vecE a = 0) (hb : vecE b = 0) (h : a.length = b.length) : mergeV a b = (List.zipWith max a b, 0) := eachV_yes ha hb h
theorem least3 {a b c : List Int} (ha : vecE a = 0) (hb : vecE b = 0) (hc : vecE c = 0) (h : a.length = b.length) (k : b.length = c.length) : leastV [a, b, c] = (List.zipWith min (List.zipWith min a b) c, 0) := by
  have e2 : eachV min a b = (List.zipWith min a b, 0) := eachV_yes ha hb h
  have e3 : eachV min (List.zipWith min a b) c = (List.zipWith min (List.zipWith min a b) c, 0) := eachV_yes (vecE_zip min_or ha hb h) hc (by simp; omega)
  simp [leastV, firstE, ha, hb, hc, leastF, gN, eachV_yes ha ha rfl, zip_self, e2, e3]
theorem zip_comm {p : Int → Int → Int} (hp : ∀ x y, p x y = p y x) (a b : List Int) : List.zipWith p a b = List.zipWith p b a := by
  refine List.ext_getElem (by simp; omega) fun i h1 h2 => ?_
  simp; exact hp _ _
theorem leB_iff {a b : List Int} : leB a b = true ↔ a.length = b.length ∧ ∀ i, i < a.length → gN a i ≤ gN b i := by
  simp [leB, allB]
theorem list_iff {a b : List Int} : a = b ↔ a.length = b.length ∧ ∀ i, i < a.length → gN a i = gN b i := by
  constructor
  · rintro rfl; exact ⟨rfl, fun _ _ => rfl⟩
  · rintro ⟨h1, h2⟩
    refine List.ext_getElem h1 fun i h3 h4 => ?_
    rw [← gN_eq h3, ← gN_eq h4]; exact h2 i h3
end Go.Proofs.Ytelgaglbkcacnaa.D
end
section
set_option linter.unusedVariables false
set_option linter.unusedSimpArgs false
set_option maxRecDepth 100000
set_option linter.constructorNameAsVariable false

/- DotLattice. No condition. -/
namespace Go.Proofs.Ytelgaglbkcacnaa.D
open Go Go.Proofs

theorem dec10 : decide ((1 : Int) = 0) = false := (rfl)
def gDt (d : Dt) : Prop := gInt .i64 d.p ∧ gInt .i64 d.n
end Go.Proofs.Ytelgaglbkcacnaa.D
end
section
set_option linter.unusedVariables false
set_option linter.unusedSimpArgs false
set_option maxRecDepth 100000
set_option linter.constructorNameAsVariable false

/- What functions of raddlekeep and mat answer. No condition. -/
namespace Go.Proofs.Ytelgaglbkcacnaa.D
open Go Go.Proofs

attribute [go_sem] List.set_cons_zero List.set_cons_succ
theorem set_gN {α : Type} [Inhabited α] {l : List α} {i : Nat} (h : i < l.length) : l.set i (gN l i) = l := by rw [gN_eq h]; simp
/-- A pointer, as a call sees it. -/
def resP (ob : OB) (n o : Nat) : Option (List V) → V
  | some r => .bp ((r.drop o).map (resV ob n))
  | none => .u
@[go_sem] theorem resP_s (ob : OB) (n o : Nat) (r : List V) : resP ob n o (some r) = .bp ((r.drop o).map (resV ob n)) := (rfl)
@[go_sem] theorem res_pt (ob : OB) (n id i o : Nat) : resV ob (n + 1) (.pt id i o) = resP ob n o ((ob id).bind fun x => x.l[i]?) := by
  simp only [resV]; cases (ob id).bind fun x => x.l[i]? <;> rfl
theorem Own.mono {n n' : Nat} {ob : OB} {v : V} {k : Nat} {rows : List (List V)} (h : Own n ob v k rows) (hn : n ≤ n') : Own n' ob v k rows := by
  rcases h with h | ⟨h1, id, cap, h2, h3, h4⟩
  · exact .inl h
  · exact .inr ⟨h1, id, cap, by omega, h3, h4⟩

/-- Whether a matrix may be. -/
def matE (m : List (List Int)) : Int := if 1 ≤ m.length ∧ m.length ≤ 5 ∧ ∀ v ∈ m, v.length = m.length then (if ∀ v ∈ m, vecE v = 0 then 0 else 1) else 2

/-- A matrix of noughts. -/
def newM (n : Nat) : List (List Int) := List.replicate n (List.replicate n 0)
def newV (n : Int) : List (List Int) × Int := if 1 ≤ n ∧ n ≤ 5 then (newM n.toNat, 0) else ([], 1)
def vecB (v : List Int) (n : Int) : Bool := decide ((v.length : Int) = n) && decide (vecE v = 0)
/-- What a matrix becomes. -/
def learnOk (m : List (List Int)) (have_ : List Int) (p : Int) (safe : List Int) : Bool := vecB have_ m.length && vecB safe m.length && (decide (0 ≤ p) && decide (p < m.length))
def learnV (m : List (List Int)) (have_ : List Int) (p : Int) (safe : List Int) : List (List Int) × Bool × Int :=
  if matE m ≠ 0 then ([], false, matE m) else if learnOk m have_ p safe = false then ([], false, 1)
  else if gN have_ p.toNat < gN safe p.toNat then (m, false, 0) else (m.set p.toNat (List.zipWith max (gN m p.toNat) safe), true, 0)
theorem matE_at {m : List (List Int)} (h : matE m = 0) : (1 ≤ m.length ∧ m.length ≤ 5) ∧ ∀ v ∈ m, v.length = m.length ∧ vecE v = 0 := by
  unfold matE at h
  split at h
  · rename_i h1; split at h
    · rename_i h2; exact ⟨⟨h1.1, h1.2.1⟩, fun v hv => ⟨h1.2.2 v hv, h2 v hv⟩⟩
    · cases h
  · cases h
theorem learn_n (m : List (List Int)) (have_ : List Int) (p : Int) (safe : List Int) : (((if vecB have_ m.length = true then !vecB safe m.length else true) || decide (p < 0)) || decide ((m.length : Int) ≤ p)) = !learnOk m have_ p safe := by
  have e1 : decide (p < 0) = !decide (0 ≤ p) := by rw [Bool.eq_iff_iff]; simp
  have e2 : decide ((m.length : Int) ≤ p) = !decide (p < m.length) := by rw [Bool.eq_iff_iff]; simp
  rw [learnOk, e1, e2]
  cases vecB have_ m.length <;> cases vecB safe m.length <;> cases decide (0 ≤ p) <;> cases decide (p < m.length) <;> rfl
theorem vecB_t {v : List Int} {n : Int} (h : vecB v n = true) : (v.length : Int) = n ∧ vecE v = 0 := by simpa [vecB] using h
theorem learn_y {m : List (List Int)} {have_ : List Int} {p : Int} {safe : List Int} (h : learnOk m have_ p safe = true) : (have_.length = m.length ∧ vecE have_ = 0) ∧ (safe.length = m.length ∧ vecE safe = 0) ∧ (0 ≤ p ∧ p < m.length) := by
  simp only [learnOk, Bool.and_eq_true, decide_eq_true_iff] at h
  obtain ⟨⟨h1, h2⟩, h3⟩ := h
  have h1 := vecB_t h1; have h2 := vecB_t h2
  exact ⟨⟨by omega, h1.2⟩, ⟨by omega, h2.2⟩, h3⟩
def frontV (m : List (List Int)) : List Int × Int := if matE m ≠ 0 then ([], matE m) else leastV m
end Go.Proofs.Ytelgaglbkcacnaa.D
end
section
set_option linter.unusedVariables false
set_option linter.unusedSimpArgs false
set_option maxRecDepth 100000
set_option linter.constructorNameAsVariable false

/- MatLater. No condition. -/
namespace Go.Proofs.Ytelgaglbkcacnaa.D
open Go Go.Proofs

theorem w1 : newV 2 = ([[0, 0], [0, 0]], 0) := by decide
theorem w2 : learnV [[0, 0], [0, 0]] [3, 2] 1 [1, 2] = ([[0, 0], [1, 2]], true, 0) := by decide
theorem w3 : frontV [[0, 0], [1, 2]] = ([0, 0], 0) := by decide
@[go_sem] theorem ia_1 (ob : OB) (f : Fl) (r : List V) (x : V) (l : List (List V)) : iaV ob 1 (.im f (r :: [x] :: l)) 1 = some (.bp [x]) := by simp [iaV]; omega
/-- What is over, of a whole number read without sign. -/
theorem u64_range (n : Int) : 0 ≤ IntKind.u64.wrap n ∧ IntKind.u64.wrap n < 18446744073709551616 := by
  unfold IntKind.wrap IntKind.signed IntKind.bits; simp; omega
theorem u64 {n : Int} (h : 0 ≤ n ∧ n < 18446744073709551616) : IntKind.u64.wrap n = n := by
  unfold IntKind.wrap IntKind.signed IntKind.bits; simp; omega
theorem modU (n : Int) {k : Int} (h : 0 < k ∧ k < 9223372036854775808) : ∃ x : Nat, IntKind.i64.wrap ((IntKind.u64.wrap n).tmod k) = x ∧ (x : Int) < k := by
  have h1 := u64_range n
  have h2 : (IntKind.u64.wrap n).tmod k = (IntKind.u64.wrap n) % k := Int.tmod_eq_emod_of_nonneg h1.1
  have h3 := Int.emod_nonneg (IntKind.u64.wrap n) (Int.ne_of_gt h.1)
  have h4 := Int.emod_lt_of_pos (IntKind.u64.wrap n) h.1
  refine ⟨(IntKind.u64.wrap n % k).toNat, ?_, by omega⟩
  rw [h2, w64 (by omega)]; omega

theorem vecE_rep {n : Nat} (h : 1 ≤ n ∧ n ≤ 5) : vecE (List.replicate n 0) = 0 :=
  vecE_mk (by simp; omega) (by simp; omega) fun i hi => by rw [gN_eq hi]; simp
theorem vecE_set {v : List Int} (h : vecE v = 0) (p : Nat) {x : Int} (hx : 0 ≤ x ∧ x ≤ 1073741824) : vecE (v.set p x) = 0 := by
  have h1 := vecE_range v h
  refine vecE_mk (by simp; omega) (by simp; omega) fun i hi => ?_
  rw [gN_eq hi, List.getElem_set]
  split
  · exact hx
  · exact h1.2.2 _ (List.getElem_mem _)
theorem matE_new {n : Nat} (h : 1 ≤ n ∧ n ≤ 5) : matE (newM n) = 0 := by
  rw [matE, if_pos, if_pos]
  · intro v hv; rw [List.eq_of_mem_replicate hv]; exact vecE_rep h
  · refine ⟨by simp [newM]; omega, by simp [newM]; omega, fun v hv => ?_⟩
    rw [List.eq_of_mem_replicate hv]; simp [newM]
theorem learnOk_y {m : List (List Int)} {h_ : List Int} {p : Nat} {safe : List Int} (h1 : h_.length = m.length) (h2 : vecE h_ = 0) (h3 : safe.length = m.length) (h4 : vecE safe = 0) (h5 : p < m.length) : learnOk m h_ (p : Int) safe = true := by
  simp [learnOk, vecB, h1, h2, h3, h4]; omega
theorem learn_no {m : List (List Int)} {h_ : List Int} {p : Nat} {safe : List Int} (h : matE m = 0) (h1 : h_.length = m.length) (h2 : vecE h_ = 0) (h3 : safe.length = m.length) (h4 : vecE safe = 0) (h5 : p < m.length) (h6 : gN h_ p < gN safe p) : learnV m h_ (p : Int) safe = (m, false, 0) := by
  rw [learnV, if_neg (by simpa using h), if_neg (by rw [learnOk_y h1 h2 h3 h4 h5]; simp), Int.toNat_natCast, if_pos h6]
theorem learn_yes {m : List (List Int)} {h_ : List Int} {p : Nat} {safe : List Int} (h : matE m = 0) (h1 : h_.length = m.length) (h2 : vecE h_ = 0) (h3 : safe.length = m.length) (h4 : vecE safe = 0) (h5 : p < m.length) (h6 : gN safe p ≤ gN h_ p) : learnV m h_ (p : Int) safe = (m.set p (List.zipWith max (gN m p) safe), true, 0) := by
  rw [learnV, if_neg (by simpa using h), if_neg (by rw [learnOk_y h1 h2 h3 h4 h5]; simp), Int.toNat_natCast, if_neg (by omega)]
theorem gN_set {α : Type} [Inhabited α] {l : List α} {i : Nat} (h : i < l.length) (x : α) : gN (l.set i x) i = x := by rw [gN_eq (by simpa using h)]; simp
theorem zip_rep {n : Nat} {v : List Int} (h : v.length = n) (h0 : ∀ x ∈ v, 0 ≤ x) : List.zipWith max (List.replicate n 0) v = v := by
  refine List.ext_getElem (by simp [h]) fun i h1 h2 => ?_
  have := h0 v[i] (List.getElem_mem _)
  simp; omega

end Go.Proofs.Ytelgaglbkcacnaa.D
end
section
set_option linter.unusedVariables false
set_option linter.unusedSimpArgs false
set_option maxRecDepth 100000
set_option linter.constructorNameAsVariable false

/- MatAll. No condition. -/
namespace Go.Proofs.Ytelgaglbkcacnaa.D
open Go Go.Proofs

/-- Appending to a slice of one's own, in a region of any order. -/
theorem nxD_app {P : Program} {nid : Nat} {env : Env} {ob : OB} {K : Env → OB → Prop} {l : List RO} {dl : Ups} {d : Option Nat} {n k : Nat} {v x : V} {rows xs : List (List V)} (h : Own n ob v k rows) (hn : n ≤ nid) (hx : rowsOf ob x = some xs) (hk : xs.all (okRow k) = true) (hlen : rows.length + xs.length ≤ maxLen)
    (hK : ∀ v' ob', Own (nid + 1) ob' v' k (rows ++ xs) → (∀ id, id < n → v ≠ .sl id 0 rows.length → ob' id = ob id) → wpD P l (nid + 1) (put env d v') ob' dl K) : nxD P true d l nid env ob dl K (opF (.app k) [v, x] ob nid) := by
  obtain ⟨v', us, e, h1, h2⟩ := app_own h hn hx hk hlen
  rw [e]
  exact hK _ _ h1 h2

theorem take_zip {a b : List Int} {p : Int → Int → Int} {i : Nat} (h : i < a.length) (h' : i < b.length) : (List.zipWith p a b).take (i + 1) = (List.zipWith p a b).take i ++ [p (gN a i) (gN b i)] := by
  rw [List.take_add_one, gN_eq h, gN_eq h']; congr 1
  rw [List.getElem?_eq_getElem (by simp; omega)]; simp

/-- The least of right vectors of one length. -/
theorem leastF_yes {n : Nat} : ∀ (l : List (List Int)) (out : List Int), vecE out = 0 → out.length = n → (∀ v ∈ l, vecE v = 0 ∧ v.length = n) →
    ∃ L, leastF out l = (L, 0) ∧ vecE L = 0 ∧ L.length = n ∧ ∀ k, k < n → (gN L k ≤ gN out k ∧ ∀ v ∈ l, gN L k ≤ gN v k) ∧ (gN L k = gN out k ∨ ∃ v ∈ l, gN L k = gN v k)
  | [], out, h1, h2, _ => ⟨out, rfl, h1, h2, fun k hk => ⟨⟨Int.le_refl _, fun v hv => (by simp at hv)⟩, .inl rfl⟩⟩
  | v :: l, out, h1, h2, h3 => by
    have hv := h3 v (by simp)
    have e : eachV min out v = (List.zipWith min out v, 0) := eachV_yes h1 hv.1 (by omega)
    obtain ⟨L, a1, a2, a3, a4⟩ := leastF_yes l (List.zipWith min out v) (vecE_zip min_or h1 hv.1 (by omega)) (by simp; omega) (fun w hw => h3 w (by simp [hw]))
    refine ⟨L, by rw [leastF, e]; simpa using a1, a2, a3, fun k hk => ?_⟩
    obtain ⟨⟨b1, b2⟩, b3⟩ := a4 k hk
    rw [gN_zip (by omega) (by omega)] at b1 b3
    refine ⟨⟨by omega, fun w hw => ?_⟩, ?_⟩
    · rcases List.mem_cons.1 hw with rfl | hw
      · omega
      · exact b2 w hw
    · rcases b3 with b3 | ⟨w, hw, b3⟩
      · rcases min_or (gN out k) (gN v k) with e | e
        · exact .inl (by omega)
        · exact .inr ⟨v, by simp, by omega⟩
      · exact .inr ⟨w, by simp [hw], b3⟩
theorem least_yes {n : Nat} {l : List (List Int)} (h0 : l ≠ []) (h : ∀ v ∈ l, vecE v = 0 ∧ v.length = n) :
    ∃ L, leastV l = (L, 0) ∧ vecE L = 0 ∧ L.length = n ∧ ∀ k, k < n → (∀ v ∈ l, gN L k ≤ gN v k) ∧ ∃ v ∈ l, gN L k = gN v k := by
  have hpos : 0 < l.length := List.length_pos_iff.2 h0
  have hm : gN l 0 ∈ l := by rw [gN_eq hpos]; exact List.getElem_mem _
  obtain ⟨L, a1, a2, a3, a4⟩ := leastF_yes (n := n) l (gN l 0) (h _ hm).1 (h _ hm).2 h
  refine ⟨L, by rw [leastV, if_neg h0, if_neg (by rw [firstE_no fun v hv => (h v hv).1]; simp), a1], a2, a3, fun k hk => ?_⟩
  obtain ⟨⟨b1, b2⟩, b3⟩ := a4 k hk
  refine ⟨b2, ?_⟩
  rcases b3 with b3 | b3
  · exact ⟨_, hm, b3⟩
  · exact b3
theorem list_iff' {α : Type} [Inhabited α] {a b : List α} : a = b ↔ a.length = b.length ∧ ∀ i, i < a.length → gN a i = gN b i :=
  ⟨fun h => by subst h; exact ⟨rfl, fun _ _ => rfl⟩, fun ⟨h1, h2⟩ => List.ext_getElem h1 fun i h3 h4 => by have := h2 i h3; rw [gN_eq h3, gN_eq h4] at this; exact this⟩
theorem matE_mk {m : List (List Int)} (h1 : 1 ≤ m.length ∧ m.length ≤ 5) (h : ∀ i, i < m.length → (gN m i).length = m.length ∧ vecE (gN m i) = 0) : matE m = 0 := by
  have h' : ∀ v ∈ m, v.length = m.length ∧ vecE v = 0 := fun v hv => by
    obtain ⟨i, hi, rfl⟩ := List.getElem_of_mem hv
    have := h i hi; rw [gN_eq hi] at this; exact this
  rw [matE, if_pos ⟨h1.1, h1.2, fun v hv => (h' v hv).1⟩, if_pos fun v hv => (h' v hv).2]
theorem gN_set2 {α : Type} [Inhabited α] {l : List α} {i j : Nat} (h : j ≠ i) (x : α) : gN (l.set i x) j = gN l j := by simp [gN, List.getElem?_set, Ne.symm h]
theorem gN_mem {α : Type} [Inhabited α] {l : List α} {i : Nat} (h : i < l.length) : gN l i ∈ l := by rw [gN_eq h]; exact List.getElem_mem _
theorem gN_rep {α : Type} [Inhabited α] {n i : Nat} {x : α} (h : i < n) : gN (List.replicate n x) i = x := by rw [gN_eq (by simpa using h)]; simp

end Go.Proofs.Ytelgaglbkcacnaa.D
end
section
set_option linter.unusedVariables false
set_option linter.unusedSimpArgs false
set_option maxRecDepth 100000
set_option linter.constructorNameAsVariable false

/- What the reference's functions answer: twins, matrices, vectors. No condition. -/
namespace Go.Proofs.Ytelgaglbkcacnaa.D
open Go Go.Proofs

theorem take_gN {α : Type} [Inhabited α] {l : List α} {i : Nat} (h : i < l.length) : l.take (i + 1) = l.take i ++ [gN l i] := by
  rw [List.take_add_one, gN_at h]; simp
/-- The least, of the reference. -/
theorem leastF_bad {n : Nat} : ∀ (l : List (List Int)) (out : List Int), vecE out = 0 → out.length = n → (∀ v ∈ l, vecE v = 0) → (∃ v ∈ l, v.length ≠ n) → leastF out l = ([], 2)
  | [], out, _, _, _, h => by obtain ⟨v, hv, _⟩ := h; simp at hv
  | v :: l, out, h1, h2, h3, h4 => by
    have hv := h3 v (by simp)
    by_cases e : v.length = n
    · have e : eachV min out v = (List.zipWith min out v, 0) := eachV_yes h1 hv (by omega)
      rw [leastF, e]
      simp only [ne_eq, not_true_eq_false, if_false]
      refine leastF_bad (n := n) l _ (vecE_zip min_or h1 hv (by omega)) (by simp; omega) (fun w hw => h3 w (by simp [hw])) ?_
      obtain ⟨w, hw, hn⟩ := h4
      rcases List.mem_cons.1 hw with rfl | hw
      · exact absurd ‹_› hn
      · exact ⟨w, hw, hn⟩
    · have e : eachV min out v = ([], 2) := by rw [eachV, if_neg (by simpa using h1), if_neg (by simpa using hv), if_pos (by omega)]
      rw [leastF, e]; simp

end Go.Proofs.Ytelgaglbkcacnaa.D
end
section
set_option linter.unusedVariables false
set_option linter.unusedSimpArgs false
set_option maxRecDepth 100000
set_option linter.constructorNameAsVariable false

/- MatRises. No condition. -/
namespace Go.Proofs.Ytelgaglbkcacnaa.D
open Go Go.Proofs

/-- What learning does. -/
theorem learn_all {m : List (List Int)} {h_ : List Int} {p : Nat} {safe : List Int} (h : matE m = 0) (h1 : h_.length = m.length) (h2 : vecE h_ = 0) (h3 : safe.length = m.length) (h4 : vecE safe = 0) (h5 : p < m.length) :
    ∃ x ok, learnV m h_ (p : Int) safe = (x, ok, 0) ∧ learnV x h_ (p : Int) safe = (x, ok, 0) ∧ ok = decide (gN safe p ≤ gN h_ p) ∧ x.length = m.length ∧ matE x = 0 ∧ (∀ k, k < m.length → leB (gN m k) (gN x k) = true) ∧ (∀ k, k < m.length → k ≠ p → gN m k = gN x k) ∧ (ok = true → leB safe (gN x p) = true) := by
  have hm := matE_at h
  have hr : ∀ k, k < m.length → (gN m k).length = m.length ∧ vecE (gN m k) = 0 := fun k hk => hm.2 _ (gN_mem hk)
  by_cases h6 : gN safe p ≤ gN h_ p
  · have hp := hr p h5
    have hz : ∀ k, k < m.length → gN (List.zipWith max (gN m p) safe) k = max (gN (gN m p) k) (gN safe k) := fun k hk => gN_zip (by omega) (by omega)
    have hzl : (List.zipWith max (gN m p) safe).length = m.length := by simp; omega
    have hE : matE (m.set p (List.zipWith max (gN m p) safe)) = 0 := by
      refine matE_mk (by simpa using hm.1) fun i hi => ?_
      simp at hi
      by_cases hip : i = p
      · subst hip; rw [gN_set hi]; exact ⟨by simpa using hzl, vecE_zip max_or hp.2 h4 (by omega)⟩
      · rw [gN_set2 hip]; simpa using hr i hi
    refine ⟨m.set p (List.zipWith max (gN m p) safe), true, learn_yes h h1 h2 h3 h4 h5 h6, ?_, by simp [h6], by simp, hE, fun k hk => ?_, fun k hk hkp => by rw [gN_set2 hkp], fun _ => ?_⟩
    · rw [learn_yes hE (by simpa using h1) h2 (by simpa using h3) h4 (by simpa using h5) h6, gN_set h5, List.set_set]
      have : List.zipWith max (List.zipWith max (gN m p) safe) safe = List.zipWith max (gN m p) safe := list_iff'.2 ⟨by simp <;> omega, fun k hk => by
        simp at hk; rw [gN_zip (by simp; omega) (by omega), gN_zip (by omega) (by omega)]; omega⟩
      rw [this]
    · by_cases hkp : k = p
      · subst hkp; rw [gN_set h5]; exact leB_iff.2 ⟨by omega, fun i hi => by rw [hz i (by omega)]; omega⟩
      · rw [gN_set2 hkp]; exact leB_iff.2 ⟨rfl, fun _ _ => Int.le_refl _⟩
    · rw [gN_set h5]; exact leB_iff.2 ⟨by omega, fun i hi => by rw [hz i (by omega)]; omega⟩
  · have e := learn_no h h1 h2 h3 h4 h5 (by omega)
    exact ⟨m, false, e, e, by simp; omega, rfl, h, fun k hk => leB_iff.2 ⟨rfl, fun _ _ => Int.le_refl _⟩, fun _ _ _ => rfl, fun h => by cases h⟩

theorem front_yes {m : List (List Int)} (h : matE m = 0) : ∃ L, frontV m = (L, 0) ∧ vecE L = 0 ∧ L.length = m.length ∧ ∀ k, k < m.length → (∀ j, j < m.length → gN L k ≤ gN (gN m j) k) ∧ ∃ j, j < m.length ∧ gN L k = gN (gN m j) k := by
  have hm := matE_at h
  obtain ⟨L, a1, a2, a3, a4⟩ := least_yes (n := m.length) (l := m) (by intro e; rw [e] at hm; simp at hm) fun v hv => ⟨(hm.2 v hv).2, (hm.2 v hv).1⟩
  refine ⟨L, by rw [frontV, if_neg (by simpa using h), a1], a2, a3, fun k hk => ?_⟩
  obtain ⟨b1, v, hv, b2⟩ := a4 k hk
  refine ⟨fun j hj => b1 _ (gN_mem hj), ?_⟩
  obtain ⟨j, hj, rfl⟩ := List.getElem_of_mem hv
  exact ⟨j, hj, by rw [b2, gN_eq hj]⟩

end Go.Proofs.Ytelgaglbkcacnaa.D
end
section
set_option linter.unusedVariables false
set_option linter.unusedSimpArgs false
set_option maxRecDepth 100000
set_option linter.constructorNameAsVariable false

/- MatExact. No condition. -/
namespace Go.Proofs.Ytelgaglbkcacnaa.D
open Go Go.Proofs

theorem heavy_no {l : List (List Int)} (h : heavyB l = false) : l.length ≤ 30 ∧ ∀ v ∈ l, v.length ≤ 30 := by
  simp only [heavyB, decide_eq_false_iff_not] at h
  refine ⟨by omega, fun v hv => ?_⟩
  rcases Nat.lt_or_ge 30 v.length with h2 | h2
  · exact absurd (.inr ⟨v, hv, h2⟩) h
  · exact h2

end Go.Proofs.Ytelgaglbkcacnaa.D
end
section
set_option linter.unusedVariables false
set_option linter.unusedSimpArgs false
set_option maxRecDepth 100000
set_option linter.constructorNameAsVariable false

/- Comparing dots; spoiling; DotExact. No condition. -/
namespace Go.Proofs.Ytelgaglbkcacnaa.D
open Go Go.Proofs

def cmpI (x y : Int) : Int := if x < y then -1 else if y < x then 1 else 0
theorem isNaN_ok (x : Int) : FnB Try.prog 24 [vi x] (vb false) := by
  refine fnB_intro cf24 (by simp) ?_
  simp (config := {contextual := true, maxSteps := 1000000}) only [go_sem, ints, intRows, iv_c, Nat.reduceAdd, Nat.reduceBEq, Nat.reduceEqDiff, Nat.reduceLeDiff, Nat.reduceLT, reduceIte, Nat.le_refl, true_or, or_true, and_self, Int.reduceLE, Int.reduceLT, Int.reduceEq, Int.reduceNeg, Int.natCast_nonneg, Int.reduceToNat, c24]
theorem cmpI_ok (x y : Int) : FnB Try.prog 21 [vi x, vi y] (vi (cmpI x y)) := by
  refine fnB_intro cf21 (by simp) ?_
  simp (config := {contextual := true, maxSteps := 1000000}) only [go_sem, ints, intRows, iv_c, Nat.reduceAdd, Nat.reduceBEq, Nat.reduceEqDiff, Nat.reduceLeDiff, Nat.reduceLT, reduceIte, Nat.le_refl, true_or, or_true, and_self, Int.reduceLE, Int.reduceLT, Int.reduceEq, Int.reduceNeg, Int.natCast_nonneg, Int.reduceToNat, c21]
  first | refine caS_i (isNaN_ok x) trivial ?_ | refine caD_i (isNaN_ok x) trivial ?_ | refine gC_i (fun _ => isNaN_ok x) trivial ?_ | refine gCD_i (fun _ => isNaN_ok x) trivial ?_ | refine caE_i (isNaN_ok x) trivial ?_
  simp (config := {contextual := true, maxSteps := 1000000}) only [go_sem, ints, intRows, iv_c, Nat.reduceAdd, Nat.reduceBEq, Nat.reduceEqDiff, Nat.reduceLeDiff, Nat.reduceLT, reduceIte, Nat.le_refl, true_or, or_true, and_self, Int.reduceLE, Int.reduceLT, Int.reduceEq, Int.reduceNeg, Int.natCast_nonneg, Int.reduceToNat]
  first | refine caS_i (isNaN_ok y) trivial ?_ | refine caD_i (isNaN_ok y) trivial ?_ | refine gC_i (fun _ => isNaN_ok y) trivial ?_ | refine gCD_i (fun _ => isNaN_ok y) trivial ?_ | refine caE_i (isNaN_ok y) trivial ?_
  simp (config := {contextual := true, maxSteps := 1000000}) only [go_sem, ints, intRows, iv_c, Nat.reduceAdd, Nat.reduceBEq, Nat.reduceEqDiff, Nat.reduceLeDiff, Nat.reduceLT, reduceIte, Nat.le_refl, true_or, or_true, and_self, Int.reduceLE, Int.reduceLT, Int.reduceEq, Int.reduceNeg, Int.natCast_nonneg, Int.reduceToNat]
  refine ⟨fun h => ?_, fun h => ⟨fun h2 => ?_, fun h2 => ?_⟩⟩ <;> simp at *
  · rw [cmpI, if_pos h]
  · rw [cmpI, if_neg (by omega), if_pos h2]
  · rw [cmpI, if_neg (by omega), if_neg (by omega)]
def orV : List Int → Int
  | [] => 0
  | x :: l => if x ≠ 0 then x else orV l
theorem cmpOr_ok {fl : Fl} (l : List Int) (hl : l.length ≤ maxLen) : FnB Try.prog 20 [ints fl l] (vi (orV l)) := by
  unfold maxLen at hl
  refine fnB_intro cf20 (by simp) ?_
  simp (config := {contextual := true, maxSteps := 1000000}) only [go_sem, ints, intRows, iv_c, Nat.reduceAdd, Nat.reduceBEq, Nat.reduceEqDiff, Nat.reduceLeDiff, Nat.reduceLT, reduceIte, Nat.le_refl, true_or, or_true, and_self, Int.reduceLE, Int.reduceLT, Int.reduceEq, Int.reduceNeg, Int.natCast_nonneg, Int.reduceToNat, c20]
  refine wpC_lp (fun env ob n' => env 3 = vi 0 ∧ env 6 = ints fl l ∧ env 7 = vi l.length ∧ ∃ i : Nat, env 8 = vi i ∧ i ≤ l.length ∧ orV l = orV (l.drop i)) (fun env ob _ => (l.length - iv (env 8)).toNat) ?_ ?_
  · simp (config := {contextual := true, maxSteps := 1000000}) only [go_sem, ints, intRows, iv_c, Nat.reduceAdd, Nat.reduceBEq, Nat.reduceEqDiff, Nat.reduceLeDiff, Nat.reduceLT, reduceIte, Nat.le_refl, true_or, or_true, and_self, Int.reduceLE, Int.reduceLT, Int.reduceEq, Int.reduceNeg, Int.natCast_nonneg, Int.reduceToNat]
    exact ⟨0, rfl, by omega, by simp⟩
  rintro env ob n' ⟨h3, h6, h7, i, h8, hi, he⟩
  simp (config := {contextual := true, maxSteps := 1000000}) only [go_sem, ints, intRows, iv_c, Nat.reduceAdd, Nat.reduceBEq, Nat.reduceEqDiff, Nat.reduceLeDiff, Nat.reduceLT, reduceIte, Nat.le_refl, true_or, or_true, and_self, Int.reduceLE, Int.reduceLT, Int.reduceEq, Int.reduceNeg, Int.natCast_nonneg, Int.reduceToNat, h3, h6, h7, h8]
  refine ⟨fun hlt => ?_, fun hge => ?_⟩
  · simp at hlt
    rw [drop_gN hlt, orV] at he
    refine ⟨by omega, fun hb => ?_, fun hg => ⟨⟨i + 1, ?_, by omega, ?_⟩, ?_⟩⟩
    · simp at hb; rw [if_pos hb] at he; rw [he]
    · rw [w64 (by omega)]; simp
    · simp at hg; rw [if_neg (by simpa using hg)] at he; exact he
    · rw [w64 (by omega)]; omega
  · simp at hge
    rw [List.drop_eq_nil_of_le (by omega), orV] at he
    rw [he]
def cmpD (a b : Dt) : Int := orV [cmpI a.p b.p, cmpI a.n b.n]
def lessD (a b : Dt) : Bool := decide (a.p < b.p ∨ a.p = b.p ∧ a.n < b.n)
theorem cmpD_less (a b : Dt) : decide (cmpD a b < 0) = lessD a b := by
  unfold cmpD lessD orV orV orV cmpI
  rw [decide_eq_decide]
  repeat' split
  all_goals first | omega | simp_all | skip
theorem leastF_len : ∀ (l : List (List Int)) (out : List Int), vecE out = 0 → (leastF out l).1.length ≤ 5
  | [], out, h => by have := vecE_range _ h; simpa [leastF] using this.2.1
  | v :: l, out, h => by
    rw [leastF]
    split
    · simp
    · rename_i h1
      have h1 : (eachV min out v).2 = 0 := by simpa using h1
      have h2 := (@eachV_len min out v).1 h1
      refine leastF_len l _ ?_
      have h3 : vecE v = 0 ∧ out.length = v.length := by
        unfold eachV at h1
        split at h1
        · exact absurd h ‹_›
        · split at h1
          · exact absurd h1 ‹_›
          · rename_i h4; split at h1
            · cases h1
            · rename_i h5; exact ⟨by simpa using h4, by omega⟩
      rw [eachV_yes h h3.1 h3.2]
      exact vecE_zip min_or h h3.1 h3.2
theorem least_len (l : List (List Int)) : (leastV l).1.length ≤ 5 := by
  unfold leastV
  split
  · simp
  · split
    · simp
    · rename_i h1 h2
      refine leastF_len l _ ?_
      cases l with
      | nil => exact absurd rfl h1
      | cons v l =>
        have h2 : firstE (v :: l) = 0 := by simpa using h2
        simp only [firstE] at h2
        simp only [gN, List.getElem?_cons_zero, Option.getD_some]
        split at h2
        · exact h2
        · rename_i h3; simpa using h3
theorem gi {n : Int} (h : gInt .i64 n) : inI n := by simp [gInt, Lit.wf, IntKind.min, IntKind.max, IntKind.signed, IntKind.bits] at h; unfold inI; omega

end Go.Proofs.Ytelgaglbkcacnaa.D
end
section
set_option linter.unusedVariables false
set_option linter.unusedSimpArgs false
set_option maxRecDepth 100000
set_option linter.constructorNameAsVariable false

/- Operations as plain values; what functions of slices answer to them. No condition. -/
namespace Go.Proofs.Ytelgaglbkcacnaa.D
open Go Go.Proofs

structure Vl where
  k : Int
  i : Int
  s : ByteArray
instance : Inhabited Vl := ⟨⟨0, 0, ⟨#[]⟩⟩⟩
def vlV (v : Vl) : List V := [vi v.k, vi v.i, .c (.string v.s)]
structure St3 where
  p : Int
  l : Int
  q : Int
instance : Inhabited St3 := ⟨⟨0, 0, 0⟩⟩
def stV (s : St3) : List V := [vi s.p, vi s.l, vi s.q]
structure Opx where
  dot : Dt
  deps : List Int
  st : St3
  kind : Int
  table : Int
  key : ByteArray
  col : Int
  vals : List Vl
  dots : List Dt
instance : Inhabited Opx := ⟨⟨default, [], default, 0, 0, ⟨#[]⟩, 0, [], []⟩⟩
def vals (f : Fl) (l : List Vl) : V := .im f (l.map vlV)
def dots (f : Fl) (l : List Dt) : V := .im f (l.map dotV)
def opV (x : Opx) : List V := [vi x.dot.p, vi x.dot.n, ints .b x.deps, vi x.st.p, vi x.st.l, vi x.st.q, vi x.kind, vi x.table, .c (.string x.key), vi x.col, vals .b x.vals, dots .b x.dots]
def ops (f : Fl) (l : List Opx) : V := .im f (l.map opV)

@[go_sem] theorem opV_d1 (x : Opx) : (opV x).drop 1 = [vi x.dot.n, ints .b x.deps, vi x.st.p, vi x.st.l, vi x.st.q, vi x.kind, vi x.table, .c (.string x.key), vi x.col, vals .b x.vals, dots .b x.dots] := (rfl)
@[go_sem] theorem opV_d2 (x : Opx) : (opV x).drop 2 = [ints .b x.deps, vi x.st.p, vi x.st.l, vi x.st.q, vi x.kind, vi x.table, .c (.string x.key), vi x.col, vals .b x.vals, dots .b x.dots] := (rfl)
@[go_sem] theorem opV_d3 (x : Opx) : (opV x).drop 3 = [vi x.st.p, vi x.st.l, vi x.st.q, vi x.kind, vi x.table, .c (.string x.key), vi x.col, vals .b x.vals, dots .b x.dots] := (rfl)
@[go_sem] theorem opV_d4 (x : Opx) : (opV x).drop 4 = [vi x.st.l, vi x.st.q, vi x.kind, vi x.table, .c (.string x.key), vi x.col, vals .b x.vals, dots .b x.dots] := (rfl)
@[go_sem] theorem opV_d5 (x : Opx) : (opV x).drop 5 = [vi x.st.q, vi x.kind, vi x.table, .c (.string x.key), vi x.col, vals .b x.vals, dots .b x.dots] := (rfl)
@[go_sem] theorem opV_d6 (x : Opx) : (opV x).drop 6 = [vi x.kind, vi x.table, .c (.string x.key), vi x.col, vals .b x.vals, dots .b x.dots] := (rfl)
@[go_sem] theorem opV_d7 (x : Opx) : (opV x).drop 7 = [vi x.table, .c (.string x.key), vi x.col, vals .b x.vals, dots .b x.dots] := (rfl)
@[go_sem] theorem opV_d8 (x : Opx) : (opV x).drop 8 = [.c (.string x.key), vi x.col, vals .b x.vals, dots .b x.dots] := (rfl)
@[go_sem] theorem opV_d9 (x : Opx) : (opV x).drop 9 = [vi x.col, vals .b x.vals, dots .b x.dots] := (rfl)
@[go_sem] theorem opV_d10 (x : Opx) : (opV x).drop 10 = [vals .b x.vals, dots .b x.dots] := (rfl)
@[go_sem] theorem opV_d11 (x : Opx) : (opV x).drop 11 = [dots .b x.dots] := (rfl)
@[go_sem] theorem opV_t1 (x : Opx) : (opV x).take 1 = [vi x.dot.p] := (rfl)
@[go_sem] theorem opV_t2 (x : Opx) : (opV x).take 2 = [vi x.dot.p, vi x.dot.n] := (rfl)
@[go_sem] theorem opV_t3 (x : Opx) : (opV x).take 3 = [vi x.dot.p, vi x.dot.n, ints .b x.deps] := (rfl)
@[go_sem] theorem opV_t4 (x : Opx) : (opV x).take 4 = [vi x.dot.p, vi x.dot.n, ints .b x.deps, vi x.st.p] := (rfl)
@[go_sem] theorem opV_t5 (x : Opx) : (opV x).take 5 = [vi x.dot.p, vi x.dot.n, ints .b x.deps, vi x.st.p, vi x.st.l] := (rfl)
@[go_sem] theorem opV_t6 (x : Opx) : (opV x).take 6 = [vi x.dot.p, vi x.dot.n, ints .b x.deps, vi x.st.p, vi x.st.l, vi x.st.q] := (rfl)
@[go_sem] theorem opV_t7 (x : Opx) : (opV x).take 7 = [vi x.dot.p, vi x.dot.n, ints .b x.deps, vi x.st.p, vi x.st.l, vi x.st.q, vi x.kind] := (rfl)
@[go_sem] theorem opV_t8 (x : Opx) : (opV x).take 8 = [vi x.dot.p, vi x.dot.n, ints .b x.deps, vi x.st.p, vi x.st.l, vi x.st.q, vi x.kind, vi x.table] := (rfl)
@[go_sem] theorem opV_t9 (x : Opx) : (opV x).take 9 = [vi x.dot.p, vi x.dot.n, ints .b x.deps, vi x.st.p, vi x.st.l, vi x.st.q, vi x.kind, vi x.table, .c (.string x.key)] := (rfl)
@[go_sem] theorem opV_t10 (x : Opx) : (opV x).take 10 = [vi x.dot.p, vi x.dot.n, ints .b x.deps, vi x.st.p, vi x.st.l, vi x.st.q, vi x.kind, vi x.table, .c (.string x.key), vi x.col] := (rfl)
@[go_sem] theorem opV_t11 (x : Opx) : (opV x).take 11 = [vi x.dot.p, vi x.dot.n, ints .b x.deps, vi x.st.p, vi x.st.l, vi x.st.q, vi x.kind, vi x.table, .c (.string x.key), vi x.col, vals .b x.vals] := (rfl)
@[go_sem] theorem opV_t12 (x : Opx) : (opV x).take 12 = opV x := (rfl)
@[go_sem] theorem opV_d12 (x : Opx) : (opV x).drop 12 = [] := (rfl)
@[go_sem] theorem opV_len (x : Opx) : (opV x).length = 12 := (rfl)
@[go_sem] theorem opV_leaf (x : Opx) : (opV x).all leaf = true := (rfl)
@[go_sem] theorem opV_row (x : Opx) : okRow 12 (opV x) = true := (rfl)
@[go_sem] theorem vlV_row (x : Vl) : okRow 3 (vlV x) = true := (rfl)
@[go_sem] theorem dotV_row (x : Dt) : okRow 2 (dotV x) = true := (rfl)
@[go_sem] theorem res_vl (ob : OB) (n : Nat) (x : Vl) : (vlV x).map (resV ob (n + 1)) = vlV x := (rfl)
@[go_sem] theorem res_dt (ob : OB) (n : Nat) (x : Dt) : (dotV x).map (resV ob (n + 1)) = dotV x := (rfl)
@[go_sem] theorem g_vl (ob : OB) (n : Nat) (x : Vl) : (vlV x).map (gV ob (n + 1)) = vlV x := (rfl)
@[go_sem] theorem g_dt (ob : OB) (n : Nat) (x : Dt) : (dotV x).map (gV ob (n + 1)) = dotV x := (rfl)
@[go_sem] theorem g_op (ob : OB) (n : Nat) (x : Opx) : (opV x).map (gV ob (n + 3)) = opV x := by
  simp [opV, gV, ints, vals, dots, vlV, dotV, Function.comp_def]
@[go_sem] theorem res_op (ob : OB) (n : Nat) (x : Opx) : (opV x).map (resV ob (n + 3)) = opV x := by
  simp [opV, resV, ints, vals, dots, resFl, vlV, dotV, Function.comp_def]

theorem allVals (l : List Vl) : (l.map vlV).all (okRow 3) = true := all_map _ _ (fun _ => rfl) l
theorem allDots (l : List Dt) : (l.map dotV).all (okRow 2) = true := all_map _ _ (fun _ => rfl) l
theorem allOps (l : List Opx) : (l.map opV).all (okRow 12) = true := all_map _ _ (fun _ => rfl) l
theorem gVals (ob' : OB) (l : List Vl) : ∀ r ∈ l.map vlV, r.map (gV ob' 6) = r := g_map _ (fun _ _ => rfl) ob' l
theorem gDots (ob' : OB) (l : List Dt) : ∀ r ∈ l.map dotV, r.map (gV ob' 6) = r := g_map _ (fun _ _ => rfl) ob' l
theorem gOps (ob' : OB) (l : List Opx) : ∀ r ∈ l.map opV, r.map (gV ob' 6) = r := g_map _ (fun ob' a => g_op ob' 3 a) ob' l

theorem bsl_row {k : Nat} {z l : List V} (ob : OB) (i : Nat) (hz : z.length = k) (h : okRow k l = true) : fill z [(0, k)] [.ag l] = some l ∧ l.take k = l := by
  simp only [okRow, Bool.and_eq_true, beq_iff_eq] at h
  obtain ⟨h1, h2⟩ := h
  refine ⟨?_, by simp [← h1]⟩
  simp only [fill, cellsV, Nat.zero_add]
  rw [if_pos ⟨h1, by simp [hz], h2⟩]
  simp [hz]
theorem op_bsl_r {k : Nat} {z l : List V} (ob : OB) (i : Nat) (hz : z.length = k) (h : okRow k l = true) : opF (.bsl k z [0] 1 true) [.ag l] ob i = some (.im .b [l], []) := by
  obtain ⟨h1, h2⟩ := bsl_row ob i hz h
  simp [opF, h1, h2, h]
theorem op_bsl_o {k : Nat} {z l : List V} (ob : OB) (i : Nat) (hz : z.length = k) (h : okRow k l = true) : opF (.bsl k z [0] 1 false) [.ag l] ob i = some (.sl i 0 1, [(i, some ⟨k, [l], none⟩)]) := by
  obtain ⟨h1, h2⟩ := bsl_row ob i hz h
  simp [opF, h1, h2, h]
end Go.Proofs.Ytelgaglbkcacnaa.D
end
section
set_option linter.unusedVariables false
set_option linter.unusedSimpArgs false
set_option maxRecDepth 100000
set_option linter.constructorNameAsVariable false

/- Times. No condition. -/
namespace Go.Proofs.Ytelgaglbkcacnaa.D
open Go Go.Proofs

theorem hIn_ok (n m : Int) : FnB Try.prog 19 [vi n, vi m] (vb (decide (0 ≤ n ∧ n ≤ m))) := by
  refine fnB_intro cf19 (by simp) ?_
  simp (config := {contextual := true, maxSteps := 1000000}) only [go_sem, ints, intRows, iv_c, Nat.reduceAdd, Nat.reduceBEq, Nat.reduceEqDiff, Nat.reduceLeDiff, Nat.reduceLT, reduceIte, Nat.le_refl, true_or, or_true, and_self, Int.reduceLE, Int.reduceLT, Int.reduceEq, Int.reduceNeg, Int.natCast_nonneg, Int.reduceToNat, ops, vals, dots, c19]
  rw [← Bool.decide_and]
@[go_sem] theorem stV_t3 (x : St3) : (stV x).take 3 = stV x := (rfl)
@[go_sem] theorem stV_t1 (x : St3) : (stV x).take 1 = [vi x.p] := (rfl)
@[go_sem] theorem stV_d1 (x : St3) : (stV x).drop 1 = [vi x.l, vi x.q] := (rfl)
@[go_sem] theorem stV_d2 (x : St3) : (stV x).drop 2 = [vi x.q] := (rfl)
@[go_sem] theorem stV_leaf (x : St3) : (stV x).all leaf = true := (rfl)
@[go_sem] theorem stV_len (x : St3) : (stV x).length = 3 := (rfl)
@[go_sem] theorem stV_row (x : St3) : okRow 3 (stV x) = true := (rfl)
@[go_sem] theorem res_st (ob : OB) (n : Nat) (x : St3) : (stV x).map (resV ob (n + 1)) = stV x := (rfl)
@[go_sem] theorem frz1_st (x : St3) : frz1 (.ag (stV x)) = .ag (stV x) := (rfl)
@[go_sem] theorem flat_st (x : St3) : flatV (.ag (stV x)) = true := (rfl)
@[go_sem] theorem g_st (ob : OB) (n : Nat) (x : St3) : (stV x).map (gV ob (n + 1)) = stV x := (rfl)
@[go_sem] theorem op_bsl_st (z : List V) (x : St3) (ob : OB) (i : Nat) (hz : (z.length == 3) = true) : opF (.bsl 3 z [0] 1 true) [.ag (stV x)] ob i = some (.im .b [stV x], []) := op_bsl_r ob i (by simpa using hz) (stV_row x)
def okS (s : St3) : Bool := decide (0 ≤ s.p ∧ s.p ≤ 1099511627776) && decide (0 ≤ s.l ∧ s.l ≤ 65536) && decide (0 ≤ s.q ∧ s.q ≤ 4)
def hlcE (s : St3) : Int := if okS s then 0 else 1
theorem hCheck_ok (s : St3) : FnB Try.prog 14 [.ag (stV s)] (vi (hlcE s)) := by
  refine fnB_intro cf14 (by simp) ?_
  simp (config := {contextual := true, maxSteps := 1000000}) only [go_sem, ints, intRows, iv_c, Nat.reduceAdd, Nat.reduceBEq, Nat.reduceEqDiff, Nat.reduceLeDiff, Nat.reduceLT, reduceIte, Nat.le_refl, true_or, or_true, and_self, Int.reduceLE, Int.reduceLT, Int.reduceEq, Int.reduceNeg, Int.natCast_nonneg, Int.reduceToNat, ops, vals, dots, c14, stV]
  first | refine caS_i (hIn_ok s.p 1099511627776) trivial ?_ | refine caD_i (hIn_ok s.p 1099511627776) trivial ?_ | refine gC_i (fun _ => hIn_ok s.p 1099511627776) trivial ?_ | refine gCD_i (fun _ => hIn_ok s.p 1099511627776) trivial ?_ | refine caE_i (hIn_ok s.p 1099511627776) trivial ?_
  simp (config := {contextual := true, maxSteps := 1000000}) only [go_sem, ints, intRows, iv_c, Nat.reduceAdd, Nat.reduceBEq, Nat.reduceEqDiff, Nat.reduceLeDiff, Nat.reduceLT, reduceIte, Nat.le_refl, true_or, or_true, and_self, Int.reduceLE, Int.reduceLT, Int.reduceEq, Int.reduceNeg, Int.natCast_nonneg, Int.reduceToNat, ops, vals, dots]
  first | refine caS_i (hIn_ok s.l 65536) trivial ?_ | refine caD_i (hIn_ok s.l 65536) trivial ?_ | refine gC_i (fun _ => hIn_ok s.l 65536) trivial ?_ | refine gCD_i (fun _ => hIn_ok s.l 65536) trivial ?_ | refine caE_i (hIn_ok s.l 65536) trivial ?_
  simp (config := {contextual := true, maxSteps := 1000000}) only [go_sem, ints, intRows, iv_c, Nat.reduceAdd, Nat.reduceBEq, Nat.reduceEqDiff, Nat.reduceLeDiff, Nat.reduceLT, reduceIte, Nat.le_refl, true_or, or_true, and_self, Int.reduceLE, Int.reduceLT, Int.reduceEq, Int.reduceNeg, Int.natCast_nonneg, Int.reduceToNat, ops, vals, dots]
  first | refine caS_i (hIn_ok s.q 4) trivial ?_ | refine caD_i (hIn_ok s.q 4) trivial ?_ | refine gC_i (fun _ => hIn_ok s.q 4) trivial ?_ | refine gCD_i (fun _ => hIn_ok s.q 4) trivial ?_ | refine caE_i (hIn_ok s.q 4) trivial ?_
  simp (config := {contextual := true, maxSteps := 1000000}) only [go_sem, ints, intRows, iv_c, Nat.reduceAdd, Nat.reduceBEq, Nat.reduceEqDiff, Nat.reduceLeDiff, Nat.reduceLT, reduceIte, Nat.le_refl, true_or, or_true, and_self, Int.reduceLE, Int.reduceLT, Int.reduceEq, Int.reduceNeg, Int.natCast_nonneg, Int.reduceToNat, ops, vals, dots]
  exact ⟨fun h => by rw [hlcE, okS, h]; rfl, fun h => by rw [hlcE, okS, h]; rfl⟩
def cmpT (a b : St3) : Int := orV [cmpI a.p b.p, cmpI a.l b.l, cmpI a.q b.q]
theorem cmpT_ok (a b : St3) : FnB Try.prog 10 [.ag (stV a), .ag (stV b)] (vi (cmpT a b)) := by
  refine fnB_intro cf10 (by simp) ?_
  simp (config := {contextual := true, maxSteps := 1000000}) only [go_sem, ints, intRows, iv_c, Nat.reduceAdd, Nat.reduceBEq, Nat.reduceEqDiff, Nat.reduceLeDiff, Nat.reduceLT, reduceIte, Nat.le_refl, true_or, or_true, and_self, Int.reduceLE, Int.reduceLT, Int.reduceEq, Int.reduceNeg, Int.natCast_nonneg, Int.reduceToNat, ops, vals, dots, c10, stV]
  first | refine caS_i (cmpI_ok a.p b.p) trivial ?_ | refine caD_i (cmpI_ok a.p b.p) trivial ?_ | refine gC_i (fun _ => cmpI_ok a.p b.p) trivial ?_ | refine gCD_i (fun _ => cmpI_ok a.p b.p) trivial ?_ | refine caE_i (cmpI_ok a.p b.p) trivial ?_
  simp (config := {contextual := true, maxSteps := 1000000}) only [go_sem, ints, intRows, iv_c, Nat.reduceAdd, Nat.reduceBEq, Nat.reduceEqDiff, Nat.reduceLeDiff, Nat.reduceLT, reduceIte, Nat.le_refl, true_or, or_true, and_self, Int.reduceLE, Int.reduceLT, Int.reduceEq, Int.reduceNeg, Int.natCast_nonneg, Int.reduceToNat, ops, vals, dots]
  first | refine caS_i (cmpI_ok a.l b.l) trivial ?_ | refine caD_i (cmpI_ok a.l b.l) trivial ?_ | refine gC_i (fun _ => cmpI_ok a.l b.l) trivial ?_ | refine gCD_i (fun _ => cmpI_ok a.l b.l) trivial ?_ | refine caE_i (cmpI_ok a.l b.l) trivial ?_
  simp (config := {contextual := true, maxSteps := 1000000}) only [go_sem, ints, intRows, iv_c, Nat.reduceAdd, Nat.reduceBEq, Nat.reduceEqDiff, Nat.reduceLeDiff, Nat.reduceLT, reduceIte, Nat.le_refl, true_or, or_true, and_self, Int.reduceLE, Int.reduceLT, Int.reduceEq, Int.reduceNeg, Int.natCast_nonneg, Int.reduceToNat, ops, vals, dots]
  first | refine caS_i (cmpI_ok a.q b.q) trivial ?_ | refine caD_i (cmpI_ok a.q b.q) trivial ?_ | refine gC_i (fun _ => cmpI_ok a.q b.q) trivial ?_ | refine gCD_i (fun _ => cmpI_ok a.q b.q) trivial ?_ | refine caE_i (cmpI_ok a.q b.q) trivial ?_
  simp (config := {contextual := true, maxSteps := 1000000}) only [go_sem, ints, intRows, iv_c, Nat.reduceAdd, Nat.reduceBEq, Nat.reduceEqDiff, Nat.reduceLeDiff, Nat.reduceLT, reduceIte, Nat.le_refl, true_or, or_true, and_self, Int.reduceLE, Int.reduceLT, Int.reduceEq, Int.reduceNeg, Int.natCast_nonneg, Int.reduceToNat, ops, vals, dots]
  first | refine caS_i (cmpOr_ok [cmpI a.p b.p, cmpI a.l b.l, cmpI a.q b.q] (by simp [maxLen])) trivial ?_ | refine caD_i (cmpOr_ok [cmpI a.p b.p, cmpI a.l b.l, cmpI a.q b.q] (by simp [maxLen])) trivial ?_ | refine gC_i (fun _ => cmpOr_ok [cmpI a.p b.p, cmpI a.l b.l, cmpI a.q b.q] (by simp [maxLen])) trivial ?_ | refine gCD_i (fun _ => cmpOr_ok [cmpI a.p b.p, cmpI a.l b.l, cmpI a.q b.q] (by simp [maxLen])) trivial ?_ | refine caE_i (cmpOr_ok [cmpI a.p b.p, cmpI a.l b.l, cmpI a.q b.q] (by simp [maxLen])) trivial ?_
  simp (config := {contextual := true, maxSteps := 1000000}) only [go_sem, ints, intRows, iv_c, Nat.reduceAdd, Nat.reduceBEq, Nat.reduceEqDiff, Nat.reduceLeDiff, Nat.reduceLT, reduceIte, Nat.le_refl, true_or, or_true, and_self, Int.reduceLE, Int.reduceLT, Int.reduceEq, Int.reduceNeg, Int.natCast_nonneg, Int.reduceToNat, ops, vals, dots, cmpT]
def laterT (a b : St3) : St3 := if cmpT a b < 0 then b else a
theorem later_ok (a b : St3) : FnB Try.prog 17 [.ag (stV a), .ag (stV b)] (.ag (stV (laterT a b))) := by
  refine fnB_intro cf17 (by simp) ?_
  simp (config := {contextual := true, maxSteps := 1000000}) only [go_sem, ints, intRows, iv_c, Nat.reduceAdd, Nat.reduceBEq, Nat.reduceEqDiff, Nat.reduceLeDiff, Nat.reduceLT, reduceIte, Nat.le_refl, true_or, or_true, and_self, Int.reduceLE, Int.reduceLT, Int.reduceEq, Int.reduceNeg, Int.natCast_nonneg, Int.reduceToNat, ops, vals, dots, c17]
  first | refine caS_i (cmpT_ok a b) trivial ?_ | refine caD_i (cmpT_ok a b) trivial ?_ | refine gC_i (fun _ => cmpT_ok a b) trivial ?_ | refine gCD_i (fun _ => cmpT_ok a b) trivial ?_ | refine caE_i (cmpT_ok a b) trivial ?_
  simp (config := {contextual := true, maxSteps := 1000000}) only [go_sem, ints, intRows, iv_c, Nat.reduceAdd, Nat.reduceBEq, Nat.reduceEqDiff, Nat.reduceLeDiff, Nat.reduceLT, reduceIte, Nat.le_refl, true_or, or_true, and_self, Int.reduceLE, Int.reduceLT, Int.reduceEq, Int.reduceNeg, Int.natCast_nonneg, Int.reduceToNat, ops, vals, dots]
  refine ⟨fun h => ?_, fun h => ?_⟩
  · simp at h; rw [laterT, if_pos h]
  · simp at h; rw [laterT, if_neg (by omega)]
def nextT (s : St3) (wall q : Int) : St3 × Int :=
  if hlcE s ≠ 0 ∨ ¬ (0 ≤ wall ∧ wall ≤ 1099511627776) ∨ ¬ (0 ≤ q ∧ q ≤ 4) then (⟨0, 0, 0⟩, 1)
  else if s.p < wall then (⟨wall, 0, q⟩, 0)
  else if 65536 ≤ s.l then (⟨0, 0, 0⟩, 12) else (⟨s.p, s.l + 1, q⟩, 0)
theorem next_ok (s : St3) (wall q : Int) : FnB Try.prog 9 [.ag (stV s), vi wall, vi q] (.tp [.ag (stV (nextT s wall q).1), vi (nextT s wall q).2]) := by
  refine fnB_intro cf9 (by simp) ?_
  simp (config := {contextual := true, maxSteps := 1000000}) only [go_sem, ints, intRows, iv_c, Nat.reduceAdd, Nat.reduceBEq, Nat.reduceEqDiff, Nat.reduceLeDiff, Nat.reduceLT, reduceIte, Nat.le_refl, true_or, or_true, and_self, Int.reduceLE, Int.reduceLT, Int.reduceEq, Int.reduceNeg, Int.natCast_nonneg, Int.reduceToNat, ops, vals, dots, c9]
  first | refine caS_i (hCheck_ok s) trivial ?_ | refine caD_i (hCheck_ok s) trivial ?_ | refine gC_i (fun _ => hCheck_ok s) trivial ?_ | refine gCD_i (fun _ => hCheck_ok s) trivial ?_ | refine caE_i (hCheck_ok s) trivial ?_
  simp (config := {contextual := true, maxSteps := 1000000}) only [go_sem, ints, intRows, iv_c, Nat.reduceAdd, Nat.reduceBEq, Nat.reduceEqDiff, Nat.reduceLeDiff, Nat.reduceLT, reduceIte, Nat.le_refl, true_or, or_true, and_self, Int.reduceLE, Int.reduceLT, Int.reduceEq, Int.reduceNeg, Int.natCast_nonneg, Int.reduceToNat, ops, vals, dots]
  first | refine caS_i (hIn_ok wall 1099511627776) trivial ?_ | refine caD_i (hIn_ok wall 1099511627776) trivial ?_ | refine gC_i (fun _ => hIn_ok wall 1099511627776) trivial ?_ | refine gCD_i (fun _ => hIn_ok wall 1099511627776) trivial ?_ | refine caE_i (hIn_ok wall 1099511627776) trivial ?_
  simp (config := {contextual := true, maxSteps := 1000000}) only [go_sem, ints, intRows, iv_c, Nat.reduceAdd, Nat.reduceBEq, Nat.reduceEqDiff, Nat.reduceLeDiff, Nat.reduceLT, reduceIte, Nat.le_refl, true_or, or_true, and_self, Int.reduceLE, Int.reduceLT, Int.reduceEq, Int.reduceNeg, Int.natCast_nonneg, Int.reduceToNat, ops, vals, dots]
  first | refine caS_i (hIn_ok q 4) trivial ?_ | refine caD_i (hIn_ok q 4) trivial ?_ | refine gC_i (fun _ => hIn_ok q 4) trivial ?_ | refine gCD_i (fun _ => hIn_ok q 4) trivial ?_ | refine caE_i (hIn_ok q 4) trivial ?_
  simp (config := {contextual := true, maxSteps := 1000000}) only [go_sem, ints, intRows, iv_c, Nat.reduceAdd, Nat.reduceBEq, Nat.reduceEqDiff, Nat.reduceLeDiff, Nat.reduceLT, reduceIte, Nat.le_refl, true_or, or_true, and_self, Int.reduceLE, Int.reduceLT, Int.reduceEq, Int.reduceNeg, Int.natCast_nonneg, Int.reduceToNat, ops, vals, dots]
  have e0 : decide (hlcE s = 0) = okS s := by unfold hlcE; cases okS s <;> rfl
  rw [e0]
  have bad : (hlcE s ≠ 0 ∨ ¬ (0 ≤ wall ∧ wall ≤ 1099511627776) ∨ ¬ (0 ≤ q ∧ q ≤ 4)) ↔ ((if okS s = true then !decide (0 ≤ wall ∧ wall ≤ 1099511627776) else true) || !decide (0 ≤ q ∧ q ≤ 4)) = true := by
    unfold hlcE; cases okS s
    · simp
    · simp; omega
  refine ⟨fun h => ?_, fun h => ?_⟩
  · rw [nextT, if_pos (bad.2 h)]; rfl
  · have hb : ¬ (hlcE s ≠ 0 ∨ ¬ (0 ≤ wall ∧ wall ≤ 1099511627776) ∨ ¬ (0 ≤ q ∧ q ≤ 4)) := fun hh => by rw [bad.1 hh] at h; cases h
    have hn : nextT s wall q = if s.p < wall then (⟨wall, 0, q⟩, 0) else if 65536 ≤ s.l then (⟨0, 0, 0⟩, 12) else (⟨s.p, s.l + 1, q⟩, 0) := by rw [nextT, if_neg hb]
    simp (config := {contextual := true, maxSteps := 1000000}) only [go_sem, ints, intRows, iv_c, Nat.reduceAdd, Nat.reduceBEq, Nat.reduceEqDiff, Nat.reduceLeDiff, Nat.reduceLT, reduceIte, Nat.le_refl, true_or, or_true, and_self, Int.reduceLE, Int.reduceLT, Int.reduceEq, Int.reduceNeg, Int.natCast_nonneg, Int.reduceToNat, ops, vals, dots, stV]
    refine ⟨fun h1 => ?_, fun h1 => ⟨fun h2 => ?_, fun h2 => ?_⟩⟩
    · rw [hn, if_pos (by simpa using h1)]
    · rw [hn, if_neg (by simpa using h1), if_pos (by simpa using h2)]
    · have ho : okS s = true := by cases hk : okS s with
        | true => rfl
        | false => rw [hk] at h; simp at h
      have hw : IntKind.i64.wrap (s.l + 1) = s.l + 1 := w64 (by unfold okS at ho; simp at ho; omega)
      rw [hn, if_neg (by simpa using h1), if_neg (by simpa using h2), hw]
end Go.Proofs.Ytelgaglbkcacnaa.D
end
section
set_option linter.unusedVariables false
set_option linter.unusedSimpArgs false
set_option maxRecDepth 100000
set_option linter.constructorNameAsVariable false

/- Two peers that tell one another their times. No condition. -/
namespace Go.Proofs.Ytelgaglbkcacnaa.D
open Go Go.Proofs

theorem n531 : nextT ⟨5, 3, 1⟩ 5 0 = (⟨5, 4, 0⟩, 0) := by simp [nextT, hlcE, okS]
theorem c531 : cmpT ⟨0, 0, 0⟩ ⟨5, 4, 0⟩ = -1 := by decide
theorem wakes06_ok : FnB Try.prog 11 [] (vb true) := by
  refine fnB_intro cf11 (by simp) ?_
  simp (config := {contextual := true, maxSteps := 1000000}) only [go_sem, ints, intRows, iv_c, Nat.reduceAdd, Nat.reduceBEq, Nat.reduceEqDiff, Nat.reduceLeDiff, Nat.reduceLT, reduceIte, Nat.le_refl, true_or, or_true, and_self, Int.reduceLE, Int.reduceLT, Int.reduceEq, Int.reduceNeg, Int.natCast_nonneg, Int.reduceToNat, ops, vals, dots, c11]
  first | refine caS_i (next_ok ⟨5, 3, 1⟩ 5 0) trivial ?_ | refine caD_i (next_ok ⟨5, 3, 1⟩ 5 0) trivial ?_ | refine gC_i (fun _ => next_ok ⟨5, 3, 1⟩ 5 0) trivial ?_ | refine gCD_i (fun _ => next_ok ⟨5, 3, 1⟩ 5 0) trivial ?_ | refine caE_i (next_ok ⟨5, 3, 1⟩ 5 0) trivial ?_
  simp (config := {contextual := true, maxSteps := 1000000}) only [go_sem, ints, intRows, iv_c, Nat.reduceAdd, Nat.reduceBEq, Nat.reduceEqDiff, Nat.reduceLeDiff, Nat.reduceLT, reduceIte, Nat.le_refl, true_or, or_true, and_self, Int.reduceLE, Int.reduceLT, Int.reduceEq, Int.reduceNeg, Int.natCast_nonneg, Int.reduceToNat, ops, vals, dots, n531]
  first | refine caS_i (cmpT_ok ⟨0, 0, 0⟩ ⟨5, 4, 0⟩) trivial ?_ | refine caD_i (cmpT_ok ⟨0, 0, 0⟩ ⟨5, 4, 0⟩) trivial ?_ | refine gC_i (fun _ => cmpT_ok ⟨0, 0, 0⟩ ⟨5, 4, 0⟩) trivial ?_ | refine gCD_i (fun _ => cmpT_ok ⟨0, 0, 0⟩ ⟨5, 4, 0⟩) trivial ?_ | refine caE_i (cmpT_ok ⟨0, 0, 0⟩ ⟨5, 4, 0⟩) trivial ?_
  simp (config := {contextual := true, maxSteps := 1000000}) only [go_sem, ints, intRows, iv_c, Nat.reduceAdd, Nat.reduceBEq, Nat.reduceEqDiff, Nat.reduceLeDiff, Nat.reduceLT, reduceIte, Nat.le_refl, true_or, or_true, and_self, Int.reduceLE, Int.reduceLT, Int.reduceEq, Int.reduceNeg, Int.natCast_nonneg, Int.reduceToNat, ops, vals, dots, c531]
/-- Bools. -/
@[reducible] def bools (fl : Fl) (l : List Bool) : V := .im fl (l.map fun b => [.c (.bool b)])
theorem own_upd {n m k : Nat} {ob : OB} {v : V} {rows : List (List V)} {x : Option Ob} (h : Own n ob v k rows) (hm : n ≤ m) : Own n (updO ob m x) v k rows := by
  rcases h with h | ⟨h1, id, cap, hid, h2, h3⟩
  · exact .inl h
  · exact .inr ⟨h1, id, cap, hid, h2, by rw [updO, if_neg (by omega), h3]⟩
theorem own_see {n k : Nat} {ob : OB} {v : V} {rows : List (List V)} (h : Own n ob v k rows) : lenOf v = some rows.length ∧ ∃ id, (∀ i : Nat, i < rows.length → iaV ob k v i = some (.pt id i 0)) ∧ (0 < rows.length → ∃ c, ob id = some ⟨k, rows, c⟩) := by
  rcases h with ⟨rfl, rfl⟩ | ⟨h1, id, cap, hid, h2, h3⟩
  · exact ⟨rfl, 0, fun i hi => by simp at hi, fun h => by simp at h⟩
  · subst h2
    refine ⟨rfl, id, fun i hi => ?_, fun _ => ⟨cap, h3⟩⟩
    simp [ia_sl, h3, hi]
theorem own_ne {n k A k' len : Nat} {ob : OB} {v : V} {rows r : List (List V)} {c : Option Nat} (h : Own n ob v k rows) (hA : ob A = some ⟨k', r, c⟩) (hk : k ≠ k') : v ≠ .sl A 0 len := by
  rcases h with ⟨rfl, rfl⟩ | ⟨h1, id, cap, hid, h2, h3⟩
  · intro e; cases e
  · intro e; rw [h2] at e; cases e; rw [h3] at hA; cases hA; exact hk rfl
theorem own_updo {n k A k' : Nat} {ob : OB} {v : V} {rows r : List (List V)} {c : Option Nat} {x : Option Ob} (h : Own n ob v k rows) (hA : ob A = some ⟨k', r, c⟩) (hk : k ≠ k') : Own n (updO ob A x) v k rows := by
  rcases h with h | ⟨h1, id, cap, hid, h2, h3⟩
  · exact .inl h
  · refine .inr ⟨h1, id, cap, hid, h2, ?_⟩
    rw [updO, if_neg, h3]
    intro e; subst e; rw [h3] at hA; cases hA; exact hk rfl
theorem later_r (a b : St3) : (laterT a b = a ∧ 0 ≤ cmpT a b) ∨ (laterT a b = b ∧ cmpT a b < 0) := by unfold laterT; split <;> simp <;> omega
theorem own_lt {n k A len : Nat} {ob : OB} {v : V} {rows : List (List V)} (h : Own n ob v k rows) (hA : n ≤ A) : v ≠ .sl A 0 len := by
  rcases h with ⟨rfl, rfl⟩ | ⟨h1, id, cap, hid, h2, h3⟩
  · intro e; cases e
  · intro e; rw [h2] at e; cases e; omega
section
variable {P : Program} {nid : Nat} {env : Env} {ob : OB} {K : Env → OB → Prop} {l : List RO} {d : Option Nat} {n k : Nat} {v x : V} {rows xs : List (List V)} {nps : List (List Nat)} {past : List (List Nat × Option (List Nat))} {np : List Nat} {lk : Option (List Nat)}
/-- Appending to a slice of one's own, in a region of any order. -/
theorem nxE_app (h : Own n ob v k rows) (hn : n ≤ nid) (hx : rowsOf ob x = some xs) (hk : xs.all (okRow k) = true) (hlen : rows.length + xs.length ≤ maxLen)
    (hK : ∀ v' ob' T, Own (nid + 1) ob' v' k (rows ++ xs) → (∀ id, id < n → v ≠ .sl id 0 rows.length → ob' id = ob id) → (∀ id ∈ T, id = nid ∨ v = .sl id 0 rows.length) → sepL past np (T, lk) ∧ wpE P l nps (nid + 1) (put env d v') ob' (past ++ [(T, lk)]) K) :
    nxE P d l nps nid env ob past np lk K (opF (.app k) [v, x] ob nid) := by
  obtain ⟨v', us, e, h1, h2⟩ := app_own h hn hx hk hlen
  rw [e]
  refine hK _ _ (tch us) h1 h2 fun id hid => ?_
  rcases h with ⟨rfl, rfl⟩ | ⟨hne, i, cap, hi, rfl, hob⟩
  · simp only [opF, hx, hk, Option.bind_some, if_true] at e
    left
    by_cases h0 : xs.length = 0
    · simp [h0] at e; rw [e.2] at hid; simp [tch] at hid
    · simp [h0] at e; simp [← e.2.2, tch] at hid; exact hid
  · by_cases h0 : id = nid
    · exact .inl h0
    · right
      simp only [opF, hx, hk, Option.bind_some, if_true, hob] at e
      by_cases hi2 : id = i
      · rw [hi2]
      · exfalso
        simp only [tch, List.mem_map] at hid
        obtain ⟨⟨i', o'⟩, hm, rfl⟩ := hid
        rw [if_pos ⟨trivial, by simp, by simpa using hlen⟩] at e
        split at e
        · simp at e; rw [← e.2] at hm; simp at hm; exact hi2 hm.1
        · simp at e; rw [← e.2] at hm
          have hgr : grown cap i (rows.length + xs.length) = [] ∨ grown cap i (rows.length + xs.length) = [(i, none)] := by
            unfold grown; split
            · split
              · exact .inl rfl
              · exact .inr rfl
            · exact .inr rfl
          rcases hgr with h | h <;> simp [h] at hm <;> omega
end

theorem cmpI_r (a b : Int) : cmpI a b = -1 ∧ a < b ∨ cmpI a b = 0 ∧ a = b ∨ cmpI a b = 1 ∧ b < a := by unfold cmpI; omega
theorem cmpT_r (a b : St3) : (cmpT a b = -1 ∧ (a.p < b.p ∨ a.p = b.p ∧ (a.l < b.l ∨ a.l = b.l ∧ a.q < b.q))) ∨ (cmpT a b = 0 ∧ a.p = b.p ∧ a.l = b.l ∧ a.q = b.q) ∨ (cmpT a b = 1 ∧ (b.p < a.p ∨ b.p = a.p ∧ (b.l < a.l ∨ b.l = a.l ∧ b.q < a.q))) := by
  unfold cmpT
  rcases cmpI_r a.p b.p with ⟨e1, h1⟩ | ⟨e1, h1⟩ | ⟨e1, h1⟩ <;> rcases cmpI_r a.l b.l with ⟨e2, h2⟩ | ⟨e2, h2⟩ | ⟨e2, h2⟩ <;> rcases cmpI_r a.q b.q with ⟨e3, h3⟩ | ⟨e3, h3⟩ | ⟨e3, h3⟩ <;> simp [orV, e1, e2, e3] <;> omega
/-- A time that may be, with no more than so much Logic. -/
def inT (s : St3) (k : Nat) : Prop := 0 ≤ s.p ∧ s.p ≤ 1099511627776 ∧ 0 ≤ s.l ∧ s.l ≤ k ∧ 0 ≤ s.q ∧ s.q ≤ 4
theorem inT_ok {s : St3} {k : Nat} (h : inT s k) (hk : k ≤ 60) : okS s = true := by
  obtain ⟨h1, h2, h3, h4, h5, h6⟩ := h
  simp [okS]; omega
theorem next_in {s : St3} {k : Nat} (h : inT s k) (hk : k ≤ 60) {w q : Int} (hw : 0 ≤ w ∧ w ≤ 1099511627776) (hq : 0 ≤ q ∧ q ≤ 4) :
    (nextT s w q).2 = 0 ∧ cmpT (nextT s w q).1 s = 1 ∧ inT (nextT s w q).1 (k + 1) ∧ (nextT s w q).1.q = q := by
  have ho : hlcE s = 0 := by rw [hlcE, inT_ok h hk]; rfl
  obtain ⟨h1, h2, h3, h4, h5, h6⟩ := h
  unfold nextT
  rw [if_neg (by simp only [ho]; omega)]
  by_cases hp : s.p < w
  · rw [if_pos hp]
    refine ⟨rfl, ?_, ⟨hw.1, hw.2, by simp, by simp; omega, hq.1, hq.2⟩, rfl⟩
    show cmpT ⟨w, 0, q⟩ s = 1
    rcases cmpT_r ⟨w, 0, q⟩ s with h | h | h <;> simp at h <;> omega
  · rw [if_neg hp, if_neg (by omega)]
    refine ⟨rfl, ?_, ⟨h1, h2, by simp; omega, by simp; omega, hq.1, hq.2⟩, rfl⟩
    show cmpT ⟨s.p, s.l + 1, q⟩ s = 1
    rcases cmpT_r ⟨s.p, s.l + 1, q⟩ s with h | h | h <;> simp at h <;> omega
/-- What both have told: each has told no later time than its own last. -/
def seenI (x y : St3) (l : List St3) : Prop := ∀ s ∈ l, (s.q = 0 ∧ cmpT s x ≤ 0) ∨ (s.q = 1 ∧ cmpT s y ≤ 0)

set_option maxHeartbeats 4000000 in
theorem HlcMeets_ok (w : List Int) (t : List Bool) : FnB Try.prog 8 [ints .b w, bools .b t] (vb true) := by
  refine fnB_intro cf8 (by simp) ?_
  have w0 : ∀ h : St3, (stV h).length = 3 := fun h => rfl
  simp (config := {contextual := true, maxSteps := 1000000}) only [go_sem, ints, intRows, iv_c, Nat.reduceAdd, Nat.reduceBEq, Nat.reduceEqDiff, Nat.reduceLeDiff, Nat.reduceLT, reduceIte, Nat.le_refl, true_or, or_true, and_self, Int.reduceLE, Int.reduceLT, Int.reduceEq, Int.reduceNeg, Int.natCast_nonneg, Int.reduceToNat, ops, vals, dots, c8]
  intro hsz
  simp at hsz
  refine wpC_lp (fun env ob n' => env 0 = ints .b w ∧ env 1 = bools .b t ∧ ∃ (A i : Nat) (x y : St3) (s : List St3), env 5 = .pt A 0 0 ∧ A < n' ∧ ob A = some ⟨6, [stV x ++ stV y], none⟩ ∧ env 7 = vi i ∧ i ≤ w.length ∧ s.length = i ∧ Own n' ob (env 6) 3 (s.map stV) ∧ inT x i ∧ inT y i ∧ seenI x y s) (fun env ob _ => (w.length - iv (env 7)).toNat) ?_ ?_
  · simp (config := {contextual := true, maxSteps := 1000000}) only [go_sem, ints, intRows, iv_c, Nat.reduceAdd, Nat.reduceBEq, Nat.reduceEqDiff, Nat.reduceLeDiff, Nat.reduceLT, reduceIte, Nat.le_refl, true_or, or_true, and_self, Int.reduceLE, Int.reduceLT, Int.reduceEq, Int.reduceNeg, Int.natCast_nonneg, Int.reduceToNat, ops, vals, dots]
    exact ⟨9, 0, ⟨0, 0, 0⟩, ⟨0, 0, 0⟩, [], rfl, by omega, rfl, rfl, Nat.zero_le _, rfl, Own.nil, by simp [inT], by simp [inT], fun s hs => by cases hs⟩
  rintro env ob n' ⟨h0, h1, A, i, x, y, s, h5, hA, hoA, h7, hi, hsl, hos, hx, hy, hse⟩
  have hpar : (i : Int).tmod 2 = 0 ∨ (i : Int).tmod 2 = 1 := by rw [Int.tmod_eq_emod_of_nonneg (by omega)]; omega
  have e3 : ∀ x y : St3, (stV x ++ stV y).take 3 = stV x := fun x y => rfl
  have e4 : ∀ x y : St3, (stV x ++ stV y).drop 3 = stV y := fun x y => rfl
  have e5 : ∀ x y : St3, (stV x ++ stV y).length = 6 := fun x y => rfl
  have wd : ∀ z : Int, 0 ≤ IntKind.i64.wrap ((IntKind.u64.wrap z).tmod 1099511627777) ∧ IntKind.i64.wrap ((IntKind.u64.wrap z).tmod 1099511627777) ≤ 1099511627776 := fun z => by
    obtain ⟨k, a1, a2⟩ := modU z (k := 1099511627777) (by omega)
    rw [a1]; omega
  generalize h6 : env 6 = sv at *
  have e6 : ∀ x y : St3, (stV x ++ stV y).drop 6 = [] := fun x y => rfl
  have u0 : IntKind.i64.wrap (1 - 0) = 1 := by decide
  have u1 : IntKind.i64.wrap (1 - 1) = 0 := by decide
  rcases hpar with hp | hp
  · simp (config := {contextual := true, maxSteps := 1000000}) only [go_sem, ints, intRows, iv_c, Nat.reduceAdd, Nat.reduceBEq, Nat.reduceEqDiff, Nat.reduceLeDiff, Nat.reduceLT, reduceIte, Nat.le_refl, true_or, or_true, and_self, Int.reduceLE, Int.reduceLT, Int.reduceEq, Int.reduceNeg, Int.natCast_nonneg, Int.reduceToNat, ops, vals, dots, h0, h1, h5, h7, hp, hoA, e3, e4, e5, Nat.zero_mul, Nat.one_mul]
    refine ⟨fun hlt => ?_, fun hge => ?_⟩
    · simp at hlt
      have hwd := wd (gN w i)
      obtain ⟨nx1, nx2, nx3, nx4⟩ := next_in (q := 0) hx (by omega) hwd (by omega)
      repeat (refine And.intro (by omega) ?_)
      first | refine caS_i (next_ok x (IntKind.i64.wrap ((IntKind.u64.wrap (gN w i)).tmod 1099511627777)) 0) trivial ?_ | refine caD_i (next_ok x (IntKind.i64.wrap ((IntKind.u64.wrap (gN w i)).tmod 1099511627777)) 0) trivial ?_ | refine gC_i (fun _ => next_ok x (IntKind.i64.wrap ((IntKind.u64.wrap (gN w i)).tmod 1099511627777)) 0) trivial ?_ | refine gCD_i (fun _ => next_ok x (IntKind.i64.wrap ((IntKind.u64.wrap (gN w i)).tmod 1099511627777)) 0) trivial ?_ | refine caE_i (next_ok x (IntKind.i64.wrap ((IntKind.u64.wrap (gN w i)).tmod 1099511627777)) 0) trivial ?_
      generalize nextT x (IntKind.i64.wrap ((IntKind.u64.wrap (gN w i)).tmod 1099511627777)) 0 = nn at *
      obtain ⟨nw, ne⟩ := nn
      simp only at nx1 nx2 nx3 nx4
      subst nx1
      simp (config := {contextual := true, maxSteps := 1000000}) only [go_sem, ints, intRows, iv_c, Nat.reduceAdd, Nat.reduceBEq, Nat.reduceEqDiff, Nat.reduceLeDiff, Nat.reduceLT, reduceIte, Nat.le_refl, true_or, or_true, and_self, Int.reduceLE, Int.reduceLT, Int.reduceEq, Int.reduceNeg, Int.natCast_nonneg, Int.reduceToNat, ops, vals, dots, h0, h1, h5, h7, hp, hoA, e3, e4, e5, Nat.zero_mul, Nat.one_mul]
      refine ⟨by omega, ?_⟩
      generalize hB : n' + 1 + 1 + 1 + 1 + 1 + 1 + 1 + 1 + 1 + 1 + 1 + 1 + 1 + 1 + 1 + 1 + 1 + 1 + 1 + 1 + 1 + 1 = B
      have hoB := updO_s (updO ob B (some { k := 3, l := [[V.c (Value.int IntKind.i64 0), V.c (Value.int IntKind.i64 0), V.c (Value.int IntKind.i64 0)]], cap := none })) B (some { k := 3, l := [stV nw], cap := none })
      have hA2 : updO (updO ob B (some { k := 3, l := [[V.c (Value.int IntKind.i64 0), V.c (Value.int IntKind.i64 0), V.c (Value.int IntKind.i64 0)]], cap := none })) B (some { k := 3, l := [stV nw], cap := none }) A = some ⟨6, [stV x ++ stV y], none⟩ := by
        rw [updO, if_neg (by omega), updO, if_neg (by omega), hoA]
      have ho2 : Own B (updO (updO ob B (some { k := 3, l := [[V.c (Value.int IntKind.i64 0), V.c (Value.int IntKind.i64 0), V.c (Value.int IntKind.i64 0)]], cap := none })) B (some { k := 3, l := [stV nw], cap := none })) sv 3 (s.map stV) :=
        (own_upd (own_upd hos (by omega)) (by omega)).mono (by omega)
      generalize updO (updO ob B (some { k := 3, l := [[V.c (Value.int IntKind.i64 0), V.c (Value.int IntKind.i64 0), V.c (Value.int IntKind.i64 0)]], cap := none })) B (some { k := 3, l := [stV nw], cap := none }) = ob2 at *
      simp (config := {contextual := true, maxSteps := 1000000}) only [go_sem, ints, intRows, iv_c, Nat.reduceAdd, Nat.reduceBEq, Nat.reduceEqDiff, Nat.reduceLeDiff, Nat.reduceLT, reduceIte, Nat.le_refl, true_or, or_true, and_self, Int.reduceLE, Int.reduceLT, Int.reduceEq, Int.reduceNeg, Int.natCast_nonneg, Int.reduceToNat, ops, vals, dots, h0, h1, h5, h7, hp, hA2, e3, e4, e5, Nat.zero_mul, Nat.one_mul]
      first | refine caS_i (cmpT_ok nw x) trivial ?_ | refine caD_i (cmpT_ok nw x) trivial ?_ | refine gC_i (fun _ => cmpT_ok nw x) trivial ?_ | refine gCD_i (fun _ => cmpT_ok nw x) trivial ?_ | refine caE_i (cmpT_ok nw x) trivial ?_
      simp (config := {contextual := true, maxSteps := 1000000}) only [go_sem, ints, intRows, iv_c, Nat.reduceAdd, Nat.reduceBEq, Nat.reduceEqDiff, Nat.reduceLeDiff, Nat.reduceLT, reduceIte, Nat.le_refl, true_or, or_true, and_self, Int.reduceLE, Int.reduceLT, Int.reduceEq, Int.reduceNeg, Int.natCast_nonneg, Int.reduceToNat, ops, vals, dots, nx2]
      refine wpC_lp (fun env' ob' n2 => ob' = ob2 ∧ B < n2 ∧ env' 0 = ints .b w ∧ env' 1 = bools .b t ∧ env' 5 = .pt A 0 0 ∧ env' 6 = sv ∧ env' 7 = vi i ∧ env' 8 = vi 0 ∧ env' 9 = .pt B 0 0 ∧ ∃ k : Nat, env' 11 = vi k ∧ k ≤ s.length) (fun env' _ _ => (s.length - iv (env' 11)).toNat) ?_ ?_
      · simp (config := {contextual := true, maxSteps := 1000000}) only [go_sem, ints, intRows, iv_c, Nat.reduceAdd, Nat.reduceBEq, Nat.reduceEqDiff, Nat.reduceLeDiff, Nat.reduceLT, reduceIte, Nat.le_refl, true_or, or_true, and_self, Int.reduceLE, Int.reduceLT, Int.reduceEq, Int.reduceNeg, Int.natCast_nonneg, Int.reduceToNat, ops, vals, dots, h0, h1, h5, h6, h7]
        exact ⟨by omega, 0, rfl, Nat.zero_le _⟩
      rintro env' ob' n2 ⟨rfl, hn2, g0, g1, g5, g6, g7, g8, g9, k, g11, hk⟩
      obtain ⟨hlv, id, hia, hid⟩ := own_see ho2
      rw [List.length_map] at hlv hia hid
      simp (config := {contextual := true, maxSteps := 1000000}) only [go_sem, ints, intRows, iv_c, Nat.reduceAdd, Nat.reduceBEq, Nat.reduceEqDiff, Nat.reduceLeDiff, Nat.reduceLT, reduceIte, Nat.le_refl, true_or, or_true, and_self, Int.reduceLE, Int.reduceLT, Int.reduceEq, Int.reduceNeg, Int.natCast_nonneg, Int.reduceToNat, ops, vals, dots, g0, g1, g5, g6, g7, g8, g9, g11, hlv]
      refine ⟨fun hlk => ?_, fun hgk => ?_⟩
      · simp at hlk
        obtain ⟨cp, hobs⟩ := hid (by omega)
        simp (config := {contextual := true, maxSteps := 1000000}) only [go_sem, ints, intRows, iv_c, Nat.reduceAdd, Nat.reduceBEq, Nat.reduceEqDiff, Nat.reduceLeDiff, Nat.reduceLT, reduceIte, Nat.le_refl, true_or, or_true, and_self, Int.reduceLE, Int.reduceLT, Int.reduceEq, Int.reduceNeg, Int.natCast_nonneg, Int.reduceToNat, ops, vals, dots, g0, g1, g5, g6, g7, g8, g9, g11, hia k hlk, hobs, hoB, Nat.add_zero, Nat.zero_add]
        repeat (refine And.intro (by omega) ?_)
        first | refine caS_i (cmpT_ok (gN s k) nw) trivial ?_ | refine caD_i (cmpT_ok (gN s k) nw) trivial ?_ | refine gC_i (fun _ => cmpT_ok (gN s k) nw) trivial ?_ | refine gCD_i (fun _ => cmpT_ok (gN s k) nw) trivial ?_ | refine caE_i (cmpT_ok (gN s k) nw) trivial ?_
        have hne : decide (cmpT (gN s k) nw = 0) = false := by
          have hm : gN s k ∈ s := by rw [gN_eq hlk]; exact List.getElem_mem _
          have h1 := hse _ hm
          have r1 := cmpT_r (gN s k) nw
          have r2 := cmpT_r (gN s k) x
          have r3 := cmpT_r (gN s k) y
          have r4 := cmpT_r nw x
          simp only [decide_eq_false_iff_not]
          omega
        have wk : IntKind.i64.wrap ((k : Int) + 1) = ((k + 1 : Nat) : Int) := by rw [w64 (by omega)]; omega
        simp (config := {contextual := true, maxSteps := 1000000}) only [go_sem, ints, intRows, iv_c, Nat.reduceAdd, Nat.reduceBEq, Nat.reduceEqDiff, Nat.reduceLeDiff, Nat.reduceLT, reduceIte, Nat.le_refl, true_or, or_true, and_self, Int.reduceLE, Int.reduceLT, Int.reduceEq, Int.reduceNeg, Int.natCast_nonneg, Int.reduceToNat, ops, vals, dots, g0, g1, g5, g6, g7, g8, g9, g11, hne, wk]
        exact ⟨⟨by omega, k + 1, rfl, by omega⟩, by omega⟩
      · simp (config := {contextual := true, maxSteps := 1000000}) only [go_sem, ints, intRows, iv_c, Nat.reduceAdd, Nat.reduceBEq, Nat.reduceEqDiff, Nat.reduceLeDiff, Nat.reduceLT, reduceIte, Nat.le_refl, true_or, or_true, and_self, Int.reduceLE, Int.reduceLT, Int.reduceEq, Int.reduceNeg, Int.natCast_nonneg, Int.reduceToNat, ops, vals, dots, g0, g1, g5, g6, g7, g8, g9, g11, hlv, hA2, hoB, e3, e4, e5, Nat.zero_mul, Nat.one_mul]
        refine nxE_app (ho2.mono (Nat.le_of_lt hn2)) (by omega) rfl (by simp [stV_row]) (by simp [maxLen]; omega) fun sv2 ob3 T how hfr hT => ⟨?_, ?_⟩
        · simp only [sepL_c, sepL_nil, List.getElem?_cons_succ, List.getElem?_cons_zero, sepAt_s, sepE_eq, apart_s, apart_n, apL_n, and_true, true_and]
          refine apL_iff.2 fun z hz => ?_
          rcases hT z hz with h | h
          · simp; omega
          · simp; intro e; exact own_lt (len := (s.map stV).length) ho2 (Nat.le_refl B) (e ▸ h)
        have hA3 : ob3 A = some ⟨6, [stV x ++ stV y], none⟩ := by
          rw [hfr A (by omega) (own_ne ho2 hA2 (by omega)), hA2]
        have hTA : apL T [A] := apL_iff.2 fun z hz => by
          rcases hT z hz with h | h
          · simp; omega
          · simp; intro e; exact own_ne ho2 hA2 (by omega) (e ▸ h)
        have hB3 : ob3 B = some ⟨3, [stV nw], none⟩ := by
          rw [hfr B (by omega) (own_lt ho2 (Nat.le_refl B)), hoB]
        simp (config := {contextual := true, maxSteps := 1000000}) only [go_sem, ints, intRows, iv_c, Nat.reduceAdd, Nat.reduceBEq, Nat.reduceEqDiff, Nat.reduceLeDiff, Nat.reduceLT, reduceIte, Nat.le_refl, true_or, or_true, and_self, Int.reduceLE, Int.reduceLT, Int.reduceEq, Int.reduceNeg, Int.natCast_nonneg, Int.reduceToNat, ops, vals, dots, g0, g1, g5, g6, g7, g8, g9, g11, hlv, hA2, hoB, e3, e4, e5, e6, Nat.zero_mul, Nat.one_mul, hA3, hB3, u0, u1, eq_true hTA]
        have hA4 := updO_s ob3 A (some { k := 6, l := [stV nw ++ stV y], cap := none })
        have hB4 : updO ob3 A (some { k := 6, l := [stV nw ++ stV y], cap := none }) B = some ⟨3, [stV nw], none⟩ := by rw [updO, if_neg (by omega), hB3]
        have ho4 : Own (n2 + 10) (updO ob3 A (some { k := 6, l := [stV nw ++ stV y], cap := none })) sv2 3 ((s ++ [nw]).map stV) := by
          rw [List.map_append]; exact own_updo how hA3 (by omega)
        generalize updO ob3 A (some { k := 6, l := [stV nw ++ stV y], cap := none }) = ob4 at *
        have wi : IntKind.i64.wrap ((i : Int) + 1) = ((i + 1 : Nat) : Int) := by rw [w64 (by omega)]; omega
        have hm1 : ∀ {z : St3}, inT z i → inT z (i + 1) := fun h => by obtain ⟨a1, a2, a3, a4, a5⟩ := h; exact ⟨a1, a2, a3, by omega, a5⟩
        have hI1 : inT nw (i + 1) := by first | exact nx3 | exact hm1 hx
        have hI2 : inT y (i + 1) := by first | exact nx3 | exact hm1 hy
        have hs4 : seenI nw y (s ++ [nw]) := fun z hz => by
          rcases List.mem_append.1 hz with h | h
          · have h1 := hse z h
            have r1 := cmpT_r z nw
            have r2 := cmpT_r z x
            have r4 := cmpT_r nw x
            omega
          · simp at h; subst h
            have r1 := cmpT_r z z
            omega
        refine ⟨apL_iff.2 fun _ _ => by simp, fun h => by simpa using h, fun hto => ?_, fun hnt => ?_⟩
        · simp (config := {contextual := true, maxSteps := 1000000}) only [go_sem, ints, intRows, iv_c, Nat.reduceAdd, Nat.reduceBEq, Nat.reduceEqDiff, Nat.reduceLeDiff, Nat.reduceLT, reduceIte, Nat.le_refl, true_or, or_true, and_self, Int.reduceLE, Int.reduceLT, Int.reduceEq, Int.reduceNeg, Int.natCast_nonneg, Int.reduceToNat, ops, vals, dots, g0, g1, g5, g6, g7, g8, g9, g11, hB4]
          first | refine caS_i (later_ok y nw) trivial ?_ | refine caD_i (later_ok y nw) trivial ?_ | refine gC_i (fun _ => later_ok y nw) trivial ?_ | refine gCD_i (fun _ => later_ok y nw) trivial ?_ | refine caE_i (later_ok y nw) trivial ?_
          simp (config := {contextual := true, maxSteps := 1000000}) only [go_sem, ints, intRows, iv_c, Nat.reduceAdd, Nat.reduceBEq, Nat.reduceEqDiff, Nat.reduceLeDiff, Nat.reduceLT, reduceIte, Nat.le_refl, true_or, or_true, and_self, Int.reduceLE, Int.reduceLT, Int.reduceEq, Int.reduceNeg, Int.natCast_nonneg, Int.reduceToNat, ops, vals, dots, g0, g1, g5, g6, g7, g8, g9, g11, hlv, hA4, hB4, e3, e4, e5, e6, Nat.zero_mul, Nat.one_mul, u0, u1]
          generalize hC : n2 + 1 + 1 + 1 + 1 + 9 + 1 + 1 + 1 + 1 + 1 + 1 + 1 + 1 + 1 + 1 + 1 + 1 + 1 + 1 + 1 + 1 = C
          have hA5 : (updO (updO ob4 C (some { k := 3, l := [[V.c (Value.int IntKind.i64 0), V.c (Value.int IntKind.i64 0), V.c (Value.int IntKind.i64 0)]], cap := none })) C (some { k := 3, l := [stV (laterT y nw)], cap := none })) A = some ⟨6, [stV nw ++ stV y], none⟩ := by
            rw [updO, if_neg (by omega), updO, if_neg (by omega), hA4]
          have hB5 : (updO (updO ob4 C (some { k := 3, l := [[V.c (Value.int IntKind.i64 0), V.c (Value.int IntKind.i64 0), V.c (Value.int IntKind.i64 0)]], cap := none })) C (some { k := 3, l := [stV (laterT y nw)], cap := none })) B = some ⟨3, [stV nw], none⟩ := by
            rw [updO, if_neg (by omega), updO, if_neg (by omega), hB4]
          have hC5 := updO_s (updO ob4 C (some { k := 3, l := [[V.c (Value.int IntKind.i64 0), V.c (Value.int IntKind.i64 0), V.c (Value.int IntKind.i64 0)]], cap := none })) C (some { k := 3, l := [stV (laterT y nw)], cap := none })
          have ho5 : Own C (updO (updO ob4 C (some { k := 3, l := [[V.c (Value.int IntKind.i64 0), V.c (Value.int IntKind.i64 0), V.c (Value.int IntKind.i64 0)]], cap := none })) C (some { k := 3, l := [stV (laterT y nw)], cap := none })) sv2 3 ((s ++ [nw]).map stV) := (own_upd (own_upd (ho4.mono (by omega)) (Nat.le_refl C)) (Nat.le_refl C))
          generalize updO (updO ob4 C (some { k := 3, l := [[V.c (Value.int IntKind.i64 0), V.c (Value.int IntKind.i64 0), V.c (Value.int IntKind.i64 0)]], cap := none })) C (some { k := 3, l := [stV (laterT y nw)], cap := none }) = ob5 at *
          have hla := later_r y nw
          have n1 : decide (cmpT (laterT y nw) nw < 0) = false := by
            have r1 := cmpT_r nw nw
            rcases hla with ⟨e, h⟩ | ⟨e, h⟩ <;> rw [e] <;> simp <;> omega
          have n2' : decide (cmpT (laterT y nw) y < 0) = false := by
            have r1 := cmpT_r y y
            have r2 := cmpT_r y nw
            have r3 := cmpT_r nw y
            rcases hla with ⟨e, h⟩ | ⟨e, h⟩ <;> rw [e] <;> simp <;> omega
          have hI5 : inT nw (i + 1) ∧ inT (laterT y nw) (i + 1) := by
            rcases hla with ⟨e, h⟩ | ⟨e, h⟩ <;> simp only [e] <;> first | exact ⟨hI1, hI2⟩ | exact ⟨nx3, nx3⟩
          have hs5 : seenI nw (laterT y nw) (s ++ [nw]) := by
            rcases hla with ⟨e, h⟩ | ⟨e, h⟩ <;> rw [e]
            · exact hs4
            · intro z hz
              have h1 := hs4 z hz
              have r1 := cmpT_r z y
              have r2 := cmpT_r y nw
              have r3 := cmpT_r z nw
              omega
          simp (config := {contextual := true, maxSteps := 1000000}) only [go_sem, ints, intRows, iv_c, Nat.reduceAdd, Nat.reduceBEq, Nat.reduceEqDiff, Nat.reduceLeDiff, Nat.reduceLT, reduceIte, Nat.le_refl, true_or, or_true, and_self, Int.reduceLE, Int.reduceLT, Int.reduceEq, Int.reduceNeg, Int.natCast_nonneg, Int.reduceToNat, ops, vals, dots, g0, g1, g5, g6, g7, g8, g9, g11, hA5, hB5, hC5, e3, e4, e5, e6, Nat.zero_mul, Nat.one_mul, u0, u1]
          first | refine caS_i (cmpT_ok (laterT y nw) nw) trivial ?_ | refine caD_i (cmpT_ok (laterT y nw) nw) trivial ?_ | refine gC_i (fun _ => cmpT_ok (laterT y nw) nw) trivial ?_ | refine gCD_i (fun _ => cmpT_ok (laterT y nw) nw) trivial ?_ | refine caE_i (cmpT_ok (laterT y nw) nw) trivial ?_
          simp (config := {contextual := true, maxSteps := 1000000}) only [go_sem, ints, intRows, iv_c, Nat.reduceAdd, Nat.reduceBEq, Nat.reduceEqDiff, Nat.reduceLeDiff, Nat.reduceLT, reduceIte, Nat.le_refl, true_or, or_true, and_self, Int.reduceLE, Int.reduceLT, Int.reduceEq, Int.reduceNeg, Int.natCast_nonneg, Int.reduceToNat, ops, vals, dots, g0, g1, g5, g6, g7, g8, g9, g11, hA5, hB5, hC5, e3, e4, e5, e6, Nat.zero_mul, Nat.one_mul, u0, u1, n1]
          first | refine caS_i (cmpT_ok (laterT y nw) y) trivial ?_ | refine caD_i (cmpT_ok (laterT y nw) y) trivial ?_ | refine gC_i (fun _ => cmpT_ok (laterT y nw) y) trivial ?_ | refine gCD_i (fun _ => cmpT_ok (laterT y nw) y) trivial ?_ | refine caE_i (cmpT_ok (laterT y nw) y) trivial ?_
          simp (config := {contextual := true, maxSteps := 1000000}) only [go_sem, ints, intRows, iv_c, Nat.reduceAdd, Nat.reduceBEq, Nat.reduceEqDiff, Nat.reduceLeDiff, Nat.reduceLT, reduceIte, Nat.le_refl, true_or, or_true, and_self, Int.reduceLE, Int.reduceLT, Int.reduceEq, Int.reduceNeg, Int.natCast_nonneg, Int.reduceToNat, ops, vals, dots, g0, g1, g5, g6, g7, g8, g9, g11, hA5, hB5, hC5, e3, e4, e5, e6, Nat.zero_mul, Nat.one_mul, u0, u1, n2', wi]
          exact ⟨⟨A, i + 1, nw, (laterT y nw), s ++ [nw], rfl, by omega, updO_s _ _ _, rfl, by omega, by simp [hsl], (own_updo ho5 hA5 (by omega)).mono (by omega), hI5.1, hI5.2, hs5⟩, by omega⟩
        · simp (config := {contextual := true, maxSteps := 1000000}) only [go_sem, ints, intRows, iv_c, Nat.reduceAdd, Nat.reduceBEq, Nat.reduceEqDiff, Nat.reduceLeDiff, Nat.reduceLT, reduceIte, Nat.le_refl, true_or, or_true, and_self, Int.reduceLE, Int.reduceLT, Int.reduceEq, Int.reduceNeg, Int.natCast_nonneg, Int.reduceToNat, ops, vals, dots, g0, g1, g5, g6, g7, g8, g9, g11, wi]
          exact ⟨⟨A, i + 1, nw, y, s ++ [nw], rfl, by omega, hA4, rfl, by omega, by simp [hsl], ho4.mono (by omega), hI1, hI2, hs4⟩, by omega⟩
    · first | refine caS_i (wakes06_ok) trivial ?_ | refine caD_i (wakes06_ok) trivial ?_ | refine gC_i (fun _ => wakes06_ok) trivial ?_ | refine gCD_i (fun _ => wakes06_ok) trivial ?_ | refine caE_i (wakes06_ok) trivial ?_
      simp (config := {contextual := true, maxSteps := 1000000}) only [go_sem, ints, intRows, iv_c, Nat.reduceAdd, Nat.reduceBEq, Nat.reduceEqDiff, Nat.reduceLeDiff, Nat.reduceLT, reduceIte, Nat.le_refl, true_or, or_true, and_self, Int.reduceLE, Int.reduceLT, Int.reduceEq, Int.reduceNeg, Int.natCast_nonneg, Int.reduceToNat, ops, vals, dots]
  · simp (config := {contextual := true, maxSteps := 1000000}) only [go_sem, ints, intRows, iv_c, Nat.reduceAdd, Nat.reduceBEq, Nat.reduceEqDiff, Nat.reduceLeDiff, Nat.reduceLT, reduceIte, Nat.le_refl, true_or, or_true, and_self, Int.reduceLE, Int.reduceLT, Int.reduceEq, Int.reduceNeg, Int.natCast_nonneg, Int.reduceToNat, ops, vals, dots, h0, h1, h5, h7, hp, hoA, e3, e4, e5, Nat.zero_mul, Nat.one_mul]
    refine ⟨fun hlt => ?_, fun hge => ?_⟩
    · simp at hlt
      have hwd := wd (gN w i)
      obtain ⟨nx1, nx2, nx3, nx4⟩ := next_in (q := 1) hy (by omega) hwd (by omega)
      repeat (refine And.intro (by omega) ?_)
      first | refine caS_i (next_ok y (IntKind.i64.wrap ((IntKind.u64.wrap (gN w i)).tmod 1099511627777)) 1) trivial ?_ | refine caD_i (next_ok y (IntKind.i64.wrap ((IntKind.u64.wrap (gN w i)).tmod 1099511627777)) 1) trivial ?_ | refine gC_i (fun _ => next_ok y (IntKind.i64.wrap ((IntKind.u64.wrap (gN w i)).tmod 1099511627777)) 1) trivial ?_ | refine gCD_i (fun _ => next_ok y (IntKind.i64.wrap ((IntKind.u64.wrap (gN w i)).tmod 1099511627777)) 1) trivial ?_ | refine caE_i (next_ok y (IntKind.i64.wrap ((IntKind.u64.wrap (gN w i)).tmod 1099511627777)) 1) trivial ?_
      generalize nextT y (IntKind.i64.wrap ((IntKind.u64.wrap (gN w i)).tmod 1099511627777)) 1 = nn at *
      obtain ⟨nw, ne⟩ := nn
      simp only at nx1 nx2 nx3 nx4
      subst nx1
      simp (config := {contextual := true, maxSteps := 1000000}) only [go_sem, ints, intRows, iv_c, Nat.reduceAdd, Nat.reduceBEq, Nat.reduceEqDiff, Nat.reduceLeDiff, Nat.reduceLT, reduceIte, Nat.le_refl, true_or, or_true, and_self, Int.reduceLE, Int.reduceLT, Int.reduceEq, Int.reduceNeg, Int.natCast_nonneg, Int.reduceToNat, ops, vals, dots, h0, h1, h5, h7, hp, hoA, e3, e4, e5, Nat.zero_mul, Nat.one_mul]
      refine ⟨by omega, ?_⟩
      generalize hB : n' + 1 + 1 + 1 + 1 + 1 + 1 + 1 + 1 + 1 + 1 + 1 + 1 + 1 + 1 + 1 + 1 + 1 + 1 + 1 + 1 + 1 + 1 = B
      have hoB := updO_s (updO ob B (some { k := 3, l := [[V.c (Value.int IntKind.i64 0), V.c (Value.int IntKind.i64 0), V.c (Value.int IntKind.i64 0)]], cap := none })) B (some { k := 3, l := [stV nw], cap := none })
      have hA2 : updO (updO ob B (some { k := 3, l := [[V.c (Value.int IntKind.i64 0), V.c (Value.int IntKind.i64 0), V.c (Value.int IntKind.i64 0)]], cap := none })) B (some { k := 3, l := [stV nw], cap := none }) A = some ⟨6, [stV x ++ stV y], none⟩ := by
        rw [updO, if_neg (by omega), updO, if_neg (by omega), hoA]
      have ho2 : Own B (updO (updO ob B (some { k := 3, l := [[V.c (Value.int IntKind.i64 0), V.c (Value.int IntKind.i64 0), V.c (Value.int IntKind.i64 0)]], cap := none })) B (some { k := 3, l := [stV nw], cap := none })) sv 3 (s.map stV) :=
        (own_upd (own_upd hos (by omega)) (by omega)).mono (by omega)
      generalize updO (updO ob B (some { k := 3, l := [[V.c (Value.int IntKind.i64 0), V.c (Value.int IntKind.i64 0), V.c (Value.int IntKind.i64 0)]], cap := none })) B (some { k := 3, l := [stV nw], cap := none }) = ob2 at *
      simp (config := {contextual := true, maxSteps := 1000000}) only [go_sem, ints, intRows, iv_c, Nat.reduceAdd, Nat.reduceBEq, Nat.reduceEqDiff, Nat.reduceLeDiff, Nat.reduceLT, reduceIte, Nat.le_refl, true_or, or_true, and_self, Int.reduceLE, Int.reduceLT, Int.reduceEq, Int.reduceNeg, Int.natCast_nonneg, Int.reduceToNat, ops, vals, dots, h0, h1, h5, h7, hp, hA2, e3, e4, e5, Nat.zero_mul, Nat.one_mul]
      first | refine caS_i (cmpT_ok nw y) trivial ?_ | refine caD_i (cmpT_ok nw y) trivial ?_ | refine gC_i (fun _ => cmpT_ok nw y) trivial ?_ | refine gCD_i (fun _ => cmpT_ok nw y) trivial ?_ | refine caE_i (cmpT_ok nw y) trivial ?_
      simp (config := {contextual := true, maxSteps := 1000000}) only [go_sem, ints, intRows, iv_c, Nat.reduceAdd, Nat.reduceBEq, Nat.reduceEqDiff, Nat.reduceLeDiff, Nat.reduceLT, reduceIte, Nat.le_refl, true_or, or_true, and_self, Int.reduceLE, Int.reduceLT, Int.reduceEq, Int.reduceNeg, Int.natCast_nonneg, Int.reduceToNat, ops, vals, dots, nx2]
      refine wpC_lp (fun env' ob' n2 => ob' = ob2 ∧ B < n2 ∧ env' 0 = ints .b w ∧ env' 1 = bools .b t ∧ env' 5 = .pt A 0 0 ∧ env' 6 = sv ∧ env' 7 = vi i ∧ env' 8 = vi 1 ∧ env' 9 = .pt B 0 0 ∧ ∃ k : Nat, env' 11 = vi k ∧ k ≤ s.length) (fun env' _ _ => (s.length - iv (env' 11)).toNat) ?_ ?_
      · simp (config := {contextual := true, maxSteps := 1000000}) only [go_sem, ints, intRows, iv_c, Nat.reduceAdd, Nat.reduceBEq, Nat.reduceEqDiff, Nat.reduceLeDiff, Nat.reduceLT, reduceIte, Nat.le_refl, true_or, or_true, and_self, Int.reduceLE, Int.reduceLT, Int.reduceEq, Int.reduceNeg, Int.natCast_nonneg, Int.reduceToNat, ops, vals, dots, h0, h1, h5, h6, h7]
        exact ⟨by omega, 0, rfl, Nat.zero_le _⟩
      rintro env' ob' n2 ⟨rfl, hn2, g0, g1, g5, g6, g7, g8, g9, k, g11, hk⟩
      obtain ⟨hlv, id, hia, hid⟩ := own_see ho2
      rw [List.length_map] at hlv hia hid
      simp (config := {contextual := true, maxSteps := 1000000}) only [go_sem, ints, intRows, iv_c, Nat.reduceAdd, Nat.reduceBEq, Nat.reduceEqDiff, Nat.reduceLeDiff, Nat.reduceLT, reduceIte, Nat.le_refl, true_or, or_true, and_self, Int.reduceLE, Int.reduceLT, Int.reduceEq, Int.reduceNeg, Int.natCast_nonneg, Int.reduceToNat, ops, vals, dots, g0, g1, g5, g6, g7, g8, g9, g11, hlv]
      refine ⟨fun hlk => ?_, fun hgk => ?_⟩
      · simp at hlk
        obtain ⟨cp, hobs⟩ := hid (by omega)
        simp (config := {contextual := true, maxSteps := 1000000}) only [go_sem, ints, intRows, iv_c, Nat.reduceAdd, Nat.reduceBEq, Nat.reduceEqDiff, Nat.reduceLeDiff, Nat.reduceLT, reduceIte, Nat.le_refl, true_or, or_true, and_self, Int.reduceLE, Int.reduceLT, Int.reduceEq, Int.reduceNeg, Int.natCast_nonneg, Int.reduceToNat, ops, vals, dots, g0, g1, g5, g6, g7, g8, g9, g11, hia k hlk, hobs, hoB, Nat.add_zero, Nat.zero_add]
        repeat (refine And.intro (by omega) ?_)
        first | refine caS_i (cmpT_ok (gN s k) nw) trivial ?_ | refine caD_i (cmpT_ok (gN s k) nw) trivial ?_ | refine gC_i (fun _ => cmpT_ok (gN s k) nw) trivial ?_ | refine gCD_i (fun _ => cmpT_ok (gN s k) nw) trivial ?_ | refine caE_i (cmpT_ok (gN s k) nw) trivial ?_
        have hne : decide (cmpT (gN s k) nw = 0) = false := by
          have hm : gN s k ∈ s := by rw [gN_eq hlk]; exact List.getElem_mem _
          have h1 := hse _ hm
          have r1 := cmpT_r (gN s k) nw
          have r2 := cmpT_r (gN s k) x
          have r3 := cmpT_r (gN s k) y
          have r4 := cmpT_r nw y
          simp only [decide_eq_false_iff_not]
          omega
        have wk : IntKind.i64.wrap ((k : Int) + 1) = ((k + 1 : Nat) : Int) := by rw [w64 (by omega)]; omega
        simp (config := {contextual := true, maxSteps := 1000000}) only [go_sem, ints, intRows, iv_c, Nat.reduceAdd, Nat.reduceBEq, Nat.reduceEqDiff, Nat.reduceLeDiff, Nat.reduceLT, reduceIte, Nat.le_refl, true_or, or_true, and_self, Int.reduceLE, Int.reduceLT, Int.reduceEq, Int.reduceNeg, Int.natCast_nonneg, Int.reduceToNat, ops, vals, dots, g0, g1, g5, g6, g7, g8, g9, g11, hne, wk]
        exact ⟨⟨by omega, k + 1, rfl, by omega⟩, by omega⟩
      · simp (config := {contextual := true, maxSteps := 1000000}) only [go_sem, ints, intRows, iv_c, Nat.reduceAdd, Nat.reduceBEq, Nat.reduceEqDiff, Nat.reduceLeDiff, Nat.reduceLT, reduceIte, Nat.le_refl, true_or, or_true, and_self, Int.reduceLE, Int.reduceLT, Int.reduceEq, Int.reduceNeg, Int.natCast_nonneg, Int.reduceToNat, ops, vals, dots, g0, g1, g5, g6, g7, g8, g9, g11, hlv, hA2, hoB, e3, e4, e5, Nat.zero_mul, Nat.one_mul]
        refine nxE_app (ho2.mono (Nat.le_of_lt hn2)) (by omega) rfl (by simp [stV_row]) (by simp [maxLen]; omega) fun sv2 ob3 T how hfr hT => ⟨?_, ?_⟩
        · simp only [sepL_c, sepL_nil, List.getElem?_cons_succ, List.getElem?_cons_zero, sepAt_s, sepE_eq, apart_s, apart_n, apL_n, and_true, true_and]
          refine apL_iff.2 fun z hz => ?_
          rcases hT z hz with h | h
          · simp; omega
          · simp; intro e; exact own_lt (len := (s.map stV).length) ho2 (Nat.le_refl B) (e ▸ h)
        have hA3 : ob3 A = some ⟨6, [stV x ++ stV y], none⟩ := by
          rw [hfr A (by omega) (own_ne ho2 hA2 (by omega)), hA2]
        have hTA : apL T [A] := apL_iff.2 fun z hz => by
          rcases hT z hz with h | h
          · simp; omega
          · simp; intro e; exact own_ne ho2 hA2 (by omega) (e ▸ h)
        have hB3 : ob3 B = some ⟨3, [stV nw], none⟩ := by
          rw [hfr B (by omega) (own_lt ho2 (Nat.le_refl B)), hoB]
        simp (config := {contextual := true, maxSteps := 1000000}) only [go_sem, ints, intRows, iv_c, Nat.reduceAdd, Nat.reduceBEq, Nat.reduceEqDiff, Nat.reduceLeDiff, Nat.reduceLT, reduceIte, Nat.le_refl, true_or, or_true, and_self, Int.reduceLE, Int.reduceLT, Int.reduceEq, Int.reduceNeg, Int.natCast_nonneg, Int.reduceToNat, ops, vals, dots, g0, g1, g5, g6, g7, g8, g9, g11, hlv, hA2, hoB, e3, e4, e5, e6, Nat.zero_mul, Nat.one_mul, hA3, hB3, u0, u1, eq_true hTA]
        have hA4 := updO_s ob3 A (some { k := 6, l := [stV x ++ stV nw], cap := none })
        have hB4 : updO ob3 A (some { k := 6, l := [stV x ++ stV nw], cap := none }) B = some ⟨3, [stV nw], none⟩ := by rw [updO, if_neg (by omega), hB3]
        have ho4 : Own (n2 + 10) (updO ob3 A (some { k := 6, l := [stV x ++ stV nw], cap := none })) sv2 3 ((s ++ [nw]).map stV) := by
          rw [List.map_append]; exact own_updo how hA3 (by omega)
        generalize updO ob3 A (some { k := 6, l := [stV x ++ stV nw], cap := none }) = ob4 at *
        have wi : IntKind.i64.wrap ((i : Int) + 1) = ((i + 1 : Nat) : Int) := by rw [w64 (by omega)]; omega
        have hm1 : ∀ {z : St3}, inT z i → inT z (i + 1) := fun h => by obtain ⟨a1, a2, a3, a4, a5⟩ := h; exact ⟨a1, a2, a3, by omega, a5⟩
        have hI1 : inT x (i + 1) := by first | exact nx3 | exact hm1 hx
        have hI2 : inT nw (i + 1) := by first | exact nx3 | exact hm1 hy
        have hs4 : seenI x nw (s ++ [nw]) := fun z hz => by
          rcases List.mem_append.1 hz with h | h
          · have h1 := hse z h
            have r1 := cmpT_r z nw
            have r2 := cmpT_r z y
            have r4 := cmpT_r nw y
            omega
          · simp at h; subst h
            have r1 := cmpT_r z z
            omega
        refine ⟨apL_iff.2 fun _ _ => by simp, fun h => by simpa using h, fun hto => ?_, fun hnt => ?_⟩
        · simp (config := {contextual := true, maxSteps := 1000000}) only [go_sem, ints, intRows, iv_c, Nat.reduceAdd, Nat.reduceBEq, Nat.reduceEqDiff, Nat.reduceLeDiff, Nat.reduceLT, reduceIte, Nat.le_refl, true_or, or_true, and_self, Int.reduceLE, Int.reduceLT, Int.reduceEq, Int.reduceNeg, Int.natCast_nonneg, Int.reduceToNat, ops, vals, dots, g0, g1, g5, g6, g7, g8, g9, g11, hB4]
          first | refine caS_i (later_ok x nw) trivial ?_ | refine caD_i (later_ok x nw) trivial ?_ | refine gC_i (fun _ => later_ok x nw) trivial ?_ | refine gCD_i (fun _ => later_ok x nw) trivial ?_ | refine caE_i (later_ok x nw) trivial ?_
          simp (config := {contextual := true, maxSteps := 1000000}) only [go_sem, ints, intRows, iv_c, Nat.reduceAdd, Nat.reduceBEq, Nat.reduceEqDiff, Nat.reduceLeDiff, Nat.reduceLT, reduceIte, Nat.le_refl, true_or, or_true, and_self, Int.reduceLE, Int.reduceLT, Int.reduceEq, Int.reduceNeg, Int.natCast_nonneg, Int.reduceToNat, ops, vals, dots, g0, g1, g5, g6, g7, g8, g9, g11, hlv, hA4, hB4, e3, e4, e5, e6, Nat.zero_mul, Nat.one_mul, u0, u1]
          generalize hC : n2 + 1 + 1 + 1 + 1 + 9 + 1 + 1 + 1 + 1 + 1 + 1 + 1 + 1 + 1 + 1 + 1 + 1 + 1 + 1 + 1 + 1 = C
          have hA5 : (updO (updO ob4 C (some { k := 3, l := [[V.c (Value.int IntKind.i64 0), V.c (Value.int IntKind.i64 0), V.c (Value.int IntKind.i64 0)]], cap := none })) C (some { k := 3, l := [stV (laterT x nw)], cap := none })) A = some ⟨6, [stV x ++ stV nw], none⟩ := by
            rw [updO, if_neg (by omega), updO, if_neg (by omega), hA4]
          have hB5 : (updO (updO ob4 C (some { k := 3, l := [[V.c (Value.int IntKind.i64 0), V.c (Value.int IntKind.i64 0), V.c (Value.int IntKind.i64 0)]], cap := none })) C (some { k := 3, l := [stV (laterT x nw)], cap := none })) B = some ⟨3, [stV nw], none⟩ := by
            rw [updO, if_neg (by omega), updO, if_neg (by omega), hB4]
          have hC5 := updO_s (updO ob4 C (some { k := 3, l := [[V.c (Value.int IntKind.i64 0), V.c (Value.int IntKind.i64 0), V.c (Value.int IntKind.i64 0)]], cap := none })) C (some { k := 3, l := [stV (laterT x nw)], cap := none })
          have ho5 : Own C (updO (updO ob4 C (some { k := 3, l := [[V.c (Value.int IntKind.i64 0), V.c (Value.int IntKind.i64 0), V.c (Value.int IntKind.i64 0)]], cap := none })) C (some { k := 3, l := [stV (laterT x nw)], cap := none })) sv2 3 ((s ++ [nw]).map stV) := (own_upd (own_upd (ho4.mono (by omega)) (Nat.le_refl C)) (Nat.le_refl C))
          generalize updO (updO ob4 C (some { k := 3, l := [[V.c (Value.int IntKind.i64 0), V.c (Value.int IntKind.i64 0), V.c (Value.int IntKind.i64 0)]], cap := none })) C (some { k := 3, l := [stV (laterT x nw)], cap := none }) = ob5 at *
          have hla := later_r x nw
          have n1 : decide (cmpT (laterT x nw) nw < 0) = false := by
            have r1 := cmpT_r nw nw
            rcases hla with ⟨e, h⟩ | ⟨e, h⟩ <;> rw [e] <;> simp <;> omega
          have n2' : decide (cmpT (laterT x nw) x < 0) = false := by
            have r1 := cmpT_r x x
            have r2 := cmpT_r x nw
            have r3 := cmpT_r nw x
            rcases hla with ⟨e, h⟩ | ⟨e, h⟩ <;> rw [e] <;> simp <;> omega
          have hI5 : inT (laterT x nw) (i + 1) ∧ inT nw (i + 1) := by
            rcases hla with ⟨e, h⟩ | ⟨e, h⟩ <;> simp only [e] <;> first | exact ⟨hI1, hI2⟩ | exact ⟨nx3, nx3⟩
          have hs5 : seenI (laterT x nw) nw (s ++ [nw]) := by
            rcases hla with ⟨e, h⟩ | ⟨e, h⟩ <;> rw [e]
            · exact hs4
            · intro z hz
              have h1 := hs4 z hz
              have r1 := cmpT_r z x
              have r2 := cmpT_r x nw
              have r3 := cmpT_r z nw
              omega
          simp (config := {contextual := true, maxSteps := 1000000}) only [go_sem, ints, intRows, iv_c, Nat.reduceAdd, Nat.reduceBEq, Nat.reduceEqDiff, Nat.reduceLeDiff, Nat.reduceLT, reduceIte, Nat.le_refl, true_or, or_true, and_self, Int.reduceLE, Int.reduceLT, Int.reduceEq, Int.reduceNeg, Int.natCast_nonneg, Int.reduceToNat, ops, vals, dots, g0, g1, g5, g6, g7, g8, g9, g11, hA5, hB5, hC5, e3, e4, e5, e6, Nat.zero_mul, Nat.one_mul, u0, u1]
          first | refine caS_i (cmpT_ok (laterT x nw) nw) trivial ?_ | refine caD_i (cmpT_ok (laterT x nw) nw) trivial ?_ | refine gC_i (fun _ => cmpT_ok (laterT x nw) nw) trivial ?_ | refine gCD_i (fun _ => cmpT_ok (laterT x nw) nw) trivial ?_ | refine caE_i (cmpT_ok (laterT x nw) nw) trivial ?_
          simp (config := {contextual := true, maxSteps := 1000000}) only [go_sem, ints, intRows, iv_c, Nat.reduceAdd, Nat.reduceBEq, Nat.reduceEqDiff, Nat.reduceLeDiff, Nat.reduceLT, reduceIte, Nat.le_refl, true_or, or_true, and_self, Int.reduceLE, Int.reduceLT, Int.reduceEq, Int.reduceNeg, Int.natCast_nonneg, Int.reduceToNat, ops, vals, dots, g0, g1, g5, g6, g7, g8, g9, g11, hA5, hB5, hC5, e3, e4, e5, e6, Nat.zero_mul, Nat.one_mul, u0, u1, n1]
          first | refine caS_i (cmpT_ok (laterT x nw) x) trivial ?_ | refine caD_i (cmpT_ok (laterT x nw) x) trivial ?_ | refine gC_i (fun _ => cmpT_ok (laterT x nw) x) trivial ?_ | refine gCD_i (fun _ => cmpT_ok (laterT x nw) x) trivial ?_ | refine caE_i (cmpT_ok (laterT x nw) x) trivial ?_
          simp (config := {contextual := true, maxSteps := 1000000}) only [go_sem, ints, intRows, iv_c, Nat.reduceAdd, Nat.reduceBEq, Nat.reduceEqDiff, Nat.reduceLeDiff, Nat.reduceLT, reduceIte, Nat.le_refl, true_or, or_true, and_self, Int.reduceLE, Int.reduceLT, Int.reduceEq, Int.reduceNeg, Int.natCast_nonneg, Int.reduceToNat, ops, vals, dots, g0, g1, g5, g6, g7, g8, g9, g11, hA5, hB5, hC5, e3, e4, e5, e6, Nat.zero_mul, Nat.one_mul, u0, u1, n2', wi]
          exact ⟨⟨A, i + 1, (laterT x nw), nw, s ++ [nw], rfl, by omega, updO_s _ _ _, rfl, by omega, by simp [hsl], (own_updo ho5 hA5 (by omega)).mono (by omega), hI5.1, hI5.2, hs5⟩, by omega⟩
        · simp (config := {contextual := true, maxSteps := 1000000}) only [go_sem, ints, intRows, iv_c, Nat.reduceAdd, Nat.reduceBEq, Nat.reduceEqDiff, Nat.reduceLeDiff, Nat.reduceLT, reduceIte, Nat.le_refl, true_or, or_true, and_self, Int.reduceLE, Int.reduceLT, Int.reduceEq, Int.reduceNeg, Int.natCast_nonneg, Int.reduceToNat, ops, vals, dots, g0, g1, g5, g6, g7, g8, g9, g11, wi]
          exact ⟨⟨A, i + 1, x, nw, s ++ [nw], rfl, by omega, hA4, rfl, by omega, by simp [hsl], ho4.mono (by omega), hI1, hI2, hs4⟩, by omega⟩
    · first | refine caS_i (wakes06_ok) trivial ?_ | refine caD_i (wakes06_ok) trivial ?_ | refine gC_i (fun _ => wakes06_ok) trivial ?_ | refine gCD_i (fun _ => wakes06_ok) trivial ?_ | refine caE_i (wakes06_ok) trivial ?_
      simp (config := {contextual := true, maxSteps := 1000000}) only [go_sem, ints, intRows, iv_c, Nat.reduceAdd, Nat.reduceBEq, Nat.reduceEqDiff, Nat.reduceLeDiff, Nat.reduceLT, reduceIte, Nat.le_refl, true_or, or_true, and_self, Int.reduceLE, Int.reduceLT, Int.reduceEq, Int.reduceNeg, Int.natCast_nonneg, Int.reduceToNat, ops, vals, dots]
theorem HlcMeets_law (w : List Int) (t : List Bool) (_ : gList (gInt .i64) w) (_ : gList gTrue t) : FnB Try.prog 8 [ints .b w, bools .b t] (vb true) := HlcMeets_ok w t
end Go.Proofs.Ytelgaglbkcacnaa.D
end
section
set_option linter.unusedVariables false
set_option linter.unusedSimpArgs false
set_option linter.constructorNameAsVariable false
/- The row of HlcMeets, out of what the law answers to plain values. No condition beyond the statement's own. -/
namespace Go.Proofs.Ytelgaglbkcacnaa.hlcMeets
open Go.ChangeShapes Go.WideShapes Go.ChangeAt Go.RowKit Go.Proofs.Ytelgaglbkcacnaa.D
open Go.ChangeMaps (open_string shut_string)
theorem own : ownKnob Try.prog.godebug = none := by kernel_rfl
theorem laidOut : laidOutB Try.prog = true := by kernel_rfl
set_option maxRecDepth 100000 in
set_option maxHeartbeats 2000000 in
theorem lifted (os : Os) (started : os.Started) (H : Type) (enc : TypeId × Value → H) :
    ReturnsInHanded {} Try.checked os 8 .any (Rows.hlcMeetsSpec.pre6 enc Try.prog Try.f8 Rows.hlcMeetsRow.domain false) (Rows.hlcMeetsSpec.post enc Try.prog Try.f8 false true false false) := by
  refine returnsInHanded_of_change_sized (C := Try.checked) own started (by kernel_rfl) Try.func8
    (ChangeSpec.witness6 (enc := enc) (C := Try.checked) false ⟨#[], #[.slice none 0 0, .slice none 0 0], []⟩ 8 (by kernel_rfl) (by kernel_rfl) (by kernel_rfl) (by kernel_rfl)) ?_
  intro W base args ds gs before hval0 hW hcnd hsz0 _
  have hval : ∀ (j : Nat) t v, Try.f8.params[j]? = some t → args[j]? = some v → Value.okWide Try.prog W .any base t v := hval0
  have hW' := hW
  obtain ⟨p, q, hA0, hV, rfl, hfz, hnd⟩ := hW
  have hA : DataW.TrodAll enc Try.prog W 0 (fun _ => true) true Try.f8.params.toList args.toList ds p := hA0
  rw [Try.params8] at hA hval
  obtain ⟨v0, vs0, d0, ds0, p0, q0, hargs, rfl, rfl, h0, r0⟩ := trodAll_cons hA
  obtain ⟨v1, vs1, d1, ds1, p1, q1, rfl, rfl, rfl, h1, r1⟩ := trodAll_cons r0
  obtain ⟨rfl, rfl, rfl⟩ := trodAll_nil r1
  obtain rfl : args = #[v0, v1] := by cases args; simp_all
  obtain ⟨rfl, rfl⟩ := trodVars_none hV
  have k0 := h0
  have lt0 : ∀ x ∈ p0, x.block < W.heap.size := by obtain ⟨m, hm⟩ := k0; exact DataW.trod_lt m _ _ _ hm
  obtain ⟨_, _, _, e0⟩ := okWide_slice Try.underlying22 (hval 0 22 v0 rfl rfl)
  obtain ⟨a0, R0, G0⟩ := arg_one (opn_slice (sz := 1) Try.underlying22 (opn_int Try.underlying3) (by kernel_rfl) (by decide) (fun _ => rfl)) (by rw [e0]; rfl) h0
  have k1 := h1
  have lt1 : ∀ x ∈ p1, x.block < W.heap.size := by obtain ⟨m, hm⟩ := k1; exact DataW.trod_lt m _ _ _ hm
  obtain ⟨_, _, _, e1⟩ := okWide_slice Try.underlying41 (hval 1 41 v1 rfl rfl)
  obtain ⟨a1, R1, G1⟩ := arg_one (opn_slice (sz := 1) Try.underlying41 (opn_bool Try.underlying4) (by kernel_rfl) (by decide) (fun _ => rfl)) (by rw [e1]; rfl) h1
  clear hA0 hval0 hsz0
  have hfn := HlcMeets_law a0 a1 G0 G1
  refine (hfn.2 bkA W [v0, v1] (RVs_cons R0 (RVs_cons R1 RVs_nil))).mono fun e W' ⟨x, he, hr, bel⟩ => ?_
  subst he
  obtain rfl := res_true hr
  exact ⟨_, rfl, _, _, _, [], _, [], hW', trodAll_mk1 (shut_bool Try.underlying4 _), (trodAll_cons_mk (Below.trod laidOut (by kernel_rfl) (of_decide_eq_true (by kernel_rfl)) k0 bel lt0) (trodAll_cons_mk (Below.trod laidOut (by kernel_rfl) (of_decide_eq_true (by kernel_rfl)) k1 bel lt1) trodAll_mk0)), rfl, bel.frame _, fun h => by cases h⟩
theorem over : Rows.hlcMeetsRow.holds Try.pinned (OpenSpec.ofChange Rows.hlcMeetsSpec) :=
  OpenClaim.holds_of_wide 8 Try.f8 rfl rfl rfl rfl rfl rfl rfl ⟨rfl, rfl, rfl, rfl, rfl⟩ rfl rfl rfl rfl rfl (by kernel_rfl) Try.func8 (by kernel_rfl)
    (of_decide_eq_true (by kernel_rfl)) (by unfold Func.isWrapper; first | (rw [if_pos (by decide +kernel)]; kernel_rfl) | (rw [if_neg (by decide +kernel)]; exact ⟨rfl, rfl⟩))
    (fun os started H enc _ => lifted os started H enc)
theorem proved : Rows.HlcMeetsSaid := over
#print axioms proved
end Go.Proofs.Ytelgaglbkcacnaa.hlcMeets
namespace Go.Proofs.Ytelgaglbkcacnaa
/-- The row, under a short name, for the claim. -/
theorem hlcMeets_holds : Rows.HlcMeetsSaid := hlcMeets.proved
end Go.Proofs.Ytelgaglbkcacnaa
end
