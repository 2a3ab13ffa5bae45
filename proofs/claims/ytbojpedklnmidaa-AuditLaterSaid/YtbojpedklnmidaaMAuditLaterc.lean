/- AuditLater, packed. No condition beyond the statement's own. -/
import Derived.Test.YtbojpedklnmidaaMAuditLaterb
import Derived.ProofKit
import Derived.ChangeArms
import Derived.ChangeSlices
section
set_option linter.unusedVariables false
set_option linter.unusedSimpArgs false
set_option linter.constructorNameAsVariable false
/- Walking over plain values, step by step. No condition. -/
namespace Go.Proofs.Ytbojpedklnmidaa.D
open Go Go.RowKit

/-- Behind an operation, in a region of one order, of any order. -/
def nxS (P : Program) (d : Option Nat) (l : List RO) (nid : Nat) (env : Env) (ob : OB) (J : Env → OB → Nat → Prop) (x : Option (V × Ups)) : Prop :=
  match x with
  | some (r, us) => wpS P l (nid + 1) (put env d r) (apps ob us) J
  | none => False
def nxD (P : Program) (loud : Bool) (d : Option Nat) (l : List RO) (nid : Nat) (env : Env) (ob : OB) (dl : Ups) (K : Env → OB → Prop) (x : Option (V × Ups)) : Prop :=
  match x with
  | some (r, us) => wpD P l (nid + 1) (put env d r) (cond loud (apps ob us) ob) (cond loud dl (dl ++ us)) K
  | none => False

def exS (P : Program) (o : RO) (l : List RO) (nid : Nat) (env : Env) (ob : OB) (J : Env → OB → Nat → Prop) : Prop :=
  stpR P o.op (o.xs.map (ev env)) ob nid fun r ob' n' => wpS P l n' (put env o.d r) ob' J
def exD (P : Program) (o : RO) (l : List RO) (nid : Nat) (env : Env) (ob : OB) (dl : Ups) (K : Env → OB → Prop) : Prop :=
  ∃ r us, OpR P o.op (o.xs.map (ev env)) ob nid r us ∧ wpD P l (nid + 1) (put env o.d r) (if isLoud o.op then apps ob us else ob) (if isLoud o.op then dl else dl ++ us) K

/-- A guard. -/
def gS (v : V) (want : Bool) (P : Program) (o : RO) (l : List RO) (nid : Nat) (env : Env) (ob : OB) (J : Env → OB → Nat → Prop) : Prop :=
  ∃ b, v = sk b ∧ (b = some want → exS P o l nid env ob J) ∧ (¬ b = some want → wpS P l (nid + 1) (put env o.d (.c undef)) ob J)
def gD (v : V) (want : Bool) (P : Program) (o : RO) (l : List RO) (nid : Nat) (env : Env) (ob : OB) (dl : Ups) (K : Env → OB → Prop) : Prop :=
  ∃ b, v = sk b ∧ (b = some want → exD P o l nid env ob dl K) ∧ (¬ b = some want → wpD P l (nid + 1) (put env o.d (.c undef)) ob dl K)
theorem sk_b {b : Bool} {w : Bool} {A B : Prop} : (∃ b', V.c (.bool b) = sk b' ∧ (b' = some w → A) ∧ (¬ b' = some w → B)) = ((b = w → A) ∧ (¬ b = w → B)) := by
  apply propext; constructor
  · rintro ⟨b', h1, h2, h3⟩
    cases b' with
    | none => simp [sk, undef] at h1
    | some b' => simp [sk] at h1; subst h1; exact ⟨fun e => h2 (by rw [e]), fun e => h3 (by simpa using e)⟩
  · rintro ⟨h2, h3⟩; exact ⟨some b, rfl, fun e => h2 (by simpa using e), fun e => h3 (by simpa using e)⟩
theorem sk_u {w : Bool} {A B : Prop} : (∃ b', V.c undef = sk b' ∧ (b' = some w → A) ∧ (¬ b' = some w → B)) = B := by
  apply propext; constructor
  · rintro ⟨b', h1, h2, h3⟩
    cases b' with
    | none => exact h3 (by simp)
    | some b' => simp [sk, undef] at h1
  · intro h; exact ⟨none, rfl, fun e => (by cases e), fun _ => h⟩

/-- A call: what is to be told is what it answers. -/
def caS (P : Program) (f : Nat) (vs : List V) (m : Md) (d : Option Nat) (l : List RO) (nid : Nat) (env : Env) (ob : OB) (J : Env → OB → Nat → Prop) : Prop :=
  ∃ q, FnB P f vs q ∧ impOk m q ∧ nxS P d l nid env ob J (some (imp m nid q))
def caD (P : Program) (f : Nat) (vs : List V) (m : Md) (d : Option Nat) (l : List RO) (nid : Nat) (env : Env) (ob : OB) (dl : Ups) (K : Env → OB → Prop) : Prop :=
  ∃ q, FnB P f vs q ∧ impOk m q ∧ nxD P false d l nid env ob dl K (some (imp m nid q))
def cvS (P : Program) (v : V) (as_ : List V) (m : Md) (d : Option Nat) (l : List RO) (nid : Nat) (env : Env) (ob : OB) (J : Env → OB → Nat → Prop) : Prop :=
  match v with
  | .fn f caps => caS P f ((as_ ++ caps).map (resV ob 6)) m d l nid env ob J
  | _ => False
def cvD (P : Program) (v : V) (as_ : List V) (m : Md) (d : Option Nat) (l : List RO) (nid : Nat) (env : Env) (ob : OB) (dl : Ups) (K : Env → OB → Prop) : Prop :=
  match v with
  | .fn f caps => caD P f ((as_ ++ caps).map (resV ob 6)) m d l nid env ob dl K
  | _ => False

/-- A call that shares the store. -/
def nxtS (P : Program) (vs : List V) (d : Option Nat) (l : List RO) (nid : Nat) (env : Env) (ob : OB) (J : Env → OB → Nat → Prop) : Prop :=
  NxS vs ob nid fun r ob' n' => wpS P l n' (put env d r) ob' J
def rcS (P : Program) (f : Nat) (vs : List V) (d : Option Nat) (l : List RO) (nid : Nat) (env : Env) (ob : OB) (J : Env → OB → Nat → Prop) : Prop :=
  (FnS P f vs ob nid fun r ob' n' => wpS P l n' (put env d r) ob' J) ∨ FnX P f vs ob nid fun r ob' n' => wpS P l n' (put env d r) ob' J
def gR (P : Program) (w b : Bool) (f : Nat) (vs : List V) (d : Option Nat) (l : List RO) (nid : Nat) (env : Env) (ob : OB) (J : Env → OB → Nat → Prop) : Prop :=
  (b = w → rcS P f vs d l nid env ob J) ∧ (b = !w → wpS P l (nid + 1) (put env d (.c undef)) ob J)

/-- Behind a guard that is not known: the operation's answer, or nothing. -/
def gM (P : Program) (w b : Bool) (d : Option Nat) (l : List RO) (nid : Nat) (env : Env) (ob : OB) (J : Env → OB → Nat → Prop) (x : Option (V × Ups)) : Prop :=
  (b = w → nxS P d l nid env ob J x) ∧ (b = !w → wpS P l (nid + 1) (put env d (.c undef)) ob J)
def gN_ (P : Program) (w b loud : Bool) (d : Option Nat) (l : List RO) (nid : Nat) (env : Env) (ob : OB) (dl : Ups) (K : Env → OB → Prop) (x : Option (V × Ups)) : Prop :=
  (b = w → nxD P loud d l nid env ob dl K x) ∧ (b = !w → wpD P l (nid + 1) (put env d (.c undef)) ob dl K)
def gC (P : Program) (w b : Bool) (f : Nat) (vs : List V) (m : Md) (d : Option Nat) (l : List RO) (nid : Nat) (env : Env) (ob : OB) (J : Env → OB → Nat → Prop) : Prop :=
  (b = w → caS P f vs m d l nid env ob J) ∧ (b = !w → wpS P l (nid + 1) (put env d (.c undef)) ob J)
def gCD (P : Program) (w b : Bool) (f : Nat) (vs : List V) (m : Md) (d : Option Nat) (l : List RO) (nid : Nat) (env : Env) (ob : OB) (dl : Ups) (K : Env → OB → Prop) : Prop :=
  (b = w → caD P f vs m d l nid env ob dl K) ∧ (b = !w → wpD P l (nid + 1) (put env d (.c undef)) ob dl K)
def gW (P : Program) (w b : Bool) (v : V) (as_ : List V) (m : Md) (d : Option Nat) (l : List RO) (nid : Nat) (env : Env) (ob : OB) (J : Env → OB → Nat → Prop) : Prop :=
  (b = w → cvS P v as_ m d l nid env ob J) ∧ (b = !w → wpS P l (nid + 1) (put env d (.c undef)) ob J)
def gWD (P : Program) (w b : Bool) (v : V) (as_ : List V) (m : Md) (d : Option Nat) (l : List RO) (nid : Nat) (env : Env) (ob : OB) (dl : Ups) (K : Env → OB → Prop) : Prop :=
  (b = w → cvD P v as_ m d l nid env ob dl K) ∧ (b = !w → wpD P l (nid + 1) (put env d (.c undef)) ob dl K)

section
variable {P : Program} {Q : Post} {env : Env} {ob : OB} {n nid : Nat} {K : Env → OB → Prop} {J : Env → OB → Nat → Prop} {l : List RO} {dl : Ups} {d : Option Nat} {op : Ok} {xs : List Od} {m : Md}

theorem wpS_congr {l : List RO} : wpS P l nid env ob J = wpS P l nid env ob J := (rfl)
theorem wpD_congr {l : List RO} : wpD P l nid env ob dl K = wpD P l nid env ob dl K := (rfl)
theorem wpC_congr {c : IC} : wpC P c Q env ob nid = wpC P c Q env ob nid := (rfl)
theorem exS_congr {o : RO} : exS P o l nid env ob J = exS P o l nid env ob J := (rfl)
theorem exD_congr {o : RO} : exD P o l nid env ob dl K = exD P o l nid env ob dl K := (rfl)
theorem gS_congr {o : RO} {w : Bool} {v v' : V} (h : v = v') : gS v w P o l nid env ob J = gS v' w P o l nid env ob J := by rw [h]
theorem gD_congr {o : RO} {w : Bool} {v v' : V} (h : v = v') : gD v w P o l nid env ob dl K = gD v' w P o l nid env ob dl K := by rw [h]
theorem nxS_congr {x x' : Option (V × Ups)} (h : x = x') : nxS P d l nid env ob J x = nxS P d l nid env ob J x' := by rw [h]
theorem nxD_congr {b b' : Bool} {x x' : Option (V × Ups)} (hb : b = b') (h : x = x') : nxD P b d l nid env ob dl K x = nxD P b' d l nid env ob dl K x' := by rw [h, hb]
theorem caS_congr {f : Nat} {vs vs' : List V} (h : vs = vs') : caS P f vs m d l nid env ob J = caS P f vs' m d l nid env ob J := by rw [h]
theorem caD_congr {f : Nat} {vs vs' : List V} (h : vs = vs') : caD P f vs m d l nid env ob dl K = caD P f vs' m d l nid env ob dl K := by rw [h]
theorem cvS_congr {v v' : V} {as_ as' : List V} (h : v = v') (ha : as_ = as') : cvS P v as_ m d l nid env ob J = cvS P v' as' m d l nid env ob J := by rw [h, ha]
theorem cvD_congr {v v' : V} {as_ as' : List V} (h : v = v') (ha : as_ = as') : cvD P v as_ m d l nid env ob dl K = cvD P v' as' m d l nid env ob dl K := by rw [h, ha]
theorem kS_congr : kS Q env ob n = kS Q env ob n := (rfl)
theorem rcS_congr {f : Nat} {vs vs' : List V} (h : vs = vs') : rcS P f vs d l nid env ob J = rcS P f vs' d l nid env ob J := by rw [h]
theorem gR_congr {w b : Bool} {f : Nat} {vs vs' : List V} (h : b = w → vs = vs') : gR P w b f vs d l nid env ob J = gR P w b f vs' d l nid env ob J := by cases w <;> cases b <;> simp [gR] at h ⊢ <;> rw [h]
theorem kN_congr {k : Nat} : kN Q k env ob = kN Q k env ob := (rfl)
/-- Behind an operation of a region that is told in its list's order. -/
def nxE (P : Program) (d : Option Nat) (l : List RO) (nps : List (List Nat)) (nid : Nat) (env : Env) (ob : OB) (past : List (List Nat × Option (List Nat))) (np : List Nat) (lk : Option (List Nat)) (K : Env → OB → Prop) (x : Option (V × Ups)) : Prop :=
  match x with
  | some (r, us) => sepL past np (tch us, lk) ∧ wpE P l nps (nid + 1) (put env d r) (apps ob us) (past ++ [(tch us, lk)]) K
  | none => False
def sepAt (a : Option (List Nat × Option (List Nat))) (q : List Nat × Option (List Nat)) : Prop := match a with
  | some a => sepE a q
  | none => False
theorem wpE_congr {nps : List (List Nat)} {past : List (List Nat × Option (List Nat))} : wpE P l nps nid env ob past K = wpE P l nps nid env ob past K := (rfl)
theorem nxE_congr {nps : List (List Nat)} {past : List (List Nat × Option (List Nat))} {np : List Nat} {lk : Option (List Nat)} {x x' : Option (V × Ups)} (h : x = x') : nxE P d l nps nid env ob past np lk K x = nxE P d l nps nid env ob past np lk K x' := by rw [h]
/-- A call in such a region. -/
def caE (P : Program) (f : Nat) (vs : List V) (m : Md) (d : Option Nat) (l : List RO) (nps : List (List Nat)) (nid : Nat) (env : Env) (ob : OB) (past : List (List Nat × Option (List Nat))) (np : List Nat) (lk : Option (List Nat)) (K : Env → OB → Prop) : Prop :=
  ∃ q, FnB P f vs q ∧ impOk m q ∧ nxE P d l nps nid env ob past np lk K (some (imp m nid q))
theorem caE_congr {f : Nat} {vs vs' : List V} {nps : List (List Nat)} {past : List (List Nat × Option (List Nat))} {np : List Nat} {lk lk' : Option (List Nat)} (h : vs = vs') (hk : lk = lk') : caE P f vs m d l nps nid env ob past np lk K = caE P f vs' m d l nps nid env ob past np lk' K := by rw [h, hk]
attribute [congr] wpE_congr nxE_congr caE_congr
theorem wpE_c {f : Nat} {nps : List (List Nat)} {past : List (List Nat × Option (List Nat))} : wpE P (⟨d, none, .call f m, xs⟩ :: l) nps nid env ob past K = caE P f ((xs.map (ev env)).map (resV ob 6)) m d l nps.tail nid env ob past (nps.headD []) (lkI (.call f m) (xs.map (ev env))) K := by
  simp only [wpE, gd, OpR, caE, nxE]
  apply propext
  constructor
  · rintro ⟨r, us, ⟨q, h1, h2, rfl, rfl⟩, h3, h4⟩; exact ⟨q, h1, h2, h3, h4⟩
  · rintro ⟨q, h1, h2, h3, h4⟩; exact ⟨_, _, ⟨q, h1, h2, rfl, rfl⟩, h3, h4⟩
theorem caE_i {f : Nat} {vs : List V} {q : V} {nps : List (List Nat)} {past : List (List Nat × Option (List Nat))} {np : List Nat} {lk : Option (List Nat)} (h : FnB P f vs q) (hm : impOk m q) (hn : nxE P d l nps nid env ob past np lk K (some (imp m nid q))) : caE P f vs m d l nps nid env ob past np lk K := ⟨q, h, hm, hn⟩
def lkF (vs : List V) : Option (List Nat) := if vs.all flatV then some [] else none
theorem lkI_call {f : Nat} {vs : List V} : lkI (.call f m) vs = lkF vs := by simp [lkI, lkF, noRead, lkB, isCl]
theorem lkF_n : lkF [] = some [] := (rfl)
theorem lkF_c {v : V} {l : List V} (h : flatV v = true) : lkF (v :: l) = lkF l := by simp [lkF, h]
theorem flat_c {v : Value} : flatV (.c v) = true := (rfl)
theorem flat_q : flatV .q = true := (rfl)
theorem flat_z : flatV .z = true := (rfl)
theorem flat_an : flatV (.ag []) = true := (rfl)
theorem flat_ag {v : V} {l : List V} (h : isC v = true) : flatV (.ag (v :: l)) = flatV (.ag l) := by simp [flatV, h]
theorem isC_c {v : Value} : isC (.c v) = true := (rfl)
theorem wpC_re {np : List (List Nat)} : wpC P (.re l np) Q env ob n = wpE P l np n env ob [] (kN Q (n + l.length)) := (rfl)
theorem wpE_nil {nps : List (List Nat)} {past : List (List Nat × Option (List Nat))} : wpE P [] nps nid env ob past K = K env ob := (rfl)
theorem wpE_o {nps : List (List Nat)} {past : List (List Nat × Option (List Nat))} (h : isCall op = false) : wpE P (⟨d, none, op, xs⟩ :: l) nps nid env ob past K = nxE P d l nps.tail nid env ob past (nps.headD []) (lkI op (xs.map (ev env))) K (opF op (xs.map (ev env)) ob nid) := by
  have hR : ∀ vs r us, OpR P op vs ob nid r us = (opF op vs ob nid = some (r, us)) := fun vs r us => by cases op <;> first | rfl | (simp [isCall] at h)
  simp only [wpE, gd, hR, nxE]
  cases hx : opF op (xs.map (ev env)) ob nid with
  | none => simp
  | some q =>
    obtain ⟨r, us⟩ := q
    apply propext
    constructor
    · rintro ⟨r', us', h1, h2, h3⟩
      injection h1 with h1; injection h1 with h1 h4; subst h1; subst h4
      exact ⟨h2, h3⟩
    · rintro ⟨h2, h3⟩; exact ⟨r, us, rfl, h2, h3⟩
theorem nxE_s {nps : List (List Nat)} {past : List (List Nat × Option (List Nat))} {np : List Nat} {lk : Option (List Nat)} {r : V} {us : Ups} : nxE P d l nps nid env ob past np lk K (some (r, us)) = (sepL past np (tch us, lk) ∧ wpE P l nps (nid + 1) (put env d r) (apps ob us) (past ++ [(tch us, lk)]) K) := (rfl)
theorem nxE_i {nps : List (List Nat)} {past : List (List Nat × Option (List Nat))} {np : List Nat} {lk : Option (List Nat)} {c : Prop} [Decidable c] {x : Option (V × Ups)} : nxE P d l nps nid env ob past np lk K (if c then x else none) = (c ∧ nxE P d l nps nid env ob past np lk K x) := by
  by_cases h : c
  · simp [h]
  · simp [h, nxE]
theorem sepL_nil {past : List (List Nat × Option (List Nat))} {q : List Nat × Option (List Nat)} : sepL past [] q = True := (rfl)
theorem sepL_c {past : List (List Nat × Option (List Nat))} {q : List Nat × Option (List Nat)} {i : Nat} {np : List Nat} : sepL past (i :: np) q = (sepAt past[i]? q ∧ sepL past np q) := (rfl)
theorem sepAt_s {a q : List Nat × Option (List Nat)} : sepAt (some a) q = sepE a q := (rfl)
theorem sepE_eq {T S : List Nat} {L M : Option (List Nat)} : sepE (T, L) (S, M) = (apart T M ∧ apart S L ∧ apL T S) := (rfl)
theorem apart_n {T : List Nat} : apart T none = (T = []) := (rfl)
theorem apart_s {T L : List Nat} : apart T (some L) = apL T L := (rfl)
theorem apL_n {L : List Nat} : apL [] L = True := (rfl)
theorem apL_c {x : Nat} {T L : List Nat} : apL (x :: T) L = (nin x L ∧ apL T L) := (rfl)
theorem nin_n {x : Nat} : nin x [] = True := (rfl)
theorem nin_c {x y : Nat} {L : List Nat} : nin x (y :: L) = (x ≠ y ∧ nin x L) := (rfl)
theorem tch_n : tch [] = [] := (rfl)
theorem tch_c {i : Nat} {o : Option Ob} {us : Ups} : tch ((i, o) :: us) = i :: tch us := (rfl)
theorem vid_sl {i a b : Nat} : vid (.sl i a b) = [i] := (rfl)
theorem vid_pt {i a b : Nat} : vid (.pt i a b) = [i] := (rfl)
theorem vid_c {v : Value} : vid (.c v) = [] := (rfl)
theorem vid_im {f : Fl} {s : List (List V)} : vid (.im f s) = [] := (rfl)
theorem vid_bp {s : List V} : vid (.bp s) = [] := (rfl)
theorem vid_ag {s : List V} : vid (.ag s) = [] := (rfl)
theorem vid_z : vid .z = [] := (rfl)
theorem vid_fn {f : Nat} {s : List V} : vid (.fn f s) = [] := (rfl)
theorem vid_u : vid .u = [] := (rfl)
theorem headD_c {α : Type} {a b : α} {s : List α} : (a :: s).headD b = a := (rfl)
theorem tail_c {α : Type} {a : α} {s : List α} : (a :: s).tail = s := (rfl)
theorem kB1_congr {o : RO} {b : List RO} {k j : Nat} : kB1 P o b k j Q env ob = kB1 P o b k j Q env ob := (rfl)
theorem kB2_congr {b : List RO} {k j : Nat} : kB2 P b j Q env ob k = kB2 P b j Q env ob k := (rfl)
attribute [congr] kB1_congr kB2_congr
attribute [congr] kS_congr rcS_congr gR_congr wpS_congr wpD_congr wpC_congr exS_congr exD_congr gS_congr gD_congr nxS_congr nxD_congr caS_congr caD_congr cvS_congr cvD_congr kN_congr
theorem wpC_skip : wpC P .skip Q env ob n = Q .nrm env ob n := (rfl)
theorem wpC_rg : wpC P (.rg l false) Q env ob n = wpS P l n env ob (kS Q) := (rfl)
theorem wpC_rgD : wpC P (.rg l true) Q env ob n = wpD P l n env ob [] (kN Q (n + l.length)) := (rfl)
theorem wpC_rb {a b : List RO} {o : RO} : wpC P (.rb a o b) Q env ob n = wpD P a n env ob [] (kB1 P o b (n + a.length) (a.length + 1) Q) := (rfl)
theorem kB1_eq {o : RO} {b : List RO} {k j : Nat} : kB1 P o b k j Q env ob = wpS P [o] k env ob (kB2 P b j Q) := (rfl)
theorem kB2_eq {b : List RO} {k j : Nat} : kB2 P b j Q env ob k = wpD P b (k + j) env ob [] (kN Q (k + j + b.length)) := (rfl)
theorem wpC_sq {a b : IC} : wpC P (.sq a b) Q env ob n = wpC P a (thenQ (wpC P b Q) Q) env ob n := (rfl)
theorem wpC_bl {i : Nat} {a : IC} : wpC P (.bl i a) Q env ob n = wpC P a (blQ i Q) env ob n := (rfl)
theorem wpC_ex {i : Nat} : wpC P (.ex i) Q env ob n = Q (.ex i) env ob n := (rfl)
theorem wpC_rt : wpC P .rt Q env ob n = Q .rt env ob n := (rfl)
/-- A condition, with what it chooses held back. -/
def cnC (P : Program) (v : V) (a b : IC) (Q : Post) (env : Env) (ob : OB) (n : Nat) : Prop := cnd v (wpC P a Q env ob n) (wpC P b Q env ob n)
theorem wpC_cn {c : Od} {a b : IC} : wpC P (.cn c a b) Q env ob n = cnC P (ev env c) a b Q env ob n := (rfl)
theorem cnC_congr {v v' : V} {a b : IC} (h : v = v') : cnC P v a b Q env ob n = cnC P v' a b Q env ob n := by rw [h]
attribute [congr] cnC_congr
theorem cnC_b {t : Bool} {a b : IC} : cnC P (.c (.bool t)) a b Q env ob n = ((t = true → wpC P a Q env ob n) ∧ (t = false → wpC P b Q env ob n)) := (rfl)
theorem cnC_t {a b : IC} : cnC P (.c (.bool true)) a b Q env ob n = wpC P a Q env ob n := by simp [cnC, cnd]
theorem cnC_f {a b : IC} : cnC P (.c (.bool false)) a b Q env ob n = wpC P b Q env ob n := by simp [cnC, cnd]
theorem cnC_q {a b : IC} : cnC P .q a b Q env ob n = (wpC P a Q env ob n ∧ wpC P b Q env ob n) := (rfl)
theorem thenQ_n {f : Env → OB → Nat → Prop} : thenQ f Q .nrm env ob n = f env ob n := (rfl)
theorem thenQ_r {f : Env → OB → Nat → Prop} : thenQ f Q .rt env ob n = Q .rt env ob n := (rfl)
theorem thenQ_e {f : Env → OB → Nat → Prop} {i : Nat} : thenQ f Q (.ex i) env ob n = Q (.ex i) env ob n := (rfl)
theorem blQ_n {i : Nat} : blQ i Q .nrm env ob n = Q .nrm env ob n := (rfl)
theorem blQ_r {i : Nat} : blQ i Q .rt env ob n = Q .rt env ob n := (rfl)
theorem blQ_s {i : Nat} : blQ i Q (.ex i) env ob n = Q .nrm env ob n := by simp [blQ]
theorem blQ_o {i j : Nat} (h : (j == i) = false) : blQ i Q (.ex j) env ob n = Q (.ex j) env ob n := by simp at h; simp [blQ, h]
theorem lpQ_n {I : Env → OB → Nat → Prop} {μ : Env → OB → Nat → Nat} {k : Nat} : lpQ I μ k Q .nrm env ob n = (I env ob n ∧ μ env ob n < k) := (rfl)
theorem lpQ_r {I : Env → OB → Nat → Prop} {μ : Env → OB → Nat → Nat} {k : Nat} : lpQ I μ k Q .rt env ob n = Q .rt env ob n := (rfl)
theorem lpQ_e {I : Env → OB → Nat → Prop} {μ : Env → OB → Nat → Nat} {k i : Nat} : lpQ I μ k Q (.ex i) env ob n = Q (.ex i) env ob n := (rfl)
theorem kS_eq : kS Q env ob n = Q .nrm env ob n := (rfl)
theorem kN_eq {k : Nat} : kN Q k env ob = Q .nrm env ob k := (rfl)
theorem finS_n {rs : List Rs} {C : V → OB → Nat → Prop} : finS rs C .nrm env ob n = finW C ob n (rdL env ob rs) := (rfl)
theorem finS_r {rs : List Rs} {C : V → OB → Nat → Prop} : finS rs C .rt env ob n = finW C ob n (rdL env ob rs) := (rfl)
theorem finW_s {C : V → OB → Nat → Prop} {l : List V} : finW C ob n (some l) = C (packV l) ob n := (rfl)
theorem finV_s {r : V} {l : List V} : finV r ob (some l) = (retV (outL ob l) = r) := (rfl)
theorem rdL_n : rdL env ob [] = some [] := (rfl)
theorem rdL_t {t : Nat} {l : List Rs} : rdL env ob (.t t :: l) = (rdL env ob l).map (env t :: ·) := (rfl)
theorem rdL_c {t : Nat} {sz : Option Nat} {l : List Rs} : rdL env ob (.c t sz :: l) = (ldV ob sz (env t)).bind fun v => (rdL env ob l).map (v :: ·) := (rfl)
theorem packV_0 : packV [] = .tp [] := (rfl)
theorem packV_1 {v : V} : packV [v] = v := (rfl)
theorem packV_2 {a b : V} {l : List V} : packV (a :: b :: l) = .tp (a :: b :: l) := (rfl)
theorem finQ_n {rs : List Rs} {r : V} : finQ rs r .nrm env ob n = finV r ob (rdL env ob rs) := (rfl)
theorem finQ_r {rs : List Rs} {r : V} : finQ rs r .rt env ob n = finV r ob (rdL env ob rs) := (rfl)

theorem wpS_nil : wpS P [] nid env ob J = J env ob nid := (rfl)
theorem wpS_n : wpS P (⟨d, none, op, xs⟩ :: l) nid env ob J = exS P ⟨d, none, op, xs⟩ l nid env ob J := (rfl)
theorem wpS_g {t : Nat} {w : Bool} : wpS P (⟨d, some (t, w), op, xs⟩ :: l) nid env ob J = gS (env t) w P ⟨d, none, op, xs⟩ l nid env ob J := (rfl)
theorem gS_bt {b : Bool} {o : RO} : gS (.c (.bool b)) true P o l nid env ob J = ((b = true → exS P o l nid env ob J) ∧ (b = false → wpS P l (nid + 1) (put env o.d (.c undef)) ob J)) := by rw [gS, sk_b]; cases b <;> simp
theorem gS_bf {b : Bool} {o : RO} : gS (.c (.bool b)) false P o l nid env ob J = ((b = false → exS P o l nid env ob J) ∧ (b = true → wpS P l (nid + 1) (put env o.d (.c undef)) ob J)) := by rw [gS, sk_b]; cases b <;> simp
theorem gS_tt {o : RO} : gS (.c (.bool true)) true P o l nid env ob J = exS P o l nid env ob J := by rw [gS, sk_b]; simp
theorem gS_ff {o : RO} : gS (.c (.bool false)) false P o l nid env ob J = exS P o l nid env ob J := by rw [gS, sk_b]; simp
theorem gS_tf {o : RO} : gS (.c (.bool true)) false P o l nid env ob J = wpS P l (nid + 1) (put env o.d (.c undef)) ob J := by rw [gS, sk_b]; simp
theorem gS_ft {o : RO} : gS (.c (.bool false)) true P o l nid env ob J = wpS P l (nid + 1) (put env o.d (.c undef)) ob J := by rw [gS, sk_b]; simp
theorem exS_o (h : isCall op = false) {g : Option (Nat × Bool)} : exS P ⟨d, g, op, xs⟩ l nid env ob J = nxS P d l nid env ob J (opF op (xs.map (ev env)) ob nid) := by
  have e : exS P ⟨d, g, op, xs⟩ l nid env ob J = ∃ r us, opF op (xs.map (ev env)) ob nid = some (r, us) ∧ wpS P l (nid + 1) (put env d r) (apps ob us) J := by
    cases op <;> first | rfl | simp [isCall] at h
  rw [e]; simp only [nxS]
  cases opF op (xs.map (ev env)) ob nid with
  | none => simp
  | some x =>
    obtain ⟨r, us⟩ := x; simp
    exact ⟨fun ⟨_, _, ⟨h1, h2⟩, h⟩ => h1 ▸ h2 ▸ h, fun h => ⟨_, _, ⟨rfl, rfl⟩, h⟩⟩
theorem exS_c {f : Nat} {g : Option (Nat × Bool)} : exS P ⟨d, g, .call f m, xs⟩ l nid env ob J = caS P f ((xs.map (ev env)).map (resV ob 6)) m d l nid env ob J := by
  simp only [exS, stpR, OpR, caS, nxS]
  apply propext
  constructor
  · rintro ⟨r, us, ⟨q, h1, h2, rfl, rfl⟩, h⟩; exact ⟨q, h1, h2, h⟩
  · rintro ⟨q, h1, h2, h⟩; exact ⟨_, _, ⟨q, h1, h2, rfl, rfl⟩, h⟩
theorem exS_m {g : Option (Nat × Bool)} : exS P ⟨d, g, .mnx, xs⟩ l nid env ob J = nxtS P (xs.map (ev env)) d l nid env ob J := (rfl)
theorem exS_r {f : Nat} {g : Option (Nat × Bool)} : exS P ⟨d, g, .rcall f, xs⟩ l nid env ob J = rcS P f (xs.map (ev env)) d l nid env ob J := (rfl)
theorem exS_v {x : Od} {g : Option (Nat × Bool)} : exS P ⟨d, g, .callv m, x :: xs⟩ l nid env ob J = cvS P (ev env x) (xs.map (ev env)) m d l nid env ob J := by
  simp only [exS, stpR, OpR, cvS, caS, nxS]
  apply propext
  constructor
  · rintro ⟨r, us, ⟨f, caps, as_, q, h0, h1, h2, rfl, rfl⟩, h⟩
    simp only [List.map_cons, List.cons.injEq] at h0
    rw [h0.1, h0.2]; exact ⟨q, h1, h2, h⟩
  · intro h
    split at h
    · rename_i f caps heq
      obtain ⟨q, h1, h2, h⟩ := h
      exact ⟨_, _, ⟨f, caps, _, q, by simp [heq], h1, h2, rfl, rfl⟩, h⟩
    · exact h.elim
theorem cvS_f {f : Nat} {caps as_ : List V} : cvS P (.fn f caps) as_ m d l nid env ob J = caS P f ((as_ ++ caps).map (resV ob 6)) m d l nid env ob J := (rfl)
theorem nxS_s {r : V} {us : Ups} : nxS P d l nid env ob J (some (r, us)) = wpS P l (nid + 1) (put env d r) (apps ob us) J := (rfl)
theorem nxS_i {c : Prop} [Decidable c] {x : V × Ups} : nxS P d l nid env ob J (if c then some x else none) = (c ∧ nxS P d l nid env ob J (some x)) := by
  by_cases h : c
  · simp [h]
  · simp [h, nxS]
theorem wpD_nil : wpD P [] nid env ob dl K = K env (apps ob dl) := (rfl)
theorem wpD_n : wpD P (⟨d, none, op, xs⟩ :: l) nid env ob dl K = exD P ⟨d, none, op, xs⟩ l nid env ob dl K := (rfl)
theorem wpD_g {t : Nat} {w : Bool} : wpD P (⟨d, some (t, w), op, xs⟩ :: l) nid env ob dl K = gD (env t) w P ⟨d, none, op, xs⟩ l nid env ob dl K := (rfl)
theorem gD_bt {b : Bool} {o : RO} : gD (.c (.bool b)) true P o l nid env ob dl K = ((b = true → exD P o l nid env ob dl K) ∧ (b = false → wpD P l (nid + 1) (put env o.d (.c undef)) ob dl K)) := by rw [gD, sk_b]; cases b <;> simp
theorem gD_bf {b : Bool} {o : RO} : gD (.c (.bool b)) false P o l nid env ob dl K = ((b = false → exD P o l nid env ob dl K) ∧ (b = true → wpD P l (nid + 1) (put env o.d (.c undef)) ob dl K)) := by rw [gD, sk_b]; cases b <;> simp
theorem gD_tt {o : RO} : gD (.c (.bool true)) true P o l nid env ob dl K = exD P o l nid env ob dl K := by rw [gD, sk_b]; simp
theorem gD_ff {o : RO} : gD (.c (.bool false)) false P o l nid env ob dl K = exD P o l nid env ob dl K := by rw [gD, sk_b]; simp
theorem gD_tf {o : RO} : gD (.c (.bool true)) false P o l nid env ob dl K = wpD P l (nid + 1) (put env o.d (.c undef)) ob dl K := by rw [gD, sk_b]; simp
theorem gD_ft {o : RO} : gD (.c (.bool false)) true P o l nid env ob dl K = wpD P l (nid + 1) (put env o.d (.c undef)) ob dl K := by rw [gD, sk_b]; simp
theorem exD_o (h : isCall op = false) {g : Option (Nat × Bool)} : exD P ⟨d, g, op, xs⟩ l nid env ob dl K = nxD P (isLoud op) d l nid env ob dl K (opF op (xs.map (ev env)) ob nid) := by
  have e : ∀ r us, OpR P op (xs.map (ev env)) ob nid r us = (opF op (xs.map (ev env)) ob nid = some (r, us)) := fun r us => by
    cases op <;> first | rfl | simp [isCall] at h
  simp only [exD, e, nxD]
  cases opF op (xs.map (ev env)) ob nid with
  | none => simp
  | some x =>
    obtain ⟨r, us⟩ := x; cases isLoud op <;> simp <;> exact ⟨fun ⟨_, _, ⟨h1, h2⟩, h⟩ => h1 ▸ h2 ▸ h, fun h => ⟨_, _, ⟨rfl, rfl⟩, h⟩⟩
theorem exD_c {f : Nat} {g : Option (Nat × Bool)} : exD P ⟨d, g, .call f m, xs⟩ l nid env ob dl K = caD P f ((xs.map (ev env)).map (resV ob 6)) m d l nid env ob dl K := by
  simp only [exD, OpR, caD, nxD, isLoud]
  apply propext
  constructor
  · rintro ⟨r, us, ⟨q, h1, h2, rfl, rfl⟩, h⟩; exact ⟨q, h1, h2, h⟩
  · rintro ⟨q, h1, h2, h⟩; exact ⟨_, _, ⟨q, h1, h2, rfl, rfl⟩, h⟩
theorem exD_v {x : Od} {g : Option (Nat × Bool)} : exD P ⟨d, g, .callv m, x :: xs⟩ l nid env ob dl K = cvD P (ev env x) (xs.map (ev env)) m d l nid env ob dl K := by
  simp only [exD, OpR, cvD, caD, nxD, isLoud]
  apply propext
  constructor
  · rintro ⟨r, us, ⟨f, caps, as_, q, h0, h1, h2, rfl, rfl⟩, h⟩
    simp only [List.map_cons, List.cons.injEq] at h0
    rw [h0.1, h0.2]; exact ⟨q, h1, h2, h⟩
  · intro h
    split at h
    · rename_i f caps heq
      obtain ⟨q, h1, h2, h⟩ := h
      exact ⟨_, _, ⟨f, caps, _, q, by simp [heq], h1, h2, rfl, rfl⟩, h⟩
    · exact h.elim
theorem cvD_f {f : Nat} {caps as_ : List V} : cvD P (.fn f caps) as_ m d l nid env ob dl K = caD P f ((as_ ++ caps).map (resV ob 6)) m d l nid env ob dl K := (rfl)
theorem nxD_f {r : V} {us : Ups} : nxD P false d l nid env ob dl K (some (r, us)) = wpD P l (nid + 1) (put env d r) ob (dl ++ us) K := (rfl)
theorem nxD_t {r : V} {us : Ups} : nxD P true d l nid env ob dl K (some (r, us)) = wpD P l (nid + 1) (put env d r) (apps ob us) dl K := (rfl)
theorem nxD_i {c : Prop} [Decidable c] {x : V × Ups} {b : Bool} : nxD P b d l nid env ob dl K (if c then some x else none) = (c ∧ nxD P b d l nid env ob dl K (some x)) := by
  by_cases h : c
  · simp [h]
  · simp [h, nxD]

/-- A call's answer, put in. -/
theorem caS_i {f : Nat} {vs : List V} {q : V} (h : FnB P f vs q) (hm : impOk m q) (hn : nxS P d l nid env ob J (some (imp m nid q))) : caS P f vs m d l nid env ob J := ⟨q, h, hm, hn⟩
theorem caD_i {f : Nat} {vs : List V} {q : V} (h : FnB P f vs q) (hm : impOk m q) (hn : nxD P false d l nid env ob dl K (some (imp m nid q))) : caD P f vs m d l nid env ob dl K := ⟨q, h, hm, hn⟩

theorem gS_u {w : Bool} {o : RO} : gS (.c undef) w P o l nid env ob J = wpS P l (nid + 1) (put env o.d (.c undef)) ob J := sk_u
theorem gD_u {w : Bool} {o : RO} : gD (.c undef) w P o l nid env ob dl K = wpD P l (nid + 1) (put env o.d (.c undef)) ob dl K := sk_u
theorem gS_i1 {b x : Bool} {o : RO} : gS (if b = true then .c (.bool x) else .c undef) true P o l nid env ob J = gS (.c (.bool (b && x))) true P o l nid env ob J := by cases b <;> simp [gS_u, gS_ft, gS_tf]
theorem gS_i2 {b x : Bool} {o : RO} : gS (if b = true then .c undef else .c (.bool x)) true P o l nid env ob J = gS (.c (.bool (!b && x))) true P o l nid env ob J := by cases b <;> simp [gS_u, gS_tf, gS_ft]
theorem gS_i3 {b x : Bool} {o : RO} : gS (if b = true then .c (.bool x) else .c undef) false P o l nid env ob J = gS (.c (.bool (b && !x))) true P o l nid env ob J := by cases b <;> cases x <;> simp [gS_u, gS_tt, gS_ff, gS_tf, gS_ft]
theorem gS_i4 {b x : Bool} {o : RO} : gS (if b = true then .c undef else .c (.bool x)) false P o l nid env ob J = gS (.c (.bool (!b && !x))) true P o l nid env ob J := by cases b <;> cases x <;> simp [gS_u, gS_tt, gS_ff, gS_tf, gS_ft]
theorem gD_i1 {b x : Bool} {o : RO} : gD (if b = true then .c (.bool x) else .c undef) true P o l nid env ob dl K = gD (.c (.bool (b && x))) true P o l nid env ob dl K := by cases b <;> simp [gD_u, gD_ft, gD_tf]
theorem gD_i2 {b x : Bool} {o : RO} : gD (if b = true then .c undef else .c (.bool x)) true P o l nid env ob dl K = gD (.c (.bool (!b && x))) true P o l nid env ob dl K := by cases b <;> simp [gD_u, gD_tf, gD_ft]
theorem gD_i3 {b x : Bool} {o : RO} : gD (if b = true then .c (.bool x) else .c undef) false P o l nid env ob dl K = gD (.c (.bool (b && !x))) true P o l nid env ob dl K := by cases b <;> cases x <;> simp [gD_u, gD_tt, gD_ff, gD_tf, gD_ft]
theorem gD_i4 {b x : Bool} {o : RO} : gD (if b = true then .c undef else .c (.bool x)) false P o l nid env ob dl K = gD (.c (.bool (!b && !x))) true P o l nid env ob dl K := by cases b <;> cases x <;> simp [gD_u, gD_tt, gD_ff, gD_tf, gD_ft]
/-- Guards that are not known. -/
theorem gM_congr {w b : Bool} {x x' : Option (V × Ups)} (h : b = w → x = x') : gM P w b d l nid env ob J x = gM P w b d l nid env ob J x' := by cases w <;> cases b <;> simp [gM] at h ⊢ <;> rw [h]
theorem gN_congr {w b loud : Bool} {x x' : Option (V × Ups)} (h : b = w → x = x') : gN_ P w b loud d l nid env ob dl K x = gN_ P w b loud d l nid env ob dl K x' := by cases w <;> cases b <;> simp [gN_] at h ⊢ <;> rw [h]
theorem gC_congr {w b : Bool} {f : Nat} {vs vs' : List V} (h : b = w → vs = vs') : gC P w b f vs m d l nid env ob J = gC P w b f vs' m d l nid env ob J := by cases w <;> cases b <;> simp [gC] at h ⊢ <;> rw [h]
theorem gCD_congr {w b : Bool} {f : Nat} {vs vs' : List V} (h : b = w → vs = vs') : gCD P w b f vs m d l nid env ob dl K = gCD P w b f vs' m d l nid env ob dl K := by cases w <;> cases b <;> simp [gCD] at h ⊢ <;> rw [h]
theorem gW_congr {w b : Bool} {v v' : V} {as_ as' : List V} (h : b = w → v = v') (ha : b = w → as_ = as') : gW P w b v as_ m d l nid env ob J = gW P w b v' as' m d l nid env ob J := by cases w <;> cases b <;> simp [gW] at h ha ⊢ <;> rw [h, ha]
theorem gWD_congr {w b : Bool} {v v' : V} {as_ as' : List V} (h : b = w → v = v') (ha : b = w → as_ = as') : gWD P w b v as_ m d l nid env ob dl K = gWD P w b v' as' m d l nid env ob dl K := by cases w <;> cases b <;> simp [gWD] at h ha ⊢ <;> rw [h, ha]
attribute [congr] gM_congr gN_congr gC_congr gCD_congr gW_congr gWD_congr
theorem gM_n {w b : Bool} {x : Option (V × Ups)} : gM P w (!b) d l nid env ob J x = gM P (!w) b d l nid env ob J x := by cases w <;> cases b <;> simp [gM]
theorem gR_n {w b : Bool} {f : Nat} {vs : List V} : gR P w (!b) f vs d l nid env ob J = gR P (!w) b f vs d l nid env ob J := by cases w <;> cases b <;> simp [gR]
theorem gC_n {w b : Bool} {f : Nat} {vs : List V} : gC P w (!b) f vs m d l nid env ob J = gC P (!w) b f vs m d l nid env ob J := by cases w <;> cases b <;> simp [gC]
theorem gCD_n {w b : Bool} {f : Nat} {vs : List V} : gCD P w (!b) f vs m d l nid env ob dl K = gCD P (!w) b f vs m d l nid env ob dl K := by cases w <;> cases b <;> simp [gCD]
theorem gW_n {w b : Bool} {v : V} {as_ : List V} : gW P w (!b) v as_ m d l nid env ob J = gW P (!w) b v as_ m d l nid env ob J := by cases w <;> cases b <;> simp [gW]
theorem gWD_n {w b : Bool} {v : V} {as_ : List V} : gWD P w (!b) v as_ m d l nid env ob dl K = gWD P (!w) b v as_ m d l nid env ob dl K := by cases w <;> cases b <;> simp [gWD]
theorem gN_n {w b loud : Bool} {x : Option (V × Ups)} : gN_ P w (!b) loud d l nid env ob dl K x = gN_ P (!w) b loud d l nid env ob dl K x := by cases w <;> cases b <;> simp [gN_]
theorem gM_s {w b : Bool} {r : V} : gM P w b d l nid env ob J (some (r, [])) = wpS P l (nid + 1) (put env d (if b = w then r else .c undef)) ob J := by cases w <;> cases b <;> simp [gM, nxS, apps]
theorem gM_u {w b : Bool} {r : V} {i : Nat} {o : Option Ob} {us : Ups} : gM P w b d l nid env ob J (some (r, (i, o) :: us)) = ((b = w → wpS P l (nid + 1) (put env d r) (apps ob ((i, o) :: us)) J) ∧ (b = !w → wpS P l (nid + 1) (put env d (.c undef)) ob J)) := (rfl)
theorem gM_j {w b : Bool} {c : Prop} [Decidable c] {x : Option (V × Ups)} : gM P w b d l nid env ob J (if c then x else none) = ((b = w → c) ∧ gM P w b d l nid env ob J x) := by cases w <;> cases b <;> by_cases h : c <;> simp [gM, nxS, h]
theorem gN_s {w b loud : Bool} {r : V} : gN_ P w b loud d l nid env ob dl K (some (r, [])) = wpD P l (nid + 1) (put env d (if b = w then r else .c undef)) ob dl K := by cases w <;> cases b <;> cases loud <;> simp [gN_, nxD, apps]
theorem gN_u {w b loud : Bool} {r : V} {i : Nat} {o : Option Ob} {us : Ups} : gN_ P w b loud d l nid env ob dl K (some (r, (i, o) :: us)) = ((b = w → nxD P loud d l nid env ob dl K (some (r, (i, o) :: us))) ∧ (b = !w → wpD P l (nid + 1) (put env d (.c undef)) ob dl K)) := (rfl)
theorem gN_j {w b loud : Bool} {c : Prop} [Decidable c] {x : Option (V × Ups)} : gN_ P w b loud d l nid env ob dl K (if c then x else none) = ((b = w → c) ∧ gN_ P w b loud d l nid env ob dl K x) := by cases w <;> cases b <;> by_cases h : c <;> simp [gN_, nxD, h]
theorem gS_o {b : Bool} (h : isCall op = false) : gS (.c (.bool b)) true P ⟨d, none, op, xs⟩ l nid env ob J = gM P true b d l nid env ob J (opF op (xs.map (ev env)) ob nid) := by rw [gS_bt, exS_o h]; rfl
theorem gS_o' {b : Bool} (h : isCall op = false) : gS (.c (.bool b)) false P ⟨d, none, op, xs⟩ l nid env ob J = gM P false b d l nid env ob J (opF op (xs.map (ev env)) ob nid) := by rw [gS_bf, exS_o h]; cases b <;> simp [gM]
theorem gS_c {b : Bool} {f : Nat} : gS (.c (.bool b)) true P ⟨d, none, .call f m, xs⟩ l nid env ob J = gC P true b f ((xs.map (ev env)).map (resV ob 6)) m d l nid env ob J := by rw [gS_bt, exS_c]; rfl
theorem gS_c' {b : Bool} {f : Nat} : gS (.c (.bool b)) false P ⟨d, none, .call f m, xs⟩ l nid env ob J = gC P false b f ((xs.map (ev env)).map (resV ob 6)) m d l nid env ob J := by rw [gS_bf, exS_c]; cases b <;> simp [gC]
theorem gS_r {b : Bool} {f : Nat} : gS (.c (.bool b)) true P ⟨d, none, .rcall f, xs⟩ l nid env ob J = gR P true b f (xs.map (ev env)) d l nid env ob J := by rw [gS_bt, exS_r]; rfl
theorem gS_r' {b : Bool} {f : Nat} : gS (.c (.bool b)) false P ⟨d, none, .rcall f, xs⟩ l nid env ob J = gR P false b f (xs.map (ev env)) d l nid env ob J := by rw [gS_bf, exS_r]; cases b <;> simp [gR]
theorem gS_v {b : Bool} {x : Od} : gS (.c (.bool b)) true P ⟨d, none, .callv m, x :: xs⟩ l nid env ob J = gW P true b (ev env x) (xs.map (ev env)) m d l nid env ob J := by rw [gS_bt, exS_v]; rfl
theorem gS_v' {b : Bool} {x : Od} : gS (.c (.bool b)) false P ⟨d, none, .callv m, x :: xs⟩ l nid env ob J = gW P false b (ev env x) (xs.map (ev env)) m d l nid env ob J := by rw [gS_bf, exS_v]; cases b <;> simp [gW]
theorem gD_o {b : Bool} (h : isCall op = false) : gD (.c (.bool b)) true P ⟨d, none, op, xs⟩ l nid env ob dl K = gN_ P true b (isLoud op) d l nid env ob dl K (opF op (xs.map (ev env)) ob nid) := by rw [gD_bt, exD_o h]; rfl
theorem gD_o' {b : Bool} (h : isCall op = false) : gD (.c (.bool b)) false P ⟨d, none, op, xs⟩ l nid env ob dl K = gN_ P false b (isLoud op) d l nid env ob dl K (opF op (xs.map (ev env)) ob nid) := by rw [gD_bf, exD_o h]; cases b <;> simp [gN_]
theorem gD_c {b : Bool} {f : Nat} : gD (.c (.bool b)) true P ⟨d, none, .call f m, xs⟩ l nid env ob dl K = gCD P true b f ((xs.map (ev env)).map (resV ob 6)) m d l nid env ob dl K := by rw [gD_bt, exD_c]; rfl
theorem gD_c' {b : Bool} {f : Nat} : gD (.c (.bool b)) false P ⟨d, none, .call f m, xs⟩ l nid env ob dl K = gCD P false b f ((xs.map (ev env)).map (resV ob 6)) m d l nid env ob dl K := by rw [gD_bf, exD_c]; cases b <;> simp [gCD]
theorem gD_v {b : Bool} {x : Od} : gD (.c (.bool b)) true P ⟨d, none, .callv m, x :: xs⟩ l nid env ob dl K = gWD P true b (ev env x) (xs.map (ev env)) m d l nid env ob dl K := by rw [gD_bt, exD_v]; rfl
theorem gD_v' {b : Bool} {x : Od} : gD (.c (.bool b)) false P ⟨d, none, .callv m, x :: xs⟩ l nid env ob dl K = gWD P false b (ev env x) (xs.map (ev env)) m d l nid env ob dl K := by rw [gD_bf, exD_v]; cases b <;> simp [gWD]
theorem gW_f {w b : Bool} {f : Nat} {caps as_ : List V} : gW P w b (.fn f caps) as_ m d l nid env ob J = gC P w b f ((as_ ++ caps).map (resV ob 6)) m d l nid env ob J := (rfl)
theorem gWD_f {w b : Bool} {f : Nat} {caps as_ : List V} : gWD P w b (.fn f caps) as_ m d l nid env ob dl K = gCD P w b f ((as_ ++ caps).map (resV ob 6)) m d l nid env ob dl K := (rfl)
theorem gC_i {w b : Bool} {f : Nat} {vs : List V} {q : V} (h : b = w → FnB P f vs q) (hm : impOk m q) (hn : gM P w b d l nid env ob J (some (imp m nid q))) : gC P w b f vs m d l nid env ob J := ⟨fun e => caS_i (h e) hm (hn.1 e), hn.2⟩
theorem gCD_i {w b : Bool} {f : Nat} {vs : List V} {q : V} (h : b = w → FnB P f vs q) (hm : impOk m q) (hn : gN_ P w b false d l nid env ob dl K (some (imp m nid q))) : gCD P w b f vs m d l nid env ob dl K := ⟨fun e => caD_i (h e) hm (hn.1 e), hn.2⟩

/-- A loop. -/
theorem wpC_lp {c : IC} (I : Env → OB → Nat → Prop) (μ : Env → OB → Nat → Nat) (h0 : I env ob n) (h : ∀ env ob n, I env ob n → wpC P c (lpQ I μ (μ env ob n) Q) env ob n) : wpC P (.lp c) Q env ob n := ⟨I, μ, h0, h⟩

end

/-- The temporaries, and the store: what stands where. -/
theorem put_s (env : Env) (n : Nat) (v : V) : put env (some n) v n = v := by simp [put]
theorem put_o (env : Env) (n m : Nat) (v : V) (h : (m == n) = false) : put env (some n) v m = env m := by simp at h; simp [put, h]
theorem put_n (env : Env) (v : V) : put env none v = env := (rfl)
def updO (ob : OB) (i : Nat) (o : Option Ob) : OB := fun j => if j = i then o else ob j
theorem apps_n (ob : OB) : apps ob [] = ob := (rfl)
theorem apps_c (ob : OB) (i : Nat) (o : Option Ob) (l : Ups) : apps ob ((i, o) :: l) = apps (updO ob i o) l := (rfl)
theorem updO_s (ob : OB) (i : Nat) (o : Option Ob) : updO ob i o i = o := by simp [updO]
theorem updO_o (ob : OB) (i j : Nat) (o : Option Ob) (h : (j == i) = false) : updO ob i o j = ob j := by simp at h; simp [updO, h]
theorem noOb_e (i : Nat) : noOb i = none := (rfl)
theorem kill_s (ob : OB) (i : Nat) : kill ob i i = none := by simp [kill]
theorem kill_o (ob : OB) (i j : Nat) (h : (j == i) = false) : kill ob i j = ob j := by simp at h; simp [kill, h]
theorem ev_t (env : Env) (n : Nat) : ev env (.t n) = env n := (rfl)
theorem ev_k (env : Env) (v : V) : ev env (.k v) = v := (rfl)
theorem env0_c0 (v : V) (l : List V) : env0 (v :: l) 0 = v := (rfl)
theorem env0_cs (v : V) (l : List V) (n : Nat) : env0 (v :: l) (n + 1) = env0 l n := by simp [env0]
theorem env0_n (n : Nat) : env0 [] n = .u := by simp [env0]

end Go.Proofs.Ytbojpedklnmidaa.D
end
section
set_option linter.unusedVariables false
set_option linter.unusedSimpArgs false
set_option linter.constructorNameAsVariable false
/- Walking over plain values: what each step comes to. No condition. -/
namespace Go.Proofs.Ytbojpedklnmidaa.D
open Go Go.RowKit
attribute [go_sem] wpC_skip wpC_rg wpC_rgD wpC_rb kB1_eq kB2_eq wpC_re wpE_nil wpE_o wpE_c lkI_call lkF_n lkF_c flat_c flat_q flat_z flat_ag flat_an isC_c nxE_s nxE_i sepL_nil sepL_c sepAt_s sepE_eq apart_n apart_s apL_n apL_c nin_n nin_c tch_n tch_c vid_sl vid_pt vid_c vid_im vid_bp vid_ag vid_z vid_fn vid_u headD_c tail_c List.flatMap_cons List.flatMap_nil wpC_sq wpC_bl wpC_ex wpC_rt wpC_cn cnC_b cnC_q thenQ_n thenQ_r thenQ_e blQ_n blQ_r blQ_s blQ_o lpQ_n lpQ_r lpQ_e kS_eq finS_n finS_r finW_s finV_s rdL_n rdL_t rdL_c packV_0 packV_1 packV_2 exS_r exS_m gS_r gS_r' gR_n kN_eq finQ_n finQ_r wpS_nil wpS_n wpS_g gS_u gS_i1 gS_i2 gS_i3 gS_i4 gS_o gS_o' gS_c gS_c' gS_v gS_v' gM_s gM_u gM_j gW_f gM_n gC_n gW_n exS_o exS_c exS_v cvS_f nxS_s nxS_i wpD_nil wpD_n wpD_g gD_u gD_i1 gD_i2 gD_i3 gD_i4 gD_o gD_o' gD_c gD_c' gD_v gD_v' gN_s gN_u gN_j gWD_f gN_n gCD_n gWD_n exD_o exD_c exD_v cvD_f nxD_f nxD_t nxD_i put_s put_o put_n apps_n apps_c updO_s updO_o noOb_e kill_s kill_o ev_t ev_k env0_c0 env0_cs env0_n
attribute [go_sem] List.map_cons List.map_nil List.length_cons List.length_nil List.getElem?_cons_zero List.getElem?_cons_succ List.drop_zero List.drop_succ_cons List.take_zero List.take_succ_cons List.nil_append List.cons_append List.append_nil List.drop_nil List.take_nil Option.getD_none Option.getD_some Nat.zero_add eq_self forall_const true_and and_true Bool.not_true Bool.not_false List.map_map List.length_map Function.comp_apply Function.comp_def Nat.add_zero Bool.false_eq_true Bool.true_eq_false Bool.not_eq_true' false_implies implies_true
attribute [go_sem high] gS_tt gS_ff gS_tf gS_ft gD_tt gD_ff gD_tf gD_ft cnC_t cnC_f
@[go_sem] theorem isCall_mv  : isCall .mv = false := (rfl)
@[go_sem] theorem isLoud_mv  : isLoud .mv = false := (rfl)
@[go_sem] theorem isCall_pick  : isCall .pick = false := (rfl)
@[go_sem] theorem isLoud_pick  : isLoud .pick = false := (rfl)
@[go_sem] theorem isCall_bin (o : BinOp) : isCall (.bin o) = false := (rfl)
@[go_sem] theorem isLoud_bin (o : BinOp) : isLoud (.bin o) = false := (rfl)
@[go_sem] theorem isCall_bb (o : BinOp) : isCall (.bb o) = false := (rfl)
@[go_sem] theorem isLoud_bb (o : BinOp) : isLoud (.bb o) = false := (rfl)
@[go_sem] theorem isCall_eqs (b : Bool) (ks : List Nat) : isCall (.eqs b ks) = false := (rfl)
@[go_sem] theorem isLoud_eqs (b : Bool) (ks : List Nat) : isLoud (.eqs b ks) = false := (rfl)
@[go_sem] theorem isCall_nilq (k : Nat) (b : Bool) : isCall (.nilq k b) = false := (rfl)
@[go_sem] theorem isLoud_nilq (k : Nat) (b : Bool) : isLoud (.nilq k b) = false := (rfl)
@[go_sem] theorem isCall_un (o : UnOp) : isCall (.un o) = false := (rfl)
@[go_sem] theorem isLoud_un (o : UnOp) : isLoud (.un o) = false := (rfl)
@[go_sem] theorem isCall_conv (k : IntKind) : isCall (.conv k) = false := (rfl)
@[go_sem] theorem isLoud_conv (k : IntKind) : isLoud (.conv k) = false := (rfl)
@[go_sem] theorem isCall_box (n : Option Nat) : isCall (.box n) = false := (rfl)
@[go_sem] theorem isLoud_box (n : Option Nat) : isLoud (.box n) = false := (rfl)
@[go_sem] theorem isCall_alloc (z : List V) : isCall (.alloc z) = false := (rfl)
@[go_sem] theorem isLoud_alloc (z : List V) : isLoud (.alloc z) = false := (rfl)
@[go_sem] theorem isCall_bld (z : List V) (ps : List (Nat × Nat)) : isCall (.bld z ps) = false := (rfl)
@[go_sem] theorem isLoud_bld (z : List V) (ps : List (Nat × Nat)) : isLoud (.bld z ps) = false := (rfl)
@[go_sem] theorem isCall_bsl (k : Nat) (z : List V) (ps : List Nat) (n : Nat) (fz : Bool) : isCall (.bsl k z ps n fz) = false := (rfl)
@[go_sem] theorem isLoud_bsl (k : Nat) (z : List V) (ps : List Nat) (n : Nat) (fz : Bool) : isLoud (.bsl k z ps n fz) = false := (rfl)
@[go_sem] theorem isCall_ld (n : Option Nat) : isCall (.ld n) = false := (rfl)
@[go_sem] theorem isLoud_ld (n : Option Nat) : isLoud (.ld n) = false := (rfl)
@[go_sem] theorem isCall_st (n : Nat) : isCall (.st n) = false := (rfl)
@[go_sem] theorem isLoud_st (n : Nat) : isLoud (.st n) = true := (rfl)
@[go_sem] theorem isCall_fa (o : Nat) : isCall (.fa o) = false := (rfl)
@[go_sem] theorem isLoud_fa (o : Nat) : isLoud (.fa o) = false := (rfl)
@[go_sem] theorem isCall_fld (o : Nat) (n : Option Nat) : isCall (.fld o n) = false := (rfl)
@[go_sem] theorem isLoud_fld (o : Nat) (n : Option Nat) : isLoud (.fld o n) = false := (rfl)
@[go_sem] theorem isCall_ia (k : Nat) : isCall (.ia k) = false := (rfl)
@[go_sem] theorem isLoud_ia (k : Nat) : isLoud (.ia k) = false := (rfl)
@[go_sem] theorem isCall_iar (len k : Nat) : isCall (.iar len k) = false := (rfl)
@[go_sem] theorem isLoud_iar (len k : Nat) : isLoud (.iar len k) = false := (rfl)
@[go_sem] theorem isCall_slc (k : Nat) (lo hi : Bool) : isCall (.slc k lo hi) = false := (rfl)
@[go_sem] theorem isLoud_slc (k : Nat) (lo hi : Bool) : isLoud (.slc k lo hi) = false := (rfl)
@[go_sem] theorem isCall_slc3  : isCall .slc3 = false := (rfl)
@[go_sem] theorem isLoud_slc3  : isLoud .slc3 = false := (rfl)
@[go_sem] theorem isCall_mks (k : Nat) (z : List V) (fz : Bool) : isCall (.mks k z fz) = false := (rfl)
@[go_sem] theorem isLoud_mks (k : Nat) (z : List V) (fz : Bool) : isLoud (.mks k z fz) = false := (rfl)
@[go_sem] theorem isCall_len  : isCall .len = false := (rfl)
@[go_sem] theorem isLoud_len  : isLoud .len = false := (rfl)
@[go_sem] theorem isCall_slen  : isCall .slen = false := (rfl)
@[go_sem] theorem isLoud_slen  : isLoud .slen = false := (rfl)
@[go_sem] theorem isCall_app (k : Nat) : isCall (.app k) = false := (rfl)
@[go_sem] theorem isLoud_app (k : Nat) : isLoud (.app k) = true := (rfl)
@[go_sem] theorem isCall_cpy (k : Nat) : isCall (.cpy k) = false := (rfl)
@[go_sem] theorem isLoud_cpy (k : Nat) : isLoud (.cpy k) = true := (rfl)
@[go_sem] theorem isCall_clr (k : Nat) (z : List V) : isCall (.clr k z) = false := (rfl)
@[go_sem] theorem isLoud_clr (k : Nat) (z : List V) : isLoud (.clr k z) = true := (rfl)
@[go_sem] theorem isCall_mx  : isCall .mx = false := (rfl)
@[go_sem] theorem isLoud_mx  : isLoud .mx = false := (rfl)
@[go_sem] theorem isCall_mn  : isCall .mn = false := (rfl)
@[go_sem] theorem isLoud_mn  : isLoud .mn = false := (rfl)
@[go_sem] theorem isCall_ext (i : Nat) : isCall (.ext i) = false := (rfl)
@[go_sem] theorem isLoud_ext (i : Nat) : isLoud (.ext i) = false := (rfl)
@[go_sem] theorem isCall_mkf (f : Nat) : isCall (.mkf f) = false := (rfl)
@[go_sem] theorem isLoud_mkf (f : Nat) : isLoud (.mkf f) = false := (rfl)
@[go_sem] theorem isCall_capo  : isCall .capo = false := (rfl)
@[go_sem] theorem isLoud_capo  : isLoud .capo = false := (rfl)
@[go_sem] theorem isCall_appz (k : Nat) (z : List V) : isCall (.appz k z) = false := (rfl)
@[go_sem] theorem isLoud_appz (k : Nat) (z : List V) : isLoud (.appz k z) = false := (rfl)
@[go_sem] theorem isCall_mkm  : isCall .mkm = false := (rfl)
@[go_sem] theorem isLoud_mkm  : isLoud .mkm = false := (rfl)
@[go_sem] theorem isCall_mlk (st : Bool) (ks : List Nat) (z : V) (two : Bool) : isCall (.mlk st ks z two) = false := (rfl)
@[go_sem] theorem isLoud_mlk (st : Bool) (ks : List Nat) (z : V) (two : Bool) : isLoud (.mlk st ks z two) = false := (rfl)
@[go_sem] theorem isCall_mup (st : Bool) (ks : List Nat) : isCall (.mup st ks) = false := (rfl)
@[go_sem] theorem isLoud_mup (st : Bool) (ks : List Nat) : isLoud (.mup st ks) = true := (rfl)
@[go_sem] theorem isCall_mrg  : isCall .mrg = false := (rfl)
@[go_sem] theorem isLoud_mrg  : isLoud .mrg = false := (rfl)
@[go_sem] theorem isCall_ent  : isCall .ent = false := (rfl)
@[go_sem] theorem isLoud_ent  : isLoud .ent = false := (rfl)
@[go_sem] theorem lkI_mv  (vs : List V) : lkI .mv vs = some [] := (rfl)
@[go_sem] theorem lkI_pick  (vs : List V) : lkI .pick vs = some [] := (rfl)
@[go_sem] theorem lkI_bin (o : BinOp) (vs : List V) : lkI (.bin o) vs = some [] := (rfl)
@[go_sem] theorem lkI_bb (o : BinOp) (vs : List V) : lkI (.bb o) vs = some [] := (rfl)
@[go_sem] theorem lkI_eqs (b : Bool) (ks : List Nat) (vs : List V) : lkI (.eqs b ks) vs = some [] := (rfl)
@[go_sem] theorem lkI_nilq (k : Nat) (b : Bool) (vs : List V) : lkI (.nilq k b) vs = none := (rfl)
@[go_sem] theorem lkI_un (o : UnOp) (vs : List V) : lkI (.un o) vs = some [] := (rfl)
@[go_sem] theorem lkI_conv (k : IntKind) (vs : List V) : lkI (.conv k) vs = some [] := (rfl)
@[go_sem] theorem lkI_box (n : Option Nat) (vs : List V) : lkI (.box n) vs = some [] := (rfl)
@[go_sem] theorem lkI_alloc (z : List V) (vs : List V) : lkI (.alloc z) vs = some [] := (rfl)
@[go_sem] theorem lkI_bld (z : List V) (ps : List (Nat × Nat)) (vs : List V) : lkI (.bld z ps) vs = some [] := (rfl)
@[go_sem] theorem lkI_bsl (k : Nat) (z : List V) (ps : List Nat) (n : Nat) (fz : Bool) (vs : List V) : lkI (.bsl k z ps n fz) vs = some [] := (rfl)
@[go_sem] theorem lkI_ld (n : Option Nat) (vs : List V) : lkI (.ld n) vs = some (vs.flatMap vid) := (rfl)
@[go_sem] theorem lkI_st (n : Nat) (vs : List V) : lkI (.st n) vs = some (vs.flatMap vid) := (rfl)
@[go_sem] theorem lkI_fa (o : Nat) (vs : List V) : lkI (.fa o) vs = some (vs.flatMap vid) := (rfl)
@[go_sem] theorem lkI_fld (o : Nat) (n : Option Nat) (vs : List V) : lkI (.fld o n) vs = some [] := (rfl)
@[go_sem] theorem lkI_ia (k : Nat) (vs : List V) : lkI (.ia k) vs = some (vs.flatMap vid) := (rfl)
@[go_sem] theorem lkI_iar (len k : Nat) (vs : List V) : lkI (.iar len k) vs = some (vs.flatMap vid) := (rfl)
@[go_sem] theorem lkI_slc (k : Nat) (lo hi : Bool) (vs : List V) : lkI (.slc k lo hi) vs = some (vs.flatMap vid) := (rfl)
@[go_sem] theorem lkI_slc3  (vs : List V) : lkI .slc3 vs = none := (rfl)
@[go_sem] theorem lkI_mks (k : Nat) (z : List V) (fz : Bool) (vs : List V) : lkI (.mks k z fz) vs = some [] := (rfl)
@[go_sem] theorem lkI_len  (vs : List V) : lkI .len vs = some [] := (rfl)
@[go_sem] theorem lkI_slen  (vs : List V) : lkI .slen vs = some [] := (rfl)
@[go_sem] theorem lkI_app (k : Nat) (vs : List V) : lkI (.app k) vs = some (vs.flatMap vid) := (rfl)
@[go_sem] theorem lkI_cpy (k : Nat) (vs : List V) : lkI (.cpy k) vs = none := (rfl)
@[go_sem] theorem lkI_clr (k : Nat) (z : List V) (vs : List V) : lkI (.clr k z) vs = none := (rfl)
@[go_sem] theorem lkI_mx  (vs : List V) : lkI .mx vs = some [] := (rfl)
@[go_sem] theorem lkI_mn  (vs : List V) : lkI .mn vs = some [] := (rfl)
@[go_sem] theorem lkI_ext (i : Nat) (vs : List V) : lkI (.ext i) vs = some [] := (rfl)
@[go_sem] theorem lkI_mkf (f : Nat) (vs : List V) : lkI (.mkf f) vs = some [] := (rfl)
@[go_sem] theorem lkI_capo  (vs : List V) : lkI .capo vs = none := (rfl)
@[go_sem] theorem lkI_appz (k : Nat) (z : List V) (vs : List V) : lkI (.appz k z) vs = none := (rfl)
@[go_sem] theorem lkI_mkm  (vs : List V) : lkI .mkm vs = none := (rfl)
@[go_sem] theorem lkI_mlk (st : Bool) (ks : List Nat) (z : V) (two : Bool) (vs : List V) : lkI (.mlk st ks z two) vs = none := (rfl)
@[go_sem] theorem lkI_mup (st : Bool) (ks : List Nat) (vs : List V) : lkI (.mup st ks) vs = none := (rfl)
@[go_sem] theorem lkI_mrg  (vs : List V) : lkI .mrg vs = none := (rfl)
@[go_sem] theorem lkI_ent  (vs : List V) : lkI .ent vs = none := (rfl)
@[go_sem] theorem op_mkm  (ob : OB) (i : Nat) : opF .mkm [] ob i = some (.mp i, [(i, some ⟨0, [], none⟩)]) := (rfl)
@[go_sem] theorem op_mlk (st : Bool) (ks : List Nat) (z : V) (two : Bool) (id : Nat) (k : V) (ob : OB) (i : Nat) : opF (.mlk st ks z two) [.mp id, k] ob i = (ob id).bind fun o => if keyOk st ks k then (posM st ks k o.l).map fun q => (if two then .tp [valM z o.l q, .c (.bool q.isSome)] else valM z o.l q, []) else none := (rfl)
@[go_sem] theorem op_mup (st : Bool) (ks : List Nat) (id : Nat) (k v : V) (ob : OB) (i : Nat) : opF (.mup st ks) [.mp id, k, v] ob i = (ob id).bind fun o => if keyOk st ks k then (posM st ks k o.l).map fun q => (.u, [(id, some ⟨0, setM k v o.l q, none⟩)]) else none := (rfl)
@[go_sem] theorem op_mrg (id : Nat) (ob : OB) (i : Nat) : opF .mrg [.mp id] ob i = (ob id).bind fun o => some (.mi i, [(i, some ⟨0, [[.mp id, .c (.int .i64 (o.l.length : Int))]], none⟩)]) := (rfl)
@[go_sem] theorem op_mv (x : V) (ob : OB) (i : Nat) : opF .mv [x] ob i = some (x, []) := (rfl)
@[go_sem] theorem op_pick (b x y : V) (ob : OB) (i : Nat) : opF .pick [b, x, y] ob i = (toBool b).map fun b => (if b then x else y, []) := (rfl)
@[go_sem] theorem op_bin (o : BinOp) (a b : V) (ob : OB) (i : Nat) : opF (.bin o) [a, b] ob i = (toC a).bind fun a => (toC b).bind fun b => (binS o a b).map fun r => (.c r, []) := (rfl)
@[go_sem] theorem op_bb (o : BinOp) (a b : V) (ob : OB) (i : Nat) : opF (.bb o) [a, b] ob i = (toBool a).bind fun a => (toBool b).bind fun b => (boolOp o a b).map fun r => (.c (.bool r), []) := (rfl)
@[go_sem] theorem op_eqs (n : Bool) (ks : List Nat) (x y : List V) (ob : OB) (i : Nat) : opF (.eqs n ks) [.ag x, .ag y] ob i = (eqCells ks x y).map fun q => (.c (.bool (if n then !q else q)), []) := (rfl)
@[go_sem] theorem op_nilq (k : Nat) (n : Bool) (x : V) (ob : OB) (i : Nat) : opF (.nilq k n) [x] ob i = (isNil ob k x).map fun v => (negV n v, []) := (rfl)
@[go_sem] theorem op_un (o : UnOp) (a : V) (ob : OB) (i : Nat) : opF (.un o) [a] ob i = (toC a).bind fun a => (unS o a).map fun r => (.c r, []) := (rfl)
@[go_sem] theorem op_conv (k : IntKind) (a : V) (ob : OB) (i : Nat) : opF (.conv k) [a] ob i = (toInt a).map fun n => (.c (.int k (k.wrap n)), []) := (rfl)
@[go_sem] theorem op_box (n : Option Nat) (x : V) (ob : OB) (i : Nat) : opF (.box n) [x] ob i = if okRow (n.getD 1) (cellsV x) then some (.pt i 0 0, [(i, some ⟨n.getD 1, [cellsV x], none⟩)]) else none := (rfl)
@[go_sem] theorem op_alloc (z : List V) (ob : OB) (i : Nat) : opF (.alloc z) [] ob i = some (.pt i 0 0, [(i, some ⟨z.length, [z], none⟩)]) := (rfl)
@[go_sem] theorem op_bld (z : List V) (ps : List (Nat × Nat)) (vs : List V) (ob : OB) (i : Nat) : opF (.bld z ps) vs ob i = (fill z ps vs).map fun l => (.ag l, []) := (rfl)
@[go_sem] theorem op_ld (n : Option Nat) (a : V) (ob : OB) (i : Nat) : opF (.ld n) [a] ob i = (ldV ob n a).map fun v => (v, []) := (rfl)
@[go_sem] theorem op_fa (o : Nat) (a : V) (ob : OB) (i : Nat) : opF (.fa o) [a] ob i = (faV ob o a).map fun v => (v, []) := (rfl)
@[go_sem] theorem op_fld (o : Nat) (n : Option Nat) (a : V) (ob : OB) (i : Nat) : opF (.fld o n) [a] ob i = (toAg a).bind fun l => if o + n.getD 1 ≤ l.length then (pack n ((l.drop o).take (n.getD 1))).map fun v => (v, []) else none := (rfl)
@[go_sem] theorem op_ia (k : Nat) (x j : V) (ob : OB) (i : Nat) : opF (.ia k) [x, j] ob i = (toInt j).bind fun j => (iaV ob k x j).map fun v => (v, []) := (rfl)
@[go_sem] theorem op_iar (n k : Nat) (x j : V) (ob : OB) (i : Nat) : opF (.iar n k) [x, j] ob i = (toInt j).bind fun j => if 0 ≤ j ∧ j < n then (faV ob (j.toNat * k) x).map fun v => (v, []) else none := (rfl)
@[go_sem] theorem op_slc00 (k : Nat) (x : V) (ob : OB) (i : Nat) : opF (.slc k false false) [x] ob i = (sliceV ob k x none none).map fun v => (v, []) := (rfl)
@[go_sem] theorem op_slc10 (k : Nat) (x a : V) (ob : OB) (i : Nat) : opF (.slc k true false) [x, a] ob i = (toInt a).bind fun a => (sliceV ob k x (some a) none).map fun v => (v, []) := (rfl)
@[go_sem] theorem op_slc01 (k : Nat) (x a : V) (ob : OB) (i : Nat) : opF (.slc k false true) [x, a] ob i = (toInt a).bind fun a => (sliceV ob k x none (some a)).map fun v => (v, []) := (rfl)
@[go_sem] theorem op_slc11 (k : Nat) (x a b : V) (ob : OB) (i : Nat) : opF (.slc k true true) [x, a, b] ob i = (toInt a).bind fun a => (toInt b).bind fun b => (sliceV ob k x (some a) (some b)).map fun v => (v, []) := (rfl)
@[go_sem] theorem op_mks (k : Nat) (z : List V) (fz : Bool) (n m : V) (ob : OB) (i : Nat) : opF (.mks k z fz) [n, m] ob i = (toInt n).bind fun n => (toInt m).bind fun m => if n = m ∧ 0 ≤ n ∧ n ≤ maxLen then (if fz then some (.im .b (List.replicate n.toNat z), []) else some (.sl i 0 n.toNat, [(i, some ⟨k, List.replicate n.toNat z, none⟩)])) else none := (rfl)
@[go_sem] theorem op_len (x : V) (ob : OB) (i : Nat) : opF .len [x] ob i = (lenOf x).map fun (n : Nat) => (.c (.int .i64 (n : Int)), []) := (rfl)
@[go_sem] theorem op_slen (x : V) (ob : OB) (i : Nat) : opF .slen [x] ob i = (toStr x).map fun s => (.c (.int .i64 (s.size : Int)), []) := (rfl)
@[go_sem] theorem op_st (n : Nat) (a v : V) (ob : OB) (i : Nat) : opF (.st n) [a, v] ob i = (toPt a).bind fun q => (ob q.1).bind fun x => (x.l[q.2.1]?).bind fun row => if (cellsV v).length = n ∧ (cellsV v).all leaf ∧ q.2.2 + n ≤ row.length then some (.u, [(q.1, some ⟨x.k, x.l.set q.2.1 (row.take q.2.2 ++ cellsV v ++ row.drop (q.2.2 + n)), x.cap⟩)]) else none := (rfl)
@[go_sem] theorem op_mx (a b : V) (ob : OB) (i : Nat) : opF .mx [a, b] ob i = (toC a).bind fun a => (toC b).bind fun b => (mxS a b).map fun r => (.c r, []) := (rfl)
@[go_sem] theorem op_mn (a b : V) (ob : OB) (i : Nat) : opF .mn [a, b] ob i = (toC a).bind fun a => (toC b).bind fun b => (mnS a b).map fun r => (.c r, []) := (rfl)
@[go_sem] theorem op_ext (j : Nat) (a : V) (ob : OB) (i : Nat) : opF (.ext j) [a] ob i = (toTp a).bind fun l => (l[j]?).map fun v => (v, []) := (rfl)
@[go_sem] theorem op_appz (k : Nat) (z : List V) (id off len : Nat) (n : V) (ob : OB) (i : Nat) : opF (.appz k z) [.sl id off len, n] ob i = (toInt n).bind fun n => (ob id).bind fun o => o.cap.bind fun c => if o.k = k ∧ off = 0 ∧ len ≤ o.l.length ∧ 0 < n ∧ len + n.toNat ≤ maxLen ∧ c < len + n.toNat then some (.sl i 0 (len + n.toNat), [(i, some ⟨k, o.l.take len ++ List.replicate n.toNat z, none⟩)]) else none := (rfl)
@[go_sem] theorem op_capo (x : V) (ob : OB) (i : Nat) : opF .capo [x] ob i = (capS ob x).map fun (n : Nat) => (.c (.int .i64 (n : Int)), []) := (rfl)
@[go_sem] theorem op_cpy (k id off len : Nat) (x : V) (ob : OB) (i : Nat) : opF (.cpy k) [.sl id off len, x] ob i = (rowsOf ob x).bind fun xs => (ob id).bind fun o => if (xs.take len).all (okRow k) = true ∧ o.k = k ∧ off + len ≤ o.l.length then some (.c (.int .i64 ((min xs.length len : Nat) : Int)), [(id, some ⟨k, over o.l off (xs.take len), o.cap⟩)]) else none := (rfl)
@[go_sem] theorem op_clr (k : Nat) (z : List V) (id off len : Nat) (ob : OB) (i : Nat) : opF (.clr k z) [.sl id off len] ob i = (ob id).bind fun o => if o.k = k ∧ off + len ≤ o.l.length then some (.tp [], [(id, some ⟨k, over o.l off (List.replicate len z), o.cap⟩)]) else none := (rfl)
@[go_sem] theorem op_clrb (k : Nat) (z : List V) (f : Fl) (ob : OB) (i : Nat) : opF (.clr k z) [.im f []] ob i = some (.tp [], []) := (rfl)
@[go_sem] theorem op_mkf (f : Nat) (vs : List V) (ob : OB) (i : Nat) : opF (.mkf f) vs ob i = some (.fn f vs, []) := (rfl)
@[go_sem] theorem toBool_c (b : Bool) : toBool (.c (.bool b)) = some b := (rfl)
@[go_sem] theorem toC_c (v : Value) : toC (.c v) = some v := (rfl)
@[go_sem] theorem toInt_c (k : IntKind) (n : Int) : toInt (.c (.int k n)) = some n := (rfl)
@[go_sem] theorem toPt_c (a b c : Nat) : toPt (.pt a b c) = some (a, b, c) := (rfl)
@[go_sem] theorem toAg_c (l : List V) : toAg (.ag l) = some l := (rfl)
@[go_sem] theorem toTp_c (l : List V) : toTp (.tp l) = some l := (rfl)
@[go_sem] theorem toStr_c (s : ByteArray) : toStr (.c (.string s)) = some s := (rfl)
@[go_sem] theorem binS_s (o : BinOp) (a b : ByteArray) : binS o (.string a) (.string b) = strsOp o a b := (rfl)
@[go_sem] theorem io_add (k : IntKind) (a b : Int) : intsOp .add k a b = some (.int k (k.wrap (a + b))) := (rfl)
@[go_sem] theorem io_sub (k : IntKind) (a b : Int) : intsOp .sub k a b = some (.int k (k.wrap (a - b))) := (rfl)
@[go_sem] theorem io_mul (k : IntKind) (a b : Int) : intsOp .mul k a b = some (.int k (k.wrap (a * b))) := (rfl)
@[go_sem] theorem io_quo (k : IntKind) (a b : Int) : intsOp .quo k a b = if b = 0 then none else some (.int k (k.wrap (a.tdiv b))) := (rfl)
@[go_sem] theorem io_rem (k : IntKind) (a b : Int) : intsOp .rem k a b = if b = 0 then none else some (.int k (a.tmod b)) := (rfl)
@[go_sem] theorem io_eql (k : IntKind) (a b : Int) : intsOp .eql k a b = some (.bool (decide (a = b))) := (rfl)
@[go_sem] theorem io_neq (k : IntKind) (a b : Int) : intsOp .neq k a b = some (.bool (!decide (a = b))) := (rfl)
@[go_sem] theorem io_lss (k : IntKind) (a b : Int) : intsOp .lss k a b = some (.bool (decide (a < b))) := (rfl)
@[go_sem] theorem io_leq (k : IntKind) (a b : Int) : intsOp .leq k a b = some (.bool (decide (a ≤ b))) := (rfl)
@[go_sem] theorem io_gtr (k : IntKind) (a b : Int) : intsOp .gtr k a b = some (.bool (decide (b < a))) := (rfl)
@[go_sem] theorem io_geq (k : IntKind) (a b : Int) : intsOp .geq k a b = some (.bool (decide (b ≤ a))) := (rfl)
@[go_sem] theorem capS_z (ob : OB) : capS ob .z = some 0 := (rfl)
@[go_sem] theorem capS_sl (ob : OB) (id off len : Nat) : capS ob (.sl id off len) = (ob id).bind fun o => o.cap.map fun c => c - off := (rfl)
@[go_sem] theorem eqc_n  : eqCells [] [] [] = some true := (rfl)
@[go_sem] theorem eqc_c (k : Nat) (ks : List Nat) (a b : Value) (l m : List V) : eqCells (k :: ks) (.c a :: l) (.c b :: m) = (eqS k a b).bind fun p => (eqCells ks l m).map fun q => p && q := (rfl)
@[go_sem] theorem eqS_1 (a b : ByteArray) : eqS 1 (.string a) (.string b) = some (decide (a.toList = b.toList)) := (rfl)
@[go_sem] theorem eqS_2 (a b : Bool) : eqS 2 (.bool a) (.bool b) = some (a == b) := (rfl)
@[go_sem] theorem bo_eql (a b : Bool) : boolOp .eql a b = some (a == b) := (rfl)
@[go_sem] theorem bo_neq (a b : Bool) : boolOp .neq a b = some (!(a == b)) := (rfl)
@[go_sem] theorem un_not (b : Bool) : unS .not (.bool b) = some (.bool !b) := (rfl)
@[go_sem] theorem un_neg (k : IntKind) (n : Int) : unS .neg (.int k n) = some (.int k (k.wrap (0 - n))) := (rfl)
@[go_sem] theorem cells_ag (l : List V) : cellsV (.ag l) = l := (rfl)
@[go_sem] theorem cells_c (v : Value) : cellsV (.c v) = [.c v] := (rfl)
@[go_sem] theorem cells_im (f : Fl) (l : List (List V)) : cellsV (.im f l) = [.im f l] := (rfl)
@[go_sem] theorem cells_sl (a b c : Nat) : cellsV (.sl a b c) = [.sl a b c] := (rfl)
@[go_sem] theorem cells_z  : cellsV .z = [.z] := (rfl)
@[go_sem] theorem cells_pt (a b c : Nat) : cellsV (.pt a b c) = [.pt a b c] := (rfl)
@[go_sem] theorem cells_fn (f : Nat) (l : List V) : cellsV (.fn f l) = [.fn f l] := (rfl)
@[go_sem] theorem cells_bp (l : List V) : cellsV (.bp l) = [.bp l] := (rfl)
@[go_sem] theorem pack_n (v : V) : pack none [v] = some v := (rfl)
@[go_sem] theorem pack_s (n : Nat) (l : List V) : pack (some n) l = if l.length = n then some (.ag l) else none := (rfl)
@[go_sem] theorem len_im (f : Fl) (l : List (List V)) : lenOf (.im f l) = some l.length := (rfl)
@[go_sem] theorem len_z  : lenOf .z = some 0 := (rfl)
@[go_sem] theorem len_sl (a b c : Nat) : lenOf (.sl a b c) = some c := (rfl)
@[go_sem] theorem ld_pt (ob : OB) (n : Option Nat) (id i o : Nat) : ldV ob n (.pt id i o) = (ob id).bind fun x => (x.l[i]?).bind fun row => if o + n.getD 1 ≤ row.length then pack n ((row.drop o).take (n.getD 1)) else none := (rfl)
@[go_sem] theorem ld_bp (ob : OB) (n : Option Nat) (l : List V) : ldV ob n (.bp l) = if n.getD 1 ≤ l.length then pack n (l.take (n.getD 1)) else none := (rfl)
@[go_sem] theorem fa_pt (ob : OB) (o id i p : Nat) : faV ob o (.pt id i p) = (ob id).bind fun _ => some (.pt id i (p + o)) := (rfl)
@[go_sem] theorem fa_bp (ob : OB) (o : Nat) (l : List V) : faV ob o (.bp l) = some (.bp (l.drop o)) := (rfl)
@[go_sem] theorem rows_im (ob : OB) (f : Fl) (l : List (List V)) : rowsOf ob (.im f l) = some l := (rfl)
@[go_sem] theorem rows_z (ob : OB) : rowsOf ob .z = some [] := (rfl)
@[go_sem] theorem rows_sl (ob : OB) (id off len : Nat) : rowsOf ob (.sl id off len) = (ob id).bind fun o => if off + len ≤ o.l.length then some ((o.l.drop off).take len) else none := (rfl)
@[go_sem] theorem neg_q (n : Bool) : negV n .q = .q := (rfl)
@[go_sem] theorem neg_c (n b : Bool) : negV n (.c (.bool b)) = .c (.bool (if n then !b else b)) := (rfl)
@[go_sem] theorem nil0_z (ob : OB) : isNil ob 0 .z = some .q := (rfl)
@[go_sem] theorem nil0_c (ob : OB) (f : Fl) (r : List V) (l : List (List V)) : isNil ob 0 (.im f (r :: l)) = some (.c (.bool false)) := (rfl)
@[go_sem] theorem nil0_n (ob : OB) (f : Fl) : isNil ob 0 (.im f []) = some .q := (rfl)
@[go_sem] theorem nil0_s (ob : OB) (a b c : Nat) : isNil ob 0 (.sl a b c) = (ob a).map fun _ => .c (.bool false) := (rfl)
@[go_sem] theorem res_c (ob : OB) (n : Nat) (v : Value) : resV ob (n + 1) (.c v) = .c v := (rfl)
@[go_sem] theorem res_z (ob : OB) (n : Nat) : resV ob (n + 1) .z = .im .b [] := (rfl)
@[go_sem] theorem res_im (ob : OB) (n : Nat) (f : Fl) (l : List (List V)) : resV ob (n + 1) (.im f l) = .im (resFl f) (l.map fun r => r.map (resV ob n)) := (rfl)
@[go_sem] theorem resFl_b  : resFl .b = .b := (rfl)
@[go_sem] theorem resFl_n  : resFl .n = .n := (rfl)
@[go_sem] theorem res_fn (ob : OB) (n f : Nat) (l : List V) : resV ob (n + 1) (.fn f l) = .fn f (l.map (resV ob n)) := (rfl)
@[go_sem] theorem res_ag (ob : OB) (n : Nat) (l : List V) : resV ob (n + 1) (.ag l) = .ag (l.map (resV ob n)) := (rfl)
@[go_sem] theorem res_bp (ob : OB) (n : Nat) (l : List V) : resV ob (n + 1) (.bp l) = .bp (l.map (resV ob n)) := (rfl)
@[go_sem] theorem g_c (ob : OB) (n : Nat) (v : Value) : gV ob (n + 1) (.c v) = .c v := (rfl)
@[go_sem] theorem g_z (ob : OB) (n : Nat) : gV ob (n + 1) .z = .im .b [] := (rfl)
@[go_sem] theorem g_imb (ob : OB) (n : Nat) (l : List (List V)) : gV ob (n + 1) (.im .b l) = .im .b (l.map fun r => r.map (gV ob n)) := (rfl)
@[go_sem] theorem imp_fb (i : Nat) (l : List (List V)) : imp .fz i (.im .b l) = (.im .b l, []) := (rfl)
@[go_sem] theorem frz1_b (l : List (List V)) : frz1 (.im .b l) = .im .b l := (rfl)
@[go_sem] theorem g_ag (ob : OB) (n : Nat) (l : List V) : gV ob (n + 1) (.ag l) = .ag (l.map (gV ob n)) := (rfl)
@[go_sem] theorem out_n (ob : OB) : outL ob [] = [] := (rfl)
@[go_sem] theorem out_c (ob : OB) (v : Value) (l : List V) : outL ob (.c v :: l) = gV ob 6 (.c v) :: l.map (gV ob 6) := (rfl)
@[go_sem] theorem out_z (ob : OB) (l : List V) : outL ob (.z :: l) = .im .o [] :: l.map (gV ob 6) := (rfl)
@[go_sem] theorem out_im (ob : OB) (f : Fl) (s : List (List V)) (l : List V) : outL ob (.im f s :: l) = gV ob 6 (.im f s) :: l.map (gV ob 6) := (rfl)
@[go_sem] theorem out_ag (ob : OB) (s : List V) (l : List V) : outL ob (.ag s :: l) = gV ob 6 (.ag s) :: l.map (gV ob 6) := (rfl)
@[go_sem] theorem ret_c (v : Value) : retV [.c v] = .c v := (rfl)
@[go_sem] theorem ret_im (f : Fl) (l : List (List V)) : retV [.im f l] = .im f l := (rfl)
@[go_sem] theorem ret_ag (l : List V) : retV [.ag l] = .ag l := (rfl)
@[go_sem] theorem imp_fc (i : Nat) (v : Value) : imp .fz i (.c v) = (.c v, []) := (rfl)
@[go_sem] theorem imp_fi (i : Nat) (l : List (List V)) : imp .fz i (.im .o l) = (.im .b l, []) := (rfl)
@[go_sem] theorem imp_ft (i : Nat) (l : List V) : imp .fz i (.tp l) = (.tp (l.map frz1), []) := (rfl)
@[go_sem] theorem imp_fa (i : Nat) (l : List V) : imp .fz i (.ag l) = (.ag l, []) := (rfl)
@[go_sem] theorem frz1_o (l : List (List V)) : frz1 (.im .o l) = .im .b l := (rfl)
@[go_sem] theorem frz1_c (v : Value) : frz1 (.c v) = .c v := (rfl)
@[go_sem] theorem imp_oc (k i : Nat) (v : Value) : imp (.own k) i (.c v) = (.c v, []) := (rfl)
@[go_sem] theorem imp_oi (k i : Nat) (l : List (List V)) : imp (.own k) i (.im .o l) = if l.length = 0 then (.z, []) else (.sl i 0 l.length, [(i, some ⟨k, l, none⟩)]) := (rfl)
@[go_sem] theorem eqS_0 (k : IntKind) (a b : Int) : eqS 0 (.int k a) (.int k b) = some (decide (a = b)) := by simp [eqS]
@[go_sem] theorem io_shr1 (a : Int) : intsOp .shr .u64 a 1 = some (.int .u64 (a / 2)) := by simp [intsOp, IntKind.bits]
@[go_sem] theorem binS_i (o : BinOp) (k : IntKind) (a b : Int) : binS o (.int k a) (.int k b) = intsOp o k a b := by simp [binS]
@[go_sem] theorem ret_t (a b : V) (l : List V) : retV (a :: b :: l) = .tp (a :: b :: l) := by cases a <;> rfl
@[go_sem] theorem imp_ot (k i : Nat) (s : List (List V)) (l : List V) : imp (.own k) i (.tp (.im .o s :: l)) = if s.length = 0 then (.tp (.z :: l), []) else (.tp (.sl i 0 s.length :: l), [(i, some ⟨k, s, none⟩)]) := by by_cases h : s.length = 0 <;> simp [imp, impL, isO, impO, h]
@[go_sem] theorem bind_s {α β : Type} (a : α) (f : α → Option β) : (some a).bind f = f a := (rfl)
@[go_sem] theorem map_s {α β : Type} (a : α) (f : α → β) : (some a).map f = some (f a) := (rfl)
@[go_sem] theorem ite_t {α : Type} {_ : Decidable True} (a b : α) : (if True then a else b) = a := if_pos trivial
@[go_sem] theorem ite_f {α : Type} {_ : Decidable False} (a b : α) : (if False then a else b) = b := if_neg id
@[go_sem] theorem ite_bt {α : Type} (a b : α) : (if true = true then a else b) = a := (rfl)
@[go_sem] theorem ite_bf {α : Type} (a b : α) : (if false = true then a else b) = b := (rfl)
@[go_sem] theorem ite_not {α : Type} (b : Bool) (x y : α) : (if (!b) = true then x else y) = if b = true then y else x := by cases b <;> rfl
@[go_sem] theorem ite_in {α : Type} (b : Bool) (x y z : α) : (if b = true then (if b = true then x else z) else y) = if b = true then x else y := by cases b <;> rfl
@[go_sem] theorem ite_el {α : Type} (b : Bool) (x y z : α) : (if b = true then x else (if b = true then z else y)) = if b = true then x else y := by cases b <;> rfl
@[go_sem] theorem ite_vb (b x y : Bool) : (if b = true then V.c (.bool x) else V.c (.bool y)) = V.c (.bool (if b = true then x else y)) := by cases b <;> rfl
@[go_sem] theorem ite_and (b x : Bool) : (if b = true then x else false) = (b && x) := by cases b <;> rfl
@[go_sem] theorem ite_or (b x : Bool) : (if b = true then true else x) = (b || x) := by cases b <;> rfl
@[go_sem] theorem ite_f0 {α : Type} (b : Bool) (x y : α) : (if b = false then x else y) = if b = true then y else x := by cases b <;> rfl
@[go_sem] theorem ite_same {α : Type} (b : Bool) (x : α) : (if b = true then x else x) = x := by cases b <;> rfl
@[go_sem] theorem rows_t {ob : OB} : sliceV ob 0 .z none none = some .z := (rfl)
end Go.Proofs.Ytbojpedklnmidaa.D
end
section
set_option linter.unusedVariables false
set_option linter.unusedSimpArgs false
set_option linter.constructorNameAsVariable false
/- Walking over plain values: rows that stand for a list's elements. No condition. -/
namespace Go.Proofs.Ytbojpedklnmidaa.D
open Go Go.RowKit

abbrev vi (n : Int) : V := .c (.int .i64 n)
abbrev vb (b : Bool) : V := .c (.bool b)

/-- What stands at a place. -/
def gN {α : Type} [Inhabited α] (l : List α) (n : Nat) : α := l.getD n default
theorem gN_at {α : Type} [Inhabited α] {l : List α} {n : Nat} (h : n < l.length) : l[n]? = some (gN l n) := by simp [gN, h]
theorem gN_eq {α : Type} [Inhabited α] {l : List α} {n : Nat} (h : n < l.length) : gN l n = l[n] := by simp [gN, h]

section
variable {α : Type} [Inhabited α] (g : α → List V) (l : List α)

@[go_sem] theorem ia_map (ob : OB) (k : Nat) (f : Fl) (j : Int) : iaV ob k (.im f (l.map g)) j = if (0 ≤ j ∧ j < l.length) ∧ (g (gN l j.toNat)).length = k then some (.bp (g (gN l j.toNat))) else none := by
  simp only [iaV, List.length_map]
  by_cases h : 0 ≤ j ∧ j < (l.length : Int)
  · have h1 : j.toNat < l.length := by omega
    simp only [h, and_self, if_true, true_and, List.getElem?_map, gN_at h1, Option.map_some, Option.bind_some]
  · simp only [h, if_false, false_and]

@[go_sem] theorem ia_sl (ob : OB) (k id off len : Nat) (j : Int) : iaV ob k (.sl id off len) j = (ob id).bind fun o => if 0 ≤ j ∧ j < len ∧ o.k = k then some (.pt id (off + j.toNat) 0) else none := (rfl)
@[go_sem] theorem ia_z (ob : OB) (k : Nat) (j : Int) : iaV ob k .z j = none := (rfl)

/-- A row of a made slice. -/
@[go_sem] theorem row_map {β : Type} (F : List V → Option β) (i : Nat) : ((l.map g)[i]?).bind F = if i < l.length then F (g (gN l i)) else none := by
  by_cases h : i < l.length
  · simp only [h, if_true, List.getElem?_map, gN_at h, Option.map_some, Option.bind_some]
  · simp only [h, if_false, List.getElem?_map]
    rw [List.getElem?_eq_none (by omega)]; rfl
end

@[go_sem] theorem sl_im (ob : OB) (k : Nat) (f : Fl) (l : List (List V)) (lo hi : Option Int) : sliceV ob k (.im f l) lo hi = if f ≠ .o ∧ (∀ ch ∈ l, ch.length = k) ∧ 0 ≤ lo.getD 0 ∧ lo.getD 0 ≤ hi.getD l.length ∧ hi.getD l.length ≤ l.length then some (.im f ((l.take (hi.getD l.length).toNat).drop (lo.getD 0).toNat)) else none := (rfl)

/-- A condition behind a condition, behind nothing. -/
theorem ite_bind {α β : Type} {c : Prop} [Decidable c] (x : Option α) (f : α → Option β) : (if c then x else none).bind f = if c then x.bind f else none := by split <;> rfl
theorem ite_map {α β : Type} {c : Prop} [Decidable c] (x : Option α) (f : α → β) : (if c then x else none).map f = if c then x.map f else none := by split <;> rfl
attribute [go_sem] ite_bind ite_map

section
variable {P : Program} {nid : Nat} {env : Env} {ob : OB} {K : Env → OB → Prop} {J : Env → OB → Nat → Prop} {l : List RO} {dl : Ups} {d : Option Nat}
@[go_sem] theorem nxS_j {c : Prop} [Decidable c] {x : Option (V × Ups)} : nxS P d l nid env ob J (if c then x else none) = (c ∧ nxS P d l nid env ob J x) := by
  by_cases h : c
  · simp [h]
  · simp [h, nxS]
@[go_sem] theorem nxD_j {c : Prop} [Decidable c] {x : Option (V × Ups)} {b : Bool} : nxD P b d l nid env ob dl K (if c then x else none) = (c ∧ nxD P b d l nid env ob dl K x) := by
  by_cases h : c
  · simp [h]
  · simp [h, nxD]
end

def iv : V → Int
  | .c (.int _ n) => n
  | _ => 0
theorem iv_c (k : IntKind) (n : Int) : iv (.c (.int k n)) = n := (rfl)
theorem w64 {n : Int} (h : -9223372036854775808 ≤ n ∧ n ≤ 9223372036854775807) : IntKind.i64.wrap n = n := by
  unfold IntKind.wrap IntKind.signed IntKind.bits
  simp
  omega

/-- A slice of one's own that grows. -/
def Own (n : Nat) (ob : OB) (v : V) (k : Nat) (rows : List (List V)) : Prop :=
  (rows = [] ∧ v = .z) ∨ (rows ≠ [] ∧ ∃ id cap, id < n ∧ v = .sl id 0 rows.length ∧ ob id = some ⟨k, rows, cap⟩)

theorem Own.nil {n : Nat} {ob : OB} {k : Nat} : Own n ob .z k [] := .inl ⟨rfl, rfl⟩

section
variable {P : Program} {nid : Nat} {env : Env} {ob : OB} {J : Env → OB → Nat → Prop} {l : List RO} {dl : Ups} {d : Option Nat} {n k : Nat} {v x : V} {rows xs : List (List V)}
/-- Appending to it. -/
theorem app_own (h : Own n ob v k rows) (hn : n ≤ nid) (hx : rowsOf ob x = some xs) (hk : xs.all (okRow k) = true) (hlen : rows.length + xs.length ≤ maxLen) :
    ∃ v' us, opF (.app k) [v, x] ob nid = some (v', us) ∧ Own (nid + 1) (apps ob us) v' k (rows ++ xs) ∧ ∀ id, id < n → v ≠ .sl id 0 rows.length → apps ob us id = ob id := by
  rcases h with ⟨rfl, rfl⟩ | ⟨hne, id, cap, hid, rfl, hob⟩
  · by_cases h0 : xs.length = 0
    · have : xs = [] := List.eq_nil_of_length_eq_zero h0
      subst this
      exact ⟨.z, [], by simp [opF, hx], .inl ⟨rfl, rfl⟩, fun _ _ _ => rfl⟩
    · refine ⟨.sl nid 0 xs.length, _, by simp only [opF, hx, hk, Option.bind_some, if_true, h0, if_false]; rw [if_pos (by simpa using hlen)], .inr ⟨by intro e; apply h0; simpa using congrArg List.length e, nid, none, by omega, by simp, by simp [apps, Ob.mk.injEq]⟩, fun id hid _ => ?_⟩
      simp only [apps_c, apps_n]; exact updO_o _ _ _ _ (by simp; omega)
  · by_cases h0 : xs.length = 0
    · have : xs = [] := List.eq_nil_of_length_eq_zero h0
      subst this
      refine ⟨.sl id 0 rows.length, [(id, some ⟨k, over rows rows.length [], cap⟩)], ?_, .inr ⟨by simpa using hne, id, cap, by omega, by simp, ?_⟩, fun id' hid' hv => ?_⟩
      · simp only [opF, hx, hk, Option.bind_some, if_true, hob]
        rw [if_pos ⟨trivial, by simp, by simpa using hlen⟩, if_pos (by simp)]; simp
      · simp [apps, over]
      · simp only [apps_c, apps_n]; refine updO_o _ _ _ _ ?_
        simp; intro e; subst e; exact hv rfl
    · have hop : opF (.app k) [.sl id 0 rows.length, x] ob nid = some (.sl nid 0 (rows.length + xs.length), grown cap id (rows.length + xs.length) ++ [(nid, some ⟨k, rows ++ xs, none⟩)]) := by
        simp only [opF, hx, hk, Option.bind_some, if_true, hob]
        rw [if_pos ⟨trivial, by simp, by simpa using hlen⟩, if_neg (by omega), List.take_length]
      have hgr : grown cap id (rows.length + xs.length) = [] ∨ grown cap id (rows.length + xs.length) = [(id, none)] := by
        unfold grown; split
        · split
          · exact .inl rfl
          · exact .inr rfl
        · exact .inr rfl
      refine ⟨_, _, hop, .inr ⟨by simp [hne], nid, none, by omega, by simp, ?_⟩, fun id' hid' hv => ?_⟩
      · rcases hgr with h | h <;> simp [h, apps]
      · have hne' : id' ≠ id := by intro e; subst e; exact hv rfl
        have hnn : id' ≠ nid := by omega
        rcases hgr with h | h <;> simp [h, apps, hne', hnn]
theorem nxS_app (h : Own n ob v k rows) (hn : n ≤ nid) (hx : rowsOf ob x = some xs) (hk : xs.all (okRow k) = true) (hlen : rows.length + xs.length ≤ maxLen)
    (hK : ∀ v' ob', Own (nid + 1) ob' v' k (rows ++ xs) → (∀ id, id < n → v ≠ .sl id 0 rows.length → ob' id = ob id) → wpS P l (nid + 1) (put env d v') ob' J) : nxS P d l nid env ob J (opF (.app k) [v, x] ob nid) := by
  obtain ⟨v', us, e, h1, h2⟩ := app_own h hn hx hk hlen
  rw [e]
  exact hK _ _ h1 h2
/-- Handed back. -/
theorem out_own (h : Own n ob v k rows) (hg : ∀ ob', ∀ r ∈ rows, r.map (gV ob' 6) = r) (vs : List V) (hvs : ∀ ob', vs.map (gV ob' 6) = vs) : outL ob (v :: vs) = .im .o rows :: vs := by
  rcases h with ⟨rfl, rfl⟩ | ⟨hne, id, cap, hid, rfl, hob⟩
  · simp [outL, hvs]
  · have : ¬ rows.length = 0 := fun e => hne (List.eq_nil_of_length_eq_zero e)
    simp only [outL, rowsOf, hob, Option.bind_some]
    rw [if_pos (by simp)]
    simp only [List.drop_zero, List.take_length, this, if_false, hvs]
    congr 2
    rw [List.map_congr_left (g := fun r => r) (fun r hr => hg _ r hr)]; simp
end

/-- Whole numbers. -/
def ints (f : Fl) (l : List Int) : V := .im f (l.map fun n => [vi n])
@[go_sem] theorem set_map {α : Type} (g : α → List V) (l : List α) (i : Nat) (x : α) : (l.map g).set i (g x) = (l.set i x).map g := by rw [List.map_set]
@[go_sem] theorem set_ints (l : List Int) (i : Nat) (n : Int) : (l.map fun n => [vi n]).set i [vi n] = (l.set i n).map fun n => [vi n] := by rw [List.map_set]
@[go_sem] theorem cat_ints (l : List Int) (n : Int) : (l.map fun n => [vi n]) ++ [[vi n]] = (l ++ [n]).map fun n => [vi n] := by simp
@[go_sem] theorem rep_ints (k : Nat) (n : Int) : List.replicate k [vi n] = (List.replicate k n).map fun n => [vi n] := by simp
/-- Rows of whole numbers. -/
def intRows (f : Fl) (l : List (List Int)) : V := .im f (l.map fun v => [ints .b v])

/-- Rows that stand for a list's elements: as appending, handing back and 'nil' see them. -/
theorem all_map {α : Type} (g : α → List V) (k : Nat) (h : ∀ a, okRow k (g a) = true) (l : List α) : (l.map g).all (okRow k) = true := by simp [h]
@[go_sem] theorem nil_map {α : Type} (g : α → List V) (ob : OB) (f : Fl) (l : List α) : isNil ob 0 (.im f (l.map g)) = some (if l = [] then .q else .c (.bool false)) := by cases l <;> rfl
theorem g_map {α : Type} (g : α → List V) (h : ∀ ob' a, (g a).map (gV ob' 6) = g a) (ob' : OB) (l : List α) : ∀ r ∈ l.map g, r.map (gV ob' 6) = r := by
  intro r hr; obtain ⟨n, _, rfl⟩ := List.mem_map.1 hr; exact h _ _
theorem allInts (l : List Int) : (l.map fun n => [vi n]).all (okRow 1) = true := all_map _ _ (fun _ => rfl) l
theorem gInts (ob' : OB) (l : List Int) : ∀ r ∈ l.map (fun n => [vi n]), r.map (gV ob' 6) = r := g_map _ (fun _ _ => rfl) ob' l
@[go_sem] theorem op_bsl0 (k : Nat) (z : List V) (fz : Bool) (ob : OB) (i : Nat) : opF (.bsl k z [] 0 fz) [] ob i = some (.z, []) := by
  simp [opF, fill]
/-- Literals of one, two, three elements of one cell each. -/
@[go_sem] theorem op_bsl_1 (z a : V) (ob : OB) (i : Nat) (h : okRow 1 (cellsV a) = true) : opF (.bsl 1 [z] [0] 1 true) [a] ob i = some (.im .b [cellsV a], []) := by
  simp [okRow] at h
  obtain ⟨x, hx⟩ := List.length_eq_one_iff.1 h.1
  simp [hx] at h
  simp [opF, fill, hx, okRow, h]
@[go_sem] theorem op_bsl_2 (z a b : V) (ob : OB) (i : Nat) (h : okRow 1 (cellsV a) = true) (k : okRow 1 (cellsV b) = true) : opF (.bsl 1 [z] [0, 1] 2 true) [a, b] ob i = some (.im .b [cellsV a, cellsV b], []) := by
  simp [okRow] at h k
  obtain ⟨x, hx⟩ := List.length_eq_one_iff.1 h.1
  obtain ⟨y, hy⟩ := List.length_eq_one_iff.1 k.1
  simp [hx] at h; simp [hy] at k
  simp [opF, fill, hx, hy, okRow, h, k, List.range_succ]
@[go_sem] theorem op_bsl_3 (z a b c : V) (ob : OB) (i : Nat) (h : okRow 1 (cellsV a) = true) (k : okRow 1 (cellsV b) = true) (m : okRow 1 (cellsV c) = true) : opF (.bsl 1 [z] [0, 1, 2] 3 true) [a, b, c] ob i = some (.im .b [cellsV a, cellsV b, cellsV c], []) := by
  simp [okRow] at h k m
  obtain ⟨x, hx⟩ := List.length_eq_one_iff.1 h.1
  obtain ⟨y, hy⟩ := List.length_eq_one_iff.1 k.1
  obtain ⟨w, hw⟩ := List.length_eq_one_iff.1 m.1
  simp [hx] at h; simp [hy] at k; simp [hw] at m
  simp [opF, fill, hx, hy, hw, okRow, h, k, m, List.range_succ]
@[go_sem] theorem fill_n (l : List V) : fill l [] [] = some l := (rfl)
@[go_sem] theorem fill_c (l : List V) (o n : Nat) (ps : List (Nat × Nat)) (v : V) (vs : List V) : fill l ((o, n) :: ps) (v :: vs) = if (cellsV v).length = n ∧ o + n ≤ l.length ∧ (cellsV v).all leaf then fill (l.take o ++ cellsV v ++ l.drop (o + n)) ps vs else none := (rfl)
@[go_sem] theorem cast0 : ((0 : Nat) : Int) = 0 := (rfl)
@[go_sem] theorem cast1 : ((1 : Nat) : Int) = 1 := (rfl)
@[go_sem] theorem cast2 : ((2 : Nat) : Int) = 2 := (rfl)
@[go_sem] theorem cast3 : ((3 : Nat) : Int) = 3 := (rfl)
@[go_sem] theorem okRow_e (k : Nat) (r : List V) : okRow k r = (r.length == k && r.all leaf) := (rfl)
@[go_sem] theorem leaf_i (k : IntKind) (n : Int) : leaf (.c (.int k n)) = true := (rfl)
@[go_sem] theorem leaf_b (b : Bool) : leaf (.c (.bool b)) = true := (rfl)
@[go_sem] theorem leaf_s (b : ByteArray) : leaf (.c (.string b)) = true := (rfl)
@[go_sem] theorem leaf_z : leaf .z = true := (rfl)
@[go_sem] theorem leaf_im (f : Fl) (l : List (List V)) : leaf (.im f l) = true := (rfl)
@[go_sem] theorem leaf_sl (a b c : Nat) : leaf (.sl a b c) = true := (rfl)
@[go_sem] theorem leaf_fn (f : Nat) (c : List V) : leaf (.fn f c) = true := (rfl)
/-- A slice over an object, as a call sees it. -/
def resS (ob : OB) (n : Nat) : Option (List (List V)) → V
  | some l => .im .n (l.map fun r => r.map (resV ob n))
  | none => .u
@[go_sem] theorem resS_s (ob : OB) (n : Nat) (l : List (List V)) : resS ob n (some l) = .im .n (l.map fun r => r.map (resV ob n)) := (rfl)
@[go_sem] theorem res_sl (ob : OB) (n id off len : Nat) : resV ob (n + 1) (.sl id off len) = resS ob n (rowsOf ob (.sl id off len)) := by
  simp only [resV]; cases rowsOf ob (.sl id off len) <;> rfl
@[go_sem] theorem take_map_len {α : Type} (g : α → List V) (l : List α) : (l.map g).take l.length = l.map g := by simp [List.take_of_length_le]
/-- A whole object, handed back. -/
theorem out_at {α : Type} (g : α → List V) (hg : ∀ ob' a, (g a).map (gV ob' 6) = g a) {ob : OB} {id len k : Nat} {cap : Option Nat} {l : List α} (hob : ob id = some ⟨k, l.map g, cap⟩) (hlen : len = l.length) (h0 : l.length ≠ 0) (vs : List V) (hvs : ∀ ob', vs.map (gV ob' 6) = vs) :
    outL ob (.sl id 0 len :: vs) = .im .o (l.map g) :: vs := by
  refine out_own (n := id + 1) (k := k) (.inr ⟨fun e => h0 (by simpa using congrArg List.length e), id, cap, by omega, by simp [hlen], hob⟩) (fun ob' => g_map g hg ob' l) vs hvs
@[go_sem] theorem mxS_i (k k' : IntKind) (a b : Int) : mxS (.int k a) (.int k' b) = some (.int k (max a b)) := by simp only [mxS]; congr 2; split <;> omega
@[go_sem] theorem mnS_i (k k' : IntKind) (a b : Int) : mnS (.int k a) (.int k' b) = some (.int k (min a b)) := by simp only [mnS]; congr 2; split <;> omega
attribute [go_sem] decide_true decide_false
attribute [go_sem] List.all_cons List.all_nil Bool.and_true Bool.true_and beq_self_eq_true
attribute [go_sem] Int.toNat_natCast
end Go.Proofs.Ytbojpedklnmidaa.D
end
section
set_option linter.unusedVariables false
set_option linter.unusedSimpArgs false
set_option linter.constructorNameAsVariable false
/- An argument of any kind that reads as data has a plain value behind it. No condition. -/
namespace Go.Proofs.Ytbojpedklnmidaa.D
open Go Go.RowKit

def gInt (k : IntKind) (x : Int) : Prop := (Lit.int k x).wf = true
def gStr (s : ByteArray) : Prop := s.size ≤ Go.maxLen
def gList {α : Type} (p : α → Prop) (l : List α) : Prop := l.length ≤ Go.maxLen ∧ ∀ x ∈ l, p x

/-- All may be handed back. -/
@[reducible] def bkA : Bk := ⟨fun _ => True⟩
abbrev okA (W : World) := @okf bkA (fun _ => none) W.heap.size W.heap.size
abbrev RVa (W : World) := RVs W (okA W) (fun _ => none)

/-- Whatever reads as data of type t is a plain value of this kind. -/
def Opn {H : Type} (enc : TypeId × Value → H) (P : Program) (t : TypeId) {α : Type} (m : α → List V) (good : α → Prop) : Prop :=
  ∀ {W : World} {base : Nat} {sp : Nat → Bool} {held : Bool} {fuel : Nat} {cs : List Value} {x : DataW H × List MemPlace}, DataW.trod enc P W base sp held fuel t cs = some x → ∃ a, RVa W (m a) cs ∧ good a

theorem RVs_one {w : World} {ok : Fl → Nat → Prop} {loc : Loc} {v : V} {x : Value} (h : RV w ok loc v x) : RVs w ok loc [v] [x] :=
  ⟨rfl, fun i v' x' hv hx => by
    cases i with
    | zero => simp at hv hx; subst hv hx; exact h
    | succ i => simp at hv⟩
theorem RVs_nil {w : World} {ok : Fl → Nat → Prop} {loc : Loc} : RVs w ok loc [] [] := ⟨rfl, fun i v x hv => by simp at hv⟩
theorem RVs_app {w : World} {ok : Fl → Nat → Prop} {loc : Loc} {l m : List V} {xs ys : List Value} (h : RVs w ok loc l xs) (k : RVs w ok loc m ys) : RVs w ok loc (l ++ m) (xs ++ ys) := by
  refine ⟨by simp [h.1, k.1], fun i v x hv hx => ?_⟩
  by_cases hi : i < l.length
  · rw [List.getElem?_append_left hi] at hv
    rw [List.getElem?_append_left (by rw [h.1]; exact hi)] at hx
    exact h.2 i v x hv hx
  · rw [List.getElem?_append_right (by omega)] at hv
    rw [List.getElem?_append_right (by rw [h.1]; omega), h.1] at hx
    exact k.2 _ v x hv hx
theorem RVs_cons {w : World} {ok : Fl → Nat → Prop} {loc : Loc} {v : V} {x : Value} {m : List V} {ys : List Value} (h : RV w ok loc v x) (k : RVs w ok loc m ys) : RVs w ok loc (v :: m) (x :: ys) := RVs_app (RVs_one h) k
theorem RVs_head {w : World} {ok : Fl → Nat → Prop} {loc : Loc} {v : V} {x : Value} (h : RVs w ok loc [v] [x]) : RV w ok loc v x := h.2 0 v x rfl rfl
section
variable {H : Type} {enc : TypeId × Value → H} {P : Program} {t e : TypeId}

theorem opn_int {k : IntKind} (hu : P.underlying t = some (.int k)) : Opn enc P t (fun n => [.c (.int k n)]) (gInt k) := by
  intro W base sp held fuel cs x h
  obtain ⟨n, rfl, _, hw⟩ := DataW.trod_int hu h
  exact ⟨n, RVs_one (.c _), hw⟩
theorem opn_string (hu : P.underlying t = some .string) : Opn enc P t (fun n => [.c (.string n)]) gStr := by
  intro W base sp held fuel cs x h
  obtain ⟨n, rfl, _, hw⟩ := DataW.trod_string hu h
  exact ⟨n, RVs_one (.c _), hw⟩

theorem list_of {α : Type} {n : Nat} {p : Nat → α → Prop} (h : ∀ i, i < n → ∃ a, p i a) : ∃ l : List α, l.length = n ∧ ∀ i a, l[i]? = some a → p i a := by
  induction n with
  | zero => exact ⟨[], rfl, fun i a h => by simp at h⟩
  | succ n ih =>
    obtain ⟨l, hl, hp⟩ := ih (fun i hi => h i (by omega))
    obtain ⟨a, ha⟩ := h n (by omega)
    refine ⟨l ++ [a], by simp [hl], fun i b hb => ?_⟩
    by_cases hi : i < n
    · rw [List.getElem?_append_left (by omega)] at hb
      exact hp i b hb
    · have hi2 : i < (l ++ [a]).length := (List.getElem?_eq_some_iff.1 hb).1
      have hi3 : i = n := by simp at hi2; omega
      subst hi3
      rw [List.getElem?_append_right (by omega)] at hb
      simp [hl] at hb
      subst hb
      exact ha
theorem mapM_get {α β : Type} {f : α → Option β} : ∀ {l : List α} {r : List β}, l.mapM f = some r → ∀ (i : Nat) (a : α), l[i]? = some a → f a = r[i]?
  | [], r, h, i, a, ha => by simp at ha
  | x :: l, r, h, i, a, ha => by
    simp only [List.mapM_cons, Option.bind_eq_bind, Option.bind_eq_some_iff, Option.pure_def, Option.some.injEq] at h
    obtain ⟨y, h1, ys, h2, rfl⟩ := h
    cases i with
    | zero => simp at ha; subst ha; simpa using h1
    | succ i => simpa using mapM_get h2 i a (by simpa using ha)
theorem cell_lt {w : World} {a : Addr} {v : Value} (h : w.cell? a = some v) : a.block < w.heap.size ∧ a.spot = none := by
  unfold World.cell? at h
  split at h
  · rename_i c _ _ he
    refine ⟨(Array.getElem?_eq_some_iff.1 he).1, ?_⟩
    cases hs : a.spot with
    | none => rfl
    | some x => rw [hs] at h; simp at h
  · cases h

theorem add_of {a : Addr} (hs : a.spot = none) (n : Nat) : a.add n = ⟨a.block, a.off + n, none⟩ := by
  obtain ⟨b, o, s⟩ := a
  simp at hs; subst hs
  unfold Addr.add
  split
  · rename_i h; subst h; rfl
  · rfl

theorem opn_slice {α : Type} {m : α → List V} {g : α → Prop} {sz : Nat} (hu : P.underlying t = some (.slice e)) (he : Opn enc P e m g) (hs : P.cellsOf e = sz) (h0 : 0 < sz) (hm : ∀ a, (m a).length = sz) :
    Opn enc P t (fun l => [.im .b (l.map m)]) (gList g) := by
  intro W base sp held fuel cs x h
  rcases DataW.trod_slice hu h with ⟨rfl, _⟩ | ⟨a, len, cap, elems, rest, fl, _, rfl, _, _, hl, hc, hel, hi, _, _⟩
  · exact ⟨[], RVs_one (.e _ _ _ (fun h => by cases h)), by simp, by simp⟩
  · have key : ∀ i, i < len → ∃ b : α, (∃ c, RVa W (m b) c ∧ ∀ j u, c[j]? = some u → W.cell? ((a.add (i * sz)).add j) = some u) ∧ g b := by
      intro i hlt
      have h1 := hi i hlt
      rw [List.getElem?_eq_getElem (by omega)] at h1
      obtain ⟨c, hc, htr⟩ := Option.bind_eq_some_iff.1 h1
      obtain ⟨b, hb, hg⟩ := he htr
      rw [hs] at hc
      unfold World.cells? at hc
      split at hc
      · refine ⟨b, ⟨c, hb, fun j u hu => ?_⟩, hg⟩
        have hj : j < sz := by have := (List.getElem?_eq_some_iff.1 hu).1; rw [hb.1, hm] at this; exact this
        have h2 := mapM_get hc j j (by simp [hj])
        rw [hu] at h2
        exact h2
      · cases hc
    obtain ⟨l, hll, hp⟩ := list_of key
    refine ⟨l, RVs_one ?_, by rw [hll]; omega, fun b hb => ?_⟩
    · cases l with
      | nil => simp at hll; subst hll; exact .e _ _ _ (fun h => by cases h)
      | cons b0 l0 =>
        have hl0 : 0 < len := by rw [← hll]; simp
        obtain ⟨⟨c0, hb0, hc0⟩, _⟩ := hp 0 b0 rfl
        have hlen0 : c0.length = sz := by rw [hb0.1, hm]
        have hx := hc0 0 _ (List.getElem?_eq_getElem (by omega))
        simp only [Nat.zero_mul] at hx
        have ha0 : (a.add 0).add 0 = a := rfl
        rw [ha0] at hx
        obtain ⟨hblk, hspot⟩ := cell_lt hx
        have hadd : ∀ i j, (a.add (i * sz)).add j = ⟨a.block, a.off + i * sz + j, none⟩ := fun i j => by
          rw [add_of hspot, add_of rfl]
        have hcell : ∀ i j v, el ((b0 :: l0).map m) i j = some v → ∃ u, W.cell? ⟨a.block, a.off + i * sz + j, none⟩ = some u ∧ RV W (okA W) (fun _ => none) v u := by
          intro i j v hv
          unfold el at hv
          rw [List.getElem?_map] at hv
          cases hb : (b0 :: l0)[i]? with
          | none => rw [hb] at hv; simp at hv
          | some b =>
            rw [hb] at hv
            simp at hv
            obtain ⟨⟨c, hr, hcc⟩, _⟩ := hp i b hb
            have hj : j < c.length := by rw [hr.1]; exact (List.getElem?_eq_some_iff.1 hv).1
            refine ⟨c[j], by rw [← hadd]; exact hcc j _ (List.getElem?_eq_getElem hj), hr.2 j v _ hv (List.getElem?_eq_getElem hj)⟩
        have hae : a = ⟨a.block, a.off, none⟩ := by obtain ⟨_, _, s⟩ := a; simp at hspot; subst hspot; rfl
        rw [hae]
        refine RV.im _ _ sz _ _ _ _ (fun i j => (W.cell? ⟨a.block, a.off + i * sz + j, none⟩).getD (.bool false)) (by rw [← hll]; simp) ?_ hl ⟨rfl, hblk, .inr (.inl ⟨rfl, trivial⟩)⟩ ?_ ?_
        · intro ch hch
          obtain ⟨b, _, rfl⟩ := List.mem_map.1 hch
          exact hm b
        · intro i j v hv
          obtain ⟨u, hu, _⟩ := hcell i j v hv
          simp only [hu, Option.getD_some]
        · intro i j v hv
          obtain ⟨u, hu, hr⟩ := hcell i j v hv
          simp only [hu, Option.getD_some]
          exact hr
    · obtain ⟨i, hi, rfl⟩ := List.getElem_of_mem hb
      exact (hp i _ (List.getElem?_eq_getElem hi)).2

/-- One field of a struct. -/
theorem opn_field {α : Type} {m : α → List V} {g : α → Prop} {fs : Array Field} {n sz : Nat} {W : World} {base : Nat} {sp : Nat → Bool} {held : Bool} {cs : List Value} {xs : List (DataW H × List MemPlace)} (hx : xs.length = fs.size)
    (hf : ∀ (i : Nat) (f : Field), fs[i]? = some f → DataW.trod enc P W base sp held n f.type ((cs.drop f.offset).take (P.cellsOf f.type)) = xs[i]?)
    (i : Nat) (f : Field) (hi : fs[i]? = some f) (ho : Opn enc P f.type m g) (hs : P.cellsOf f.type = sz) : ∃ a, RVa W (m a) ((cs.drop f.offset).take sz) ∧ g a := by
  have h := hf i f hi
  have hlt : i < xs.length := by
    rw [hx]
    rcases Nat.lt_or_ge i fs.size with h | h
    · exact h
    · rw [Array.getElem?_eq_none h] at hi
      cases hi
  rw [List.getElem?_eq_getElem hlt, hs] at h
  exact ho h
/-- Fields side by side. -/
theorem rv_fields {W : World} {l m : List V} {cs : List Value} {o n : Nat} (h : RVa W l ((cs.drop o).take n)) (k : RVa W m (cs.drop (o + n))) : RVa W (l ++ m) (cs.drop o) := by
  have := RVs_app h k
  rw [← List.drop_drop, List.take_append_drop] at this
  exact this
theorem rv_last {W : World} {l : List V} {cs : List Value} {o n : Nat} (h : RVa W l ((cs.drop o).take n)) (hl : cs.length = o + n) : RVa W l (cs.drop o) := by
  rw [List.take_of_length_le (by simp [hl])] at h
  exact h

/-- An argument that is one cell; one that is a struct. -/
theorem arg_one {α : Type} {m : α → V} {g : α → Prop} (ho : Opn enc P t (fun a => [m a]) g) {W : World} {sp : Nat → Bool} {held : Bool} {v : Value} {d : DataW H} {p : List MemPlace} {base : Nat} (hv : v.cells = #[v])
    (h : DataW.Trod enc P W base sp held t v d p) : ∃ a, RV W (okA W) (fun _ => none) (m a) v ∧ g a := by
  obtain ⟨fuel, hf⟩ := h
  rw [hv] at hf
  obtain ⟨a, h1, h2⟩ := ho hf
  exact ⟨a, RVs_head h1, h2⟩
end
/-- A law that answers true. -/
theorem res_true {B : Nat → Prop} {w : World} {n : Nat} {x : Value} (h : ResV B w n (vb true) x) : x = .bool true := by
  obtain ⟨_, _, h, _⟩ := h
  obtain ⟨_, h⟩ := h 0 (vb true) x rfl rfl
  cases h; rfl
end Go.Proofs.Ytbojpedklnmidaa.D
end
section
set_option linter.unusedVariables false
set_option linter.unusedSimpArgs false
set_option linter.constructorNameAsVariable false
/- Walking over plain values: joins, and functions that share the store. No condition. -/
namespace Go.Proofs.Ytbojpedklnmidaa.D
open Go Go.RowKit

section
variable {P : Program}
theorem gd_mono {g : Option (Nat × Bool)} {env : Env} {A B A' B' : Prop} (hA : A → A') (hB : B → B') (h : gd g env A B) : gd g env A' B' := by
  unfold gd at *
  split
  · exact hA h
  · obtain ⟨b, h1, h2, h3⟩ := h
    exact ⟨b, h1, fun e => hA (h2 e), fun e => hB (h3 e)⟩
theorem FnS_mono {f : FuncId} {args : List V} {ob : OB} {nid : Nat} {C C' : V → OB → Nat → Prop} (hC : ∀ r ob' n, C r ob' n → C' r ob' n) (h : FnS P f args ob nid C) : FnS P f args ob nid C' :=
  ⟨h.1, fun B n0 w own loc xs h1 h2 h3 h4 => (h.2 B n0 w own loc xs h1 h2 h3 h4).mono fun e w' ⟨x, r, ob', nid', own', loc', a1, a2, a3, a4, a5, a6⟩ => ⟨x, r, ob', nid', own', loc', a1, a2, a3, a4, a5, hC _ _ _ a6⟩⟩
theorem FnX_mono {f : FuncId} {args : List V} {ob : OB} {nid : Nat} {C C' : V → OB → Nat → Prop} (hC : ∀ r ob' n, C r ob' n → C' r ob' n) (h : FnX P f args ob nid C) : FnX P f args ob nid C' :=
  fun B n0 w own loc xs h1 h2 h3 h4 => let ⟨x, w', r, ob', nid', own', loc', a1, a2, a3, a4, a5, a6⟩ := h B n0 w own loc xs h1 h2 h3 h4; ⟨x, w', r, ob', nid', own', loc', a1, a2, a3, a4, a5, hC _ _ _ a6⟩
theorem stpR_mono {op : Ok} {vs : List V} {ob : OB} {nid : Nat} {C C' : V → OB → Nat → Prop} (hC : ∀ r ob' n, C r ob' n → C' r ob' n) (h : stpR P op vs ob nid C) : stpR P op vs ob nid C' := by
  cases op <;> first
    | exact h.imp (FnS_mono hC) (FnX_mono hC)
    | (obtain ⟨it, id, seen, rows, c, c', a, b, d, e, f⟩ := h; exact ⟨it, id, seen, rows, c, c', a, b, d, fun hh => hC _ _ _ (e hh), fun i kv vv h1 h2 h3 => hC _ _ _ (f i kv vv h1 h2 h3)⟩)
    | (obtain ⟨r, us, h1, h2⟩ := h; exact ⟨r, us, h1, hC _ _ _ h2⟩)
theorem wpS_mono : ∀ {l : List RO} {nid : Nat} {env : Env} {ob : OB} {J J' : Env → OB → Nat → Prop} (hJ : ∀ env ob n, J env ob n → J' env ob n), wpS P l nid env ob J → wpS P l nid env ob J'
  | [], nid, env, ob, J, J', hJ, h => hJ _ _ _ h
  | o :: l, nid, env, ob, J, J', hJ, h => by
    simp only [wpS] at h ⊢
    exact gd_mono (stpR_mono fun r ob' n h => wpS_mono hJ h) (wpS_mono hJ) h
theorem wpD_mono : ∀ {l : List RO} {nid : Nat} {env : Env} {ob : OB} {dl : Ups} {K K' : Env → OB → Prop} (hK : ∀ env ob, K env ob → K' env ob), wpD P l nid env ob dl K → wpD P l nid env ob dl K'
  | [], nid, env, ob, dl, K, K', hK, h => hK _ _ h
  | o :: l, nid, env, ob, dl, K, K', hK, h => by
    simp only [wpD] at h ⊢
    exact gd_mono (fun ⟨r, us, h1, h2⟩ => ⟨r, us, h1, wpD_mono hK h2⟩) (wpD_mono hK) h
theorem wpE_mono : ∀ {l : List RO} {nps : List (List Nat)} {nid : Nat} {env : Env} {ob : OB} {past : List (List Nat × Option (List Nat))} {K K' : Env → OB → Prop} (hK : ∀ env ob, K env ob → K' env ob), wpE P l nps nid env ob past K → wpE P l nps nid env ob past K'
  | [], nps, nid, env, ob, past, K, K', hK, h => hK _ _ h
  | o :: l, nps, nid, env, ob, past, K, K', hK, h => by
    simp only [wpE] at h ⊢
    exact gd_mono (fun ⟨r, us, h1, h2, h3⟩ => ⟨r, us, h1, h2, wpE_mono hK h3⟩) (wpE_mono hK) h
theorem wpC_mono : ∀ {c : IC} {Q Q' : Post} (hQ : ∀ e env ob n, Q e env ob n → Q' e env ob n) {env : Env} {ob : OB} {n : Nat}, wpC P c Q env ob n → wpC P c Q' env ob n := by
  intro c
  induction c with
  | skip => intro Q Q' hQ env ob n h; exact hQ _ _ _ _ h
  | rg l d =>
    intro Q Q' hQ env ob n h
    cases d with
    | false => exact wpS_mono (fun env ob n h => hQ _ _ _ _ h) h
    | true => exact wpD_mono (fun env ob h => hQ _ _ _ _ h) h
  | rb a o b =>
    intro Q Q' hQ env ob n h
    exact wpD_mono (fun env ob h => wpS_mono (fun env ob n h => wpD_mono (fun env ob h => hQ _ _ _ _ h) h) h) h
  | re m np =>
    intro Q Q' hQ env ob n h
    exact wpE_mono (fun env ob h => hQ _ _ _ _ h) h
  | sq a b iha ihb =>
    intro Q Q' hQ env ob n h
    refine iha (fun e env ob n h => ?_) h
    cases e with
    | nrm => exact ihb hQ h
    | ex i => exact hQ _ _ _ _ h
    | rt => exact hQ _ _ _ _ h
  | cn c a b iha ihb =>
    intro Q Q' hQ env ob n h
    simp only [wpC, cnd] at h ⊢
    split
    · rename_i t heq; rw [heq] at h; exact ⟨fun e => iha hQ (h.1 e), fun e => ihb hQ (h.2 e)⟩
    · rename_i heq; rw [heq] at h; exact ⟨iha hQ h.1, ihb hQ h.2⟩
    · rename_i h1 h2
      split at h
      · rename_i t heq; exact h1 t heq
      · rename_i heq; exact h2 heq
      · exact h
  | bl i a ih =>
    intro Q Q' hQ env ob n h
    refine ih (fun e env ob n h => ?_) h
    cases e with
    | ex j => simp only [blQ] at h ⊢; split <;> rename_i hj <;> simp only [hj, if_true, if_false] at h <;> exact hQ _ _ _ _ h
    | nrm => exact hQ _ _ _ _ h
    | rt => exact hQ _ _ _ _ h
  | lp a ih =>
    intro Q Q' hQ env ob n h
    obtain ⟨I, μ, h0, h1⟩ := h
    refine ⟨I, μ, h0, fun env ob n hI => ih (fun e env ob n h => ?_) (h1 env ob n hI)⟩
    cases e with
    | nrm => exact h
    | ex j => exact hQ _ _ _ _ h
    | rt => exact hQ _ _ _ _ h
  | ex i => intro Q Q' hQ env ob n h; exact hQ _ _ _ _ h
  | rt => intro Q Q' hQ env ob n h; exact hQ _ _ _ _ h

theorem cut_C {A B : IC} {Q : Post} {env : Env} {ob : OB} {n : Nat} (I : Env → OB → Nat → Prop) (h1 : wpC P A (thenQ I Q) env ob n) (h2 : ∀ env ob n, I env ob n → wpC P B Q env ob n) : wpC P A (thenQ (wpC P B Q) Q) env ob n := by
  refine wpC_mono (fun e env ob n h => ?_) h1
  cases e with
  | nrm => exact h2 _ _ _ h
  | ex i => exact h
  | rt => exact h
theorem rcS_i {f : Nat} {vs : List V} {d : Option Nat} {l : List RO} {n : Nat} {env : Env} {ob : OB} {J : Env → OB → Nat → Prop} (h : FnS P f vs ob n fun r ob' n' => wpS P l n' (put env d r) ob' J) : rcS P f vs d l n env ob J := .inl h
theorem nxt_i {it id : Nat} {seen : List Nat} {rows : List (List V)} {cap cap' : Option Nat} {d : Option Nat} {l : List RO} {n : Nat} {env : Env} {ob : OB} {J : Env → OB → Nat → Prop} (hI : ob it = some ⟨0, itRows id rows.length seen, cap⟩) (hM : ob id = some ⟨0, rows, cap'⟩)
    (h1 : (∀ i, i < rows.length → i ∈ seen) → wpS P l n (put env d (.tp [.c (.bool false)])) ob J)
    (h2 : ∀ i kv vv, i < rows.length → i ∉ seen → rows[i]? = some [kv, vv] → wpS P l n (put env d (.tp [.c (.bool true), kv, vv])) (updO ob it (some ⟨0, itRows id rows.length (seen ++ [i]), none⟩)) J) : nxtS P [.mi it] d l n env ob J :=
  ⟨it, id, seen, rows, cap, cap', rfl, hI, hM, h1, fun i kv vv a b c => h2 i kv vv a b c⟩
theorem ent_i {it id i : Nat} {seen : List Nat} {rows : List (List V)} {cap cap' : Option Nat} {kv vv : V} {ob : OB} {nid : Nat} (hI : ob it = some ⟨0, itRows id rows.length (seen ++ [i]), cap⟩) (hM : ob id = some ⟨0, rows, cap'⟩) (h : rows[i]? = some [kv, vv]) :
    opF .ent [.mi it] ob nid = some (.tp [kv, vv], []) := by
  simp [opF, hI, entV, hM, h]
end

section
variable {P : Program}
/-- What is behind the elements that are known: cells of whatever content. -/
theorem WF.grow [Bk] {n0 : Nat} {w : World} {own : Nat → Option Nat} {loc : Loc} {ob : OB} (hwf : WF n0 w own loc ob) {id : Nat} {o : Ob} (hob : ob id = some o) (hk0 : 0 < o.k) :
    ∃ c, o.l.length ≤ c ∧ (∀ c0, o.cap = some c0 → c0 = c) ∧ WF n0 w own loc (updO ob id (some ⟨o.k, o.l ++ List.replicate (c - o.l.length) (List.replicate o.k .u), some c⟩)) := by
  obtain ⟨p, hp, hxr⟩ := hwf.has id o hob
  obtain ⟨hmp, hor⟩ := hxr.cells (by omega)
  refine ⟨p.cap, hor.len, hor.cap, ⟨fun j x hx => ?_, hwf.owns, hwf.lt⟩⟩
  by_cases hj : j = id
  · subst hj
    rw [updO_s] at hx
    injection hx with hx; subst hx
    obtain ⟨cs, t, hm1, hm2⟩ := hor.mem
    refine ⟨p, hp, .of hmp ⟨⟨cs, t, hm1, hm2⟩, hor.k, by simp; have := hor.len; omega, fun ch hch => ?_, fun i q v hv => ?_, fun c hc => by injection hc with hc; exact hc.symm⟩⟩
    · rcases List.mem_append.1 hch with h | h
      · exact hor.rows ch h
      · rw [List.eq_of_mem_replicate h]; simpa using hor.k
    · obtain ⟨r, h1, h2⟩ := el_some hv
      by_cases hi : i < o.l.length
      · rw [List.getElem?_append_left hi] at h1
        exact hor.cells i q v (el_mk h1 h2)
      · rw [List.getElem?_append_right (by omega)] at h1
        have hi2 : i - o.l.length < p.cap - o.l.length := by have := (List.getElem?_eq_some_iff.1 h1).1; simpa using this
        rw [List.getElem?_replicate, if_pos hi2] at h1
        injection h1 with h1; subst h1
        have hq : q < o.k := by have := (List.getElem?_eq_some_iff.1 h2).1; simpa using this
        rw [List.getElem?_replicate, if_pos hq] at h2
        injection h2 with h2; subst h2
        have hlt : p.base + i * p.k + q < cs.size := by
          have h3 : (i + 1) * p.k ≤ p.cap * p.k := Nat.mul_le_mul_right _ (by omega)
          rw [Nat.add_mul] at h3
          have := hor.k; omega
        exact ⟨cs[p.base + i * p.k + q], by simp [World.cell?, hm1, hlt], .u _⟩
  · rw [updO, if_neg hj] at hx
    exact hwf.has j x hx
/-- Less is known. -/
def Less (ob'' ob' : OB) : Prop := ∀ id o, ob'' id = some o → ∃ o', ob' id = some o' ∧ o.k = o'.k ∧ (∃ m, o.l = o'.l.take m) ∧ (∀ c, o.cap = some c → o'.cap = some c) ∧ (o.k = 0 → o = o')
end

end Go.Proofs.Ytbojpedklnmidaa.D
end
