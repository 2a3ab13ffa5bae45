/- AuditKeys, packed. No condition beyond the statement's own. -/
import Derived.Test.YtbojpedklnmidaaMAuditKeysb
import Derived.ProofKit
import Derived.ChangeArms
import Derived.ChangeSlices
import Derived.Test.YtbojpedklnmidaaProg
section
set_option linter.unusedVariables false
set_option linter.unusedSimpArgs false
set_option linter.constructorNameAsVariable false
/- Walking over plain values, step by step. No condition. -/
namespace Go.Proofs.Ytbojpedklnmidaa.D
open Go Go.RowKit

/-- Behind an operation, in a region of one order, of any order. -/
def nxS (P : Program) (d : Option Nat) (l : List RO) (nid : Nat) (env : Env) (ob : OB) (J : Env → OB → Nat → Prop) (x : Option (V × Ups)) : Prop :=
  match x with
  | some (r, us) => wpS P l (nid + 1) (put env d r) (apps ob us) J
  | none => False
def nxD (P : Program) (loud : Bool) (d : Option Nat) (l : List RO) (nid : Nat) (env : Env) (ob : OB) (dl : Ups) (K : Env → OB → Prop) (x : Option (V × Ups)) : Prop :=
  match x with
  | some (r, us) => wpD P l (nid + 1) (put env d r) (cond loud (apps ob us) ob) (cond loud dl (dl ++ us)) K
  | none => False

def exS (P : Program) (o : RO) (l : List RO) (nid : Nat) (env : Env) (ob : OB) (J : Env → OB → Nat → Prop) : Prop :=
  stpR P o.op (o.xs.map (ev env)) ob nid fun r ob' n' => wpS P l n' (put env o.d r) ob' J
def exD (P : Program) (o : RO) (l : List RO) (nid : Nat) (env : Env) (ob : OB) (dl : Ups) (K : Env → OB → Prop) : Prop :=
  ∃ r us, OpR P o.op (o.xs.map (ev env)) ob nid r us ∧ wpD P l (nid + 1) (put env o.d r) (if isLoud o.op then apps ob us else ob) (if isLoud o.op then dl else dl ++ us) K

/-- A guard. -/
def gS (v : V) (want : Bool) (P : Program) (o : RO) (l : List RO) (nid : Nat) (env : Env) (ob : OB) (J : Env → OB → Nat → Prop) : Prop :=
  ∃ b, v = sk b ∧ (b = some want → exS P o l nid env ob J) ∧ (¬ b = some want → wpS P l (nid + 1) (put env o.d (.c undef)) ob J)
def gD (v : V) (want : Bool) (P : Program) (o : RO) (l : List RO) (nid : Nat) (env : Env) (ob : OB) (dl : Ups) (K : Env → OB → Prop) : Prop :=
  ∃ b, v = sk b ∧ (b = some want → exD P o l nid env ob dl K) ∧ (¬ b = some want → wpD P l (nid + 1) (put env o.d (.c undef)) ob dl K)
theorem sk_b {b : Bool} {w : Bool} {A B : Prop} : (∃ b', V.c (.bool b) = sk b' ∧ (b' = some w → A) ∧ (¬ b' = some w → B)) = ((b = w → A) ∧ (¬ b = w → B)) := by
  apply propext; constructor
  · rintro ⟨b', h1, h2, h3⟩
    cases b' with
    | none => simp [sk, undef] at h1
    | some b' => simp [sk] at h1; subst h1; exact ⟨fun e => h2 (by rw [e]), fun e => h3 (by simpa using e)⟩
  · rintro ⟨h2, h3⟩; exact ⟨some b, rfl, fun e => h2 (by simpa using e), fun e => h3 (by simpa using e)⟩
theorem sk_u {w : Bool} {A B : Prop} : (∃ b', V.c undef = sk b' ∧ (b' = some w → A) ∧ (¬ b' = some w → B)) = B := by
  apply propext; constructor
  · rintro ⟨b', h1, h2, h3⟩
    cases b' with
    | none => exact h3 (by simp)
    | some b' => simp [sk, undef] at h1
  · intro h; exact ⟨none, rfl, fun e => (by cases e), fun _ => h⟩

/-- A call: what is to be told is what it answers. -/
def caS (P : Program) (f : Nat) (vs : List V) (m : Md) (d : Option Nat) (l : List RO) (nid : Nat) (env : Env) (ob : OB) (J : Env → OB → Nat → Prop) : Prop :=
  ∃ q, FnB P f vs q ∧ impOk m q ∧ nxS P d l nid env ob J (some (imp m nid q))
def caD (P : Program) (f : Nat) (vs : List V) (m : Md) (d : Option Nat) (l : List RO) (nid : Nat) (env : Env) (ob : OB) (dl : Ups) (K : Env → OB → Prop) : Prop :=
  ∃ q, FnB P f vs q ∧ impOk m q ∧ nxD P false d l nid env ob dl K (some (imp m nid q))
def cvS (P : Program) (v : V) (as_ : List V) (m : Md) (d : Option Nat) (l : List RO) (nid : Nat) (env : Env) (ob : OB) (J : Env → OB → Nat → Prop) : Prop :=
  match v with
  | .fn f caps => caS P f ((as_ ++ caps).map (resV ob 6)) m d l nid env ob J
  | _ => False
def cvD (P : Program) (v : V) (as_ : List V) (m : Md) (d : Option Nat) (l : List RO) (nid : Nat) (env : Env) (ob : OB) (dl : Ups) (K : Env → OB → Prop) : Prop :=
  match v with
  | .fn f caps => caD P f ((as_ ++ caps).map (resV ob 6)) m d l nid env ob dl K
  | _ => False

/-- A call that shares the store. -/
def nxtS (P : Program) (vs : List V) (d : Option Nat) (l : List RO) (nid : Nat) (env : Env) (ob : OB) (J : Env → OB → Nat → Prop) : Prop :=
  NxS vs ob nid fun r ob' n' => wpS P l n' (put env d r) ob' J
def rcS (P : Program) (f : Nat) (vs : List V) (d : Option Nat) (l : List RO) (nid : Nat) (env : Env) (ob : OB) (J : Env → OB → Nat → Prop) : Prop :=
  (FnS P f vs ob nid fun r ob' n' => wpS P l n' (put env d r) ob' J) ∨ FnX P f vs ob nid fun r ob' n' => wpS P l n' (put env d r) ob' J
def gR (P : Program) (w b : Bool) (f : Nat) (vs : List V) (d : Option Nat) (l : List RO) (nid : Nat) (env : Env) (ob : OB) (J : Env → OB → Nat → Prop) : Prop :=
  (b = w → rcS P f vs d l nid env ob J) ∧ (b = !w → wpS P l (nid + 1) (put env d (.c undef)) ob J)

/-- Behind a guard that is not known: the operation's answer, or nothing. -/
def gM (P : Program) (w b : Bool) (d : Option Nat) (l : List RO) (nid : Nat) (env : Env) (ob : OB) (J : Env → OB → Nat → Prop) (x : Option (V × Ups)) : Prop :=
  (b = w → nxS P d l nid env ob J x) ∧ (b = !w → wpS P l (nid + 1) (put env d (.c undef)) ob J)
def gN_ (P : Program) (w b loud : Bool) (d : Option Nat) (l : List RO) (nid : Nat) (env : Env) (ob : OB) (dl : Ups) (K : Env → OB → Prop) (x : Option (V × Ups)) : Prop :=
  (b = w → nxD P loud d l nid env ob dl K x) ∧ (b = !w → wpD P l (nid + 1) (put env d (.c undef)) ob dl K)
def gC (P : Program) (w b : Bool) (f : Nat) (vs : List V) (m : Md) (d : Option Nat) (l : List RO) (nid : Nat) (env : Env) (ob : OB) (J : Env → OB → Nat → Prop) : Prop :=
  (b = w → caS P f vs m d l nid env ob J) ∧ (b = !w → wpS P l (nid + 1) (put env d (.c undef)) ob J)
def gCD (P : Program) (w b : Bool) (f : Nat) (vs : List V) (m : Md) (d : Option Nat) (l : List RO) (nid : Nat) (env : Env) (ob : OB) (dl : Ups) (K : Env → OB → Prop) : Prop :=
  (b = w → caD P f vs m d l nid env ob dl K) ∧ (b = !w → wpD P l (nid + 1) (put env d (.c undef)) ob dl K)
def gW (P : Program) (w b : Bool) (v : V) (as_ : List V) (m : Md) (d : Option Nat) (l : List RO) (nid : Nat) (env : Env) (ob : OB) (J : Env → OB → Nat → Prop) : Prop :=
  (b = w → cvS P v as_ m d l nid env ob J) ∧ (b = !w → wpS P l (nid + 1) (put env d (.c undef)) ob J)
def gWD (P : Program) (w b : Bool) (v : V) (as_ : List V) (m : Md) (d : Option Nat) (l : List RO) (nid : Nat) (env : Env) (ob : OB) (dl : Ups) (K : Env → OB → Prop) : Prop :=
  (b = w → cvD P v as_ m d l nid env ob dl K) ∧ (b = !w → wpD P l (nid + 1) (put env d (.c undef)) ob dl K)

section
variable {P : Program} {Q : Post} {env : Env} {ob : OB} {n nid : Nat} {K : Env → OB → Prop} {J : Env → OB → Nat → Prop} {l : List RO} {dl : Ups} {d : Option Nat} {op : Ok} {xs : List Od} {m : Md}

theorem wpS_congr {l : List RO} : wpS P l nid env ob J = wpS P l nid env ob J := (rfl)
theorem wpD_congr {l : List RO} : wpD P l nid env ob dl K = wpD P l nid env ob dl K := (rfl)
theorem wpC_congr {c : IC} : wpC P c Q env ob nid = wpC P c Q env ob nid := (rfl)
theorem exS_congr {o : RO} : exS P o l nid env ob J = exS P o l nid env ob J := (rfl)
theorem exD_congr {o : RO} : exD P o l nid env ob dl K = exD P o l nid env ob dl K := (rfl)
theorem gS_congr {o : RO} {w : Bool} {v v' : V} (h : v = v') : gS v w P o l nid env ob J = gS v' w P o l nid env ob J := by rw [h]
theorem gD_congr {o : RO} {w : Bool} {v v' : V} (h : v = v') : gD v w P o l nid env ob dl K = gD v' w P o l nid env ob dl K := by rw [h]
theorem nxS_congr {x x' : Option (V × Ups)} (h : x = x') : nxS P d l nid env ob J x = nxS P d l nid env ob J x' := by rw [h]
theorem nxD_congr {b b' : Bool} {x x' : Option (V × Ups)} (hb : b = b') (h : x = x') : nxD P b d l nid env ob dl K x = nxD P b' d l nid env ob dl K x' := by rw [h, hb]
theorem caS_congr {f : Nat} {vs vs' : List V} (h : vs = vs') : caS P f vs m d l nid env ob J = caS P f vs' m d l nid env ob J := by rw [h]
theorem caD_congr {f : Nat} {vs vs' : List V} (h : vs = vs') : caD P f vs m d l nid env ob dl K = caD P f vs' m d l nid env ob dl K := by rw [h]
theorem cvS_congr {v v' : V} {as_ as' : List V} (h : v = v') (ha : as_ = as') : cvS P v as_ m d l nid env ob J = cvS P v' as' m d l nid env ob J := by rw [h, ha]
theorem cvD_congr {v v' : V} {as_ as' : List V} (h : v = v') (ha : as_ = as') : cvD P v as_ m d l nid env ob dl K = cvD P v' as' m d l nid env ob dl K := by rw [h, ha]
theorem kS_congr : kS Q env ob n = kS Q env ob n := (rfl)
theorem rcS_congr {f : Nat} {vs vs' : List V} (h : vs = vs') : rcS P f vs d l nid env ob J = rcS P f vs' d l nid env ob J := by rw [h]
theorem gR_congr {w b : Bool} {f : Nat} {vs vs' : List V} (h : b = w → vs = vs') : gR P w b f vs d l nid env ob J = gR P w b f vs' d l nid env ob J := by cases w <;> cases b <;> simp [gR] at h ⊢ <;> rw [h]
theorem kN_congr {k : Nat} : kN Q k env ob = kN Q k env ob := (rfl)
/-- Behind an operation of a region that is told in its list's order. -/
def nxE (P : Program) (d : Option Nat) (l : List RO) (nps : List (List Nat)) (nid : Nat) (env : Env) (ob : OB) (past : List (List Nat × Option (List Nat))) (np : List Nat) (lk : Option (List Nat)) (K : Env → OB → Prop) (x : Option (V × Ups)) : Prop :=
  match x with
  | some (r, us) => sepL past np (tch us, lk) ∧ wpE P l nps (nid + 1) (put env d r) (apps ob us) (past ++ [(tch us, lk)]) K
  | none => False
def sepAt (a : Option (List Nat × Option (List Nat))) (q : List Nat × Option (List Nat)) : Prop := match a with
  | some a => sepE a q
  | none => False
theorem wpE_congr {nps : List (List Nat)} {past : List (List Nat × Option (List Nat))} : wpE P l nps nid env ob past K = wpE P l nps nid env ob past K := (rfl)
theorem nxE_congr {nps : List (List Nat)} {past : List (List Nat × Option (List Nat))} {np : List Nat} {lk : Option (List Nat)} {x x' : Option (V × Ups)} (h : x = x') : nxE P d l nps nid env ob past np lk K x = nxE P d l nps nid env ob past np lk K x' := by rw [h]
/-- A call in such a region. -/
def caE (P : Program) (f : Nat) (vs : List V) (m : Md) (d : Option Nat) (l : List RO) (nps : List (List Nat)) (nid : Nat) (env : Env) (ob : OB) (past : List (List Nat × Option (List Nat))) (np : List Nat) (lk : Option (List Nat)) (K : Env → OB → Prop) : Prop :=
  ∃ q, FnB P f vs q ∧ impOk m q ∧ nxE P d l nps nid env ob past np lk K (some (imp m nid q))
theorem caE_congr {f : Nat} {vs vs' : List V} {nps : List (List Nat)} {past : List (List Nat × Option (List Nat))} {np : List Nat} {lk lk' : Option (List Nat)} (h : vs = vs') (hk : lk = lk') : caE P f vs m d l nps nid env ob past np lk K = caE P f vs' m d l nps nid env ob past np lk' K := by rw [h, hk]
attribute [congr] wpE_congr nxE_congr caE_congr
theorem wpE_c {f : Nat} {nps : List (List Nat)} {past : List (List Nat × Option (List Nat))} : wpE P (⟨d, none, .call f m, xs⟩ :: l) nps nid env ob past K = caE P f ((xs.map (ev env)).map (resV ob 6)) m d l nps.tail nid env ob past (nps.headD []) (lkI (.call f m) (xs.map (ev env))) K := by
  simp only [wpE, gd, OpR, caE, nxE]
  apply propext
  constructor
  · rintro ⟨r, us, ⟨q, h1, h2, rfl, rfl⟩, h3, h4⟩; exact ⟨q, h1, h2, h3, h4⟩
  · rintro ⟨q, h1, h2, h3, h4⟩; exact ⟨_, _, ⟨q, h1, h2, rfl, rfl⟩, h3, h4⟩
theorem caE_i {f : Nat} {vs : List V} {q : V} {nps : List (List Nat)} {past : List (List Nat × Option (List Nat))} {np : List Nat} {lk : Option (List Nat)} (h : FnB P f vs q) (hm : impOk m q) (hn : nxE P d l nps nid env ob past np lk K (some (imp m nid q))) : caE P f vs m d l nps nid env ob past np lk K := ⟨q, h, hm, hn⟩
def lkF (vs : List V) : Option (List Nat) := if vs.all flatV then some [] else none
theorem lkI_call {f : Nat} {vs : List V} : lkI (.call f m) vs = lkF vs := by simp [lkI, lkF, noRead, lkB, isCl]
theorem lkF_n : lkF [] = some [] := (rfl)
theorem lkF_c {v : V} {l : List V} (h : flatV v = true) : lkF (v :: l) = lkF l := by simp [lkF, h]
theorem flat_c {v : Value} : flatV (.c v) = true := (rfl)
theorem flat_q : flatV .q = true := (rfl)
theorem flat_z : flatV .z = true := (rfl)
theorem flat_an : flatV (.ag []) = true := (rfl)
theorem flat_ag {v : V} {l : List V} (h : isC v = true) : flatV (.ag (v :: l)) = flatV (.ag l) := by simp [flatV, h]
theorem isC_c {v : Value} : isC (.c v) = true := (rfl)
theorem wpC_re {np : List (List Nat)} : wpC P (.re l np) Q env ob n = wpE P l np n env ob [] (kN Q (n + l.length)) := (rfl)
theorem wpE_nil {nps : List (List Nat)} {past : List (List Nat × Option (List Nat))} : wpE P [] nps nid env ob past K = K env ob := (rfl)
theorem wpE_o {nps : List (List Nat)} {past : List (List Nat × Option (List Nat))} (h : isCall op = false) : wpE P (⟨d, none, op, xs⟩ :: l) nps nid env ob past K = nxE P d l nps.tail nid env ob past (nps.headD []) (lkI op (xs.map (ev env))) K (opF op (xs.map (ev env)) ob nid) := by
  have hR : ∀ vs r us, OpR P op vs ob nid r us = (opF op vs ob nid = some (r, us)) := fun vs r us => by cases op <;> first | rfl | (simp [isCall] at h)
  simp only [wpE, gd, hR, nxE]
  cases hx : opF op (xs.map (ev env)) ob nid with
  | none => simp
  | some q =>
    obtain ⟨r, us⟩ := q
    apply propext
    constructor
    · rintro ⟨r', us', h1, h2, h3⟩
      injection h1 with h1; injection h1 with h1 h4; subst h1; subst h4
      exact ⟨h2, h3⟩
    · rintro ⟨h2, h3⟩; exact ⟨r, us, rfl, h2, h3⟩
theorem nxE_s {nps : List (List Nat)} {past : List (List Nat × Option (List Nat))} {np : List Nat} {lk : Option (List Nat)} {r : V} {us : Ups} : nxE P d l nps nid env ob past np lk K (some (r, us)) = (sepL past np (tch us, lk) ∧ wpE P l nps (nid + 1) (put env d r) (apps ob us) (past ++ [(tch us, lk)]) K) := (rfl)
theorem nxE_i {nps : List (List Nat)} {past : List (List Nat × Option (List Nat))} {np : List Nat} {lk : Option (List Nat)} {c : Prop} [Decidable c] {x : Option (V × Ups)} : nxE P d l nps nid env ob past np lk K (if c then x else none) = (c ∧ nxE P d l nps nid env ob past np lk K x) := by
  by_cases h : c
  · simp [h]
  · simp [h, nxE]
theorem sepL_nil {past : List (List Nat × Option (List Nat))} {q : List Nat × Option (List Nat)} : sepL past [] q = True := (rfl)
theorem sepL_c {past : List (List Nat × Option (List Nat))} {q : List Nat × Option (List Nat)} {i : Nat} {np : List Nat} : sepL past (i :: np) q = (sepAt past[i]? q ∧ sepL past np q) := (rfl)
theorem sepAt_s {a q : List Nat × Option (List Nat)} : sepAt (some a) q = sepE a q := (rfl)
theorem sepE_eq {T S : List Nat} {L M : Option (List Nat)} : sepE (T, L) (S, M) = (apart T M ∧ apart S L ∧ apL T S) := (rfl)
theorem apart_n {T : List Nat} : apart T none = (T = []) := (rfl)
theorem apart_s {T L : List Nat} : apart T (some L) = apL T L := (rfl)
theorem apL_n {L : List Nat} : apL [] L = True := (rfl)
theorem apL_c {x : Nat} {T L : List Nat} : apL (x :: T) L = (nin x L ∧ apL T L) := (rfl)
theorem nin_n {x : Nat} : nin x [] = True := (rfl)
theorem nin_c {x y : Nat} {L : List Nat} : nin x (y :: L) = (x ≠ y ∧ nin x L) := (rfl)
theorem tch_n : tch [] = [] := (rfl)
theorem tch_c {i : Nat} {o : Option Ob} {us : Ups} : tch ((i, o) :: us) = i :: tch us := (rfl)
theorem vid_sl {i a b : Nat} : vid (.sl i a b) = [i] := (rfl)
theorem vid_pt {i a b : Nat} : vid (.pt i a b) = [i] := (rfl)
theorem vid_c {v : Value} : vid (.c v) = [] := (rfl)
theorem vid_im {f : Fl} {s : List (List V)} : vid (.im f s) = [] := (rfl)
theorem vid_bp {s : List V} : vid (.bp s) = [] := (rfl)
theorem vid_ag {s : List V} : vid (.ag s) = [] := (rfl)
theorem vid_z : vid .z = [] := (rfl)
theorem vid_fn {f : Nat} {s : List V} : vid (.fn f s) = [] := (rfl)
theorem vid_u : vid .u = [] := (rfl)
theorem headD_c {α : Type} {a b : α} {s : List α} : (a :: s).headD b = a := (rfl)
theorem tail_c {α : Type} {a : α} {s : List α} : (a :: s).tail = s := (rfl)
theorem kB1_congr {o : RO} {b : List RO} {k j : Nat} : kB1 P o b k j Q env ob = kB1 P o b k j Q env ob := (rfl)
theorem kB2_congr {b : List RO} {k j : Nat} : kB2 P b j Q env ob k = kB2 P b j Q env ob k := (rfl)
attribute [congr] kB1_congr kB2_congr
attribute [congr] kS_congr rcS_congr gR_congr wpS_congr wpD_congr wpC_congr exS_congr exD_congr gS_congr gD_congr nxS_congr nxD_congr caS_congr caD_congr cvS_congr cvD_congr kN_congr
theorem wpC_skip : wpC P .skip Q env ob n = Q .nrm env ob n := (rfl)
theorem wpC_rg : wpC P (.rg l false) Q env ob n = wpS P l n env ob (kS Q) := (rfl)
theorem wpC_rgD : wpC P (.rg l true) Q env ob n = wpD P l n env ob [] (kN Q (n + l.length)) := (rfl)
theorem wpC_rb {a b : List RO} {o : RO} : wpC P (.rb a o b) Q env ob n = wpD P a n env ob [] (kB1 P o b (n + a.length) (a.length + 1) Q) := (rfl)
theorem kB1_eq {o : RO} {b : List RO} {k j : Nat} : kB1 P o b k j Q env ob = wpS P [o] k env ob (kB2 P b j Q) := (rfl)
theorem kB2_eq {b : List RO} {k j : Nat} : kB2 P b j Q env ob k = wpD P b (k + j) env ob [] (kN Q (k + j + b.length)) := (rfl)
theorem wpC_sq {a b : IC} : wpC P (.sq a b) Q env ob n = wpC P a (thenQ (wpC P b Q) Q) env ob n := (rfl)
theorem wpC_bl {i : Nat} {a : IC} : wpC P (.bl i a) Q env ob n = wpC P a (blQ i Q) env ob n := (rfl)
theorem wpC_ex {i : Nat} : wpC P (.ex i) Q env ob n = Q (.ex i) env ob n := (rfl)
theorem wpC_rt : wpC P .rt Q env ob n = Q .rt env ob n := (rfl)
/-- A condition, with what it chooses held back. -/
def cnC (P : Program) (v : V) (a b : IC) (Q : Post) (env : Env) (ob : OB) (n : Nat) : Prop := cnd v (wpC P a Q env ob n) (wpC P b Q env ob n)
theorem wpC_cn {c : Od} {a b : IC} : wpC P (.cn c a b) Q env ob n = cnC P (ev env c) a b Q env ob n := (rfl)
theorem cnC_congr {v v' : V} {a b : IC} (h : v = v') : cnC P v a b Q env ob n = cnC P v' a b Q env ob n := by rw [h]
attribute [congr] cnC_congr
theorem cnC_b {t : Bool} {a b : IC} : cnC P (.c (.bool t)) a b Q env ob n = ((t = true → wpC P a Q env ob n) ∧ (t = false → wpC P b Q env ob n)) := (rfl)
theorem cnC_t {a b : IC} : cnC P (.c (.bool true)) a b Q env ob n = wpC P a Q env ob n := by simp [cnC, cnd]
theorem cnC_f {a b : IC} : cnC P (.c (.bool false)) a b Q env ob n = wpC P b Q env ob n := by simp [cnC, cnd]
theorem cnC_q {a b : IC} : cnC P .q a b Q env ob n = (wpC P a Q env ob n ∧ wpC P b Q env ob n) := (rfl)
theorem thenQ_n {f : Env → OB → Nat → Prop} : thenQ f Q .nrm env ob n = f env ob n := (rfl)
theorem thenQ_r {f : Env → OB → Nat → Prop} : thenQ f Q .rt env ob n = Q .rt env ob n := (rfl)
theorem thenQ_e {f : Env → OB → Nat → Prop} {i : Nat} : thenQ f Q (.ex i) env ob n = Q (.ex i) env ob n := (rfl)
theorem blQ_n {i : Nat} : blQ i Q .nrm env ob n = Q .nrm env ob n := (rfl)
theorem blQ_r {i : Nat} : blQ i Q .rt env ob n = Q .rt env ob n := (rfl)
theorem blQ_s {i : Nat} : blQ i Q (.ex i) env ob n = Q .nrm env ob n := by simp [blQ]
theorem blQ_o {i j : Nat} (h : (j == i) = false) : blQ i Q (.ex j) env ob n = Q (.ex j) env ob n := by simp at h; simp [blQ, h]
theorem lpQ_n {I : Env → OB → Nat → Prop} {μ : Env → OB → Nat → Nat} {k : Nat} : lpQ I μ k Q .nrm env ob n = (I env ob n ∧ μ env ob n < k) := (rfl)
theorem lpQ_r {I : Env → OB → Nat → Prop} {μ : Env → OB → Nat → Nat} {k : Nat} : lpQ I μ k Q .rt env ob n = Q .rt env ob n := (rfl)
theorem lpQ_e {I : Env → OB → Nat → Prop} {μ : Env → OB → Nat → Nat} {k i : Nat} : lpQ I μ k Q (.ex i) env ob n = Q (.ex i) env ob n := (rfl)
theorem kS_eq : kS Q env ob n = Q .nrm env ob n := (rfl)
theorem kN_eq {k : Nat} : kN Q k env ob = Q .nrm env ob k := (rfl)
theorem finS_n {rs : List Rs} {C : V → OB → Nat → Prop} : finS rs C .nrm env ob n = finW C ob n (rdL env ob rs) := (rfl)
theorem finS_r {rs : List Rs} {C : V → OB → Nat → Prop} : finS rs C .rt env ob n = finW C ob n (rdL env ob rs) := (rfl)
theorem finW_s {C : V → OB → Nat → Prop} {l : List V} : finW C ob n (some l) = C (packV l) ob n := (rfl)
theorem finV_s {r : V} {l : List V} : finV r ob (some l) = (retV (outL ob l) = r) := (rfl)
theorem rdL_n : rdL env ob [] = some [] := (rfl)
theorem rdL_t {t : Nat} {l : List Rs} : rdL env ob (.t t :: l) = (rdL env ob l).map (env t :: ·) := (rfl)
theorem rdL_c {t : Nat} {sz : Option Nat} {l : List Rs} : rdL env ob (.c t sz :: l) = (ldV ob sz (env t)).bind fun v => (rdL env ob l).map (v :: ·) := (rfl)
theorem packV_0 : packV [] = .tp [] := (rfl)
theorem packV_1 {v : V} : packV [v] = v := (rfl)
theorem packV_2 {a b : V} {l : List V} : packV (a :: b :: l) = .tp (a :: b :: l) := (rfl)
theorem finQ_n {rs : List Rs} {r : V} : finQ rs r .nrm env ob n = finV r ob (rdL env ob rs) := (rfl)
theorem finQ_r {rs : List Rs} {r : V} : finQ rs r .rt env ob n = finV r ob (rdL env ob rs) := (rfl)

theorem wpS_nil : wpS P [] nid env ob J = J env ob nid := (rfl)
theorem wpS_n : wpS P (⟨d, none, op, xs⟩ :: l) nid env ob J = exS P ⟨d, none, op, xs⟩ l nid env ob J := (rfl)
theorem wpS_g {t : Nat} {w : Bool} : wpS P (⟨d, some (t, w), op, xs⟩ :: l) nid env ob J = gS (env t) w P ⟨d, none, op, xs⟩ l nid env ob J := (rfl)
theorem gS_bt {b : Bool} {o : RO} : gS (.c (.bool b)) true P o l nid env ob J = ((b = true → exS P o l nid env ob J) ∧ (b = false → wpS P l (nid + 1) (put env o.d (.c undef)) ob J)) := by rw [gS, sk_b]; cases b <;> simp
theorem gS_bf {b : Bool} {o : RO} : gS (.c (.bool b)) false P o l nid env ob J = ((b = false → exS P o l nid env ob J) ∧ (b = true → wpS P l (nid + 1) (put env o.d (.c undef)) ob J)) := by rw [gS, sk_b]; cases b <;> simp
theorem gS_tt {o : RO} : gS (.c (.bool true)) true P o l nid env ob J = exS P o l nid env ob J := by rw [gS, sk_b]; simp
theorem gS_ff {o : RO} : gS (.c (.bool false)) false P o l nid env ob J = exS P o l nid env ob J := by rw [gS, sk_b]; simp
theorem gS_tf {o : RO} : gS (.c (.bool true)) false P o l nid env ob J = wpS P l (nid + 1) (put env o.d (.c undef)) ob J := by rw [gS, sk_b]; simp
theorem gS_ft {o : RO} : gS (.c (.bool false)) true P o l nid env ob J = wpS P l (nid + 1) (put env o.d (.c undef)) ob J := by rw [gS, sk_b]; simp
theorem exS_o (h : isCall op = false) {g : Option (Nat × Bool)} : exS P ⟨d, g, op, xs⟩ l nid env ob J = nxS P d l nid env ob J (opF op (xs.map (ev env)) ob nid) := by
  have e : exS P ⟨d, g, op, xs⟩ l nid env ob J = ∃ r us, opF op (xs.map (ev env)) ob nid = some (r, us) ∧ wpS P l (nid + 1) (put env d r) (apps ob us) J := by
    cases op <;> first | rfl | simp [isCall] at h
  rw [e]; simp only [nxS]
  cases opF op (xs.map (ev env)) ob nid with
  | none => simp
  | some x =>
    obtain ⟨r, us⟩ := x; simp
    exact ⟨fun ⟨_, _, ⟨h1, h2⟩, h⟩ => h1 ▸ h2 ▸ h, fun h => ⟨_, _, ⟨rfl, rfl⟩, h⟩⟩
theorem exS_c {f : Nat} {g : Option (Nat × Bool)} : exS P ⟨d, g, .call f m, xs⟩ l nid env ob J = caS P f ((xs.map (ev env)).map (resV ob 6)) m d l nid env ob J := by
  simp only [exS, stpR, OpR, caS, nxS]
  apply propext
  constructor
  · rintro ⟨r, us, ⟨q, h1, h2, rfl, rfl⟩, h⟩; exact ⟨q, h1, h2, h⟩
  · rintro ⟨q, h1, h2, h⟩; exact ⟨_, _, ⟨q, h1, h2, rfl, rfl⟩, h⟩
theorem exS_m {g : Option (Nat × Bool)} : exS P ⟨d, g, .mnx, xs⟩ l nid env ob J = nxtS P (xs.map (ev env)) d l nid env ob J := (rfl)
theorem exS_r {f : Nat} {g : Option (Nat × Bool)} : exS P ⟨d, g, .rcall f, xs⟩ l nid env ob J = rcS P f (xs.map (ev env)) d l nid env ob J := (rfl)
theorem exS_v {x : Od} {g : Option (Nat × Bool)} : exS P ⟨d, g, .callv m, x :: xs⟩ l nid env ob J = cvS P (ev env x) (xs.map (ev env)) m d l nid env ob J := by
  simp only [exS, stpR, OpR, cvS, caS, nxS]
  apply propext
  constructor
  · rintro ⟨r, us, ⟨f, caps, as_, q, h0, h1, h2, rfl, rfl⟩, h⟩
    simp only [List.map_cons, List.cons.injEq] at h0
    rw [h0.1, h0.2]; exact ⟨q, h1, h2, h⟩
  · intro h
    split at h
    · rename_i f caps heq
      obtain ⟨q, h1, h2, h⟩ := h
      exact ⟨_, _, ⟨f, caps, _, q, by simp [heq], h1, h2, rfl, rfl⟩, h⟩
    · exact h.elim
theorem cvS_f {f : Nat} {caps as_ : List V} : cvS P (.fn f caps) as_ m d l nid env ob J = caS P f ((as_ ++ caps).map (resV ob 6)) m d l nid env ob J := (rfl)
theorem nxS_s {r : V} {us : Ups} : nxS P d l nid env ob J (some (r, us)) = wpS P l (nid + 1) (put env d r) (apps ob us) J := (rfl)
theorem nxS_i {c : Prop} [Decidable c] {x : V × Ups} : nxS P d l nid env ob J (if c then some x else none) = (c ∧ nxS P d l nid env ob J (some x)) := by
  by_cases h : c
  · simp [h]
  · simp [h, nxS]
theorem wpD_nil : wpD P [] nid env ob dl K = K env (apps ob dl) := (rfl)
theorem wpD_n : wpD P (⟨d, none, op, xs⟩ :: l) nid env ob dl K = exD P ⟨d, none, op, xs⟩ l nid env ob dl K := (rfl)
theorem wpD_g {t : Nat} {w : Bool} : wpD P (⟨d, some (t, w), op, xs⟩ :: l) nid env ob dl K = gD (env t) w P ⟨d, none, op, xs⟩ l nid env ob dl K := (rfl)
theorem gD_bt {b : Bool} {o : RO} : gD (.c (.bool b)) true P o l nid env ob dl K = ((b = true → exD P o l nid env ob dl K) ∧ (b = false → wpD P l (nid + 1) (put env o.d (.c undef)) ob dl K)) := by rw [gD, sk_b]; cases b <;> simp
theorem gD_bf {b : Bool} {o : RO} : gD (.c (.bool b)) false P o l nid env ob dl K = ((b = false → exD P o l nid env ob dl K) ∧ (b = true → wpD P l (nid + 1) (put env o.d (.c undef)) ob dl K)) := by rw [gD, sk_b]; cases b <;> simp
theorem gD_tt {o : RO} : gD (.c (.bool true)) true P o l nid env ob dl K = exD P o l nid env ob dl K := by rw [gD, sk_b]; simp
theorem gD_ff {o : RO} : gD (.c (.bool false)) false P o l nid env ob dl K = exD P o l nid env ob dl K := by rw [gD, sk_b]; simp
theorem gD_tf {o : RO} : gD (.c (.bool true)) false P o l nid env ob dl K = wpD P l (nid + 1) (put env o.d (.c undef)) ob dl K := by rw [gD, sk_b]; simp
theorem gD_ft {o : RO} : gD (.c (.bool false)) true P o l nid env ob dl K = wpD P l (nid + 1) (put env o.d (.c undef)) ob dl K := by rw [gD, sk_b]; simp
theorem exD_o (h : isCall op = false) {g : Option (Nat × Bool)} : exD P ⟨d, g, op, xs⟩ l nid env ob dl K = nxD P (isLoud op) d l nid env ob dl K (opF op (xs.map (ev env)) ob nid) := by
  have e : ∀ r us, OpR P op (xs.map (ev env)) ob nid r us = (opF op (xs.map (ev env)) ob nid = some (r, us)) := fun r us => by
    cases op <;> first | rfl | simp [isCall] at h
  simp only [exD, e, nxD]
  cases opF op (xs.map (ev env)) ob nid with
  | none => simp
  | some x =>
    obtain ⟨r, us⟩ := x; cases isLoud op <;> simp <;> exact ⟨fun ⟨_, _, ⟨h1, h2⟩, h⟩ => h1 ▸ h2 ▸ h, fun h => ⟨_, _, ⟨rfl, rfl⟩, h⟩⟩
theorem exD_c {f : Nat} {g : Option (Nat × Bool)} : exD P ⟨d, g, .call f m, xs⟩ l nid env ob dl K = caD P f ((xs.map (ev env)).map (resV ob 6)) m d l nid env ob dl K := by
  simp only [exD, OpR, caD, nxD, isLoud]
  apply propext
  constructor
  · rintro ⟨r, us, ⟨q, h1, h2, rfl, rfl⟩, h⟩; exact ⟨q, h1, h2, h⟩
  · rintro ⟨q, h1, h2, h⟩; exact ⟨_, _, ⟨q, h1, h2, rfl, rfl⟩, h⟩
theorem exD_v {x : Od} {g : Option (Nat × Bool)} : exD P ⟨d, g, .callv m, x :: xs⟩ l nid env ob dl K = cvD P (ev env x) (xs.map (ev env)) m d l nid env ob dl K := by
  simp only [exD, OpR, cvD, caD, nxD, isLoud]
  apply propext
  constructor
  · rintro ⟨r, us, ⟨f, caps, as_, q, h0, h1, h2, rfl, rfl⟩, h⟩
    simp only [List.map_cons, List.cons.injEq] at h0
    rw [h0.1, h0.2]; exact ⟨q, h1, h2, h⟩
  · intro h
    split at h
    · rename_i f caps heq
      obtain ⟨q, h1, h2, h⟩ := h
      exact ⟨_, _, ⟨f, caps, _, q, by simp [heq], h1, h2, rfl, rfl⟩, h⟩
    · exact h.elim
theorem cvD_f {f : Nat} {caps as_ : List V} : cvD P (.fn f caps) as_ m d l nid env ob dl K = caD P f ((as_ ++ caps).map (resV ob 6)) m d l nid env ob dl K := (rfl)
theorem nxD_f {r : V} {us : Ups} : nxD P false d l nid env ob dl K (some (r, us)) = wpD P l (nid + 1) (put env d r) ob (dl ++ us) K := (rfl)
theorem nxD_t {r : V} {us : Ups} : nxD P true d l nid env ob dl K (some (r, us)) = wpD P l (nid + 1) (put env d r) (apps ob us) dl K := (rfl)
theorem nxD_i {c : Prop} [Decidable c] {x : V × Ups} {b : Bool} : nxD P b d l nid env ob dl K (if c then some x else none) = (c ∧ nxD P b d l nid env ob dl K (some x)) := by
  by_cases h : c
  · simp [h]
  · simp [h, nxD]

/-- A call's answer, put in. -/
theorem caS_i {f : Nat} {vs : List V} {q : V} (h : FnB P f vs q) (hm : impOk m q) (hn : nxS P d l nid env ob J (some (imp m nid q))) : caS P f vs m d l nid env ob J := ⟨q, h, hm, hn⟩
theorem caD_i {f : Nat} {vs : List V} {q : V} (h : FnB P f vs q) (hm : impOk m q) (hn : nxD P false d l nid env ob dl K (some (imp m nid q))) : caD P f vs m d l nid env ob dl K := ⟨q, h, hm, hn⟩

theorem gS_u {w : Bool} {o : RO} : gS (.c undef) w P o l nid env ob J = wpS P l (nid + 1) (put env o.d (.c undef)) ob J := sk_u
theorem gD_u {w : Bool} {o : RO} : gD (.c undef) w P o l nid env ob dl K = wpD P l (nid + 1) (put env o.d (.c undef)) ob dl K := sk_u
theorem gS_i1 {b x : Bool} {o : RO} : gS (if b = true then .c (.bool x) else .c undef) true P o l nid env ob J = gS (.c (.bool (b && x))) true P o l nid env ob J := by cases b <;> simp [gS_u, gS_ft, gS_tf]
theorem gS_i2 {b x : Bool} {o : RO} : gS (if b = true then .c undef else .c (.bool x)) true P o l nid env ob J = gS (.c (.bool (!b && x))) true P o l nid env ob J := by cases b <;> simp [gS_u, gS_tf, gS_ft]
theorem gS_i3 {b x : Bool} {o : RO} : gS (if b = true then .c (.bool x) else .c undef) false P o l nid env ob J = gS (.c (.bool (b && !x))) true P o l nid env ob J := by cases b <;> cases x <;> simp [gS_u, gS_tt, gS_ff, gS_tf, gS_ft]
theorem gS_i4 {b x : Bool} {o : RO} : gS (if b = true then .c undef else .c (.bool x)) false P o l nid env ob J = gS (.c (.bool (!b && !x))) true P o l nid env ob J := by cases b <;> cases x <;> simp [gS_u, gS_tt, gS_ff, gS_tf, gS_ft]
theorem gD_i1 {b x : Bool} {o : RO} : gD (if b = true then .c (.bool x) else .c undef) true P o l nid env ob dl K = gD (.c (.bool (b && x))) true P o l nid env ob dl K := by cases b <;> simp [gD_u, gD_ft, gD_tf]
theorem gD_i2 {b x : Bool} {o : RO} : gD (if b = true then .c undef else .c (.bool x)) true P o l nid env ob dl K = gD (.c (.bool (!b && x))) true P o l nid env ob dl K := by cases b <;> simp [gD_u, gD_tf, gD_ft]
theorem gD_i3 {b x : Bool} {o : RO} : gD (if b = true then .c (.bool x) else .c undef) false P o l nid env ob dl K = gD (.c (.bool (b && !x))) true P o l nid env ob dl K := by cases b <;> cases x <;> simp [gD_u, gD_tt, gD_ff, gD_tf, gD_ft]
theorem gD_i4 {b x : Bool} {o : RO} : gD (if b = true then .c undef else .c (.bool x)) false P o l nid env ob dl K = gD (.c (.bool (!b && !x))) true P o l nid env ob dl K := by cases b <;> cases x <;> simp [gD_u, gD_tt, gD_ff, gD_tf, gD_ft]
/-- Guards that are not known. -/
theorem gM_congr {w b : Bool} {x x' : Option (V × Ups)} (h : b = w → x = x') : gM P w b d l nid env ob J x = gM P w b d l nid env ob J x' := by cases w <;> cases b <;> simp [gM] at h ⊢ <;> rw [h]
theorem gN_congr {w b loud : Bool} {x x' : Option (V × Ups)} (h : b = w → x = x') : gN_ P w b loud d l nid env ob dl K x = gN_ P w b loud d l nid env ob dl K x' := by cases w <;> cases b <;> simp [gN_] at h ⊢ <;> rw [h]
theorem gC_congr {w b : Bool} {f : Nat} {vs vs' : List V} (h : b = w → vs = vs') : gC P w b f vs m d l nid env ob J = gC P w b f vs' m d l nid env ob J := by cases w <;> cases b <;> simp [gC] at h ⊢ <;> rw [h]
theorem gCD_congr {w b : Bool} {f : Nat} {vs vs' : List V} (h : b = w → vs = vs') : gCD P w b f vs m d l nid env ob dl K = gCD P w b f vs' m d l nid env ob dl K := by cases w <;> cases b <;> simp [gCD] at h ⊢ <;> rw [h]
theorem gW_congr {w b : Bool} {v v' : V} {as_ as' : List V} (h : b = w → v = v') (ha : b = w → as_ = as') : gW P w b v as_ m d l nid env ob J = gW P w b v' as' m d l nid env ob J := by cases w <;> cases b <;> simp [gW] at h ha ⊢ <;> rw [h, ha]
theorem gWD_congr {w b : Bool} {v v' : V} {as_ as' : List V} (h : b = w → v = v') (ha : b = w → as_ = as') : gWD P w b v as_ m d l nid env ob dl K = gWD P w b v' as' m d l nid env ob dl K := by cases w <;> cases b <;> simp [gWD] at h ha ⊢ <;> rw [h, ha]
attribute [congr] gM_congr gN_congr gC_congr gCD_congr gW_congr gWD_congr
theorem gM_n {w b : Bool} {x : Option (V × Ups)} : gM P w (!b) d l nid env ob J x = gM P (!w) b d l nid env ob J x := by cases w <;> cases b <;> simp [gM]
theorem gR_n {w b : Bool} {f : Nat} {vs : List V} : gR P w (!b) f vs d l nid env ob J = gR P (!w) b f vs d l nid env ob J := by cases w <;> cases b <;> simp [gR]
theorem gC_n {w b : Bool} {f : Nat} {vs : List V} : gC P w (!b) f vs m d l nid env ob J = gC P (!w) b f vs m d l nid env ob J := by cases w <;> cases b <;> simp [gC]
theorem gCD_n {w b : Bool} {f : Nat} {vs : List V} : gCD P w (!b) f vs m d l nid env ob dl K = gCD P (!w) b f vs m d l nid env ob dl K := by cases w <;> cases b <;> simp [gCD]
theorem gW_n {w b : Bool} {v : V} {as_ : List V} : gW P w (!b) v as_ m d l nid env ob J = gW P (!w) b v as_ m d l nid env ob J := by cases w <;> cases b <;> simp [gW]
theorem gWD_n {w b : Bool} {v : V} {as_ : List V} : gWD P w (!b) v as_ m d l nid env ob dl K = gWD P (!w) b v as_ m d l nid env ob dl K := by cases w <;> cases b <;> simp [gWD]
theorem gN_n {w b loud : Bool} {x : Option (V × Ups)} : gN_ P w (!b) loud d l nid env ob dl K x = gN_ P (!w) b loud d l nid env ob dl K x := by cases w <;> cases b <;> simp [gN_]
theorem gM_s {w b : Bool} {r : V} : gM P w b d l nid env ob J (some (r, [])) = wpS P l (nid + 1) (put env d (if b = w then r else .c undef)) ob J := by cases w <;> cases b <;> simp [gM, nxS, apps]
theorem gM_u {w b : Bool} {r : V} {i : Nat} {o : Option Ob} {us : Ups} : gM P w b d l nid env ob J (some (r, (i, o) :: us)) = ((b = w → wpS P l (nid + 1) (put env d r) (apps ob ((i, o) :: us)) J) ∧ (b = !w → wpS P l (nid + 1) (put env d (.c undef)) ob J)) := (rfl)
theorem gM_j {w b : Bool} {c : Prop} [Decidable c] {x : Option (V × Ups)} : gM P w b d l nid env ob J (if c then x else none) = ((b = w → c) ∧ gM P w b d l nid env ob J x) := by cases w <;> cases b <;> by_cases h : c <;> simp [gM, nxS, h]
theorem gN_s {w b loud : Bool} {r : V} : gN_ P w b loud d l nid env ob dl K (some (r, [])) = wpD P l (nid + 1) (put env d (if b = w then r else .c undef)) ob dl K := by cases w <;> cases b <;> cases loud <;> simp [gN_, nxD, apps]
theorem gN_u {w b loud : Bool} {r : V} {i : Nat} {o : Option Ob} {us : Ups} : gN_ P w b loud d l nid env ob dl K (some (r, (i, o) :: us)) = ((b = w → nxD P loud d l nid env ob dl K (some (r, (i, o) :: us))) ∧ (b = !w → wpD P l (nid + 1) (put env d (.c undef)) ob dl K)) := (rfl)
theorem gN_j {w b loud : Bool} {c : Prop} [Decidable c] {x : Option (V × Ups)} : gN_ P w b loud d l nid env ob dl K (if c then x else none) = ((b = w → c) ∧ gN_ P w b loud d l nid env ob dl K x) := by cases w <;> cases b <;> by_cases h : c <;> simp [gN_, nxD, h]
theorem gS_o {b : Bool} (h : isCall op = false) : gS (.c (.bool b)) true P ⟨d, none, op, xs⟩ l nid env ob J = gM P true b d l nid env ob J (opF op (xs.map (ev env)) ob nid) := by rw [gS_bt, exS_o h]; rfl
theorem gS_o' {b : Bool} (h : isCall op = false) : gS (.c (.bool b)) false P ⟨d, none, op, xs⟩ l nid env ob J = gM P false b d l nid env ob J (opF op (xs.map (ev env)) ob nid) := by rw [gS_bf, exS_o h]; cases b <;> simp [gM]
theorem gS_c {b : Bool} {f : Nat} : gS (.c (.bool b)) true P ⟨d, none, .call f m, xs⟩ l nid env ob J = gC P true b f ((xs.map (ev env)).map (resV ob 6)) m d l nid env ob J := by rw [gS_bt, exS_c]; rfl
theorem gS_c' {b : Bool} {f : Nat} : gS (.c (.bool b)) false P ⟨d, none, .call f m, xs⟩ l nid env ob J = gC P false b f ((xs.map (ev env)).map (resV ob 6)) m d l nid env ob J := by rw [gS_bf, exS_c]; cases b <;> simp [gC]
theorem gS_r {b : Bool} {f : Nat} : gS (.c (.bool b)) true P ⟨d, none, .rcall f, xs⟩ l nid env ob J = gR P true b f (xs.map (ev env)) d l nid env ob J := by rw [gS_bt, exS_r]; rfl
theorem gS_r' {b : Bool} {f : Nat} : gS (.c (.bool b)) false P ⟨d, none, .rcall f, xs⟩ l nid env ob J = gR P false b f (xs.map (ev env)) d l nid env ob J := by rw [gS_bf, exS_r]; cases b <;> simp [gR]
theorem gS_v {b : Bool} {x : Od} : gS (.c (.bool b)) true P ⟨d, none, .callv m, x :: xs⟩ l nid env ob J = gW P true b (ev env x) (xs.map (ev env)) m d l nid env ob J := by rw [gS_bt, exS_v]; rfl
theorem gS_v' {b : Bool} {x : Od} : gS (.c (.bool b)) false P ⟨d, none, .callv m, x :: xs⟩ l nid env ob J = gW P false b (ev env x) (xs.map (ev env)) m d l nid env ob J := by rw [gS_bf, exS_v]; cases b <;> simp [gW]
theorem gD_o {b : Bool} (h : isCall op = false) : gD (.c (.bool b)) true P ⟨d, none, op, xs⟩ l nid env ob dl K = gN_ P true b (isLoud op) d l nid env ob dl K (opF op (xs.map (ev env)) ob nid) := by rw [gD_bt, exD_o h]; rfl
theorem gD_o' {b : Bool} (h : isCall op = false) : gD (.c (.bool b)) false P ⟨d, none, op, xs⟩ l nid env ob dl K = gN_ P false b (isLoud op) d l nid env ob dl K (opF op (xs.map (ev env)) ob nid) := by rw [gD_bf, exD_o h]; cases b <;> simp [gN_]
theorem gD_c {b : Bool} {f : Nat} : gD (.c (.bool b)) true P ⟨d, none, .call f m, xs⟩ l nid env ob dl K = gCD P true b f ((xs.map (ev env)).map (resV ob 6)) m d l nid env ob dl K := by rw [gD_bt, exD_c]; rfl
theorem gD_c' {b : Bool} {f : Nat} : gD (.c (.bool b)) false P ⟨d, none, .call f m, xs⟩ l nid env ob dl K = gCD P false b f ((xs.map (ev env)).map (resV ob 6)) m d l nid env ob dl K := by rw [gD_bf, exD_c]; cases b <;> simp [gCD]
theorem gD_v {b : Bool} {x : Od} : gD (.c (.bool b)) true P ⟨d, none, .callv m, x :: xs⟩ l nid env ob dl K = gWD P true b (ev env x) (xs.map (ev env)) m d l nid env ob dl K := by rw [gD_bt, exD_v]; rfl
theorem gD_v' {b : Bool} {x : Od} : gD (.c (.bool b)) false P ⟨d, none, .callv m, x :: xs⟩ l nid env ob dl K = gWD P false b (ev env x) (xs.map (ev env)) m d l nid env ob dl K := by rw [gD_bf, exD_v]; cases b <;> simp [gWD]
theorem gW_f {w b : Bool} {f : Nat} {caps as_ : List V} : gW P w b (.fn f caps) as_ m d l nid env ob J = gC P w b f ((as_ ++ caps).map (resV ob 6)) m d l nid env ob J := (rfl)
theorem gWD_f {w b : Bool} {f : Nat} {caps as_ : List V} : gWD P w b (.fn f caps) as_ m d l nid env ob dl K = gCD P w b f ((as_ ++ caps).map (resV ob 6)) m d l nid env ob dl K := (rfl)
theorem gC_i {w b : Bool} {f : Nat} {vs : List V} {q : V} (h : b = w → FnB P f vs q) (hm : impOk m q) (hn : gM P w b d l nid env ob J (some (imp m nid q))) : gC P w b f vs m d l nid env ob J := ⟨fun e => caS_i (h e) hm (hn.1 e), hn.2⟩
theorem gCD_i {w b : Bool} {f : Nat} {vs : List V} {q : V} (h : b = w → FnB P f vs q) (hm : impOk m q) (hn : gN_ P w b false d l nid env ob dl K (some (imp m nid q))) : gCD P w b f vs m d l nid env ob dl K := ⟨fun e => caD_i (h e) hm (hn.1 e), hn.2⟩

/-- A loop. -/
theorem wpC_lp {c : IC} (I : Env → OB → Nat → Prop) (μ : Env → OB → Nat → Nat) (h0 : I env ob n) (h : ∀ env ob n, I env ob n → wpC P c (lpQ I μ (μ env ob n) Q) env ob n) : wpC P (.lp c) Q env ob n := ⟨I, μ, h0, h⟩

end

/-- The temporaries, and the store: what stands where. -/
theorem put_s (env : Env) (n : Nat) (v : V) : put env (some n) v n = v := by simp [put]
theorem put_o (env : Env) (n m : Nat) (v : V) (h : (m == n) = false) : put env (some n) v m = env m := by simp at h; simp [put, h]
theorem put_n (env : Env) (v : V) : put env none v = env := (rfl)
def updO (ob : OB) (i : Nat) (o : Option Ob) : OB := fun j => if j = i then o else ob j
theorem apps_n (ob : OB) : apps ob [] = ob := (rfl)
theorem apps_c (ob : OB) (i : Nat) (o : Option Ob) (l : Ups) : apps ob ((i, o) :: l) = apps (updO ob i o) l := (rfl)
theorem updO_s (ob : OB) (i : Nat) (o : Option Ob) : updO ob i o i = o := by simp [updO]
theorem updO_o (ob : OB) (i j : Nat) (o : Option Ob) (h : (j == i) = false) : updO ob i o j = ob j := by simp at h; simp [updO, h]
theorem noOb_e (i : Nat) : noOb i = none := (rfl)
theorem kill_s (ob : OB) (i : Nat) : kill ob i i = none := by simp [kill]
theorem kill_o (ob : OB) (i j : Nat) (h : (j == i) = false) : kill ob i j = ob j := by simp at h; simp [kill, h]
theorem ev_t (env : Env) (n : Nat) : ev env (.t n) = env n := (rfl)
theorem ev_k (env : Env) (v : V) : ev env (.k v) = v := (rfl)
theorem env0_c0 (v : V) (l : List V) : env0 (v :: l) 0 = v := (rfl)
theorem env0_cs (v : V) (l : List V) (n : Nat) : env0 (v :: l) (n + 1) = env0 l n := by simp [env0]
theorem env0_n (n : Nat) : env0 [] n = .u := by simp [env0]

end Go.Proofs.Ytbojpedklnmidaa.D
end
section
set_option linter.unusedVariables false
set_option linter.unusedSimpArgs false
set_option linter.constructorNameAsVariable false
/- Walking over plain values: what each step comes to. No condition. -/
namespace Go.Proofs.Ytbojpedklnmidaa.D
open Go Go.RowKit
attribute [go_sem] wpC_skip wpC_rg wpC_rgD wpC_rb kB1_eq kB2_eq wpC_re wpE_nil wpE_o wpE_c lkI_call lkF_n lkF_c flat_c flat_q flat_z flat_ag flat_an isC_c nxE_s nxE_i sepL_nil sepL_c sepAt_s sepE_eq apart_n apart_s apL_n apL_c nin_n nin_c tch_n tch_c vid_sl vid_pt vid_c vid_im vid_bp vid_ag vid_z vid_fn vid_u headD_c tail_c List.flatMap_cons List.flatMap_nil wpC_sq wpC_bl wpC_ex wpC_rt wpC_cn cnC_b cnC_q thenQ_n thenQ_r thenQ_e blQ_n blQ_r blQ_s blQ_o lpQ_n lpQ_r lpQ_e kS_eq finS_n finS_r finW_s finV_s rdL_n rdL_t rdL_c packV_0 packV_1 packV_2 exS_r exS_m gS_r gS_r' gR_n kN_eq finQ_n finQ_r wpS_nil wpS_n wpS_g gS_u gS_i1 gS_i2 gS_i3 gS_i4 gS_o gS_o' gS_c gS_c' gS_v gS_v' gM_s gM_u gM_j gW_f gM_n gC_n gW_n exS_o exS_c exS_v cvS_f nxS_s nxS_i wpD_nil wpD_n wpD_g gD_u gD_i1 gD_i2 gD_i3 gD_i4 gD_o gD_o' gD_c gD_c' gD_v gD_v' gN_s gN_u gN_j gWD_f gN_n gCD_n gWD_n exD_o exD_c exD_v cvD_f nxD_f nxD_t nxD_i put_s put_o put_n apps_n apps_c updO_s updO_o noOb_e kill_s kill_o ev_t ev_k env0_c0 env0_cs env0_n
attribute [go_sem] List.map_cons List.map_nil List.length_cons List.length_nil List.getElem?_cons_zero List.getElem?_cons_succ List.drop_zero List.drop_succ_cons List.take_zero List.take_succ_cons List.nil_append List.cons_append List.append_nil List.drop_nil List.take_nil Option.getD_none Option.getD_some Nat.zero_add eq_self forall_const true_and and_true Bool.not_true Bool.not_false List.map_map List.length_map Function.comp_apply Function.comp_def Nat.add_zero Bool.false_eq_true Bool.true_eq_false Bool.not_eq_true' false_implies implies_true
attribute [go_sem high] gS_tt gS_ff gS_tf gS_ft gD_tt gD_ff gD_tf gD_ft cnC_t cnC_f
@[go_sem] theorem isCall_mv  : isCall .mv = false := (rfl)
@[go_sem] theorem isLoud_mv  : isLoud .mv = false := (rfl)
@[go_sem] theorem isCall_pick  : isCall .pick = false := (rfl)
@[go_sem] theorem isLoud_pick  : isLoud .pick = false := (rfl)
@[go_sem] theorem isCall_bin (o : BinOp) : isCall (.bin o) = false := (rfl)
@[go_sem] theorem isLoud_bin (o : BinOp) : isLoud (.bin o) = false := (rfl)
@[go_sem] theorem isCall_bb (o : BinOp) : isCall (.bb o) = false := (rfl)
@[go_sem] theorem isLoud_bb (o : BinOp) : isLoud (.bb o) = false := (rfl)
@[go_sem] theorem isCall_eqs (b : Bool) (ks : List Nat) : isCall (.eqs b ks) = false := (rfl)
@[go_sem] theorem isLoud_eqs (b : Bool) (ks : List Nat) : isLoud (.eqs b ks) = false := (rfl)
@[go_sem] theorem isCall_nilq (k : Nat) (b : Bool) : isCall (.nilq k b) = false := (rfl)
@[go_sem] theorem isLoud_nilq (k : Nat) (b : Bool) : isLoud (.nilq k b) = false := (rfl)
@[go_sem] theorem isCall_un (o : UnOp) : isCall (.un o) = false := (rfl)
@[go_sem] theorem isLoud_un (o : UnOp) : isLoud (.un o) = false := (rfl)
@[go_sem] theorem isCall_conv (k : IntKind) : isCall (.conv k) = false := (rfl)
@[go_sem] theorem isLoud_conv (k : IntKind) : isLoud (.conv k) = false := (rfl)
@[go_sem] theorem isCall_box (n : Option Nat) : isCall (.box n) = false := (rfl)
@[go_sem] theorem isLoud_box (n : Option Nat) : isLoud (.box n) = false := (rfl)
@[go_sem] theorem isCall_alloc (z : List V) : isCall (.alloc z) = false := (rfl)
@[go_sem] theorem isLoud_alloc (z : List V) : isLoud (.alloc z) = false := (rfl)
@[go_sem] theorem isCall_bld (z : List V) (ps : List (Nat × Nat)) : isCall (.bld z ps) = false := (rfl)
@[go_sem] theorem isLoud_bld (z : List V) (ps : List (Nat × Nat)) : isLoud (.bld z ps) = false := (rfl)
@[go_sem] theorem isCall_bsl (k : Nat) (z : List V) (ps : List Nat) (n : Nat) (fz : Bool) : isCall (.bsl k z ps n fz) = false := (rfl)
@[go_sem] theorem isLoud_bsl (k : Nat) (z : List V) (ps : List Nat) (n : Nat) (fz : Bool) : isLoud (.bsl k z ps n fz) = false := (rfl)
@[go_sem] theorem isCall_ld (n : Option Nat) : isCall (.ld n) = false := (rfl)
@[go_sem] theorem isLoud_ld (n : Option Nat) : isLoud (.ld n) = false := (rfl)
@[go_sem] theorem isCall_st (n : Nat) : isCall (.st n) = false := (rfl)
@[go_sem] theorem isLoud_st (n : Nat) : isLoud (.st n) = true := (rfl)
@[go_sem] theorem isCall_fa (o : Nat) : isCall (.fa o) = false := (rfl)
@[go_sem] theorem isLoud_fa (o : Nat) : isLoud (.fa o) = false := (rfl)
@[go_sem] theorem isCall_fld (o : Nat) (n : Option Nat) : isCall (.fld o n) = false := (rfl)
@[go_sem] theorem isLoud_fld (o : Nat) (n : Option Nat) : isLoud (.fld o n) = false := (rfl)
@[go_sem] theorem isCall_ia (k : Nat) : isCall (.ia k) = false := (rfl)
@[go_sem] theorem isLoud_ia (k : Nat) : isLoud (.ia k) = false := (rfl)
@[go_sem] theorem isCall_iar (len k : Nat) : isCall (.iar len k) = false := (rfl)
@[go_sem] theorem isLoud_iar (len k : Nat) : isLoud (.iar len k) = false := (rfl)
@[go_sem] theorem isCall_slc (k : Nat) (lo hi : Bool) : isCall (.slc k lo hi) = false := (rfl)
@[go_sem] theorem isLoud_slc (k : Nat) (lo hi : Bool) : isLoud (.slc k lo hi) = false := (rfl)
@[go_sem] theorem isCall_slc3  : isCall .slc3 = false := (rfl)
@[go_sem] theorem isLoud_slc3  : isLoud .slc3 = false := (rfl)
@[go_sem] theorem isCall_mks (k : Nat) (z : List V) (fz : Bool) : isCall (.mks k z fz) = false := (rfl)
@[go_sem] theorem isLoud_mks (k : Nat) (z : List V) (fz : Bool) : isLoud (.mks k z fz) = false := (rfl)
@[go_sem] theorem isCall_len  : isCall .len = false := (rfl)
@[go_sem] theorem isLoud_len  : isLoud .len = false := (rfl)
@[go_sem] theorem isCall_slen  : isCall .slen = false := (rfl)
@[go_sem] theorem isLoud_slen  : isLoud .slen = false := (rfl)
@[go_sem] theorem isCall_app (k : Nat) : isCall (.app k) = false := (rfl)
@[go_sem] theorem isLoud_app (k : Nat) : isLoud (.app k) = true := (rfl)
@[go_sem] theorem isCall_cpy (k : Nat) : isCall (.cpy k) = false := (rfl)
@[go_sem] theorem isLoud_cpy (k : Nat) : isLoud (.cpy k) = true := (rfl)
@[go_sem] theorem isCall_clr (k : Nat) (z : List V) : isCall (.clr k z) = false := (rfl)
@[go_sem] theorem isLoud_clr (k : Nat) (z : List V) : isLoud (.clr k z) = true := (rfl)
@[go_sem] theorem isCall_mx  : isCall .mx = false := (rfl)
@[go_sem] theorem isLoud_mx  : isLoud .mx = false := (rfl)
@[go_sem] theorem isCall_mn  : isCall .mn = false := (rfl)
@[go_sem] theorem isLoud_mn  : isLoud .mn = false := (rfl)
@[go_sem] theorem isCall_ext (i : Nat) : isCall (.ext i) = false := (rfl)
@[go_sem] theorem isLoud_ext (i : Nat) : isLoud (.ext i) = false := (rfl)
@[go_sem] theorem isCall_mkf (f : Nat) : isCall (.mkf f) = false := (rfl)
@[go_sem] theorem isLoud_mkf (f : Nat) : isLoud (.mkf f) = false := (rfl)
@[go_sem] theorem isCall_capo  : isCall .capo = false := (rfl)
@[go_sem] theorem isLoud_capo  : isLoud .capo = false := (rfl)
@[go_sem] theorem isCall_appz (k : Nat) (z : List V) : isCall (.appz k z) = false := (rfl)
@[go_sem] theorem isLoud_appz (k : Nat) (z : List V) : isLoud (.appz k z) = false := (rfl)
@[go_sem] theorem isCall_mkm  : isCall .mkm = false := (rfl)
@[go_sem] theorem isLoud_mkm  : isLoud .mkm = false := (rfl)
@[go_sem] theorem isCall_mlk (st : Bool) (ks : List Nat) (z : V) (two : Bool) : isCall (.mlk st ks z two) = false := (rfl)
@[go_sem] theorem isLoud_mlk (st : Bool) (ks : List Nat) (z : V) (two : Bool) : isLoud (.mlk st ks z two) = false := (rfl)
@[go_sem] theorem isCall_mup (st : Bool) (ks : List Nat) : isCall (.mup st ks) = false := (rfl)
@[go_sem] theorem isLoud_mup (st : Bool) (ks : List Nat) : isLoud (.mup st ks) = true := (rfl)
@[go_sem] theorem isCall_mrg  : isCall .mrg = false := (rfl)
@[go_sem] theorem isLoud_mrg  : isLoud .mrg = false := (rfl)
@[go_sem] theorem isCall_ent  : isCall .ent = false := (rfl)
@[go_sem] theorem isLoud_ent  : isLoud .ent = false := (rfl)
@[go_sem] theorem lkI_mv  (vs : List V) : lkI .mv vs = some [] := (rfl)
@[go_sem] theorem lkI_pick  (vs : List V) : lkI .pick vs = some [] := (rfl)
@[go_sem] theorem lkI_bin (o : BinOp) (vs : List V) : lkI (.bin o) vs = some [] := (rfl)
@[go_sem] theorem lkI_bb (o : BinOp) (vs : List V) : lkI (.bb o) vs = some [] := (rfl)
@[go_sem] theorem lkI_eqs (b : Bool) (ks : List Nat) (vs : List V) : lkI (.eqs b ks) vs = some [] := (rfl)
@[go_sem] theorem lkI_nilq (k : Nat) (b : Bool) (vs : List V) : lkI (.nilq k b) vs = none := (rfl)
@[go_sem] theorem lkI_un (o : UnOp) (vs : List V) : lkI (.un o) vs = some [] := (rfl)
@[go_sem] theorem lkI_conv (k : IntKind) (vs : List V) : lkI (.conv k) vs = some [] := (rfl)
@[go_sem] theorem lkI_box (n : Option Nat) (vs : List V) : lkI (.box n) vs = some [] := (rfl)
@[go_sem] theorem lkI_alloc (z : List V) (vs : List V) : lkI (.alloc z) vs = some [] := (rfl)
@[go_sem] theorem lkI_bld (z : List V) (ps : List (Nat × Nat)) (vs : List V) : lkI (.bld z ps) vs = some [] := (rfl)
@[go_sem] theorem lkI_bsl (k : Nat) (z : List V) (ps : List Nat) (n : Nat) (fz : Bool) (vs : List V) : lkI (.bsl k z ps n fz) vs = some [] := (rfl)
@[go_sem] theorem lkI_ld (n : Option Nat) (vs : List V) : lkI (.ld n) vs = some (vs.flatMap vid) := (rfl)
@[go_sem] theorem lkI_st (n : Nat) (vs : List V) : lkI (.st n) vs = some (vs.flatMap vid) := (rfl)
@[go_sem] theorem lkI_fa (o : Nat) (vs : List V) : lkI (.fa o) vs = some (vs.flatMap vid) := (rfl)
@[go_sem] theorem lkI_fld (o : Nat) (n : Option Nat) (vs : List V) : lkI (.fld o n) vs = some [] := (rfl)
@[go_sem] theorem lkI_ia (k : Nat) (vs : List V) : lkI (.ia k) vs = some (vs.flatMap vid) := (rfl)
@[go_sem] theorem lkI_iar (len k : Nat) (vs : List V) : lkI (.iar len k) vs = some (vs.flatMap vid) := (rfl)
@[go_sem] theorem lkI_slc (k : Nat) (lo hi : Bool) (vs : List V) : lkI (.slc k lo hi) vs = some (vs.flatMap vid) := (rfl)
@[go_sem] theorem lkI_slc3  (vs : List V) : lkI .slc3 vs = none := (rfl)
@[go_sem] theorem lkI_mks (k : Nat) (z : List V) (fz : Bool) (vs : List V) : lkI (.mks k z fz) vs = some [] := (rfl)
@[go_sem] theorem lkI_len  (vs : List V) : lkI .len vs = some [] := (rfl)
@[go_sem] theorem lkI_slen  (vs : List V) : lkI .slen vs = some [] := (rfl)
@[go_sem] theorem lkI_app (k : Nat) (vs : List V) : lkI (.app k) vs = some (vs.flatMap vid) := (rfl)
@[go_sem] theorem lkI_cpy (k : Nat) (vs : List V) : lkI (.cpy k) vs = none := (rfl)
@[go_sem] theorem lkI_clr (k : Nat) (z : List V) (vs : List V) : lkI (.clr k z) vs = none := (rfl)
@[go_sem] theorem lkI_mx  (vs : List V) : lkI .mx vs = some [] := (rfl)
@[go_sem] theorem lkI_mn  (vs : List V) : lkI .mn vs = some [] := (rfl)
@[go_sem] theorem lkI_ext (i : Nat) (vs : List V) : lkI (.ext i) vs = some [] := (rfl)
@[go_sem] theorem lkI_mkf (f : Nat) (vs : List V) : lkI (.mkf f) vs = some [] := (rfl)
@[go_sem] theorem lkI_capo  (vs : List V) : lkI .capo vs = none := (rfl)
@[go_sem] theorem lkI_appz (k : Nat) (z : List V) (vs : List V) : lkI (.appz k z) vs = none := (rfl)
@[go_sem] theorem lkI_mkm  (vs : List V) : lkI .mkm vs = none := (rfl)
@[go_sem] theorem lkI_mlk (st : Bool) (ks : List Nat) (z : V) (two : Bool) (vs : List V) : lkI (.mlk st ks z two) vs = none := (rfl)
@[go_sem] theorem lkI_mup (st : Bool) (ks : List Nat) (vs : List V) : lkI (.mup st ks) vs = none := (rfl)
@[go_sem] theorem lkI_mrg  (vs : List V) : lkI .mrg vs = none := (rfl)
@[go_sem] theorem lkI_ent  (vs : List V) : lkI .ent vs = none := (rfl)
@[go_sem] theorem op_mkm  (ob : OB) (i : Nat) : opF .mkm [] ob i = some (.mp i, [(i, some ⟨0, [], none⟩)]) := (rfl)
@[go_sem] theorem op_mlk (st : Bool) (ks : List Nat) (z : V) (two : Bool) (id : Nat) (k : V) (ob : OB) (i : Nat) : opF (.mlk st ks z two) [.mp id, k] ob i = (ob id).bind fun o => if keyOk st ks k then (posM st ks k o.l).map fun q => (if two then .tp [valM z o.l q, .c (.bool q.isSome)] else valM z o.l q, []) else none := (rfl)
@[go_sem] theorem op_mup (st : Bool) (ks : List Nat) (id : Nat) (k v : V) (ob : OB) (i : Nat) : opF (.mup st ks) [.mp id, k, v] ob i = (ob id).bind fun o => if keyOk st ks k then (posM st ks k o.l).map fun q => (.u, [(id, some ⟨0, setM k v o.l q, none⟩)]) else none := (rfl)
@[go_sem] theorem op_mrg (id : Nat) (ob : OB) (i : Nat) : opF .mrg [.mp id] ob i = (ob id).bind fun o => some (.mi i, [(i, some ⟨0, [[.mp id, .c (.int .i64 (o.l.length : Int))]], none⟩)]) := (rfl)
@[go_sem] theorem op_mv (x : V) (ob : OB) (i : Nat) : opF .mv [x] ob i = some (x, []) := (rfl)
@[go_sem] theorem op_pick (b x y : V) (ob : OB) (i : Nat) : opF .pick [b, x, y] ob i = (toBool b).map fun b => (if b then x else y, []) := (rfl)
@[go_sem] theorem op_bin (o : BinOp) (a b : V) (ob : OB) (i : Nat) : opF (.bin o) [a, b] ob i = (toC a).bind fun a => (toC b).bind fun b => (binS o a b).map fun r => (.c r, []) := (rfl)
@[go_sem] theorem op_bb (o : BinOp) (a b : V) (ob : OB) (i : Nat) : opF (.bb o) [a, b] ob i = (toBool a).bind fun a => (toBool b).bind fun b => (boolOp o a b).map fun r => (.c (.bool r), []) := (rfl)
@[go_sem] theorem op_eqs (n : Bool) (ks : List Nat) (x y : List V) (ob : OB) (i : Nat) : opF (.eqs n ks) [.ag x, .ag y] ob i = (eqCells ks x y).map fun q => (.c (.bool (if n then !q else q)), []) := (rfl)
@[go_sem] theorem op_nilq (k : Nat) (n : Bool) (x : V) (ob : OB) (i : Nat) : opF (.nilq k n) [x] ob i = (isNil ob k x).map fun v => (negV n v, []) := (rfl)
@[go_sem] theorem op_un (o : UnOp) (a : V) (ob : OB) (i : Nat) : opF (.un o) [a] ob i = (toC a).bind fun a => (unS o a).map fun r => (.c r, []) := (rfl)
@[go_sem] theorem op_conv (k : IntKind) (a : V) (ob : OB) (i : Nat) : opF (.conv k) [a] ob i = (toInt a).map fun n => (.c (.int k (k.wrap n)), []) := (rfl)
@[go_sem] theorem op_box (n : Option Nat) (x : V) (ob : OB) (i : Nat) : opF (.box n) [x] ob i = if okRow (n.getD 1) (cellsV x) then some (.pt i 0 0, [(i, some ⟨n.getD 1, [cellsV x], none⟩)]) else none := (rfl)
@[go_sem] theorem op_alloc (z : List V) (ob : OB) (i : Nat) : opF (.alloc z) [] ob i = some (.pt i 0 0, [(i, some ⟨z.length, [z], none⟩)]) := (rfl)
@[go_sem] theorem op_bld (z : List V) (ps : List (Nat × Nat)) (vs : List V) (ob : OB) (i : Nat) : opF (.bld z ps) vs ob i = (fill z ps vs).map fun l => (.ag l, []) := (rfl)
@[go_sem] theorem op_ld (n : Option Nat) (a : V) (ob : OB) (i : Nat) : opF (.ld n) [a] ob i = (ldV ob n a).map fun v => (v, []) := (rfl)
@[go_sem] theorem op_fa (o : Nat) (a : V) (ob : OB) (i : Nat) : opF (.fa o) [a] ob i = (faV ob o a).map fun v => (v, []) := (rfl)
@[go_sem] theorem op_fld (o : Nat) (n : Option Nat) (a : V) (ob : OB) (i : Nat) : opF (.fld o n) [a] ob i = (toAg a).bind fun l => if o + n.getD 1 ≤ l.length then (pack n ((l.drop o).take (n.getD 1))).map fun v => (v, []) else none := (rfl)
@[go_sem] theorem op_ia (k : Nat) (x j : V) (ob : OB) (i : Nat) : opF (.ia k) [x, j] ob i = (toInt j).bind fun j => (iaV ob k x j).map fun v => (v, []) := (rfl)
@[go_sem] theorem op_iar (n k : Nat) (x j : V) (ob : OB) (i : Nat) : opF (.iar n k) [x, j] ob i = (toInt j).bind fun j => if 0 ≤ j ∧ j < n then (faV ob (j.toNat * k) x).map fun v => (v, []) else none := (rfl)
@[go_sem] theorem op_slc00 (k : Nat) (x : V) (ob : OB) (i : Nat) : opF (.slc k false false) [x] ob i = (sliceV ob k x none none).map fun v => (v, []) := (rfl)
@[go_sem] theorem op_slc10 (k : Nat) (x a : V) (ob : OB) (i : Nat) : opF (.slc k true false) [x, a] ob i = (toInt a).bind fun a => (sliceV ob k x (some a) none).map fun v => (v, []) := (rfl)
@[go_sem] theorem op_slc01 (k : Nat) (x a : V) (ob : OB) (i : Nat) : opF (.slc k false true) [x, a] ob i = (toInt a).bind fun a => (sliceV ob k x none (some a)).map fun v => (v, []) := (rfl)
@[go_sem] theorem op_slc11 (k : Nat) (x a b : V) (ob : OB) (i : Nat) : opF (.slc k true true) [x, a, b] ob i = (toInt a).bind fun a => (toInt b).bind fun b => (sliceV ob k x (some a) (some b)).map fun v => (v, []) := (rfl)
@[go_sem] theorem op_mks (k : Nat) (z : List V) (fz : Bool) (n m : V) (ob : OB) (i : Nat) : opF (.mks k z fz) [n, m] ob i = (toInt n).bind fun n => (toInt m).bind fun m => if n = m ∧ 0 ≤ n ∧ n ≤ maxLen then (if fz then some (.im .b (List.replicate n.toNat z), []) else some (.sl i 0 n.toNat, [(i, some ⟨k, List.replicate n.toNat z, none⟩)])) else none := (rfl)
@[go_sem] theorem op_len (x : V) (ob : OB) (i : Nat) : opF .len [x] ob i = (lenOf x).map fun (n : Nat) => (.c (.int .i64 (n : Int)), []) := (rfl)
@[go_sem] theorem op_slen (x : V) (ob : OB) (i : Nat) : opF .slen [x] ob i = (toStr x).map fun s => (.c (.int .i64 (s.size : Int)), []) := (rfl)
@[go_sem] theorem op_st (n : Nat) (a v : V) (ob : OB) (i : Nat) : opF (.st n) [a, v] ob i = (toPt a).bind fun q => (ob q.1).bind fun x => (x.l[q.2.1]?).bind fun row => if (cellsV v).length = n ∧ (cellsV v).all leaf ∧ q.2.2 + n ≤ row.length then some (.u, [(q.1, some ⟨x.k, x.l.set q.2.1 (row.take q.2.2 ++ cellsV v ++ row.drop (q.2.2 + n)), x.cap⟩)]) else none := (rfl)
@[go_sem] theorem op_mx (a b : V) (ob : OB) (i : Nat) : opF .mx [a, b] ob i = (toC a).bind fun a => (toC b).bind fun b => (mxS a b).map fun r => (.c r, []) := (rfl)
@[go_sem] theorem op_mn (a b : V) (ob : OB) (i : Nat) : opF .mn [a, b] ob i = (toC a).bind fun a => (toC b).bind fun b => (mnS a b).map fun r => (.c r, []) := (rfl)
@[go_sem] theorem op_ext (j : Nat) (a : V) (ob : OB) (i : Nat) : opF (.ext j) [a] ob i = (toTp a).bind fun l => (l[j]?).map fun v => (v, []) := (rfl)
@[go_sem] theorem op_appz (k : Nat) (z : List V) (id off len : Nat) (n : V) (ob : OB) (i : Nat) : opF (.appz k z) [.sl id off len, n] ob i = (toInt n).bind fun n => (ob id).bind fun o => o.cap.bind fun c => if o.k = k ∧ off = 0 ∧ len ≤ o.l.length ∧ 0 < n ∧ len + n.toNat ≤ maxLen ∧ c < len + n.toNat then some (.sl i 0 (len + n.toNat), [(i, some ⟨k, o.l.take len ++ List.replicate n.toNat z, none⟩)]) else none := (rfl)
@[go_sem] theorem op_capo (x : V) (ob : OB) (i : Nat) : opF .capo [x] ob i = (capS ob x).map fun (n : Nat) => (.c (.int .i64 (n : Int)), []) := (rfl)
@[go_sem] theorem op_cpy (k id off len : Nat) (x : V) (ob : OB) (i : Nat) : opF (.cpy k) [.sl id off len, x] ob i = (rowsOf ob x).bind fun xs => (ob id).bind fun o => if (xs.take len).all (okRow k) = true ∧ o.k = k ∧ off + len ≤ o.l.length then some (.c (.int .i64 ((min xs.length len : Nat) : Int)), [(id, some ⟨k, over o.l off (xs.take len), o.cap⟩)]) else none := (rfl)
@[go_sem] theorem op_clr (k : Nat) (z : List V) (id off len : Nat) (ob : OB) (i : Nat) : opF (.clr k z) [.sl id off len] ob i = (ob id).bind fun o => if o.k = k ∧ off + len ≤ o.l.length then some (.tp [], [(id, some ⟨k, over o.l off (List.replicate len z), o.cap⟩)]) else none := (rfl)
@[go_sem] theorem op_clrb (k : Nat) (z : List V) (f : Fl) (ob : OB) (i : Nat) : opF (.clr k z) [.im f []] ob i = some (.tp [], []) := (rfl)
@[go_sem] theorem op_mkf (f : Nat) (vs : List V) (ob : OB) (i : Nat) : opF (.mkf f) vs ob i = some (.fn f vs, []) := (rfl)
@[go_sem] theorem toBool_c (b : Bool) : toBool (.c (.bool b)) = some b := (rfl)
@[go_sem] theorem toC_c (v : Value) : toC (.c v) = some v := (rfl)
@[go_sem] theorem toInt_c (k : IntKind) (n : Int) : toInt (.c (.int k n)) = some n := (rfl)
@[go_sem] theorem toPt_c (a b c : Nat) : toPt (.pt a b c) = some (a, b, c) := (rfl)
@[go_sem] theorem toAg_c (l : List V) : toAg (.ag l) = some l := (rfl)
@[go_sem] theorem toTp_c (l : List V) : toTp (.tp l) = some l := (rfl)
@[go_sem] theorem toStr_c (s : ByteArray) : toStr (.c (.string s)) = some s := (rfl)
@[go_sem] theorem binS_s (o : BinOp) (a b : ByteArray) : binS o (.string a) (.string b) = strsOp o a b := (rfl)
@[go_sem] theorem io_add (k : IntKind) (a b : Int) : intsOp .add k a b = some (.int k (k.wrap (a + b))) := (rfl)
@[go_sem] theorem io_sub (k : IntKind) (a b : Int) : intsOp .sub k a b = some (.int k (k.wrap (a - b))) := (rfl)
@[go_sem] theorem io_mul (k : IntKind) (a b : Int) : intsOp .mul k a b = some (.int k (k.wrap (a * b))) := (rfl)
@[go_sem] theorem io_quo (k : IntKind) (a b : Int) : intsOp .quo k a b = if b = 0 then none else some (.int k (k.wrap (a.tdiv b))) := (rfl)
@[go_sem] theorem io_rem (k : IntKind) (a b : Int) : intsOp .rem k a b = if b = 0 then none else some (.int k (a.tmod b)) := (rfl)
@[go_sem] theorem io_eql (k : IntKind) (a b : Int) : intsOp .eql k a b = some (.bool (decide (a = b))) := (rfl)
@[go_sem] theorem io_neq (k : IntKind) (a b : Int) : intsOp .neq k a b = some (.bool (!decide (a = b))) := (rfl)
@[go_sem] theorem io_lss (k : IntKind) (a b : Int) : intsOp .lss k a b = some (.bool (decide (a < b))) := (rfl)
@[go_sem] theorem io_leq (k : IntKind) (a b : Int) : intsOp .leq k a b = some (.bool (decide (a ≤ b))) := (rfl)
@[go_sem] theorem io_gtr (k : IntKind) (a b : Int) : intsOp .gtr k a b = some (.bool (decide (b < a))) := (rfl)
@[go_sem] theorem io_geq (k : IntKind) (a b : Int) : intsOp .geq k a b = some (.bool (decide (b ≤ a))) := (rfl)
@[go_sem] theorem capS_z (ob : OB) : capS ob .z = some 0 := (rfl)
@[go_sem] theorem capS_sl (ob : OB) (id off len : Nat) : capS ob (.sl id off len) = (ob id).bind fun o => o.cap.map fun c => c - off := (rfl)
@[go_sem] theorem eqc_n  : eqCells [] [] [] = some true := (rfl)
@[go_sem] theorem eqc_c (k : Nat) (ks : List Nat) (a b : Value) (l m : List V) : eqCells (k :: ks) (.c a :: l) (.c b :: m) = (eqS k a b).bind fun p => (eqCells ks l m).map fun q => p && q := (rfl)
@[go_sem] theorem eqS_1 (a b : ByteArray) : eqS 1 (.string a) (.string b) = some (decide (a.toList = b.toList)) := (rfl)
@[go_sem] theorem eqS_2 (a b : Bool) : eqS 2 (.bool a) (.bool b) = some (a == b) := (rfl)
@[go_sem] theorem bo_eql (a b : Bool) : boolOp .eql a b = some (a == b) := (rfl)
@[go_sem] theorem bo_neq (a b : Bool) : boolOp .neq a b = some (!(a == b)) := (rfl)
@[go_sem] theorem un_not (b : Bool) : unS .not (.bool b) = some (.bool !b) := (rfl)
@[go_sem] theorem un_neg (k : IntKind) (n : Int) : unS .neg (.int k n) = some (.int k (k.wrap (0 - n))) := (rfl)
@[go_sem] theorem cells_ag (l : List V) : cellsV (.ag l) = l := (rfl)
@[go_sem] theorem cells_c (v : Value) : cellsV (.c v) = [.c v] := (rfl)
@[go_sem] theorem cells_im (f : Fl) (l : List (List V)) : cellsV (.im f l) = [.im f l] := (rfl)
@[go_sem] theorem cells_sl (a b c : Nat) : cellsV (.sl a b c) = [.sl a b c] := (rfl)
@[go_sem] theorem cells_z  : cellsV .z = [.z] := (rfl)
@[go_sem] theorem cells_pt (a b c : Nat) : cellsV (.pt a b c) = [.pt a b c] := (rfl)
@[go_sem] theorem cells_fn (f : Nat) (l : List V) : cellsV (.fn f l) = [.fn f l] := (rfl)
@[go_sem] theorem cells_bp (l : List V) : cellsV (.bp l) = [.bp l] := (rfl)
@[go_sem] theorem pack_n (v : V) : pack none [v] = some v := (rfl)
@[go_sem] theorem pack_s (n : Nat) (l : List V) : pack (some n) l = if l.length = n then some (.ag l) else none := (rfl)
@[go_sem] theorem len_im (f : Fl) (l : List (List V)) : lenOf (.im f l) = some l.length := (rfl)
@[go_sem] theorem len_z  : lenOf .z = some 0 := (rfl)
@[go_sem] theorem len_sl (a b c : Nat) : lenOf (.sl a b c) = some c := (rfl)
@[go_sem] theorem ld_pt (ob : OB) (n : Option Nat) (id i o : Nat) : ldV ob n (.pt id i o) = (ob id).bind fun x => (x.l[i]?).bind fun row => if o + n.getD 1 ≤ row.length then pack n ((row.drop o).take (n.getD 1)) else none := (rfl)
@[go_sem] theorem ld_bp (ob : OB) (n : Option Nat) (l : List V) : ldV ob n (.bp l) = if n.getD 1 ≤ l.length then pack n (l.take (n.getD 1)) else none := (rfl)
@[go_sem] theorem fa_pt (ob : OB) (o id i p : Nat) : faV ob o (.pt id i p) = (ob id).bind fun _ => some (.pt id i (p + o)) := (rfl)
@[go_sem] theorem fa_bp (ob : OB) (o : Nat) (l : List V) : faV ob o (.bp l) = some (.bp (l.drop o)) := (rfl)
@[go_sem] theorem rows_im (ob : OB) (f : Fl) (l : List (List V)) : rowsOf ob (.im f l) = some l := (rfl)
@[go_sem] theorem rows_z (ob : OB) : rowsOf ob .z = some [] := (rfl)
@[go_sem] theorem rows_sl (ob : OB) (id off len : Nat) : rowsOf ob (.sl id off len) = (ob id).bind fun o => if off + len ≤ o.l.length then some ((o.l.drop off).take len) else none := (rfl)
@[go_sem] theorem neg_q (n : Bool) : negV n .q = .q := (rfl)
@[go_sem] theorem neg_c (n b : Bool) : negV n (.c (.bool b)) = .c (.bool (if n then !b else b)) := (rfl)
@[go_sem] theorem nil0_z (ob : OB) : isNil ob 0 .z = some .q := (rfl)
@[go_sem] theorem nil0_c (ob : OB) (f : Fl) (r : List V) (l : List (List V)) : isNil ob 0 (.im f (r :: l)) = some (.c (.bool false)) := (rfl)
@[go_sem] theorem nil0_n (ob : OB) (f : Fl) : isNil ob 0 (.im f []) = some .q := (rfl)
@[go_sem] theorem nil0_s (ob : OB) (a b c : Nat) : isNil ob 0 (.sl a b c) = (ob a).map fun _ => .c (.bool false) := (rfl)
@[go_sem] theorem res_c (ob : OB) (n : Nat) (v : Value) : resV ob (n + 1) (.c v) = .c v := (rfl)
@[go_sem] theorem res_z (ob : OB) (n : Nat) : resV ob (n + 1) .z = .im .b [] := (rfl)
@[go_sem] theorem res_im (ob : OB) (n : Nat) (f : Fl) (l : List (List V)) : resV ob (n + 1) (.im f l) = .im (resFl f) (l.map fun r => r.map (resV ob n)) := (rfl)
@[go_sem] theorem resFl_b  : resFl .b = .b := (rfl)
@[go_sem] theorem resFl_n  : resFl .n = .n := (rfl)
@[go_sem] theorem res_fn (ob : OB) (n f : Nat) (l : List V) : resV ob (n + 1) (.fn f l) = .fn f (l.map (resV ob n)) := (rfl)
@[go_sem] theorem res_ag (ob : OB) (n : Nat) (l : List V) : resV ob (n + 1) (.ag l) = .ag (l.map (resV ob n)) := (rfl)
@[go_sem] theorem res_bp (ob : OB) (n : Nat) (l : List V) : resV ob (n + 1) (.bp l) = .bp (l.map (resV ob n)) := (rfl)
@[go_sem] theorem g_c (ob : OB) (n : Nat) (v : Value) : gV ob (n + 1) (.c v) = .c v := (rfl)
@[go_sem] theorem g_z (ob : OB) (n : Nat) : gV ob (n + 1) .z = .im .b [] := (rfl)
@[go_sem] theorem g_imb (ob : OB) (n : Nat) (l : List (List V)) : gV ob (n + 1) (.im .b l) = .im .b (l.map fun r => r.map (gV ob n)) := (rfl)
@[go_sem] theorem imp_fb (i : Nat) (l : List (List V)) : imp .fz i (.im .b l) = (.im .b l, []) := (rfl)
@[go_sem] theorem frz1_b (l : List (List V)) : frz1 (.im .b l) = .im .b l := (rfl)
@[go_sem] theorem g_ag (ob : OB) (n : Nat) (l : List V) : gV ob (n + 1) (.ag l) = .ag (l.map (gV ob n)) := (rfl)
@[go_sem] theorem out_n (ob : OB) : outL ob [] = [] := (rfl)
@[go_sem] theorem out_c (ob : OB) (v : Value) (l : List V) : outL ob (.c v :: l) = gV ob 6 (.c v) :: l.map (gV ob 6) := (rfl)
@[go_sem] theorem out_z (ob : OB) (l : List V) : outL ob (.z :: l) = .im .o [] :: l.map (gV ob 6) := (rfl)
@[go_sem] theorem out_im (ob : OB) (f : Fl) (s : List (List V)) (l : List V) : outL ob (.im f s :: l) = gV ob 6 (.im f s) :: l.map (gV ob 6) := (rfl)
@[go_sem] theorem out_ag (ob : OB) (s : List V) (l : List V) : outL ob (.ag s :: l) = gV ob 6 (.ag s) :: l.map (gV ob 6) := (rfl)
@[go_sem] theorem ret_c (v : Value) : retV [.c v] = .c v := (rfl)
@[go_sem] theorem ret_im (f : Fl) (l : List (List V)) : retV [.im f l] = .im f l := (rfl)
@[go_sem] theorem ret_ag (l : List V) : retV [.ag l] = .ag l := (rfl)
@[go_sem] theorem imp_fc (i : Nat) (v : Value) : imp .fz i (.c v) = (.c v, []) := (rfl)
@[go_sem] theorem imp_fi (i : Nat) (l : List (List V)) : imp .fz i (.im .o l) = (.im .b l, []) := (rfl)
@[go_sem] theorem imp_ft (i : Nat) (l : List V) : imp .fz i (.tp l) = (.tp (l.map frz1), []) := (rfl)
@[go_sem] theorem imp_fa (i : Nat) (l : List V) : imp .fz i (.ag l) = (.ag l, []) := (rfl)
@[go_sem] theorem frz1_o (l : List (List V)) : frz1 (.im .o l) = .im .b l := (rfl)
@[go_sem] theorem frz1_c (v : Value) : frz1 (.c v) = .c v := (rfl)
@[go_sem] theorem imp_oc (k i : Nat) (v : Value) : imp (.own k) i (.c v) = (.c v, []) := (rfl)
@[go_sem] theorem imp_oi (k i : Nat) (l : List (List V)) : imp (.own k) i (.im .o l) = if l.length = 0 then (.z, []) else (.sl i 0 l.length, [(i, some ⟨k, l, none⟩)]) := (rfl)
@[go_sem] theorem eqS_0 (k : IntKind) (a b : Int) : eqS 0 (.int k a) (.int k b) = some (decide (a = b)) := by simp [eqS]
@[go_sem] theorem io_shr1 (a : Int) : intsOp .shr .u64 a 1 = some (.int .u64 (a / 2)) := by simp [intsOp, IntKind.bits]
@[go_sem] theorem binS_i (o : BinOp) (k : IntKind) (a b : Int) : binS o (.int k a) (.int k b) = intsOp o k a b := by simp [binS]
@[go_sem] theorem ret_t (a b : V) (l : List V) : retV (a :: b :: l) = .tp (a :: b :: l) := by cases a <;> rfl
@[go_sem] theorem imp_ot (k i : Nat) (s : List (List V)) (l : List V) : imp (.own k) i (.tp (.im .o s :: l)) = if s.length = 0 then (.tp (.z :: l), []) else (.tp (.sl i 0 s.length :: l), [(i, some ⟨k, s, none⟩)]) := by by_cases h : s.length = 0 <;> simp [imp, impL, isO, impO, h]
@[go_sem] theorem bind_s {α β : Type} (a : α) (f : α → Option β) : (some a).bind f = f a := (rfl)
@[go_sem] theorem map_s {α β : Type} (a : α) (f : α → β) : (some a).map f = some (f a) := (rfl)
@[go_sem] theorem ite_t {α : Type} {_ : Decidable True} (a b : α) : (if True then a else b) = a := if_pos trivial
@[go_sem] theorem ite_f {α : Type} {_ : Decidable False} (a b : α) : (if False then a else b) = b := if_neg id
@[go_sem] theorem ite_bt {α : Type} (a b : α) : (if true = true then a else b) = a := (rfl)
@[go_sem] theorem ite_bf {α : Type} (a b : α) : (if false = true then a else b) = b := (rfl)
@[go_sem] theorem ite_not {α : Type} (b : Bool) (x y : α) : (if (!b) = true then x else y) = if b = true then y else x := by cases b <;> rfl
@[go_sem] theorem ite_in {α : Type} (b : Bool) (x y z : α) : (if b = true then (if b = true then x else z) else y) = if b = true then x else y := by cases b <;> rfl
@[go_sem] theorem ite_el {α : Type} (b : Bool) (x y z : α) : (if b = true then x else (if b = true then z else y)) = if b = true then x else y := by cases b <;> rfl
@[go_sem] theorem ite_vb (b x y : Bool) : (if b = true then V.c (.bool x) else V.c (.bool y)) = V.c (.bool (if b = true then x else y)) := by cases b <;> rfl
@[go_sem] theorem ite_and (b x : Bool) : (if b = true then x else false) = (b && x) := by cases b <;> rfl
@[go_sem] theorem ite_or (b x : Bool) : (if b = true then true else x) = (b || x) := by cases b <;> rfl
@[go_sem] theorem ite_f0 {α : Type} (b : Bool) (x y : α) : (if b = false then x else y) = if b = true then y else x := by cases b <;> rfl
@[go_sem] theorem ite_same {α : Type} (b : Bool) (x : α) : (if b = true then x else x) = x := by cases b <;> rfl
@[go_sem] theorem rows_t {ob : OB} : sliceV ob 0 .z none none = some .z := (rfl)
end Go.Proofs.Ytbojpedklnmidaa.D
end
section
set_option linter.unusedVariables false
set_option linter.unusedSimpArgs false
set_option linter.constructorNameAsVariable false
/- Walking over plain values: rows that stand for a list's elements. No condition. -/
namespace Go.Proofs.Ytbojpedklnmidaa.D
open Go Go.RowKit

abbrev vi (n : Int) : V := .c (.int .i64 n)
abbrev vb (b : Bool) : V := .c (.bool b)

/-- What stands at a place. -/
def gN {α : Type} [Inhabited α] (l : List α) (n : Nat) : α := l.getD n default
theorem gN_at {α : Type} [Inhabited α] {l : List α} {n : Nat} (h : n < l.length) : l[n]? = some (gN l n) := by simp [gN, h]
theorem gN_eq {α : Type} [Inhabited α] {l : List α} {n : Nat} (h : n < l.length) : gN l n = l[n] := by simp [gN, h]

section
variable {α : Type} [Inhabited α] (g : α → List V) (l : List α)

@[go_sem] theorem ia_map (ob : OB) (k : Nat) (f : Fl) (j : Int) : iaV ob k (.im f (l.map g)) j = if (0 ≤ j ∧ j < l.length) ∧ (g (gN l j.toNat)).length = k then some (.bp (g (gN l j.toNat))) else none := by
  simp only [iaV, List.length_map]
  by_cases h : 0 ≤ j ∧ j < (l.length : Int)
  · have h1 : j.toNat < l.length := by omega
    simp only [h, and_self, if_true, true_and, List.getElem?_map, gN_at h1, Option.map_some, Option.bind_some]
  · simp only [h, if_false, false_and]

@[go_sem] theorem ia_sl (ob : OB) (k id off len : Nat) (j : Int) : iaV ob k (.sl id off len) j = (ob id).bind fun o => if 0 ≤ j ∧ j < len ∧ o.k = k then some (.pt id (off + j.toNat) 0) else none := (rfl)
@[go_sem] theorem ia_z (ob : OB) (k : Nat) (j : Int) : iaV ob k .z j = none := (rfl)

/-- A row of a made slice. -/
@[go_sem] theorem row_map {β : Type} (F : List V → Option β) (i : Nat) : ((l.map g)[i]?).bind F = if i < l.length then F (g (gN l i)) else none := by
  by_cases h : i < l.length
  · simp only [h, if_true, List.getElem?_map, gN_at h, Option.map_some, Option.bind_some]
  · simp only [h, if_false, List.getElem?_map]
    rw [List.getElem?_eq_none (by omega)]; rfl
end

@[go_sem] theorem sl_im (ob : OB) (k : Nat) (f : Fl) (l : List (List V)) (lo hi : Option Int) : sliceV ob k (.im f l) lo hi = if f ≠ .o ∧ (∀ ch ∈ l, ch.length = k) ∧ 0 ≤ lo.getD 0 ∧ lo.getD 0 ≤ hi.getD l.length ∧ hi.getD l.length ≤ l.length then some (.im f ((l.take (hi.getD l.length).toNat).drop (lo.getD 0).toNat)) else none := (rfl)

/-- A condition behind a condition, behind nothing. -/
theorem ite_bind {α β : Type} {c : Prop} [Decidable c] (x : Option α) (f : α → Option β) : (if c then x else none).bind f = if c then x.bind f else none := by split <;> rfl
theorem ite_map {α β : Type} {c : Prop} [Decidable c] (x : Option α) (f : α → β) : (if c then x else none).map f = if c then x.map f else none := by split <;> rfl
attribute [go_sem] ite_bind ite_map

section
variable {P : Program} {nid : Nat} {env : Env} {ob : OB} {K : Env → OB → Prop} {J : Env → OB → Nat → Prop} {l : List RO} {dl : Ups} {d : Option Nat}
@[go_sem] theorem nxS_j {c : Prop} [Decidable c] {x : Option (V × Ups)} : nxS P d l nid env ob J (if c then x else none) = (c ∧ nxS P d l nid env ob J x) := by
  by_cases h : c
  · simp [h]
  · simp [h, nxS]
@[go_sem] theorem nxD_j {c : Prop} [Decidable c] {x : Option (V × Ups)} {b : Bool} : nxD P b d l nid env ob dl K (if c then x else none) = (c ∧ nxD P b d l nid env ob dl K x) := by
  by_cases h : c
  · simp [h]
  · simp [h, nxD]
end

def iv : V → Int
  | .c (.int _ n) => n
  | _ => 0
theorem iv_c (k : IntKind) (n : Int) : iv (.c (.int k n)) = n := (rfl)
theorem w64 {n : Int} (h : -9223372036854775808 ≤ n ∧ n ≤ 9223372036854775807) : IntKind.i64.wrap n = n := by
  unfold IntKind.wrap IntKind.signed IntKind.bits
  simp
  omega

/-- A slice of one's own that grows. -/
def Own (n : Nat) (ob : OB) (v : V) (k : Nat) (rows : List (List V)) : Prop :=
  (rows = [] ∧ v = .z) ∨ (rows ≠ [] ∧ ∃ id cap, id < n ∧ v = .sl id 0 rows.length ∧ ob id = some ⟨k, rows, cap⟩)

theorem Own.nil {n : Nat} {ob : OB} {k : Nat} : Own n ob .z k [] := .inl ⟨rfl, rfl⟩

section
variable {P : Program} {nid : Nat} {env : Env} {ob : OB} {J : Env → OB → Nat → Prop} {l : List RO} {dl : Ups} {d : Option Nat} {n k : Nat} {v x : V} {rows xs : List (List V)}
/-- Appending to it. -/
theorem app_own (h : Own n ob v k rows) (hn : n ≤ nid) (hx : rowsOf ob x = some xs) (hk : xs.all (okRow k) = true) (hlen : rows.length + xs.length ≤ maxLen) :
    ∃ v' us, opF (.app k) [v, x] ob nid = some (v', us) ∧ Own (nid + 1) (apps ob us) v' k (rows ++ xs) ∧ ∀ id, id < n → v ≠ .sl id 0 rows.length → apps ob us id = ob id := by
  rcases h with ⟨rfl, rfl⟩ | ⟨hne, id, cap, hid, rfl, hob⟩
  · by_cases h0 : xs.length = 0
    · have : xs = [] := List.eq_nil_of_length_eq_zero h0
      subst this
      exact ⟨.z, [], by simp [opF, hx], .inl ⟨rfl, rfl⟩, fun _ _ _ => rfl⟩
    · refine ⟨.sl nid 0 xs.length, _, by simp only [opF, hx, hk, Option.bind_some, if_true, h0, if_false]; rw [if_pos (by simpa using hlen)], .inr ⟨by intro e; apply h0; simpa using congrArg List.length e, nid, none, by omega, by simp, by simp [apps, Ob.mk.injEq]⟩, fun id hid _ => ?_⟩
      simp only [apps_c, apps_n]; exact updO_o _ _ _ _ (by simp; omega)
  · by_cases h0 : xs.length = 0
    · have : xs = [] := List.eq_nil_of_length_eq_zero h0
      subst this
      refine ⟨.sl id 0 rows.length, [(id, some ⟨k, over rows rows.length [], cap⟩)], ?_, .inr ⟨by simpa using hne, id, cap, by omega, by simp, ?_⟩, fun id' hid' hv => ?_⟩
      · simp only [opF, hx, hk, Option.bind_some, if_true, hob]
        rw [if_pos ⟨trivial, by simp, by simpa using hlen⟩, if_pos (by simp)]; simp
      · simp [apps, over]
      · simp only [apps_c, apps_n]; refine updO_o _ _ _ _ ?_
        simp; intro e; subst e; exact hv rfl
    · have hop : opF (.app k) [.sl id 0 rows.length, x] ob nid = some (.sl nid 0 (rows.length + xs.length), grown cap id (rows.length + xs.length) ++ [(nid, some ⟨k, rows ++ xs, none⟩)]) := by
        simp only [opF, hx, hk, Option.bind_some, if_true, hob]
        rw [if_pos ⟨trivial, by simp, by simpa using hlen⟩, if_neg (by omega), List.take_length]
      have hgr : grown cap id (rows.length + xs.length) = [] ∨ grown cap id (rows.length + xs.length) = [(id, none)] := by
        unfold grown; split
        · split
          · exact .inl rfl
          · exact .inr rfl
        · exact .inr rfl
      refine ⟨_, _, hop, .inr ⟨by simp [hne], nid, none, by omega, by simp, ?_⟩, fun id' hid' hv => ?_⟩
      · rcases hgr with h | h <;> simp [h, apps]
      · have hne' : id' ≠ id := by intro e; subst e; exact hv rfl
        have hnn : id' ≠ nid := by omega
        rcases hgr with h | h <;> simp [h, apps, hne', hnn]
theorem nxS_app (h : Own n ob v k rows) (hn : n ≤ nid) (hx : rowsOf ob x = some xs) (hk : xs.all (okRow k) = true) (hlen : rows.length + xs.length ≤ maxLen)
    (hK : ∀ v' ob', Own (nid + 1) ob' v' k (rows ++ xs) → (∀ id, id < n → v ≠ .sl id 0 rows.length → ob' id = ob id) → wpS P l (nid + 1) (put env d v') ob' J) : nxS P d l nid env ob J (opF (.app k) [v, x] ob nid) := by
  obtain ⟨v', us, e, h1, h2⟩ := app_own h hn hx hk hlen
  rw [e]
  exact hK _ _ h1 h2
/-- Handed back. -/
theorem out_own (h : Own n ob v k rows) (hg : ∀ ob', ∀ r ∈ rows, r.map (gV ob' 6) = r) (vs : List V) (hvs : ∀ ob', vs.map (gV ob' 6) = vs) : outL ob (v :: vs) = .im .o rows :: vs := by
  rcases h with ⟨rfl, rfl⟩ | ⟨hne, id, cap, hid, rfl, hob⟩
  · simp [outL, hvs]
  · have : ¬ rows.length = 0 := fun e => hne (List.eq_nil_of_length_eq_zero e)
    simp only [outL, rowsOf, hob, Option.bind_some]
    rw [if_pos (by simp)]
    simp only [List.drop_zero, List.take_length, this, if_false, hvs]
    congr 2
    rw [List.map_congr_left (g := fun r => r) (fun r hr => hg _ r hr)]; simp
end

/-- Whole numbers. -/
def ints (f : Fl) (l : List Int) : V := .im f (l.map fun n => [vi n])
@[go_sem] theorem set_map {α : Type} (g : α → List V) (l : List α) (i : Nat) (x : α) : (l.map g).set i (g x) = (l.set i x).map g := by rw [List.map_set]
@[go_sem] theorem set_ints (l : List Int) (i : Nat) (n : Int) : (l.map fun n => [vi n]).set i [vi n] = (l.set i n).map fun n => [vi n] := by rw [List.map_set]
@[go_sem] theorem cat_ints (l : List Int) (n : Int) : (l.map fun n => [vi n]) ++ [[vi n]] = (l ++ [n]).map fun n => [vi n] := by simp
@[go_sem] theorem rep_ints (k : Nat) (n : Int) : List.replicate k [vi n] = (List.replicate k n).map fun n => [vi n] := by simp
/-- Rows of whole numbers. -/
def intRows (f : Fl) (l : List (List Int)) : V := .im f (l.map fun v => [ints .b v])

/-- Rows that stand for a list's elements: as appending, handing back and 'nil' see them. -/
theorem all_map {α : Type} (g : α → List V) (k : Nat) (h : ∀ a, okRow k (g a) = true) (l : List α) : (l.map g).all (okRow k) = true := by simp [h]
@[go_sem] theorem nil_map {α : Type} (g : α → List V) (ob : OB) (f : Fl) (l : List α) : isNil ob 0 (.im f (l.map g)) = some (if l = [] then .q else .c (.bool false)) := by cases l <;> rfl
theorem g_map {α : Type} (g : α → List V) (h : ∀ ob' a, (g a).map (gV ob' 6) = g a) (ob' : OB) (l : List α) : ∀ r ∈ l.map g, r.map (gV ob' 6) = r := by
  intro r hr; obtain ⟨n, _, rfl⟩ := List.mem_map.1 hr; exact h _ _
theorem allInts (l : List Int) : (l.map fun n => [vi n]).all (okRow 1) = true := all_map _ _ (fun _ => rfl) l
theorem gInts (ob' : OB) (l : List Int) : ∀ r ∈ l.map (fun n => [vi n]), r.map (gV ob' 6) = r := g_map _ (fun _ _ => rfl) ob' l
@[go_sem] theorem op_bsl0 (k : Nat) (z : List V) (fz : Bool) (ob : OB) (i : Nat) : opF (.bsl k z [] 0 fz) [] ob i = some (.z, []) := by
  simp [opF, fill]
/-- Literals of one, two, three elements of one cell each. -/
@[go_sem] theorem op_bsl_1 (z a : V) (ob : OB) (i : Nat) (h : okRow 1 (cellsV a) = true) : opF (.bsl 1 [z] [0] 1 true) [a] ob i = some (.im .b [cellsV a], []) := by
  simp [okRow] at h
  obtain ⟨x, hx⟩ := List.length_eq_one_iff.1 h.1
  simp [hx] at h
  simp [opF, fill, hx, okRow, h]
@[go_sem] theorem op_bsl_2 (z a b : V) (ob : OB) (i : Nat) (h : okRow 1 (cellsV a) = true) (k : okRow 1 (cellsV b) = true) : opF (.bsl 1 [z] [0, 1] 2 true) [a, b] ob i = some (.im .b [cellsV a, cellsV b], []) := by
  simp [okRow] at h k
  obtain ⟨x, hx⟩ := List.length_eq_one_iff.1 h.1
  obtain ⟨y, hy⟩ := List.length_eq_one_iff.1 k.1
  simp [hx] at h; simp [hy] at k
  simp [opF, fill, hx, hy, okRow, h, k, List.range_succ]
@[go_sem] theorem op_bsl_3 (z a b c : V) (ob : OB) (i : Nat) (h : okRow 1 (cellsV a) = true) (k : okRow 1 (cellsV b) = true) (m : okRow 1 (cellsV c) = true) : opF (.bsl 1 [z] [0, 1, 2] 3 true) [a, b, c] ob i = some (.im .b [cellsV a, cellsV b, cellsV c], []) := by
  simp [okRow] at h k m
  obtain ⟨x, hx⟩ := List.length_eq_one_iff.1 h.1
  obtain ⟨y, hy⟩ := List.length_eq_one_iff.1 k.1
  obtain ⟨w, hw⟩ := List.length_eq_one_iff.1 m.1
  simp [hx] at h; simp [hy] at k; simp [hw] at m
  simp [opF, fill, hx, hy, hw, okRow, h, k, m, List.range_succ]
@[go_sem] theorem fill_n (l : List V) : fill l [] [] = some l := (rfl)
@[go_sem] theorem fill_c (l : List V) (o n : Nat) (ps : List (Nat × Nat)) (v : V) (vs : List V) : fill l ((o, n) :: ps) (v :: vs) = if (cellsV v).length = n ∧ o + n ≤ l.length ∧ (cellsV v).all leaf then fill (l.take o ++ cellsV v ++ l.drop (o + n)) ps vs else none := (rfl)
@[go_sem] theorem cast0 : ((0 : Nat) : Int) = 0 := (rfl)
@[go_sem] theorem cast1 : ((1 : Nat) : Int) = 1 := (rfl)
@[go_sem] theorem cast2 : ((2 : Nat) : Int) = 2 := (rfl)
@[go_sem] theorem cast3 : ((3 : Nat) : Int) = 3 := (rfl)
@[go_sem] theorem okRow_e (k : Nat) (r : List V) : okRow k r = (r.length == k && r.all leaf) := (rfl)
@[go_sem] theorem leaf_i (k : IntKind) (n : Int) : leaf (.c (.int k n)) = true := (rfl)
@[go_sem] theorem leaf_b (b : Bool) : leaf (.c (.bool b)) = true := (rfl)
@[go_sem] theorem leaf_s (b : ByteArray) : leaf (.c (.string b)) = true := (rfl)
@[go_sem] theorem leaf_z : leaf .z = true := (rfl)
@[go_sem] theorem leaf_im (f : Fl) (l : List (List V)) : leaf (.im f l) = true := (rfl)
@[go_sem] theorem leaf_sl (a b c : Nat) : leaf (.sl a b c) = true := (rfl)
@[go_sem] theorem leaf_fn (f : Nat) (c : List V) : leaf (.fn f c) = true := (rfl)
/-- A slice over an object, as a call sees it. -/
def resS (ob : OB) (n : Nat) : Option (List (List V)) → V
  | some l => .im .n (l.map fun r => r.map (resV ob n))
  | none => .u
@[go_sem] theorem resS_s (ob : OB) (n : Nat) (l : List (List V)) : resS ob n (some l) = .im .n (l.map fun r => r.map (resV ob n)) := (rfl)
@[go_sem] theorem res_sl (ob : OB) (n id off len : Nat) : resV ob (n + 1) (.sl id off len) = resS ob n (rowsOf ob (.sl id off len)) := by
  simp only [resV]; cases rowsOf ob (.sl id off len) <;> rfl
@[go_sem] theorem take_map_len {α : Type} (g : α → List V) (l : List α) : (l.map g).take l.length = l.map g := by simp [List.take_of_length_le]
/-- A whole object, handed back. -/
theorem out_at {α : Type} (g : α → List V) (hg : ∀ ob' a, (g a).map (gV ob' 6) = g a) {ob : OB} {id len k : Nat} {cap : Option Nat} {l : List α} (hob : ob id = some ⟨k, l.map g, cap⟩) (hlen : len = l.length) (h0 : l.length ≠ 0) (vs : List V) (hvs : ∀ ob', vs.map (gV ob' 6) = vs) :
    outL ob (.sl id 0 len :: vs) = .im .o (l.map g) :: vs := by
  refine out_own (n := id + 1) (k := k) (.inr ⟨fun e => h0 (by simpa using congrArg List.length e), id, cap, by omega, by simp [hlen], hob⟩) (fun ob' => g_map g hg ob' l) vs hvs
@[go_sem] theorem mxS_i (k k' : IntKind) (a b : Int) : mxS (.int k a) (.int k' b) = some (.int k (max a b)) := by simp only [mxS]; congr 2; split <;> omega
@[go_sem] theorem mnS_i (k k' : IntKind) (a b : Int) : mnS (.int k a) (.int k' b) = some (.int k (min a b)) := by simp only [mnS]; congr 2; split <;> omega
attribute [go_sem] decide_true decide_false
attribute [go_sem] List.all_cons List.all_nil Bool.and_true Bool.true_and beq_self_eq_true
attribute [go_sem] Int.toNat_natCast
end Go.Proofs.Ytbojpedklnmidaa.D
end
section
set_option linter.unusedVariables false
set_option linter.unusedSimpArgs false
set_option linter.constructorNameAsVariable false
/- An argument of any kind that reads as data has a plain value behind it. No condition. -/
namespace Go.Proofs.Ytbojpedklnmidaa.D
open Go Go.RowKit

def gInt (k : IntKind) (x : Int) : Prop := (Lit.int k x).wf = true
def gStr (s : ByteArray) : Prop := s.size ≤ Go.maxLen
def gList {α : Type} (p : α → Prop) (l : List α) : Prop := l.length ≤ Go.maxLen ∧ ∀ x ∈ l, p x

/-- All may be handed back. -/
@[reducible] def bkA : Bk := ⟨fun _ => True⟩
abbrev okA (W : World) := @okf bkA (fun _ => none) W.heap.size W.heap.size
abbrev RVa (W : World) := RVs W (okA W) (fun _ => none)

/-- Whatever reads as data of type t is a plain value of this kind. -/
def Opn {H : Type} (enc : TypeId × Value → H) (P : Program) (t : TypeId) {α : Type} (m : α → List V) (good : α → Prop) : Prop :=
  ∀ {W : World} {base : Nat} {sp : Nat → Bool} {held : Bool} {fuel : Nat} {cs : List Value} {x : DataW H × List MemPlace}, DataW.trod enc P W base sp held fuel t cs = some x → ∃ a, RVa W (m a) cs ∧ good a

theorem RVs_one {w : World} {ok : Fl → Nat → Prop} {loc : Loc} {v : V} {x : Value} (h : RV w ok loc v x) : RVs w ok loc [v] [x] :=
  ⟨rfl, fun i v' x' hv hx => by
    cases i with
    | zero => simp at hv hx; subst hv hx; exact h
    | succ i => simp at hv⟩
theorem RVs_nil {w : World} {ok : Fl → Nat → Prop} {loc : Loc} : RVs w ok loc [] [] := ⟨rfl, fun i v x hv => by simp at hv⟩
theorem RVs_app {w : World} {ok : Fl → Nat → Prop} {loc : Loc} {l m : List V} {xs ys : List Value} (h : RVs w ok loc l xs) (k : RVs w ok loc m ys) : RVs w ok loc (l ++ m) (xs ++ ys) := by
  refine ⟨by simp [h.1, k.1], fun i v x hv hx => ?_⟩
  by_cases hi : i < l.length
  · rw [List.getElem?_append_left hi] at hv
    rw [List.getElem?_append_left (by rw [h.1]; exact hi)] at hx
    exact h.2 i v x hv hx
  · rw [List.getElem?_append_right (by omega)] at hv
    rw [List.getElem?_append_right (by rw [h.1]; omega), h.1] at hx
    exact k.2 _ v x hv hx
theorem RVs_cons {w : World} {ok : Fl → Nat → Prop} {loc : Loc} {v : V} {x : Value} {m : List V} {ys : List Value} (h : RV w ok loc v x) (k : RVs w ok loc m ys) : RVs w ok loc (v :: m) (x :: ys) := RVs_app (RVs_one h) k
theorem RVs_head {w : World} {ok : Fl → Nat → Prop} {loc : Loc} {v : V} {x : Value} (h : RVs w ok loc [v] [x]) : RV w ok loc v x := h.2 0 v x rfl rfl
section
variable {H : Type} {enc : TypeId × Value → H} {P : Program} {t e : TypeId}

theorem opn_int {k : IntKind} (hu : P.underlying t = some (.int k)) : Opn enc P t (fun n => [.c (.int k n)]) (gInt k) := by
  intro W base sp held fuel cs x h
  obtain ⟨n, rfl, _, hw⟩ := DataW.trod_int hu h
  exact ⟨n, RVs_one (.c _), hw⟩
theorem opn_string (hu : P.underlying t = some .string) : Opn enc P t (fun n => [.c (.string n)]) gStr := by
  intro W base sp held fuel cs x h
  obtain ⟨n, rfl, _, hw⟩ := DataW.trod_string hu h
  exact ⟨n, RVs_one (.c _), hw⟩

theorem list_of {α : Type} {n : Nat} {p : Nat → α → Prop} (h : ∀ i, i < n → ∃ a, p i a) : ∃ l : List α, l.length = n ∧ ∀ i a, l[i]? = some a → p i a := by
  induction n with
  | zero => exact ⟨[], rfl, fun i a h => by simp at h⟩
  | succ n ih =>
    obtain ⟨l, hl, hp⟩ := ih (fun i hi => h i (by omega))
    obtain ⟨a, ha⟩ := h n (by omega)
    refine ⟨l ++ [a], by simp [hl], fun i b hb => ?_⟩
    by_cases hi : i < n
    · rw [List.getElem?_append_left (by omega)] at hb
      exact hp i b hb
    · have hi2 : i < (l ++ [a]).length := (List.getElem?_eq_some_iff.1 hb).1
      have hi3 : i = n := by simp at hi2; omega
      subst hi3
      rw [List.getElem?_append_right (by omega)] at hb
      simp [hl] at hb
      subst hb
      exact ha
theorem mapM_get {α β : Type} {f : α → Option β} : ∀ {l : List α} {r : List β}, l.mapM f = some r → ∀ (i : Nat) (a : α), l[i]? = some a → f a = r[i]?
  | [], r, h, i, a, ha => by simp at ha
  | x :: l, r, h, i, a, ha => by
    simp only [List.mapM_cons, Option.bind_eq_bind, Option.bind_eq_some_iff, Option.pure_def, Option.some.injEq] at h
    obtain ⟨y, h1, ys, h2, rfl⟩ := h
    cases i with
    | zero => simp at ha; subst ha; simpa using h1
    | succ i => simpa using mapM_get h2 i a (by simpa using ha)
theorem cell_lt {w : World} {a : Addr} {v : Value} (h : w.cell? a = some v) : a.block < w.heap.size ∧ a.spot = none := by
  unfold World.cell? at h
  split at h
  · rename_i c _ _ he
    refine ⟨(Array.getElem?_eq_some_iff.1 he).1, ?_⟩
    cases hs : a.spot with
    | none => rfl
    | some x => rw [hs] at h; simp at h
  · cases h

theorem add_of {a : Addr} (hs : a.spot = none) (n : Nat) : a.add n = ⟨a.block, a.off + n, none⟩ := by
  obtain ⟨b, o, s⟩ := a
  simp at hs; subst hs
  unfold Addr.add
  split
  · rename_i h; subst h; rfl
  · rfl

theorem opn_slice {α : Type} {m : α → List V} {g : α → Prop} {sz : Nat} (hu : P.underlying t = some (.slice e)) (he : Opn enc P e m g) (hs : P.cellsOf e = sz) (h0 : 0 < sz) (hm : ∀ a, (m a).length = sz) :
    Opn enc P t (fun l => [.im .b (l.map m)]) (gList g) := by
  intro W base sp held fuel cs x h
  rcases DataW.trod_slice hu h with ⟨rfl, _⟩ | ⟨a, len, cap, elems, rest, fl, _, rfl, _, _, hl, hc, hel, hi, _, _⟩
  · exact ⟨[], RVs_one (.e _ _ _ (fun h => by cases h)), by simp, by simp⟩
  · have key : ∀ i, i < len → ∃ b : α, (∃ c, RVa W (m b) c ∧ ∀ j u, c[j]? = some u → W.cell? ((a.add (i * sz)).add j) = some u) ∧ g b := by
      intro i hlt
      have h1 := hi i hlt
      rw [List.getElem?_eq_getElem (by omega)] at h1
      obtain ⟨c, hc, htr⟩ := Option.bind_eq_some_iff.1 h1
      obtain ⟨b, hb, hg⟩ := he htr
      rw [hs] at hc
      unfold World.cells? at hc
      split at hc
      · refine ⟨b, ⟨c, hb, fun j u hu => ?_⟩, hg⟩
        have hj : j < sz := by have := (List.getElem?_eq_some_iff.1 hu).1; rw [hb.1, hm] at this; exact this
        have h2 := mapM_get hc j j (by simp [hj])
        rw [hu] at h2
        exact h2
      · cases hc
    obtain ⟨l, hll, hp⟩ := list_of key
    refine ⟨l, RVs_one ?_, by rw [hll]; omega, fun b hb => ?_⟩
    · cases l with
      | nil => simp at hll; subst hll; exact .e _ _ _ (fun h => by cases h)
      | cons b0 l0 =>
        have hl0 : 0 < len := by rw [← hll]; simp
        obtain ⟨⟨c0, hb0, hc0⟩, _⟩ := hp 0 b0 rfl
        have hlen0 : c0.length = sz := by rw [hb0.1, hm]
        have hx := hc0 0 _ (List.getElem?_eq_getElem (by omega))
        simp only [Nat.zero_mul] at hx
        have ha0 : (a.add 0).add 0 = a := rfl
        rw [ha0] at hx
        obtain ⟨hblk, hspot⟩ := cell_lt hx
        have hadd : ∀ i j, (a.add (i * sz)).add j = ⟨a.block, a.off + i * sz + j, none⟩ := fun i j => by
          rw [add_of hspot, add_of rfl]
        have hcell : ∀ i j v, el ((b0 :: l0).map m) i j = some v → ∃ u, W.cell? ⟨a.block, a.off + i * sz + j, none⟩ = some u ∧ RV W (okA W) (fun _ => none) v u := by
          intro i j v hv
          unfold el at hv
          rw [List.getElem?_map] at hv
          cases hb : (b0 :: l0)[i]? with
          | none => rw [hb] at hv; simp at hv
          | some b =>
            rw [hb] at hv
            simp at hv
            obtain ⟨⟨c, hr, hcc⟩, _⟩ := hp i b hb
            have hj : j < c.length := by rw [hr.1]; exact (List.getElem?_eq_some_iff.1 hv).1
            refine ⟨c[j], by rw [← hadd]; exact hcc j _ (List.getElem?_eq_getElem hj), hr.2 j v _ hv (List.getElem?_eq_getElem hj)⟩
        have hae : a = ⟨a.block, a.off, none⟩ := by obtain ⟨_, _, s⟩ := a; simp at hspot; subst hspot; rfl
        rw [hae]
        refine RV.im _ _ sz _ _ _ _ (fun i j => (W.cell? ⟨a.block, a.off + i * sz + j, none⟩).getD (.bool false)) (by rw [← hll]; simp) ?_ hl ⟨rfl, hblk, .inr (.inl ⟨rfl, trivial⟩)⟩ ?_ ?_
        · intro ch hch
          obtain ⟨b, _, rfl⟩ := List.mem_map.1 hch
          exact hm b
        · intro i j v hv
          obtain ⟨u, hu, _⟩ := hcell i j v hv
          simp only [hu, Option.getD_some]
        · intro i j v hv
          obtain ⟨u, hu, hr⟩ := hcell i j v hv
          simp only [hu, Option.getD_some]
          exact hr
    · obtain ⟨i, hi, rfl⟩ := List.getElem_of_mem hb
      exact (hp i _ (List.getElem?_eq_getElem hi)).2

/-- One field of a struct. -/
theorem opn_field {α : Type} {m : α → List V} {g : α → Prop} {fs : Array Field} {n sz : Nat} {W : World} {base : Nat} {sp : Nat → Bool} {held : Bool} {cs : List Value} {xs : List (DataW H × List MemPlace)} (hx : xs.length = fs.size)
    (hf : ∀ (i : Nat) (f : Field), fs[i]? = some f → DataW.trod enc P W base sp held n f.type ((cs.drop f.offset).take (P.cellsOf f.type)) = xs[i]?)
    (i : Nat) (f : Field) (hi : fs[i]? = some f) (ho : Opn enc P f.type m g) (hs : P.cellsOf f.type = sz) : ∃ a, RVa W (m a) ((cs.drop f.offset).take sz) ∧ g a := by
  have h := hf i f hi
  have hlt : i < xs.length := by
    rw [hx]
    rcases Nat.lt_or_ge i fs.size with h | h
    · exact h
    · rw [Array.getElem?_eq_none h] at hi
      cases hi
  rw [List.getElem?_eq_getElem hlt, hs] at h
  exact ho h
/-- Fields side by side. -/
theorem rv_fields {W : World} {l m : List V} {cs : List Value} {o n : Nat} (h : RVa W l ((cs.drop o).take n)) (k : RVa W m (cs.drop (o + n))) : RVa W (l ++ m) (cs.drop o) := by
  have := RVs_app h k
  rw [← List.drop_drop, List.take_append_drop] at this
  exact this
theorem rv_last {W : World} {l : List V} {cs : List Value} {o n : Nat} (h : RVa W l ((cs.drop o).take n)) (hl : cs.length = o + n) : RVa W l (cs.drop o) := by
  rw [List.take_of_length_le (by simp [hl])] at h
  exact h

/-- An argument that is one cell; one that is a struct. -/
theorem arg_one {α : Type} {m : α → V} {g : α → Prop} (ho : Opn enc P t (fun a => [m a]) g) {W : World} {sp : Nat → Bool} {held : Bool} {v : Value} {d : DataW H} {p : List MemPlace} {base : Nat} (hv : v.cells = #[v])
    (h : DataW.Trod enc P W base sp held t v d p) : ∃ a, RV W (okA W) (fun _ => none) (m a) v ∧ g a := by
  obtain ⟨fuel, hf⟩ := h
  rw [hv] at hf
  obtain ⟨a, h1, h2⟩ := ho hf
  exact ⟨a, RVs_head h1, h2⟩
end
/-- A law that answers true. -/
theorem res_true {B : Nat → Prop} {w : World} {n : Nat} {x : Value} (h : ResV B w n (vb true) x) : x = .bool true := by
  obtain ⟨_, _, h, _⟩ := h
  obtain ⟨_, h⟩ := h 0 (vb true) x rfl rfl
  cases h; rfl
end Go.Proofs.Ytbojpedklnmidaa.D
end
section
set_option linter.unusedVariables false
set_option linter.unusedSimpArgs false
set_option linter.constructorNameAsVariable false
/- Walking over plain values: joins, and functions that share the store. No condition. -/
namespace Go.Proofs.Ytbojpedklnmidaa.D
open Go Go.RowKit

section
variable {P : Program}
theorem gd_mono {g : Option (Nat × Bool)} {env : Env} {A B A' B' : Prop} (hA : A → A') (hB : B → B') (h : gd g env A B) : gd g env A' B' := by
  unfold gd at *
  split
  · exact hA h
  · obtain ⟨b, h1, h2, h3⟩ := h
    exact ⟨b, h1, fun e => hA (h2 e), fun e => hB (h3 e)⟩
theorem FnS_mono {f : FuncId} {args : List V} {ob : OB} {nid : Nat} {C C' : V → OB → Nat → Prop} (hC : ∀ r ob' n, C r ob' n → C' r ob' n) (h : FnS P f args ob nid C) : FnS P f args ob nid C' :=
  ⟨h.1, fun B n0 w own loc xs h1 h2 h3 h4 => (h.2 B n0 w own loc xs h1 h2 h3 h4).mono fun e w' ⟨x, r, ob', nid', own', loc', a1, a2, a3, a4, a5, a6⟩ => ⟨x, r, ob', nid', own', loc', a1, a2, a3, a4, a5, hC _ _ _ a6⟩⟩
theorem FnX_mono {f : FuncId} {args : List V} {ob : OB} {nid : Nat} {C C' : V → OB → Nat → Prop} (hC : ∀ r ob' n, C r ob' n → C' r ob' n) (h : FnX P f args ob nid C) : FnX P f args ob nid C' :=
  fun B n0 w own loc xs h1 h2 h3 h4 => let ⟨x, w', r, ob', nid', own', loc', a1, a2, a3, a4, a5, a6⟩ := h B n0 w own loc xs h1 h2 h3 h4; ⟨x, w', r, ob', nid', own', loc', a1, a2, a3, a4, a5, hC _ _ _ a6⟩
theorem stpR_mono {op : Ok} {vs : List V} {ob : OB} {nid : Nat} {C C' : V → OB → Nat → Prop} (hC : ∀ r ob' n, C r ob' n → C' r ob' n) (h : stpR P op vs ob nid C) : stpR P op vs ob nid C' := by
  cases op <;> first
    | exact h.imp (FnS_mono hC) (FnX_mono hC)
    | (obtain ⟨it, id, seen, rows, c, c', a, b, d, e, f⟩ := h; exact ⟨it, id, seen, rows, c, c', a, b, d, fun hh => hC _ _ _ (e hh), fun i kv vv h1 h2 h3 => hC _ _ _ (f i kv vv h1 h2 h3)⟩)
    | (obtain ⟨r, us, h1, h2⟩ := h; exact ⟨r, us, h1, hC _ _ _ h2⟩)
theorem wpS_mono : ∀ {l : List RO} {nid : Nat} {env : Env} {ob : OB} {J J' : Env → OB → Nat → Prop} (hJ : ∀ env ob n, J env ob n → J' env ob n), wpS P l nid env ob J → wpS P l nid env ob J'
  | [], nid, env, ob, J, J', hJ, h => hJ _ _ _ h
  | o :: l, nid, env, ob, J, J', hJ, h => by
    simp only [wpS] at h ⊢
    exact gd_mono (stpR_mono fun r ob' n h => wpS_mono hJ h) (wpS_mono hJ) h
theorem wpD_mono : ∀ {l : List RO} {nid : Nat} {env : Env} {ob : OB} {dl : Ups} {K K' : Env → OB → Prop} (hK : ∀ env ob, K env ob → K' env ob), wpD P l nid env ob dl K → wpD P l nid env ob dl K'
  | [], nid, env, ob, dl, K, K', hK, h => hK _ _ h
  | o :: l, nid, env, ob, dl, K, K', hK, h => by
    simp only [wpD] at h ⊢
    exact gd_mono (fun ⟨r, us, h1, h2⟩ => ⟨r, us, h1, wpD_mono hK h2⟩) (wpD_mono hK) h
theorem wpE_mono : ∀ {l : List RO} {nps : List (List Nat)} {nid : Nat} {env : Env} {ob : OB} {past : List (List Nat × Option (List Nat))} {K K' : Env → OB → Prop} (hK : ∀ env ob, K env ob → K' env ob), wpE P l nps nid env ob past K → wpE P l nps nid env ob past K'
  | [], nps, nid, env, ob, past, K, K', hK, h => hK _ _ h
  | o :: l, nps, nid, env, ob, past, K, K', hK, h => by
    simp only [wpE] at h ⊢
    exact gd_mono (fun ⟨r, us, h1, h2, h3⟩ => ⟨r, us, h1, h2, wpE_mono hK h3⟩) (wpE_mono hK) h
theorem wpC_mono : ∀ {c : IC} {Q Q' : Post} (hQ : ∀ e env ob n, Q e env ob n → Q' e env ob n) {env : Env} {ob : OB} {n : Nat}, wpC P c Q env ob n → wpC P c Q' env ob n := by
  intro c
  induction c with
  | skip => intro Q Q' hQ env ob n h; exact hQ _ _ _ _ h
  | rg l d =>
    intro Q Q' hQ env ob n h
    cases d with
    | false => exact wpS_mono (fun env ob n h => hQ _ _ _ _ h) h
    | true => exact wpD_mono (fun env ob h => hQ _ _ _ _ h) h
  | rb a o b =>
    intro Q Q' hQ env ob n h
    exact wpD_mono (fun env ob h => wpS_mono (fun env ob n h => wpD_mono (fun env ob h => hQ _ _ _ _ h) h) h) h
  | re m np =>
    intro Q Q' hQ env ob n h
    exact wpE_mono (fun env ob h => hQ _ _ _ _ h) h
  | sq a b iha ihb =>
    intro Q Q' hQ env ob n h
    refine iha (fun e env ob n h => ?_) h
    cases e with
    | nrm => exact ihb hQ h
    | ex i => exact hQ _ _ _ _ h
    | rt => exact hQ _ _ _ _ h
  | cn c a b iha ihb =>
    intro Q Q' hQ env ob n h
    simp only [wpC, cnd] at h ⊢
    split
    · rename_i t heq; rw [heq] at h; exact ⟨fun e => iha hQ (h.1 e), fun e => ihb hQ (h.2 e)⟩
    · rename_i heq; rw [heq] at h; exact ⟨iha hQ h.1, ihb hQ h.2⟩
    · rename_i h1 h2
      split at h
      · rename_i t heq; exact h1 t heq
      · rename_i heq; exact h2 heq
      · exact h
  | bl i a ih =>
    intro Q Q' hQ env ob n h
    refine ih (fun e env ob n h => ?_) h
    cases e with
    | ex j => simp only [blQ] at h ⊢; split <;> rename_i hj <;> simp only [hj, if_true, if_false] at h <;> exact hQ _ _ _ _ h
    | nrm => exact hQ _ _ _ _ h
    | rt => exact hQ _ _ _ _ h
  | lp a ih =>
    intro Q Q' hQ env ob n h
    obtain ⟨I, μ, h0, h1⟩ := h
    refine ⟨I, μ, h0, fun env ob n hI => ih (fun e env ob n h => ?_) (h1 env ob n hI)⟩
    cases e with
    | nrm => exact h
    | ex j => exact hQ _ _ _ _ h
    | rt => exact hQ _ _ _ _ h
  | ex i => intro Q Q' hQ env ob n h; exact hQ _ _ _ _ h
  | rt => intro Q Q' hQ env ob n h; exact hQ _ _ _ _ h

theorem cut_C {A B : IC} {Q : Post} {env : Env} {ob : OB} {n : Nat} (I : Env → OB → Nat → Prop) (h1 : wpC P A (thenQ I Q) env ob n) (h2 : ∀ env ob n, I env ob n → wpC P B Q env ob n) : wpC P A (thenQ (wpC P B Q) Q) env ob n := by
  refine wpC_mono (fun e env ob n h => ?_) h1
  cases e with
  | nrm => exact h2 _ _ _ h
  | ex i => exact h
  | rt => exact h
theorem rcS_i {f : Nat} {vs : List V} {d : Option Nat} {l : List RO} {n : Nat} {env : Env} {ob : OB} {J : Env → OB → Nat → Prop} (h : FnS P f vs ob n fun r ob' n' => wpS P l n' (put env d r) ob' J) : rcS P f vs d l n env ob J := .inl h
theorem nxt_i {it id : Nat} {seen : List Nat} {rows : List (List V)} {cap cap' : Option Nat} {d : Option Nat} {l : List RO} {n : Nat} {env : Env} {ob : OB} {J : Env → OB → Nat → Prop} (hI : ob it = some ⟨0, itRows id rows.length seen, cap⟩) (hM : ob id = some ⟨0, rows, cap'⟩)
    (h1 : (∀ i, i < rows.length → i ∈ seen) → wpS P l n (put env d (.tp [.c (.bool false)])) ob J)
    (h2 : ∀ i kv vv, i < rows.length → i ∉ seen → rows[i]? = some [kv, vv] → wpS P l n (put env d (.tp [.c (.bool true), kv, vv])) (updO ob it (some ⟨0, itRows id rows.length (seen ++ [i]), none⟩)) J) : nxtS P [.mi it] d l n env ob J :=
  ⟨it, id, seen, rows, cap, cap', rfl, hI, hM, h1, fun i kv vv a b c => h2 i kv vv a b c⟩
theorem ent_i {it id i : Nat} {seen : List Nat} {rows : List (List V)} {cap cap' : Option Nat} {kv vv : V} {ob : OB} {nid : Nat} (hI : ob it = some ⟨0, itRows id rows.length (seen ++ [i]), cap⟩) (hM : ob id = some ⟨0, rows, cap'⟩) (h : rows[i]? = some [kv, vv]) :
    opF .ent [.mi it] ob nid = some (.tp [kv, vv], []) := by
  simp [opF, hI, entV, hM, h]
end

section
variable {P : Program}
/-- What is behind the elements that are known: cells of whatever content. -/
theorem WF.grow [Bk] {n0 : Nat} {w : World} {own : Nat → Option Nat} {loc : Loc} {ob : OB} (hwf : WF n0 w own loc ob) {id : Nat} {o : Ob} (hob : ob id = some o) (hk0 : 0 < o.k) :
    ∃ c, o.l.length ≤ c ∧ (∀ c0, o.cap = some c0 → c0 = c) ∧ WF n0 w own loc (updO ob id (some ⟨o.k, o.l ++ List.replicate (c - o.l.length) (List.replicate o.k .u), some c⟩)) := by
  obtain ⟨p, hp, hxr⟩ := hwf.has id o hob
  obtain ⟨hmp, hor⟩ := hxr.cells (by omega)
  refine ⟨p.cap, hor.len, hor.cap, ⟨fun j x hx => ?_, hwf.owns, hwf.lt⟩⟩
  by_cases hj : j = id
  · subst hj
    rw [updO_s] at hx
    injection hx with hx; subst hx
    obtain ⟨cs, t, hm1, hm2⟩ := hor.mem
    refine ⟨p, hp, .of hmp ⟨⟨cs, t, hm1, hm2⟩, hor.k, by simp; have := hor.len; omega, fun ch hch => ?_, fun i q v hv => ?_, fun c hc => by injection hc with hc; exact hc.symm⟩⟩
    · rcases List.mem_append.1 hch with h | h
      · exact hor.rows ch h
      · rw [List.eq_of_mem_replicate h]; simpa using hor.k
    · obtain ⟨r, h1, h2⟩ := el_some hv
      by_cases hi : i < o.l.length
      · rw [List.getElem?_append_left hi] at h1
        exact hor.cells i q v (el_mk h1 h2)
      · rw [List.getElem?_append_right (by omega)] at h1
        have hi2 : i - o.l.length < p.cap - o.l.length := by have := (List.getElem?_eq_some_iff.1 h1).1; simpa using this
        rw [List.getElem?_replicate, if_pos hi2] at h1
        injection h1 with h1; subst h1
        have hq : q < o.k := by have := (List.getElem?_eq_some_iff.1 h2).1; simpa using this
        rw [List.getElem?_replicate, if_pos hq] at h2
        injection h2 with h2; subst h2
        have hlt : p.base + i * p.k + q < cs.size := by
          have h3 : (i + 1) * p.k ≤ p.cap * p.k := Nat.mul_le_mul_right _ (by omega)
          rw [Nat.add_mul] at h3
          have := hor.k; omega
        exact ⟨cs[p.base + i * p.k + q], by simp [World.cell?, hm1, hlt], .u _⟩
  · rw [updO, if_neg hj] at hx
    exact hwf.has j x hx
/-- Less is known. -/
def Less (ob'' ob' : OB) : Prop := ∀ id o, ob'' id = some o → ∃ o', ob' id = some o' ∧ o.k = o'.k ∧ (∃ m, o.l = o'.l.take m) ∧ (∀ c, o.cap = some c → o'.cap = some c) ∧ (o.k = 0 → o = o')
end

end Go.Proofs.Ytbojpedklnmidaa.D
end
section
set_option linter.unusedVariables false
set_option maxRecDepth 100000
set_option linter.constructorNameAsVariable false
/- The functions, told over by a program of this session; Lean checks that they are the program's own. No condition. -/
namespace Go.Proofs.Ytbojpedklnmidaa.D
open Go Go.Proofs
-- raddle/raddlelaw26.AuditOf
def c3 : IC := .sq (.rg [⟨(some 8), none, .mv, [.k (.c (.bool false))]⟩] false) (.sq (.sq (.rg [⟨(some 18), none, .mv, [.t 1]⟩, ⟨(some 19), none, (.call 8 .fz), [.t 18]⟩, ⟨(some 20), none, .mv, [.t 19]⟩, ⟨(some 21), (some (20, false)), .mv, [.t 1]⟩, ⟨(some 22), (some (20, false)), .len, [.t 21]⟩, ⟨(some 23), (some (20, false)), (.bin .gtr), [.t 22, .k (.c (.int .i64 40))]⟩, ⟨(some 24), none, .pick, [.t 20, .k (.c (.bool true)), .t 23]⟩, ⟨(some 25), none, .mv, [.t 24]⟩, ⟨(some 26), (some (25, false)), .mv, [.t 2]⟩, ⟨(some 27), (some (25, false)), .len, [.t 26]⟩, ⟨(some 28), (some (25, false)), (.bin .gtr), [.t 27, .k (.c (.int .i64 30))]⟩, ⟨(some 29), none, .pick, [.t 25, .k (.c (.bool true)), .t 28]⟩, ⟨(some 30), none, .mv, [.t 29]⟩, ⟨(some 31), (some (30, false)), .mv, [.t 3]⟩, ⟨(some 32), (some (30, false)), .len, [.t 31]⟩, ⟨(some 33), (some (30, false)), (.bin .gtr), [.t 32, .k (.c (.int .i64 30))]⟩, ⟨(some 34), none, .pick, [.t 30, .k (.c (.bool true)), .t 33]⟩] false) (.cn (.t 34) (.sq (.rg [⟨(some 8), none, .mv, [.k (.c (.bool true))]⟩] false) (.rt)) (.skip))) (.sq (.rg [⟨(some 35), none, .mv, [.t 1]⟩, ⟨(some 36), none, .mv, [.t 2]⟩, ⟨(some 37), none, (.call 9 .fz), [.t 35, .t 36]⟩, ⟨(some 38), none, .mv, [.t 1]⟩, ⟨(some 39), none, .mv, [.t 3]⟩, ⟨(some 40), none, (.call 9 .fz), [.t 38, .t 39]⟩, ⟨(some 9), none, .mv, [.t 37]⟩, ⟨(some 10), none, .mv, [.t 40]⟩] false) (.sq (.rg [⟨(some 11), none, .mv, [.k (.c (.int .i64 0))]⟩] false) (.sq (.sq (.rg [⟨(some 12), none, .mv, [.k (.c (.int .i64 0))]⟩] false) (.bl 0 (.lp (.sq (.sq (.rg [⟨(some 41), none, .mv, [.t 12]⟩, ⟨(some 42), none, .mv, [.t 1]⟩, ⟨(some 43), none, .len, [.t 42]⟩, ⟨(some 44), none, (.bin .lss), [.t 41, .t 43]⟩] false) (.cn (.t 44) (.skip) (.ex 0))) (.sq (.bl 1 (.sq (.rg [⟨(some 47), none, .mv, [.t 2]⟩, ⟨(some 48), none, .mv, [.t 1]⟩, ⟨(some 49), none, .mv, [.t 12]⟩, ⟨(some 50), none, (.ia 12), [.t 48, .t 49]⟩, ⟨(some 51), none, (.fa 0), [.t 50]⟩, ⟨(some 52), none, (.ld (some 2)), [.t 51]⟩, ⟨(some 53), none, (.call 10 .fz), [.t 47, .t 52]⟩] false) (.cn (.t 53) (.sq (.sq (.rg [⟨(some 54), none, .mv, [.t 11]⟩, ⟨(some 55), none, .mv, [.t 9]⟩, ⟨(some 56), none, .len, [.t 55]⟩, ⟨(some 57), none, (.bin .geq), [.t 54, .t 56]⟩, ⟨(some 58), none, .mv, [.t 57]⟩, ⟨(some 59), (some (58, false)), .mv, [.t 9]⟩, ⟨(some 60), (some (58, false)), .mv, [.t 11]⟩, ⟨(some 61), (some (58, false)), (.ia 12), [.t 59, .t 60]⟩, ⟨(some 62), (some (58, false)), (.ld (some 12)), [.t 61]⟩, ⟨(some 63), (some (58, false)), .mv, [.t 1]⟩, ⟨(some 64), (some (58, false)), .mv, [.t 12]⟩, ⟨(some 65), (some (58, false)), (.ia 12), [.t 63, .t 64]⟩, ⟨(some 66), (some (58, false)), (.ld (some 12)), [.t 65]⟩, ⟨(some 67), (some (58, false)), (.call 11 .fz), [.t 62, .t 66]⟩, ⟨(some 68), (some (58, false)), (.un .not), [.t 67]⟩, ⟨(some 69), none, .pick, [.t 58, .k (.c (.bool true)), .t 68]⟩] true) (.cn (.t 69) (.sq (.rg [⟨(some 8), none, .mv, [.k (.c (.bool false))]⟩] false) (.rt)) (.skip))) (.rg [⟨(some 70), none, .mv, [.t 11]⟩, ⟨(some 71), none, (.bin .add), [.t 70, .k (.c (.int .i64 1))]⟩, ⟨(some 11), none, .mv, [.t 71]⟩] false)) (.skip)))) (.rg [⟨(some 45), none, .mv, [.t 12]⟩, ⟨(some 46), none, (.bin .add), [.t 45, .k (.c (.int .i64 1))]⟩, ⟨(some 12), none, .mv, [.t 46]⟩] false)))))) (.sq (.sq (.rg [⟨(some 72), none, .mv, [.t 11]⟩, ⟨(some 73), none, .mv, [.t 9]⟩, ⟨(some 74), none, .len, [.t 73]⟩, ⟨(some 75), none, (.bin .neq), [.t 72, .t 74]⟩] false) (.cn (.t 75) (.sq (.rg [⟨(some 8), none, .mv, [.k (.c (.bool false))]⟩] false) (.rt)) (.skip))) (.sq (.sq (.rg [⟨(some 77), none, .mv, [.t 0]⟩, ⟨(some 78), none, .mv, [.t 1]⟩, ⟨(some 79), none, (.call 12 .fz), [.t 77, .t 78]⟩, ⟨(some 76), none, .mv, [.t 79]⟩, ⟨(some 80), none, (.ext 0), [.t 76]⟩, ⟨(some 81), none, (.ext 1), [.t 76]⟩, ⟨(some 13), none, .mv, [.t 80]⟩, ⟨(some 14), none, .mv, [.t 81]⟩] false) (.sq (.rg [⟨(some 82), none, .mv, [.t 14]⟩, ⟨(some 83), none, (.bin .eql), [.t 82, .k (.c (.int .i64 0))]⟩, ⟨(some 84), none, .mv, [.t 83]⟩, ⟨(some 85), (some (84, true)), .mv, [.t 1]⟩, ⟨(some 86), (some (84, true)), .mv, [.t 13]⟩, ⟨(some 87), (some (84, true)), (.call 9 .fz), [.t 85, .t 86]⟩, ⟨(some 88), (some (84, true)), .mv, [.t 1]⟩, ⟨(some 89), (some (84, true)), (.call 13 .fz), [.t 87, .t 88]⟩, ⟨(some 90), (some (84, true)), (.un .not), [.t 89]⟩, ⟨(some 91), none, .pick, [.t 84, .t 90, .k (.c (.bool false))]⟩] false) (.cn (.t 91) (.sq (.rg [⟨(some 8), none, .mv, [.k (.c (.bool false))]⟩] false) (.rt)) (.skip)))) (.sq (.rg [⟨(some 93), none, .mv, [.t 2]⟩, ⟨(some 94), none, .mv, [.t 3]⟩, ⟨(some 95), none, (.call 14 .fz), [.t 93, .t 94]⟩, ⟨(some 92), none, .mv, [.t 95]⟩, ⟨(some 96), none, (.ext 0), [.t 92]⟩, ⟨(some 97), none, (.ext 1), [.t 92]⟩, ⟨(some 15), none, .mv, [.t 96]⟩, ⟨(some 16), none, .mv, [.t 97]⟩] false) (.sq (.sq (.rg [⟨(some 98), none, .mv, [.t 16]⟩, ⟨(some 99), none, (.bin .neq), [.t 98, .k (.c (.int .i64 0))]⟩] false) (.cn (.t 99) (.sq (.rg [⟨(some 100), none, (.call 15 .fz), []⟩, ⟨(some 8), none, .mv, [.t 100]⟩] false) (.rt)) (.skip))) (.sq (.rg [⟨(some 101), none, .mv, [.t 1]⟩, ⟨(some 102), none, .mv, [.t 15]⟩, ⟨(some 103), none, (.call 9 .fz), [.t 101, .t 102]⟩, ⟨(some 17), none, .mv, [.t 103]⟩] false) (.sq (.rg [⟨(some 104), none, .mv, [.t 17]⟩, ⟨(some 105), none, .len, [.t 104]⟩, ⟨(some 106), none, .mv, [.t 9]⟩, ⟨(some 107), none, .len, [.t 106]⟩, ⟨(some 108), none, .mv, [.t 10]⟩, ⟨(some 109), none, .len, [.t 108]⟩, ⟨(some 110), none, (.bin .add), [.t 107, .t 109]⟩, ⟨(some 111), none, (.bin .leq), [.t 105, .t 110]⟩, ⟨(some 112), none, .mv, [.t 111]⟩, ⟨(some 113), (some (112, true)), .mv, [.t 17]⟩, ⟨(some 114), (some (112, true)), .len, [.t 113]⟩, ⟨(some 115), (some (112, true)), .mv, [.t 9]⟩, ⟨(some 116), (some (112, true)), .len, [.t 115]⟩, ⟨(some 117), (some (112, true)), .mv, [.t 10]⟩, ⟨(some 118), (some (112, true)), .len, [.t 117]⟩, ⟨(some 119), (some (112, true)), .mx, [.t 116, .t 118]⟩, ⟨(some 120), (some (112, true)), (.bin .geq), [.t 114, .t 119]⟩, ⟨(some 121), none, .pick, [.t 112, .t 120, .k (.c (.bool false))]⟩, ⟨(some 122), none, .mv, [.t 121]⟩, ⟨(some 123), (some (122, true)), (.call 15 .fz), []⟩, ⟨(some 124), none, .pick, [.t 122, .t 123, .k (.c (.bool false))]⟩, ⟨(some 8), none, .mv, [.t 124]⟩] false) (.rt)))))))))))
-- raddle/raddlelaw26.AuditOrder
def c4 : IC := .sq (.rg [⟨(some 8), none, .mv, [.k (.c (.bool false))]⟩] false) (.sq (.sq (.rg [⟨(some 23), none, .mv, [.t 1]⟩, ⟨(some 24), none, (.call 16 .fz), [.t 23]⟩, ⟨(some 25), none, .mv, [.t 24]⟩, ⟨(some 26), (some (25, false)), .mv, [.t 2]⟩, ⟨(some 27), (some (25, false)), (.call 8 .fz), [.t 26]⟩, ⟨(some 28), none, .pick, [.t 25, .k (.c (.bool true)), .t 27]⟩, ⟨(some 29), none, .mv, [.t 28]⟩, ⟨(some 30), (some (29, false)), .mv, [.t 2]⟩, ⟨(some 31), (some (29, false)), .len, [.t 30]⟩, ⟨(some 32), (some (29, false)), (.bin .gtr), [.t 31, .k (.c (.int .i64 40))]⟩, ⟨(some 33), none, .pick, [.t 29, .k (.c (.bool true)), .t 32]⟩, ⟨(some 34), none, .mv, [.t 33]⟩, ⟨(some 35), (some (34, false)), .mv, [.t 2]⟩, ⟨(some 36), (some (34, false)), .len, [.t 35]⟩, ⟨(some 37), (some (34, false)), (.bin .eql), [.t 36, .k (.c (.int .i64 0))]⟩, ⟨(some 38), none, .pick, [.t 34, .k (.c (.bool true)), .t 37]⟩] false) (.cn (.t 38) (.sq (.rg [⟨(some 8), none, .mv, [.k (.c (.bool true))]⟩] false) (.rt)) (.skip))) (.sq (.sq (.rg [⟨(some 9), none, .mv, [.k (.c (.int .i64 0))]⟩] false) (.bl 0 (.lp (.sq (.sq (.rg [⟨(some 39), none, .mv, [.t 9]⟩, ⟨(some 40), none, .mv, [.t 2]⟩, ⟨(some 41), none, .len, [.t 40]⟩, ⟨(some 42), none, (.bin .lss), [.t 39, .t 41]⟩] false) (.cn (.t 42) (.skip) (.ex 0))) (.sq (.bl 1 (.sq (.sq (.rg [⟨(some 45), none, .mv, [.t 0]⟩, ⟨(some 46), none, .mv, [.t 1]⟩, ⟨(some 47), none, .mv, [.t 2]⟩, ⟨(some 48), none, .mv, [.t 9]⟩, ⟨(some 49), none, (.ia 12), [.t 47, .t 48]⟩, ⟨(some 50), none, (.ld (some 12)), [.t 49]⟩, ⟨(some 51), none, (.call 17 .fz), [.t 45, .t 46, .t 50]⟩, ⟨(some 52), none, (.bin .neq), [.t 51, .k (.c (.int .i64 0))]⟩] false) (.cn (.t 52) (.sq (.rg [⟨(some 8), none, .mv, [.k (.c (.bool true))]⟩] false) (.rt)) (.skip))) (.sq (.rg [⟨(some 10), none, .mv, [.k (.c (.int .i64 0))]⟩] false) (.bl 2 (.lp (.sq (.sq (.rg [⟨(some 53), none, .mv, [.t 10]⟩, ⟨(some 54), none, .mv, [.t 9]⟩, ⟨(some 55), none, (.bin .lss), [.t 53, .t 54]⟩] false) (.cn (.t 55) (.skip) (.ex 2))) (.sq (.bl 3 (.sq (.rg [⟨(some 58), none, .mv, [.t 2]⟩, ⟨(some 59), none, .mv, [.t 9]⟩, ⟨(some 60), none, (.ia 12), [.t 58, .t 59]⟩, ⟨(some 61), none, (.fa 3), [.t 60]⟩, ⟨(some 62), none, (.ld (some 3)), [.t 61]⟩, ⟨(some 63), none, .mv, [.t 2]⟩, ⟨(some 64), none, .mv, [.t 10]⟩, ⟨(some 65), none, (.ia 12), [.t 63, .t 64]⟩, ⟨(some 66), none, (.fa 3), [.t 65]⟩, ⟨(some 67), none, (.ld (some 3)), [.t 66]⟩, ⟨(some 68), none, (.call 18 .fz), [.t 62, .t 67]⟩, ⟨(some 69), none, (.bin .eql), [.t 68, .k (.c (.int .i64 0))]⟩] true) (.cn (.t 69) (.sq (.rg [⟨(some 8), none, .mv, [.k (.c (.bool true))]⟩] false) (.rt)) (.skip)))) (.rg [⟨(some 56), none, .mv, [.t 10]⟩, ⟨(some 57), none, (.bin .add), [.t 56, .k (.c (.int .i64 1))]⟩, ⟨(some 10), none, .mv, [.t 57]⟩] false)))))))) (.rg [⟨(some 43), none, .mv, [.t 9]⟩, ⟨(some 44), none, (.bin .add), [.t 43, .k (.c (.int .i64 1))]⟩, ⟨(some 9), none, .mv, [.t 44]⟩] false)))))) (.sq (.rg [⟨(some 11), none, .mv, [.k .z]⟩] false) (.sq (.sq (.rg [⟨(some 12), none, .mv, [.k (.c (.int .i64 0))]⟩] false) (.bl 4 (.lp (.sq (.sq (.rg [⟨(some 70), none, .mv, [.t 12]⟩, ⟨(some 71), none, .mv, [.t 2]⟩, ⟨(some 72), none, .len, [.t 71]⟩, ⟨(some 73), none, (.bin .lss), [.t 70, .t 72]⟩] false) (.cn (.t 73) (.skip) (.ex 4))) (.sq (.bl 5 (.rg [⟨(some 76), none, .mv, [.t 11]⟩, ⟨(some 77), none, .mv, [.t 2]⟩, ⟨(some 78), none, .mv, [.t 2]⟩, ⟨(some 79), none, .len, [.t 78]⟩, ⟨(some 80), none, .mv, [.t 12]⟩, ⟨(some 81), none, (.bin .sub), [.t 79, .t 80]⟩, ⟨(some 82), none, .mv, [.t 3]⟩, ⟨(some 83), none, (.conv .u64), [.t 82]⟩, ⟨(some 84), none, .mv, [.t 2]⟩, ⟨(some 85), none, .len, [.t 84]⟩, ⟨(some 86), none, (.conv .u64), [.t 85]⟩, ⟨(some 87), none, (.bin .rem), [.t 83, .t 86]⟩, ⟨(some 88), none, (.conv .i64), [.t 87]⟩, ⟨(some 89), none, (.bin .add), [.t 81, .t 88]⟩, ⟨(some 90), none, .mv, [.t 2]⟩, ⟨(some 91), none, .len, [.t 90]⟩, ⟨(some 92), none, (.bin .rem), [.t 89, .t 91]⟩, ⟨(some 93), none, (.ia 12), [.t 77, .t 92]⟩, ⟨(some 94), none, (.ld (some 12)), [.t 93]⟩, ⟨(some 95), none, (.bsl 12 [(.c (.int .i64 0)), (.c (.int .i64 0)), .z, (.c (.int .i64 0)), (.c (.int .i64 0)), (.c (.int .i64 0)), (.c (.int .i64 0)), (.c (.int .i64 0)), (.c (.string ⟨#[]⟩)), (.c (.int .i64 0)), .z, .z] [0] 1 true), [.t 94]⟩, ⟨(some 96), none, (.app 12), [.t 76, .t 95]⟩, ⟨(some 11), none, .mv, [.t 96]⟩] false)) (.rg [⟨(some 74), none, .mv, [.t 12]⟩, ⟨(some 75), none, (.bin .add), [.t 74, .k (.c (.int .i64 1))]⟩, ⟨(some 12), none, .mv, [.t 75]⟩] false)))))) (.sq (.rg [⟨(some 98), none, .mv, [.t 0]⟩, ⟨(some 99), none, .mv, [.t 1]⟩, ⟨(some 100), none, .mv, [.t 2]⟩, ⟨(some 101), none, (.call 19 .fz), [.t 98, .t 99, .t 100]⟩, ⟨(some 97), none, .mv, [.t 101]⟩, ⟨(some 102), none, (.ext 0), [.t 97]⟩, ⟨(some 103), none, (.ext 1), [.t 97]⟩, ⟨(some 13), none, .mv, [.t 102]⟩, ⟨(some 14), none, .mv, [.t 103]⟩] false) (.sq (.rg [⟨(some 105), none, .mv, [.t 0]⟩, ⟨(some 106), none, .mv, [.t 1]⟩, ⟨(some 107), none, .mv, [.t 11]⟩, ⟨(some 108), none, (.call 19 .fz), [.t 105, .t 106, .t 107]⟩, ⟨(some 104), none, .mv, [.t 108]⟩, ⟨(some 109), none, (.ext 0), [.t 104]⟩, ⟨(some 110), none, (.ext 1), [.t 104]⟩, ⟨(some 15), none, .mv, [.t 109]⟩, ⟨(some 16), none, .mv, [.t 110]⟩] false) (.sq (.rg [⟨(some 112), none, .mv, [.t 0]⟩, ⟨(some 113), none, .mv, [.t 1]⟩, ⟨(some 114), none, (.bsl 12 [(.c (.int .i64 0)), (.c (.int .i64 0)), .z, (.c (.int .i64 0)), (.c (.int .i64 0)), (.c (.int .i64 0)), (.c (.int .i64 0)), (.c (.int .i64 0)), (.c (.string ⟨#[]⟩)), (.c (.int .i64 0)), .z, .z] [] 0 true), []⟩, ⟨(some 115), none, .mv, [.t 2]⟩, ⟨(some 116), none, (.app 12), [.t 114, .t 115]⟩, ⟨(some 117), none, .mv, [.t 11]⟩, ⟨(some 118), none, (.app 12), [.t 116, .t 117]⟩, ⟨(some 119), none, (.call 19 .fz), [.t 112, .t 113, .t 118]⟩, ⟨(some 111), none, .mv, [.t 119]⟩, ⟨(some 120), none, (.ext 0), [.t 111]⟩, ⟨(some 121), none, (.ext 1), [.t 111]⟩, ⟨(some 17), none, .mv, [.t 120]⟩, ⟨(some 18), none, .mv, [.t 121]⟩] false) (.sq (.rg [⟨(some 123), none, .mv, [.t 0]⟩, ⟨(some 124), none, .mv, [.t 2]⟩, ⟨(some 125), none, (.call 12 .fz), [.t 123, .t 124]⟩, ⟨(some 122), none, .mv, [.t 125]⟩, ⟨(some 126), none, (.ext 0), [.t 122]⟩, ⟨(some 127), none, (.ext 1), [.t 122]⟩, ⟨(some 19), none, .mv, [.t 126]⟩, ⟨(some 20), none, .mv, [.t 127]⟩] false) (.sq (.rg [⟨(some 129), none, .mv, [.t 0]⟩, ⟨(some 130), none, .mv, [.t 11]⟩, ⟨(some 131), none, (.call 12 .fz), [.t 129, .t 130]⟩, ⟨(some 128), none, .mv, [.t 131]⟩, ⟨(some 132), none, (.ext 0), [.t 128]⟩, ⟨(some 133), none, (.ext 1), [.t 128]⟩, ⟨(some 21), none, .mv, [.t 132]⟩, ⟨(some 22), none, .mv, [.t 133]⟩] false) (.sq (.rg [⟨(some 134), none, .mv, [.t 14]⟩, ⟨(some 135), none, (.bin .eql), [.t 134, .k (.c (.int .i64 0))]⟩, ⟨(some 136), none, .mv, [.t 135]⟩, ⟨(some 137), (some (136, true)), .mv, [.t 16]⟩, ⟨(some 138), (some (136, true)), (.bin .eql), [.t 137, .k (.c (.int .i64 0))]⟩, ⟨(some 139), none, .pick, [.t 136, .t 138, .k (.c (.bool false))]⟩, ⟨(some 140), none, .mv, [.t 139]⟩, ⟨(some 141), (some (140, true)), .mv, [.t 18]⟩, ⟨(some 142), (some (140, true)), (.bin .eql), [.t 141, .k (.c (.int .i64 0))]⟩, ⟨(some 143), none, .pick, [.t 140, .t 142, .k (.c (.bool false))]⟩, ⟨(some 144), none, .mv, [.t 143]⟩, ⟨(some 145), (some (144, true)), .mv, [.t 20]⟩, ⟨(some 146), (some (144, true)), (.bin .eql), [.t 145, .k (.c (.int .i64 0))]⟩, ⟨(some 147), none, .pick, [.t 144, .t 146, .k (.c (.bool false))]⟩, ⟨(some 148), none, .mv, [.t 147]⟩, ⟨(some 149), (some (148, true)), .mv, [.t 22]⟩, ⟨(some 150), (some (148, true)), (.bin .eql), [.t 149, .k (.c (.int .i64 0))]⟩, ⟨(some 151), none, .pick, [.t 148, .t 150, .k (.c (.bool false))]⟩, ⟨(some 152), none, .mv, [.t 151]⟩, ⟨(some 153), (some (152, true)), .mv, [.t 13]⟩, ⟨(some 154), (some (152, true)), .mv, [.t 15]⟩, ⟨(some 155), (some (152, true)), (.call 20 .fz), [.t 153, .t 154]⟩, ⟨(some 156), none, .pick, [.t 152, .t 155, .k (.c (.bool false))]⟩, ⟨(some 157), none, .mv, [.t 156]⟩, ⟨(some 158), (some (157, true)), .mv, [.t 13]⟩, ⟨(some 159), (some (157, true)), .mv, [.t 17]⟩, ⟨(some 160), (some (157, true)), (.call 20 .fz), [.t 158, .t 159]⟩, ⟨(some 161), none, .pick, [.t 157, .t 160, .k (.c (.bool false))]⟩, ⟨(some 162), none, .mv, [.t 161]⟩, ⟨(some 163), (some (162, true)), .mv, [.t 19]⟩, ⟨(some 164), (some (162, true)), .mv, [.t 21]⟩, ⟨(some 165), (some (162, true)), (.call 21 .fz), [.t 163, .t 164]⟩, ⟨(some 166), none, .pick, [.t 162, .t 165, .k (.c (.bool false))]⟩, ⟨(some 167), none, .mv, [.t 166]⟩, ⟨(some 168), (some (167, true)), .mv, [.t 0]⟩, ⟨(some 169), (some (167, true)), .mv, [.t 2]⟩, ⟨(some 170), (some (167, true)), (.call 22 .fz), [.t 168, .t 169]⟩, ⟨(some 171), (some (167, true)), .mv, [.t 0]⟩, ⟨(some 172), (some (167, true)), .mv, [.t 11]⟩, ⟨(some 173), (some (167, true)), (.call 22 .fz), [.t 171, .t 172]⟩, ⟨(some 174), (some (167, true)), (.bb .eql), [.t 170, .t 173]⟩, ⟨(some 175), none, .pick, [.t 167, .t 174, .k (.c (.bool false))]⟩, ⟨(some 176), none, .mv, [.t 175]⟩, ⟨(some 177), (some (176, true)), (.call 15 .fz), []⟩, ⟨(some 178), none, .pick, [.t 176, .t 177, .k (.c (.bool false))]⟩, ⟨(some 8), none, .mv, [.t 178]⟩] false) (.rt)))))))))))
-- raddle/raddlelaw26.AuditClosed
-- raddle/raddlelaw26.AuditKeys
def c6 : IC := .sq (.rg [⟨(some 10), none, .mv, [.k (.c (.bool false))]⟩] false) (.sq (.sq (.rg [⟨(some 20), none, .mv, [.t 1]⟩, ⟨(some 21), none, (.call 16 .fz), [.t 20]⟩, ⟨(some 22), none, .mv, [.t 21]⟩, ⟨(some 23), (some (22, false)), .mv, [.t 2]⟩, ⟨(some 24), (some (22, false)), (.call 8 .fz), [.t 23]⟩, ⟨(some 25), none, .pick, [.t 22, .k (.c (.bool true)), .t 24]⟩, ⟨(some 26), none, .mv, [.t 25]⟩, ⟨(some 27), (some (26, false)), .mv, [.t 2]⟩, ⟨(some 28), (some (26, false)), .len, [.t 27]⟩, ⟨(some 29), (some (26, false)), (.bin .gtr), [.t 28, .k (.c (.int .i64 40))]⟩, ⟨(some 30), none, .pick, [.t 26, .k (.c (.bool true)), .t 29]⟩, ⟨(some 31), none, .mv, [.t 30]⟩, ⟨(some 32), (some (31, false)), .mv, [.t 4]⟩, ⟨(some 33), (some (31, false)), .slen, [.t 32]⟩, ⟨(some 34), (some (31, false)), (.bin .gtr), [.t 33, .k (.c (.int .i64 100))]⟩, ⟨(some 35), none, .pick, [.t 31, .k (.c (.bool true)), .t 34]⟩] false) (.cn (.t 35) (.sq (.rg [⟨(some 10), none, .mv, [.k (.c (.bool true))]⟩] false) (.rt)) (.skip))) (.sq (.sq (.rg [⟨(some 11), none, .mv, [.k (.c (.int .i64 0))]⟩] false) (.bl 0 (.lp (.sq (.sq (.rg [⟨(some 36), none, .mv, [.t 11]⟩, ⟨(some 37), none, .mv, [.t 2]⟩, ⟨(some 38), none, .len, [.t 37]⟩, ⟨(some 39), none, (.bin .lss), [.t 36, .t 38]⟩] false) (.cn (.t 39) (.skip) (.ex 0))) (.sq (.bl 1 (.sq (.rg [⟨(some 42), none, .mv, [.t 0]⟩, ⟨(some 43), none, .mv, [.t 1]⟩, ⟨(some 44), none, .mv, [.t 2]⟩, ⟨(some 45), none, .mv, [.t 11]⟩, ⟨(some 46), none, (.ia 12), [.t 44, .t 45]⟩, ⟨(some 47), none, (.ld (some 12)), [.t 46]⟩, ⟨(some 48), none, (.call 17 .fz), [.t 42, .t 43, .t 47]⟩, ⟨(some 49), none, (.bin .neq), [.t 48, .k (.c (.int .i64 0))]⟩] false) (.cn (.t 49) (.sq (.rg [⟨(some 10), none, .mv, [.k (.c (.bool true))]⟩] false) (.rt)) (.skip)))) (.rg [⟨(some 40), none, .mv, [.t 11]⟩, ⟨(some 41), none, (.bin .add), [.t 40, .k (.c (.int .i64 1))]⟩, ⟨(some 11), none, .mv, [.t 41]⟩] false)))))) (.sq (.sq (.rg [⟨(some 50), none, .mv, [.t 0]⟩, ⟨(some 51), none, (.bin .lss), [.t 50, .k (.c (.int .i64 1))]⟩, ⟨(some 52), none, .mv, [.t 51]⟩, ⟨(some 53), (some (52, false)), .mv, [.t 0]⟩, ⟨(some 54), (some (52, false)), (.bin .gtr), [.t 53, .k (.c (.int .i64 5))]⟩, ⟨(some 55), none, .pick, [.t 52, .k (.c (.bool true)), .t 54]⟩, ⟨(some 56), none, .mv, [.t 55]⟩, ⟨(some 57), (some (56, false)), .mv, [.t 1]⟩, ⟨(some 58), (some (56, false)), (.call 26 .fz), [.t 57]⟩, ⟨(some 59), (some (56, false)), (.bin .neq), [.t 58, .k (.c (.int .i64 0))]⟩, ⟨(some 60), none, .pick, [.t 56, .k (.c (.bool true)), .t 59]⟩] false) (.cn (.t 60) (.sq (.rg [⟨(some 10), none, .mv, [.k (.c (.bool true))]⟩] false) (.rt)) (.skip))) (.sq (.rg [⟨(some 61), none, .mv, [.t 3]⟩, ⟨(some 62), none, (.conv .u64), [.t 61]⟩, ⟨(some 63), none, .mv, [.t 1]⟩, ⟨(some 64), none, .len, [.t 63]⟩, ⟨(some 65), none, (.conv .u64), [.t 64]⟩, ⟨(some 66), none, (.bin .rem), [.t 62, .t 65]⟩, ⟨(some 67), none, (.conv .i64), [.t 66]⟩, ⟨(some 3), none, .mv, [.t 67]⟩] false) (.sq (.rg [⟨(some 12), none, .mv, [.k .z]⟩] false) (.sq (.sq (.rg [⟨(some 13), none, .mv, [.k (.c (.int .i64 0))]⟩] false) (.bl 2 (.lp (.sq (.sq (.rg [⟨(some 68), none, .mv, [.t 13]⟩, ⟨(some 69), none, .mv, [.t 2]⟩, ⟨(some 70), none, .len, [.t 69]⟩, ⟨(some 71), none, (.bin .lss), [.t 68, .t 70]⟩] false) (.cn (.t 71) (.skip) (.ex 2))) (.sq (.bl 3 (.sq (.rg [⟨(some 74), none, .mv, [.t 2]⟩, ⟨(some 75), none, .mv, [.t 13]⟩, ⟨(some 76), none, (.ia 12), [.t 74, .t 75]⟩, ⟨(some 77), none, (.fa 7), [.t 76]⟩, ⟨(some 78), none, (.ld none), [.t 77]⟩, ⟨(some 79), none, .mv, [.t 3]⟩, ⟨(some 80), none, (.bin .eql), [.t 78, .t 79]⟩, ⟨(some 81), none, .mv, [.t 80]⟩, ⟨(some 82), (some (81, true)), .mv, [.t 2]⟩, ⟨(some 83), (some (81, true)), .mv, [.t 13]⟩, ⟨(some 84), (some (81, true)), (.ia 12), [.t 82, .t 83]⟩, ⟨(some 85), (some (81, true)), (.fa 8), [.t 84]⟩, ⟨(some 86), (some (81, true)), (.ld none), [.t 85]⟩, ⟨(some 87), (some (81, true)), .mv, [.t 4]⟩, ⟨(some 88), (some (81, true)), (.bin .eql), [.t 86, .t 87]⟩, ⟨(some 89), none, .pick, [.t 81, .t 88, .k (.c (.bool false))]⟩] false) (.cn (.t 89) (.rg [⟨(some 90), none, .mv, [.t 12]⟩, ⟨(some 91), none, .mv, [.t 2]⟩, ⟨(some 92), none, .mv, [.t 13]⟩, ⟨(some 93), none, (.ia 12), [.t 91, .t 92]⟩, ⟨(some 94), none, (.ld (some 12)), [.t 93]⟩, ⟨(some 95), none, (.bsl 12 [(.c (.int .i64 0)), (.c (.int .i64 0)), .z, (.c (.int .i64 0)), (.c (.int .i64 0)), (.c (.int .i64 0)), (.c (.int .i64 0)), (.c (.int .i64 0)), (.c (.string ⟨#[]⟩)), (.c (.int .i64 0)), .z, .z] [0] 1 true), [.t 94]⟩, ⟨(some 96), none, (.app 12), [.t 90, .t 95]⟩, ⟨(some 12), none, .mv, [.t 96]⟩] false) (.skip)))) (.rg [⟨(some 72), none, .mv, [.t 13]⟩, ⟨(some 73), none, (.bin .add), [.t 72, .k (.c (.int .i64 1))]⟩, ⟨(some 13), none, .mv, [.t 73]⟩] false)))))) (.sq (.rg [⟨(some 98), none, .mv, [.t 0]⟩, ⟨(some 99), none, .mv, [.t 1]⟩, ⟨(some 100), none, .mv, [.t 2]⟩, ⟨(some 101), none, (.call 19 .fz), [.t 98, .t 99, .t 100]⟩, ⟨(some 97), none, .mv, [.t 101]⟩, ⟨(some 102), none, (.ext 0), [.t 97]⟩, ⟨(some 103), none, (.ext 1), [.t 97]⟩, ⟨(some 14), none, .mv, [.t 102]⟩, ⟨(some 15), none, .mv, [.t 103]⟩] false) (.sq (.rg [⟨(some 105), none, .mv, [.t 0]⟩, ⟨(some 106), none, .mv, [.t 1]⟩, ⟨(some 107), none, .mv, [.t 12]⟩, ⟨(some 108), none, (.call 19 .fz), [.t 105, .t 106, .t 107]⟩, ⟨(some 104), none, .mv, [.t 108]⟩, ⟨(some 109), none, (.ext 0), [.t 104]⟩, ⟨(some 110), none, (.ext 1), [.t 104]⟩, ⟨(some 16), none, .mv, [.t 109]⟩, ⟨(some 17), none, .mv, [.t 110]⟩] false) (.sq (.sq (.rg [⟨(some 111), none, .mv, [.t 15]⟩, ⟨(some 112), none, (.bin .neq), [.t 111, .k (.c (.int .i64 0))]⟩, ⟨(some 113), none, .mv, [.t 112]⟩, ⟨(some 114), (some (113, false)), .mv, [.t 17]⟩, ⟨(some 115), (some (113, false)), (.bin .neq), [.t 114, .k (.c (.int .i64 0))]⟩, ⟨(some 116), none, .pick, [.t 113, .k (.c (.bool true)), .t 115]⟩, ⟨(some 117), none, .mv, [.t 116]⟩, ⟨(some 118), (some (117, false)), .mv, [.t 14]⟩, ⟨(some 119), (some (117, false)), .len, [.t 118]⟩, ⟨(some 120), (some (117, false)), .mv, [.t 1]⟩, ⟨(some 121), (some (117, false)), .len, [.t 120]⟩, ⟨(some 122), (some (117, false)), (.bin .neq), [.t 119, .t 121]⟩, ⟨(some 123), none, .pick, [.t 117, .k (.c (.bool true)), .t 122]⟩, ⟨(some 124), none, .mv, [.t 123]⟩, ⟨(some 125), (some (124, false)), .mv, [.t 16]⟩, ⟨(some 126), (some (124, false)), .len, [.t 125]⟩, ⟨(some 127), (some (124, false)), .mv, [.t 1]⟩, ⟨(some 128), (some (124, false)), .len, [.t 127]⟩, ⟨(some 129), (some (124, false)), (.bin .neq), [.t 126, .t 128]⟩, ⟨(some 130), none, .pick, [.t 124, .k (.c (.bool true)), .t 129]⟩, ⟨(some 131), none, .mv, [.t 130]⟩, ⟨(some 132), (some (131, false)), .mv, [.t 16]⟩, ⟨(some 133), (some (131, false)), .mv, [.t 3]⟩, ⟨(some 134), (some (131, false)), (.ia 1), [.t 132, .t 133]⟩, ⟨(some 135), (some (131, false)), (.ld none), [.t 134]⟩, ⟨(some 136), (some (131, false)), .len, [.t 135]⟩, ⟨(some 137), (some (131, false)), (.bin .gtr), [.t 136, .k (.c (.int .i64 1))]⟩, ⟨(some 138), none, .pick, [.t 131, .k (.c (.bool true)), .t 137]⟩] false) (.cn (.t 138) (.sq (.rg [⟨(some 10), none, .mv, [.k (.c (.bool false))]⟩] false) (.rt)) (.skip))) (.sq (.rg [⟨(some 18), none, .mv, [.k (.c (.int .i64 0))]⟩] false) (.sq (.sq (.rg [⟨(some 19), none, .mv, [.k (.c (.int .i64 0))]⟩] false) (.bl 4 (.lp (.sq (.sq (.rg [⟨(some 139), none, .mv, [.t 19]⟩, ⟨(some 140), none, .mv, [.t 14]⟩, ⟨(some 141), none, .mv, [.t 3]⟩, ⟨(some 142), none, (.ia 1), [.t 140, .t 141]⟩, ⟨(some 143), none, (.ld none), [.t 142]⟩, ⟨(some 144), none, .len, [.t 143]⟩, ⟨(some 145), none, (.bin .lss), [.t 139, .t 144]⟩] false) (.cn (.t 145) (.skip) (.ex 4))) (.sq (.bl 5 (.sq (.sq (.rg [⟨(some 148), none, .mv, [.t 14]⟩, ⟨(some 149), none, .mv, [.t 3]⟩, ⟨(some 150), none, (.ia 1), [.t 148, .t 149]⟩, ⟨(some 151), none, (.ld none), [.t 150]⟩, ⟨(some 152), none, .mv, [.t 19]⟩, ⟨(some 153), none, (.ia 1), [.t 151, .t 152]⟩, ⟨(some 154), none, (.ld none), [.t 153]⟩, ⟨(some 155), none, .len, [.t 154]⟩, ⟨(some 156), none, (.bin .eql), [.t 155, .k (.c (.int .i64 0))]⟩] false) (.cn (.t 156) (.sq (.rg [⟨(some 10), none, .mv, [.k (.c (.bool false))]⟩] false) (.rt)) (.skip))) (.sq (.rg [⟨(some 157), none, .mv, [.t 14]⟩, ⟨(some 158), none, .mv, [.t 3]⟩, ⟨(some 159), none, (.ia 1), [.t 157, .t 158]⟩, ⟨(some 160), none, (.ld none), [.t 159]⟩, ⟨(some 161), none, .mv, [.t 19]⟩, ⟨(some 162), none, (.ia 1), [.t 160, .t 161]⟩, ⟨(some 163), none, (.ld none), [.t 162]⟩, ⟨(some 164), none, (.ia 3), [.t 163, .k (.c (.int .i64 0))]⟩, ⟨(some 165), none, (.fa 2), [.t 164]⟩, ⟨(some 166), none, (.ld none), [.t 165]⟩, ⟨(some 167), none, .mv, [.t 4]⟩, ⟨(some 168), none, (.bin .eql), [.t 166, .t 167]⟩] false) (.cn (.t 168) (.sq (.rg [⟨(some 169), none, .mv, [.t 18]⟩, ⟨(some 170), none, (.bin .add), [.t 169, .k (.c (.int .i64 1))]⟩, ⟨(some 18), none, .mv, [.t 170]⟩] false) (.sq (.rg [⟨(some 171), none, .mv, [.t 16]⟩, ⟨(some 172), none, .mv, [.t 3]⟩, ⟨(some 173), none, (.ia 1), [.t 171, .t 172]⟩, ⟨(some 174), none, (.ld none), [.t 173]⟩, ⟨(some 175), none, .len, [.t 174]⟩, ⟨(some 176), none, (.bin .neq), [.t 175, .k (.c (.int .i64 1))]⟩, ⟨(some 177), none, .mv, [.t 176]⟩, ⟨(some 178), (some (177, false)), .mv, [.t 14]⟩, ⟨(some 179), (some (177, false)), .mv, [.t 3]⟩, ⟨(some 180), (some (177, false)), (.ia 1), [.t 178, .t 179]⟩, ⟨(some 181), (some (177, false)), (.ld none), [.t 180]⟩, ⟨(some 182), (some (177, false)), .mv, [.t 19]⟩, ⟨(some 183), (some (177, false)), (.ia 1), [.t 181, .t 182]⟩, ⟨(some 184), (some (177, false)), (.ld none), [.t 183]⟩, ⟨(some 185), (some (177, false)), .mv, [.t 16]⟩, ⟨(some 186), (some (177, false)), .mv, [.t 3]⟩, ⟨(some 187), (some (177, false)), (.ia 1), [.t 185, .t 186]⟩, ⟨(some 188), (some (177, false)), (.ld none), [.t 187]⟩, ⟨(some 189), (some (177, false)), (.ia 1), [.t 188, .k (.c (.int .i64 0))]⟩, ⟨(some 190), (some (177, false)), (.ld none), [.t 189]⟩, ⟨(some 191), (some (177, false)), (.call 27 .fz), [.t 184, .t 190]⟩, ⟨(some 192), (some (177, false)), (.un .not), [.t 191]⟩, ⟨(some 193), none, .pick, [.t 177, .k (.c (.bool true)), .t 192]⟩] true) (.cn (.t 193) (.sq (.rg [⟨(some 10), none, .mv, [.k (.c (.bool false))]⟩] false) (.rt)) (.skip)))) (.skip))))) (.rg [⟨(some 146), none, .mv, [.t 19]⟩, ⟨(some 147), none, (.bin .add), [.t 146, .k (.c (.int .i64 1))]⟩, ⟨(some 19), none, .mv, [.t 147]⟩] false)))))) (.sq (.rg [⟨(some 194), none, .mv, [.t 18]⟩, ⟨(some 195), none, .mv, [.t 16]⟩, ⟨(some 196), none, .mv, [.t 3]⟩, ⟨(some 197), none, (.ia 1), [.t 195, .t 196]⟩, ⟨(some 198), none, (.ld none), [.t 197]⟩, ⟨(some 199), none, .len, [.t 198]⟩, ⟨(some 200), none, (.bin .eql), [.t 194, .t 199]⟩, ⟨(some 201), none, .mv, [.t 200]⟩, ⟨(some 202), (some (201, true)), (.call 15 .fz), []⟩, ⟨(some 203), none, .pick, [.t 201, .t 202, .k (.c (.bool false))]⟩, ⟨(some 10), none, .mv, [.t 203]⟩] false) (.rt)))))))))))))
theorem cf6 : compF Try.prog 6 c6 = some ⟨c6, [.t 10], 204⟩ := by kernel_rfl

-- raddle/raddlelaw26.AuditLater
-- raddle/raddlelaw07.Heavy
def c8 : IC := .sq (.rg [⟨(some 2), none, .mv, [.k (.c (.bool false))]⟩] false) (.sq (.sq (.rg [⟨(some 4), none, .mv, [.t 0]⟩, ⟨(some 5), none, .len, [.t 4]⟩, ⟨(some 6), none, (.bin .gtr), [.t 5, .k (.c (.int .i64 300))]⟩] false) (.cn (.t 6) (.sq (.rg [⟨(some 2), none, .mv, [.k (.c (.bool true))]⟩] false) (.rt)) (.skip))) (.sq (.sq (.rg [⟨(some 3), none, .mv, [.k (.c (.int .i64 0))]⟩] false) (.bl 0 (.lp (.sq (.sq (.rg [⟨(some 7), none, .mv, [.t 3]⟩, ⟨(some 8), none, .mv, [.t 0]⟩, ⟨(some 9), none, .len, [.t 8]⟩, ⟨(some 10), none, (.bin .lss), [.t 7, .t 9]⟩] false) (.cn (.t 10) (.skip) (.ex 0))) (.sq (.bl 1 (.sq (.rg [⟨(some 13), none, .mv, [.t 0]⟩, ⟨(some 14), none, .mv, [.t 3]⟩, ⟨(some 15), none, (.ia 12), [.t 13, .t 14]⟩, ⟨(some 16), none, (.fa 2), [.t 15]⟩, ⟨(some 17), none, (.ld none), [.t 16]⟩, ⟨(some 18), none, .len, [.t 17]⟩, ⟨(some 19), none, (.bin .gtr), [.t 18, .k (.c (.int .i64 30))]⟩, ⟨(some 20), none, .mv, [.t 19]⟩, ⟨(some 21), (some (20, false)), .mv, [.t 0]⟩, ⟨(some 22), (some (20, false)), .mv, [.t 3]⟩, ⟨(some 23), (some (20, false)), (.ia 12), [.t 21, .t 22]⟩, ⟨(some 24), (some (20, false)), (.fa 8), [.t 23]⟩, ⟨(some 25), (some (20, false)), (.ld none), [.t 24]⟩, ⟨(some 26), (some (20, false)), .slen, [.t 25]⟩, ⟨(some 27), (some (20, false)), (.bin .gtr), [.t 26, .k (.c (.int .i64 100))]⟩, ⟨(some 28), none, .pick, [.t 20, .k (.c (.bool true)), .t 27]⟩, ⟨(some 29), none, .mv, [.t 28]⟩, ⟨(some 30), (some (29, false)), .mv, [.t 0]⟩, ⟨(some 31), (some (29, false)), .mv, [.t 3]⟩, ⟨(some 32), (some (29, false)), (.ia 12), [.t 30, .t 31]⟩, ⟨(some 33), (some (29, false)), (.fa 10), [.t 32]⟩, ⟨(some 34), (some (29, false)), (.ld none), [.t 33]⟩, ⟨(some 35), (some (29, false)), (.call 30 .fz), [.t 34]⟩, ⟨(some 36), none, .pick, [.t 29, .k (.c (.bool true)), .t 35]⟩, ⟨(some 37), none, .mv, [.t 36]⟩, ⟨(some 38), (some (37, false)), .mv, [.t 0]⟩, ⟨(some 39), (some (37, false)), .mv, [.t 3]⟩, ⟨(some 40), (some (37, false)), (.ia 12), [.t 38, .t 39]⟩, ⟨(some 41), (some (37, false)), (.fa 11), [.t 40]⟩, ⟨(some 42), (some (37, false)), (.ld none), [.t 41]⟩, ⟨(some 43), (some (37, false)), .len, [.t 42]⟩, ⟨(some 44), (some (37, false)), (.bin .gtr), [.t 43, .k (.c (.int .i64 100))]⟩, ⟨(some 45), none, .pick, [.t 37, .k (.c (.bool true)), .t 44]⟩] false) (.cn (.t 45) (.sq (.rg [⟨(some 2), none, .mv, [.k (.c (.bool true))]⟩] false) (.rt)) (.skip)))) (.rg [⟨(some 11), none, .mv, [.t 3]⟩, ⟨(some 12), none, (.bin .add), [.t 11, .k (.c (.int .i64 1))]⟩, ⟨(some 3), none, .mv, [.t 12]⟩] false)))))) (.sq (.rg [⟨(some 2), none, .mv, [.k (.c (.bool false))]⟩] false) (.rt))))
theorem cf8 : compF Try.prog 8 c8 = some ⟨c8, [.t 2], 46⟩ := by kernel_rfl

-- raddle/audit.Of
def c9 : IC := .sq (.rg [⟨(some 4), none, .mv, [.k .z]⟩] false) (.sq (.rg [⟨(some 5), none, .mv, [.k .z]⟩] false) (.sq (.sq (.rg [⟨(some 8), none, .mv, [.t 0]⟩, ⟨(some 9), none, .len, [.t 8]⟩, ⟨(some 10), none, .mv, [.k (.c (.int .i64 0))]⟩] false) (.bl 0 (.lp (.sq (.rg [⟨(some 11), none, (.bin .lss), [.t 10, .t 9]⟩] false) (.sq (.cn (.t 11) (.skip) (.ex 0)) (.sq (.bl 1 (.sq (.rg [⟨(some 12), none, (.ia 12), [.t 8, .t 10]⟩, ⟨(some 13), none, (.ld (some 12)), [.t 12]⟩, ⟨(some 7), none, (.alloc [(.c (.int .i64 0)), (.c (.int .i64 0)), .z, (.c (.int .i64 0)), (.c (.int .i64 0)), (.c (.int .i64 0)), (.c (.int .i64 0)), (.c (.int .i64 0)), (.c (.string ⟨#[]⟩)), (.c (.int .i64 0)), .z, .z]), []⟩, ⟨none, none, (.st 12), [.t 7, .t 13]⟩] false) (.sq (.rg [⟨(some 14), none, .mv, [.t 1]⟩, ⟨(some 15), none, (.fa 0), [.t 7]⟩, ⟨(some 16), none, (.ld (some 2)), [.t 15]⟩, ⟨(some 17), none, (.call 10 .fz), [.t 14, .t 16]⟩] false) (.cn (.t 17) (.rg [⟨(some 18), none, .mv, [.t 5]⟩, ⟨(some 19), none, (.ld (some 12)), [.t 7]⟩, ⟨(some 20), none, (.call 31 .fz), [.t 19]⟩, ⟨(some 21), none, (.bsl 12 [(.c (.int .i64 0)), (.c (.int .i64 0)), .z, (.c (.int .i64 0)), (.c (.int .i64 0)), (.c (.int .i64 0)), (.c (.int .i64 0)), (.c (.int .i64 0)), (.c (.string ⟨#[]⟩)), (.c (.int .i64 0)), .z, .z] [0] 1 true), [.t 20]⟩, ⟨(some 22), none, (.app 12), [.t 18, .t 21]⟩, ⟨(some 5), none, .mv, [.t 22]⟩] false) (.skip))))) (.rg [⟨(some 23), none, (.bin .add), [.t 10, .k (.c (.int .i64 1))]⟩, ⟨(some 10), none, .mv, [.t 23]⟩] false))))))) (.sq (.rg [⟨(some 24), none, .mv, [.t 5]⟩, ⟨(some 4), none, .mv, [.t 24]⟩] false) (.rt))))
theorem cf9 : compF Try.prog 9 c9 = some ⟨c9, [.t 4], 25⟩ := by kernel_rfl

-- raddle/dot.Has
def c10 : IC := .sq (.rg [⟨(some 3), none, (.box (some 2)), [.t 1]⟩, ⟨(some 4), none, .mv, [.k (.c (.bool false))]⟩] false) (.sq (.rg [⟨(some 5), none, .mv, [.t 0]⟩, ⟨(some 6), none, (.fa 0), [.t 3]⟩, ⟨(some 7), none, (.ld none), [.t 6]⟩, ⟨(some 8), none, (.call 32 .fz), [.t 5, .t 7]⟩, ⟨(some 9), none, .mv, [.t 8]⟩, ⟨(some 10), (some (9, true)), (.fa 1), [.t 3]⟩, ⟨(some 11), (some (9, true)), (.ld none), [.t 10]⟩, ⟨(some 12), (some (9, true)), (.bin .geq), [.t 11, .k (.c (.int .i64 1))]⟩, ⟨(some 13), none, .pick, [.t 9, .t 12, .k (.c (.bool false))]⟩, ⟨(some 14), none, .mv, [.t 13]⟩, ⟨(some 15), (some (14, true)), (.fa 1), [.t 3]⟩, ⟨(some 16), (some (14, true)), (.ld none), [.t 15]⟩, ⟨(some 17), (some (14, true)), .mv, [.t 0]⟩, ⟨(some 18), (some (14, true)), (.fa 0), [.t 3]⟩, ⟨(some 19), (some (14, true)), (.ld none), [.t 18]⟩, ⟨(some 20), (some (14, true)), (.ia 1), [.t 17, .t 19]⟩, ⟨(some 21), (some (14, true)), (.ld none), [.t 20]⟩, ⟨(some 22), (some (14, true)), (.bin .leq), [.t 16, .t 21]⟩, ⟨(some 23), none, .pick, [.t 14, .t 22, .k (.c (.bool false))]⟩, ⟨(some 4), none, .mv, [.t 23]⟩] true) (.rt))
theorem cf10 : compF Try.prog 10 c10 = some ⟨c10, [.t 4], 24⟩ := by kernel_rfl

-- raddle/raddlekeep.Op
-- raddle/audit.Vector
def c12 : IC := .sq (.rg [⟨(some 4), none, .mv, [.k .z]⟩, ⟨(some 5), none, .mv, [.k (.c (.int .i64 0))]⟩] false) (.sq (.sq (.rg [⟨(some 10), none, .mv, [.t 0]⟩, ⟨(some 11), none, (.bin .lss), [.t 10, .k (.c (.int .i64 1))]⟩, ⟨(some 12), none, .mv, [.t 11]⟩, ⟨(some 13), (some (12, false)), .mv, [.t 0]⟩, ⟨(some 14), (some (12, false)), (.bin .gtr), [.t 13, .k (.c (.int .i64 5))]⟩, ⟨(some 15), none, .pick, [.t 12, .k (.c (.bool true)), .t 14]⟩] false) (.cn (.t 15) (.sq (.rg [⟨(some 4), none, .mv, [.k .z]⟩, ⟨(some 5), none, .mv, [.k (.c (.int .i64 1))]⟩] false) (.rt)) (.skip))) (.sq (.rg [⟨(some 16), none, .mv, [.t 0]⟩, ⟨(some 17), none, (.mks 1 [(.c (.int .i64 0))] false), [.t 16, .t 16]⟩, ⟨(some 6), none, .mv, [.t 17]⟩] false) (.sq (.sq (.rg [⟨(some 18), none, .mv, [.t 1]⟩, ⟨(some 19), none, .len, [.t 18]⟩, ⟨(some 20), none, .mv, [.k (.c (.int .i64 0))]⟩] false) (.bl 0 (.lp (.sq (.rg [⟨(some 21), none, (.bin .lss), [.t 20, .t 19]⟩] false) (.sq (.cn (.t 21) (.skip) (.ex 0)) (.sq (.bl 1 (.sq (.rg [⟨(some 22), none, (.ia 12), [.t 18, .t 20]⟩, ⟨(some 23), none, (.ld (some 12)), [.t 22]⟩, ⟨(some 8), none, (.alloc [(.c (.int .i64 0)), (.c (.int .i64 0)), .z, (.c (.int .i64 0)), (.c (.int .i64 0)), (.c (.int .i64 0)), (.c (.int .i64 0)), (.c (.int .i64 0)), (.c (.string ⟨#[]⟩)), (.c (.int .i64 0)), .z, .z]), []⟩, ⟨none, none, (.st 12), [.t 8, .t 23]⟩] false) (.sq (.rg [⟨(some 24), none, (.fa 0), [.t 8]⟩, ⟨(some 25), none, (.ld (some 2)), [.t 24]⟩, ⟨(some 9), none, (.alloc [(.c (.int .i64 0)), (.c (.int .i64 0))]), []⟩, ⟨none, none, (.st 2), [.t 9, .t 25]⟩] false) (.sq (.sq (.rg [⟨(some 26), none, (.fa 0), [.t 9]⟩, ⟨(some 27), none, (.ld none), [.t 26]⟩, ⟨(some 28), none, (.bin .lss), [.t 27, .k (.c (.int .i64 0))]⟩, ⟨(some 29), none, .mv, [.t 28]⟩, ⟨(some 30), (some (29, false)), (.fa 0), [.t 9]⟩, ⟨(some 31), (some (29, false)), (.ld none), [.t 30]⟩, ⟨(some 32), (some (29, false)), .mv, [.t 0]⟩, ⟨(some 33), (some (29, false)), (.bin .geq), [.t 31, .t 32]⟩, ⟨(some 34), none, .pick, [.t 29, .k (.c (.bool true)), .t 33]⟩, ⟨(some 35), none, .mv, [.t 34]⟩, ⟨(some 36), (some (35, false)), (.fa 1), [.t 9]⟩, ⟨(some 37), (some (35, false)), (.ld none), [.t 36]⟩, ⟨(some 38), (some (35, false)), (.bin .lss), [.t 37, .k (.c (.int .i64 1))]⟩, ⟨(some 39), none, .pick, [.t 35, .k (.c (.bool true)), .t 38]⟩, ⟨(some 40), none, .mv, [.t 39]⟩, ⟨(some 41), (some (40, false)), (.fa 1), [.t 9]⟩, ⟨(some 42), (some (40, false)), (.ld none), [.t 41]⟩, ⟨(some 43), (some (40, false)), (.bin .gtr), [.t 42, .k (.c (.int .i64 1073741824))]⟩, ⟨(some 44), none, .pick, [.t 40, .k (.c (.bool true)), .t 43]⟩] false) (.cn (.t 44) (.sq (.rg [⟨(some 4), none, .mv, [.k .z]⟩, ⟨(some 5), none, .mv, [.k (.c (.int .i64 1))]⟩] false) (.rt)) (.skip))) (.rg [⟨(some 45), none, .mv, [.t 6]⟩, ⟨(some 46), none, (.fa 0), [.t 9]⟩, ⟨(some 47), none, (.ld none), [.t 46]⟩, ⟨(some 48), none, .mv, [.t 6]⟩, ⟨(some 49), none, (.fa 0), [.t 9]⟩, ⟨(some 50), none, (.ld none), [.t 49]⟩, ⟨(some 51), none, (.ia 1), [.t 48, .t 50]⟩, ⟨(some 52), none, (.ld none), [.t 51]⟩, ⟨(some 53), none, (.fa 1), [.t 9]⟩, ⟨(some 54), none, (.ld none), [.t 53]⟩, ⟨(some 55), none, .mx, [.t 52, .t 54]⟩, ⟨(some 56), none, (.ia 1), [.t 45, .t 47]⟩, ⟨none, none, (.st 1), [.t 56, .t 55]⟩] true))))) (.rg [⟨(some 57), none, (.bin .add), [.t 20, .k (.c (.int .i64 1))]⟩, ⟨(some 20), none, .mv, [.t 57]⟩] false))))))) (.sq (.rg [⟨(some 58), none, .mv, [.t 6]⟩, ⟨(some 4), none, .mv, [.t 58]⟩, ⟨(some 5), none, .mv, [.k (.c (.int .i64 0))]⟩] false) (.rt)))))
theorem cf12 : compF Try.prog 12 c12 = some ⟨c12, [.t 4, .t 5], 59⟩ := by kernel_rfl

-- raddle/raddlekeep.Ops
-- raddle/dot.Merge
-- raddle/raddlelaw26.wakes
def c15 : IC := .sq (.rg [⟨(some 0), none, .mv, [.k (.c (.bool false))]⟩] false) (.sq (.rg [⟨(some 7), none, (.bsl 1 [(.c (.int .i64 0))] [0] 1 true), [.k (.c (.int .i64 3))]⟩, ⟨(some 8), none, (.bld [.z] [(0, 1)]), [.t 7]⟩, ⟨(some 9), none, (.bsl 1 [.z] [0] 1 true), [.t 8]⟩, ⟨(some 1), none, .mv, [.t 9]⟩] false) (.sq (.rg [⟨(some 10), none, (.bld [(.c (.int .i64 0)), (.c (.int .i64 0))] [(1, 1)]), [.k (.c (.int .i64 1))]⟩, ⟨(some 11), none, (.bsl 1 [(.c (.int .i64 0))] [0] 1 true), [.k (.c (.int .i64 0))]⟩, ⟨(some 12), none, (.bld [(.c (.int .i64 0)), (.c (.int .i64 0)), (.c (.string ⟨#[]⟩))] [(0, 1), (1, 1)]), [.k (.c (.int .i64 3)), .k (.c (.int .i64 3))]⟩, ⟨(some 13), none, (.bsl 3 [(.c (.int .i64 0)), (.c (.int .i64 0)), (.c (.string ⟨#[]⟩))] [0] 1 true), [.t 12]⟩, ⟨(some 14), none, (.bld [(.c (.int .i64 0)), (.c (.int .i64 0)), .z, (.c (.int .i64 0)), (.c (.int .i64 0)), (.c (.int .i64 0)), (.c (.int .i64 0)), (.c (.int .i64 0)), (.c (.string ⟨#[]⟩)), (.c (.int .i64 0)), .z, .z] [(0, 2), (2, 1), (6, 1), (8, 1), (10, 1)]), [.t 10, .t 11, .k (.c (.int .i64 1)), .k (.c (.string ⟨#[107]⟩)), .t 13]⟩, ⟨(some 2), none, (.alloc [(.c (.int .i64 0)), (.c (.int .i64 0)), .z, (.c (.int .i64 0)), (.c (.int .i64 0)), (.c (.int .i64 0)), (.c (.int .i64 0)), (.c (.int .i64 0)), (.c (.string ⟨#[]⟩)), (.c (.int .i64 0)), .z, .z]), []⟩, ⟨none, none, (.st 12), [.t 2, .t 14]⟩] false) (.sq (.rg [⟨(some 16), none, .mv, [.t 1]⟩, ⟨(some 17), none, (.ld (some 12)), [.t 2]⟩, ⟨(some 18), none, (.bsl 12 [(.c (.int .i64 0)), (.c (.int .i64 0)), .z, (.c (.int .i64 0)), (.c (.int .i64 0)), (.c (.int .i64 0)), (.c (.int .i64 0)), (.c (.int .i64 0)), (.c (.string ⟨#[]⟩)), (.c (.int .i64 0)), .z, .z] [0] 1 true), [.t 17]⟩, ⟨(some 19), none, (.call 19 .fz), [.k (.c (.int .i64 1)), .t 16, .t 18]⟩, ⟨(some 15), none, .mv, [.t 19]⟩, ⟨(some 20), none, (.ext 0), [.t 15]⟩, ⟨(some 21), none, (.ext 1), [.t 15]⟩, ⟨(some 3), none, .mv, [.t 20]⟩, ⟨(some 4), none, .mv, [.t 21]⟩] false) (.sq (.rg [⟨(some 23), none, (.ld (some 12)), [.t 2]⟩, ⟨(some 24), none, (.bsl 12 [(.c (.int .i64 0)), (.c (.int .i64 0)), .z, (.c (.int .i64 0)), (.c (.int .i64 0)), (.c (.int .i64 0)), (.c (.int .i64 0)), (.c (.int .i64 0)), (.c (.string ⟨#[]⟩)), (.c (.int .i64 0)), .z, .z] [0] 1 true), [.t 23]⟩, ⟨(some 25), none, (.call 12 .fz), [.k (.c (.int .i64 1)), .t 24]⟩, ⟨(some 22), none, .mv, [.t 25]⟩, ⟨(some 26), none, (.ext 0), [.t 22]⟩, ⟨(some 27), none, (.ext 1), [.t 22]⟩, ⟨(some 5), none, .mv, [.t 26]⟩, ⟨(some 6), none, .mv, [.t 27]⟩] false) (.sq (.rg [⟨(some 28), none, .mv, [.t 4]⟩, ⟨(some 29), none, (.bin .eql), [.t 28, .k (.c (.int .i64 0))]⟩, ⟨(some 30), none, .mv, [.t 29]⟩, ⟨(some 31), (some (30, true)), .mv, [.t 6]⟩, ⟨(some 32), (some (30, true)), (.bin .eql), [.t 31, .k (.c (.int .i64 0))]⟩, ⟨(some 33), none, .pick, [.t 30, .t 32, .k (.c (.bool false))]⟩, ⟨(some 34), none, .mv, [.t 33]⟩, ⟨(some 35), (some (34, true)), .mv, [.t 3]⟩, ⟨(some 36), (some (34, true)), .len, [.t 35]⟩, ⟨(some 37), (some (34, true)), (.bin .eql), [.t 36, .k (.c (.int .i64 1))]⟩, ⟨(some 38), none, .pick, [.t 34, .t 37, .k (.c (.bool false))]⟩, ⟨(some 39), none, .mv, [.t 38]⟩, ⟨(some 40), (some (39, true)), .mv, [.t 3]⟩, ⟨(some 41), (some (39, true)), (.ia 1), [.t 40, .k (.c (.int .i64 0))]⟩, ⟨(some 42), (some (39, true)), (.ld none), [.t 41]⟩, ⟨(some 43), (some (39, true)), .len, [.t 42]⟩, ⟨(some 44), (some (39, true)), (.bin .eql), [.t 43, .k (.c (.int .i64 1))]⟩, ⟨(some 45), none, .pick, [.t 39, .t 44, .k (.c (.bool false))]⟩, ⟨(some 46), none, .mv, [.t 45]⟩, ⟨(some 47), (some (46, true)), .mv, [.t 5]⟩, ⟨(some 48), (some (46, true)), .len, [.t 47]⟩, ⟨(some 49), (some (46, true)), (.bin .eql), [.t 48, .k (.c (.int .i64 1))]⟩, ⟨(some 50), none, .pick, [.t 46, .t 49, .k (.c (.bool false))]⟩, ⟨(some 51), none, .mv, [.t 50]⟩, ⟨(some 52), (some (51, true)), .mv, [.t 5]⟩, ⟨(some 53), (some (51, true)), (.ia 1), [.t 52, .k (.c (.int .i64 0))]⟩, ⟨(some 54), (some (51, true)), (.ld none), [.t 53]⟩, ⟨(some 55), (some (51, true)), (.bin .eql), [.t 54, .k (.c (.int .i64 1))]⟩, ⟨(some 56), none, .pick, [.t 51, .t 55, .k (.c (.bool false))]⟩, ⟨(some 57), none, .mv, [.t 56]⟩, ⟨(some 58), (some (57, true)), (.ld (some 12)), [.t 2]⟩, ⟨(some 59), (some (57, true)), (.bsl 12 [(.c (.int .i64 0)), (.c (.int .i64 0)), .z, (.c (.int .i64 0)), (.c (.int .i64 0)), (.c (.int .i64 0)), (.c (.int .i64 0)), (.c (.int .i64 0)), (.c (.string ⟨#[]⟩)), (.c (.int .i64 0)), .z, .z] [0] 1 true), [.t 58]⟩, ⟨(some 60), (some (57, true)), (.call 22 .fz), [.k (.c (.int .i64 1)), .t 59]⟩, ⟨(some 61), none, .pick, [.t 57, .t 60, .k (.c (.bool false))]⟩, ⟨(some 62), none, .mv, [.t 61]⟩, ⟨(some 63), (some (62, true)), (.ld (some 12)), [.t 2]⟩, ⟨(some 64), (some (62, true)), (.bsl 12 [(.c (.int .i64 0)), (.c (.int .i64 0)), .z, (.c (.int .i64 0)), (.c (.int .i64 0)), (.c (.int .i64 0)), (.c (.int .i64 0)), (.c (.int .i64 0)), (.c (.string ⟨#[]⟩)), (.c (.int .i64 0)), .z, .z] [0] 1 true), [.t 63]⟩, ⟨(some 65), (some (62, true)), (.bsl 1 [(.c (.int .i64 0))] [0] 1 true), [.k (.c (.int .i64 0))]⟩, ⟨(some 66), (some (62, true)), (.call 9 .fz), [.t 64, .t 65]⟩, ⟨(some 67), (some (62, true)), .len, [.t 66]⟩, ⟨(some 68), (some (62, true)), (.bin .eql), [.t 67, .k (.c (.int .i64 0))]⟩, ⟨(some 69), none, .pick, [.t 62, .t 68, .k (.c (.bool false))]⟩, ⟨(some 0), none, .mv, [.t 69]⟩] false) (.rt))))))
theorem cf15 : compF Try.prog 15 c15 = some ⟨c15, [.t 0], 70⟩ := by kernel_rfl

-- raddle/raddlelaw07.HeavyForms
def c16 : IC := .sq (.rg [⟨(some 2), none, .mv, [.k (.c (.bool false))]⟩] false) (.sq (.sq (.rg [⟨(some 4), none, .mv, [.t 0]⟩, ⟨(some 5), none, .len, [.t 4]⟩, ⟨(some 6), none, (.bin .gtr), [.t 5, .k (.c (.int .i64 30))]⟩] false) (.cn (.t 6) (.sq (.rg [⟨(some 2), none, .mv, [.k (.c (.bool true))]⟩] false) (.rt)) (.skip))) (.sq (.sq (.rg [⟨(some 3), none, .mv, [.k (.c (.int .i64 0))]⟩] false) (.bl 0 (.lp (.sq (.sq (.rg [⟨(some 7), none, .mv, [.t 3]⟩, ⟨(some 8), none, .mv, [.t 0]⟩, ⟨(some 9), none, .len, [.t 8]⟩, ⟨(some 10), none, (.bin .lss), [.t 7, .t 9]⟩] false) (.cn (.t 10) (.skip) (.ex 0))) (.sq (.bl 1 (.sq (.rg [⟨(some 13), none, .mv, [.t 0]⟩, ⟨(some 14), none, .mv, [.t 3]⟩, ⟨(some 15), none, (.ia 1), [.t 13, .t 14]⟩, ⟨(some 16), none, (.fa 0), [.t 15]⟩, ⟨(some 17), none, (.ld none), [.t 16]⟩, ⟨(some 18), none, .len, [.t 17]⟩, ⟨(some 19), none, (.bin .gtr), [.t 18, .k (.c (.int .i64 30))]⟩] false) (.cn (.t 19) (.sq (.rg [⟨(some 2), none, .mv, [.k (.c (.bool true))]⟩] false) (.rt)) (.skip)))) (.rg [⟨(some 11), none, .mv, [.t 3]⟩, ⟨(some 12), none, (.bin .add), [.t 11, .k (.c (.int .i64 1))]⟩, ⟨(some 3), none, .mv, [.t 12]⟩] false)))))) (.sq (.rg [⟨(some 2), none, .mv, [.k (.c (.bool false))]⟩] false) (.rt))))
theorem cf16 : compF Try.prog 16 c16 = some ⟨c16, [.t 2], 20⟩ := by kernel_rfl

-- raddle/raddlelaw07.Check
def c17 : IC := .sq (.rg [⟨(some 5), none, (.box (some 12)), [.t 2]⟩, ⟨(some 6), none, .mv, [.k (.c (.int .i64 0))]⟩] false) (.sq (.sq (.rg [⟨(some 8), none, .mv, [.t 1]⟩, ⟨(some 9), none, (.call 26 .fz), [.t 8]⟩, ⟨(some 7), none, .mv, [.t 9]⟩] false) (.sq (.rg [⟨(some 10), none, .mv, [.t 7]⟩, ⟨(some 11), none, (.bin .neq), [.t 10, .k (.c (.int .i64 0))]⟩] false) (.cn (.t 11) (.sq (.rg [⟨(some 12), none, .mv, [.t 7]⟩, ⟨(some 6), none, .mv, [.t 12]⟩] false) (.rt)) (.skip)))) (.sq (.sq (.rg [⟨(some 13), none, .mv, [.t 0]⟩, ⟨(some 14), none, (.bin .lss), [.t 13, .k (.c (.int .i64 1))]⟩, ⟨(some 15), none, .mv, [.t 14]⟩, ⟨(some 16), (some (15, false)), .mv, [.t 0]⟩, ⟨(some 17), (some (15, false)), (.bin .gtr), [.t 16, .k (.c (.int .i64 5))]⟩, ⟨(some 18), none, .pick, [.t 15, .k (.c (.bool true)), .t 17]⟩, ⟨(some 19), none, .mv, [.t 18]⟩, ⟨(some 20), (some (19, false)), .mv, [.t 0]⟩, ⟨(some 21), (some (19, false)), .mv, [.t 1]⟩, ⟨(some 22), (some (19, false)), (.ld (some 12)), [.t 5]⟩, ⟨(some 23), (some (19, false)), (.call 38 .fz), [.t 20, .t 21, .t 22]⟩, ⟨(some 24), (some (19, false)), (.un .not), [.t 23]⟩, ⟨(some 25), none, .pick, [.t 19, .k (.c (.bool true)), .t 24]⟩] false) (.cn (.t 25) (.sq (.rg [⟨(some 6), none, .mv, [.k (.c (.int .i64 1))]⟩] false) (.rt)) (.skip))) (.sq (.rg [⟨(some 6), none, .mv, [.k (.c (.int .i64 0))]⟩] false) (.rt))))
theorem cf17 : compF Try.prog 17 c17 = some ⟨c17, [.t 6], 26⟩ := by kernel_rfl

-- raddle/raddleref01.CompareStamps
-- raddle/audit.Made
def c19 : IC := .sq (.rg [⟨(some 6), none, .mv, [.k .z]⟩, ⟨(some 7), none, .mv, [.k (.c (.int .i64 0))]⟩] false) (.sq (.rg [⟨(some 24), none, .mv, [.t 1]⟩, ⟨(some 25), none, (.call 40 .fz), [.t 24]⟩, ⟨(some 8), none, .mv, [.t 25]⟩] false) (.sq (.bl 0 (.sq (.rg [⟨(some 27), none, .mv, [.t 8]⟩, ⟨(some 28), none, (.bin .neq), [.t 27, .k (.c (.int .i64 0))]⟩, ⟨(some 26), none, .mv, [.t 28]⟩] false) (.cn (.t 26) (.sq (.rg [⟨(some 29), none, .mv, [.t 8]⟩, ⟨(some 6), none, .mv, [.k .z]⟩, ⟨(some 7), none, .mv, [.t 29]⟩] false) (.rt)) (.sq (.rg [⟨(some 31), none, .mv, [.t 0]⟩, ⟨(some 32), none, (.bin .lss), [.t 31, .k (.c (.int .i64 1))]⟩, ⟨(some 33), none, .mv, [.t 32]⟩, ⟨(some 34), (some (33, false)), .mv, [.t 0]⟩, ⟨(some 35), (some (33, false)), (.bin .gtr), [.t 34, .k (.c (.int .i64 5))]⟩, ⟨(some 36), none, .pick, [.t 33, .k (.c (.bool true)), .t 35]⟩, ⟨(some 30), none, .mv, [.t 36]⟩] false) (.cn (.t 30) (.sq (.rg [⟨(some 6), none, .mv, [.k .z]⟩, ⟨(some 7), none, .mv, [.k (.c (.int .i64 1))]⟩] false) (.rt)) (.skip)))))) (.sq (.rg [⟨(some 37), none, .mv, [.t 1]⟩, ⟨(some 38), none, .len, [.t 37]⟩, ⟨(some 39), none, (.mks 1 [(.c (.map none))] false), [.t 38, .t 38]⟩, ⟨(some 9), none, .mv, [.t 39]⟩] false) (.sq (.sq (.rg [⟨(some 40), none, .mv, [.t 9]⟩, ⟨(some 41), none, .len, [.t 40]⟩, ⟨(some 42), none, .mv, [.k (.c (.int .i64 0))]⟩] false) (.bl 1 (.lp (.sq (.rg [⟨(some 43), none, (.bin .lss), [.t 42, .t 41]⟩] false) (.sq (.cn (.t 43) (.skip) (.ex 1)) (.sq (.bl 2 (.sq (.rg [⟨(some 44), none, .mv, [.t 42]⟩, ⟨(some 10), none, .mv, [.t 44]⟩] false) (.rg [⟨(some 45), none, .mv, [.t 9]⟩, ⟨(some 46), none, .mv, [.t 10]⟩, ⟨(some 47), none, .mkm, []⟩, ⟨(some 48), none, (.ia 1), [.t 45, .t 46]⟩, ⟨none, none, (.st 1), [.t 48, .t 47]⟩] false))) (.rg [⟨(some 49), none, (.bin .add), [.t 42, .k (.c (.int .i64 1))]⟩, ⟨(some 42), none, .mv, [.t 49]⟩] false))))))) (.sq (.sq (.rg [⟨(some 50), none, .mv, [.t 2]⟩, ⟨(some 51), none, .len, [.t 50]⟩, ⟨(some 52), none, .mv, [.k (.c (.int .i64 0))]⟩] false) (.bl 3 (.lp (.sq (.rg [⟨(some 53), none, (.bin .lss), [.t 52, .t 51]⟩] false) (.sq (.cn (.t 53) (.skip) (.ex 3)) (.sq (.bl 4 (.sq (.rg [⟨(some 54), none, (.ia 12), [.t 50, .t 52]⟩, ⟨(some 55), none, (.ld (some 12)), [.t 54]⟩, ⟨(some 12), none, (.alloc [(.c (.int .i64 0)), (.c (.int .i64 0)), .z, (.c (.int .i64 0)), (.c (.int .i64 0)), (.c (.int .i64 0)), (.c (.int .i64 0)), (.c (.int .i64 0)), (.c (.string ⟨#[]⟩)), (.c (.int .i64 0)), .z, .z]), []⟩, ⟨none, none, (.st 12), [.t 12, .t 55]⟩] false) (.sq (.rg [⟨(some 56), none, .mv, [.t 0]⟩, ⟨(some 57), none, .mv, [.t 1]⟩, ⟨(some 58), none, (.ld (some 12)), [.t 12]⟩, ⟨(some 59), none, (.call 41 .fz), [.t 56, .t 57, .t 58]⟩, ⟨(some 13), none, .mv, [.t 59]⟩] false) (.sq (.sq (.rg [⟨(some 60), none, .mv, [.t 13]⟩, ⟨(some 61), none, (.bin .neq), [.t 60, .k (.c (.int .i64 0))]⟩] false) (.cn (.t 61) (.sq (.rg [⟨(some 62), none, .mv, [.t 13]⟩, ⟨(some 6), none, .mv, [.k .z]⟩, ⟨(some 7), none, .mv, [.t 62]⟩] false) (.rt)) (.skip))) (.sq (.rg [⟨(some 63), none, .mv, [.t 9]⟩, ⟨(some 64), none, (.fa 7), [.t 12]⟩, ⟨(some 65), none, (.ld none), [.t 64]⟩, ⟨(some 66), none, (.ia 1), [.t 63, .t 65]⟩, ⟨(some 67), none, (.ld none), [.t 66]⟩, ⟨(some 68), none, (.fa 8), [.t 12]⟩, ⟨(some 69), none, (.ld none), [.t 68]⟩, ⟨(some 70), none, (.mlk false [1] (.c (.pointer none)) false), [.t 67, .t 69]⟩, ⟨(some 14), none, .mv, [.t 70]⟩] true) (.sq (.sq (.rg [⟨(some 71), none, .mv, [.t 14]⟩, ⟨(some 72), none, (.nilq 1 false), [.t 71]⟩] false) (.cn (.t 72) (.sq (.rg [⟨(some 73), none, (.fa 8), [.t 12]⟩, ⟨(some 74), none, (.ld none), [.t 73]⟩, ⟨(some 75), none, .mv, [.t 1]⟩, ⟨(some 76), none, (.fa 7), [.t 12]⟩, ⟨(some 77), none, (.ld none), [.t 76]⟩, ⟨(some 78), none, (.ia 1), [.t 75, .t 77]⟩, ⟨(some 79), none, (.fa 0), [.t 78]⟩, ⟨(some 80), none, (.ld none), [.t 79]⟩, ⟨(some 81), none, .len, [.t 80]⟩, ⟨(some 82), none, (.mks 12 [(.c (.int .i64 0)), (.c (.int .i64 0)), .z, (.c (.int .i64 0)), (.c (.int .i64 0)), (.c (.int .i64 0)), (.c (.int .i64 0)), (.c (.int .i64 0)), (.c (.string ⟨#[]⟩)), (.c (.int .i64 0)), .z, .z] false), [.t 81, .t 81]⟩, ⟨(some 83), none, (.bld [(.c (.string ⟨#[]⟩)), .z, .z, .z] [(0, 1), (3, 1)]), [.t 74, .t 82]⟩, ⟨(some 84), none, (.box (some 4)), [.t 83]⟩, ⟨(some 14), none, .mv, [.t 84]⟩] true) (.rg [⟨(some 85), none, .mv, [.t 9]⟩, ⟨(some 86), none, (.fa 7), [.t 12]⟩, ⟨(some 87), none, (.ld none), [.t 86]⟩, ⟨(some 88), none, (.ia 1), [.t 85, .t 87]⟩, ⟨(some 89), none, (.ld none), [.t 88]⟩, ⟨(some 90), none, (.fa 8), [.t 12]⟩, ⟨(some 91), none, (.ld none), [.t 90]⟩, ⟨(some 92), none, .mv, [.t 14]⟩, ⟨none, none, (.mup false [1]), [.t 89, .t 91, .t 92]⟩] true)) (.skip))) (.rg [⟨(some 93), none, .mv, [.t 14]⟩, ⟨(some 94), none, (.ld (some 12)), [.t 12]⟩, ⟨(some 95), none, (.rcall 42), [.t 93, .t 94]⟩] false))))))) (.rg [⟨(some 96), none, (.bin .add), [.t 52, .k (.c (.int .i64 1))]⟩, ⟨(some 52), none, .mv, [.t 96]⟩] false))))))) (.sq (.rg [⟨(some 15), none, .mv, [.k .z]⟩] false) (.sq (.sq (.rg [⟨(some 97), none, .mv, [.t 9]⟩, ⟨(some 98), none, .len, [.t 97]⟩, ⟨(some 99), none, .mv, [.k (.c (.int .i64 0))]⟩] false) (.bl 5 (.lp (.sq (.rg [⟨(some 100), none, (.bin .lss), [.t 99, .t 98]⟩] false) (.sq (.cn (.t 100) (.skip) (.ex 5)) (.sq (.bl 6 (.sq (.rg [⟨(some 101), none, (.ia 1), [.t 97, .t 99]⟩, ⟨(some 102), none, (.ld none), [.t 101]⟩, ⟨(some 17), none, .mv, [.t 102]⟩] false) (.sq (.rg [⟨(some 18), none, .mv, [.k .z]⟩] false) (.sq (.sq (.rg [⟨(some 103), none, .mv, [.t 17]⟩, ⟨(some 104), none, .mrg, [.t 103]⟩] false) (.bl 7 (.lp (.sq (.rg [⟨(some 105), none, .mnx, [.t 104]⟩, ⟨(some 106), none, (.ext 0), [.t 105]⟩] false) (.sq (.cn (.t 106) (.skip) (.ex 7)) (.bl 8 (.sq (.rg [⟨(some 107), none, .ent, [.t 104]⟩, ⟨(some 108), none, (.ext 0), [.t 107]⟩, ⟨(some 19), none, .mv, [.t 108]⟩] false) (.rg [⟨(some 109), none, .mv, [.t 18]⟩, ⟨(some 110), none, .mv, [.t 19]⟩, ⟨(some 111), none, (.bsl 1 [(.c (.string ⟨#[]⟩))] [0] 1 true), [.t 110]⟩, ⟨(some 112), none, (.app 1), [.t 109, .t 111]⟩, ⟨(some 18), none, .mv, [.t 112]⟩] false)))))))) (.sq (.rg [⟨(some 113), none, .mv, [.t 18]⟩, ⟨(some 114), none, (.rcall 43), [.t 113]⟩] false) (.sq (.rg [⟨(some 20), none, .mv, [.k .z]⟩] false) (.sq (.sq (.rg [⟨(some 115), none, .mv, [.t 18]⟩, ⟨(some 116), none, .len, [.t 115]⟩, ⟨(some 117), none, .mv, [.k (.c (.int .i64 0))]⟩] false) (.bl 9 (.lp (.sq (.rg [⟨(some 118), none, (.bin .lss), [.t 117, .t 116]⟩] false) (.sq (.cn (.t 118) (.skip) (.ex 9)) (.sq (.bl 10 (.sq (.rg [⟨(some 119), none, (.ia 1), [.t 115, .t 117]⟩, ⟨(some 120), none, (.ld none), [.t 119]⟩, ⟨(some 22), none, .mv, [.t 120]⟩] false) (.sq (.rg [⟨(some 121), none, .mv, [.t 17]⟩, ⟨(some 122), none, .mv, [.t 22]⟩, ⟨(some 123), none, (.mlk false [1] (.c (.pointer none)) false), [.t 121, .t 122]⟩, ⟨(some 124), none, (.rcall 44), [.t 123]⟩, ⟨(some 23), none, .mv, [.t 124]⟩] false) (.sq (.rg [⟨(some 125), none, .mv, [.t 23]⟩, ⟨(some 126), none, .len, [.t 125]⟩, ⟨(some 127), none, (.bin .gtr), [.t 126, .k (.c (.int .i64 0))]⟩] false) (.cn (.t 127) (.rg [⟨(some 128), none, .mv, [.t 20]⟩, ⟨(some 129), none, .mv, [.t 23]⟩, ⟨(some 130), none, (.bsl 1 [.z] [0] 1 true), [.t 129]⟩, ⟨(some 131), none, (.app 1), [.t 128, .t 130]⟩, ⟨(some 20), none, .mv, [.t 131]⟩] false) (.skip)))))) (.rg [⟨(some 132), none, (.bin .add), [.t 117, .k (.c (.int .i64 1))]⟩, ⟨(some 117), none, .mv, [.t 132]⟩] false))))))) (.rg [⟨(some 133), none, .mv, [.t 15]⟩, ⟨(some 134), none, .mv, [.t 20]⟩, ⟨(some 135), none, (.bsl 1 [.z] [0] 1 true), [.t 134]⟩, ⟨(some 136), none, (.app 1), [.t 133, .t 135]⟩, ⟨(some 15), none, .mv, [.t 136]⟩] false)))))))) (.rg [⟨(some 137), none, (.bin .add), [.t 99, .k (.c (.int .i64 1))]⟩, ⟨(some 99), none, .mv, [.t 137]⟩] false))))))) (.sq (.rg [⟨(some 138), none, .mv, [.t 15]⟩, ⟨(some 6), none, .mv, [.t 138]⟩, ⟨(some 7), none, .mv, [.k (.c (.int .i64 0))]⟩] false) (.rt)))))))))
theorem cf19 : compF Try.prog 19 c19 = some ⟨c19, [.t 6, .t 7], 139⟩ := by kernel_rfl

-- raddle/raddlekeep.Tables
-- raddle/raddlekeep.Ints
-- raddle/audit.Closed
def c22 : IC := .sq (.rg [⟨(some 4), none, .mv, [.k (.c (.bool false))]⟩] false) (.sq (.sq (.rg [⟨(some 12), none, .mv, [.t 0]⟩, ⟨(some 13), none, (.bin .lss), [.t 12, .k (.c (.int .i64 1))]⟩, ⟨(some 14), none, .mv, [.t 13]⟩, ⟨(some 15), (some (14, false)), .mv, [.t 0]⟩, ⟨(some 16), (some (14, false)), (.bin .gtr), [.t 15, .k (.c (.int .i64 5))]⟩, ⟨(some 17), none, .pick, [.t 14, .k (.c (.bool true)), .t 16]⟩] false) (.cn (.t 17) (.sq (.rg [⟨(some 4), none, .mv, [.k (.c (.bool false))]⟩] false) (.rt)) (.skip))) (.sq (.rg [⟨(some 18), none, .mkm, []⟩, ⟨(some 5), none, .mv, [.t 18]⟩] false) (.sq (.sq (.rg [⟨(some 19), none, .mv, [.t 1]⟩, ⟨(some 20), none, .len, [.t 19]⟩, ⟨(some 21), none, .mv, [.k (.c (.int .i64 0))]⟩] false) (.bl 0 (.lp (.sq (.rg [⟨(some 22), none, (.bin .lss), [.t 21, .t 20]⟩] false) (.sq (.cn (.t 22) (.skip) (.ex 0)) (.sq (.bl 1 (.sq (.rg [⟨(some 23), none, (.ia 12), [.t 19, .t 21]⟩, ⟨(some 24), none, (.ld (some 12)), [.t 23]⟩, ⟨(some 7), none, (.alloc [(.c (.int .i64 0)), (.c (.int .i64 0)), .z, (.c (.int .i64 0)), (.c (.int .i64 0)), (.c (.int .i64 0)), (.c (.int .i64 0)), (.c (.int .i64 0)), (.c (.string ⟨#[]⟩)), (.c (.int .i64 0)), .z, .z]), []⟩, ⟨none, none, (.st 12), [.t 7, .t 24]⟩] false) (.sq (.sq (.rg [⟨(some 25), none, .mv, [.t 5]⟩, ⟨(some 26), none, (.fa 0), [.t 7]⟩, ⟨(some 27), none, (.ld (some 2)), [.t 26]⟩, ⟨(some 28), none, (.mlk true [0, 0] (.c (.bool false)) false), [.t 25, .t 27]⟩, ⟨(some 29), none, .mv, [.t 28]⟩, ⟨(some 30), (some (29, false)), (.fa 0), [.t 7]⟩, ⟨(some 31), (some (29, false)), (.fa 0), [.t 30]⟩, ⟨(some 32), (some (29, false)), (.ld none), [.t 31]⟩, ⟨(some 33), (some (29, false)), (.bin .lss), [.t 32, .k (.c (.int .i64 0))]⟩, ⟨(some 34), none, .pick, [.t 29, .k (.c (.bool true)), .t 33]⟩, ⟨(some 35), none, .mv, [.t 34]⟩, ⟨(some 36), (some (35, false)), (.fa 0), [.t 7]⟩, ⟨(some 37), (some (35, false)), (.fa 0), [.t 36]⟩, ⟨(some 38), (some (35, false)), (.ld none), [.t 37]⟩, ⟨(some 39), (some (35, false)), .mv, [.t 0]⟩, ⟨(some 40), (some (35, false)), (.bin .geq), [.t 38, .t 39]⟩, ⟨(some 41), none, .pick, [.t 35, .k (.c (.bool true)), .t 40]⟩, ⟨(some 42), none, .mv, [.t 41]⟩, ⟨(some 43), (some (42, false)), (.fa 2), [.t 7]⟩, ⟨(some 44), (some (42, false)), (.ld none), [.t 43]⟩, ⟨(some 45), (some (42, false)), .len, [.t 44]⟩, ⟨(some 46), (some (42, false)), .mv, [.t 0]⟩, ⟨(some 47), (some (42, false)), (.bin .neq), [.t 45, .t 46]⟩, ⟨(some 48), none, .pick, [.t 42, .k (.c (.bool true)), .t 47]⟩, ⟨(some 49), none, .mv, [.t 48]⟩, ⟨(some 50), (some (49, false)), (.fa 2), [.t 7]⟩, ⟨(some 51), (some (49, false)), (.ld none), [.t 50]⟩, ⟨(some 52), (some (49, false)), (.call 46 .fz), [.t 51]⟩, ⟨(some 53), (some (49, false)), (.bin .neq), [.t 52, .k (.c (.int .i64 0))]⟩, ⟨(some 54), none, .pick, [.t 49, .k (.c (.bool true)), .t 53]⟩] false) (.cn (.t 54) (.sq (.rg [⟨(some 4), none, .mv, [.k (.c (.bool false))]⟩] false) (.rt)) (.skip))) (.rg [⟨(some 55), none, .mv, [.t 5]⟩, ⟨(some 56), none, (.fa 0), [.t 7]⟩, ⟨(some 57), none, (.ld (some 2)), [.t 56]⟩, ⟨none, none, (.mup true [0, 0]), [.t 55, .t 57, .k (.c (.bool true))]⟩] false)))) (.rg [⟨(some 58), none, (.bin .add), [.t 21, .k (.c (.int .i64 1))]⟩, ⟨(some 21), none, .mv, [.t 58]⟩] false))))))) (.sq (.sq (.rg [⟨(some 59), none, .mv, [.t 1]⟩, ⟨(some 60), none, .len, [.t 59]⟩, ⟨(some 61), none, .mv, [.k (.c (.int .i64 0))]⟩] false) (.bl 2 (.lp (.sq (.rg [⟨(some 62), none, (.bin .lss), [.t 61, .t 60]⟩] false) (.sq (.cn (.t 62) (.skip) (.ex 2)) (.sq (.bl 3 (.sq (.rg [⟨(some 63), none, (.ia 12), [.t 59, .t 61]⟩, ⟨(some 64), none, (.ld (some 12)), [.t 63]⟩, ⟨(some 9), none, (.alloc [(.c (.int .i64 0)), (.c (.int .i64 0)), .z, (.c (.int .i64 0)), (.c (.int .i64 0)), (.c (.int .i64 0)), (.c (.int .i64 0)), (.c (.int .i64 0)), (.c (.string ⟨#[]⟩)), (.c (.int .i64 0)), .z, .z]), []⟩, ⟨none, none, (.st 12), [.t 9, .t 64]⟩] false) (.sq (.sq (.rg [⟨(some 65), none, (.fa 0), [.t 9]⟩, ⟨(some 66), none, (.fa 1), [.t 65]⟩, ⟨(some 67), none, (.ld none), [.t 66]⟩, ⟨(some 68), none, (.bin .gtr), [.t 67, .k (.c (.int .i64 1))]⟩, ⟨(some 69), none, .mv, [.t 68]⟩, ⟨(some 70), (some (69, true)), .mv, [.t 5]⟩, ⟨(some 71), (some (69, true)), (.fa 0), [.t 9]⟩, ⟨(some 72), (some (69, true)), (.fa 0), [.t 71]⟩, ⟨(some 73), (some (69, true)), (.ld none), [.t 72]⟩, ⟨(some 74), (some (69, true)), (.fa 0), [.t 9]⟩, ⟨(some 75), (some (69, true)), (.fa 1), [.t 74]⟩, ⟨(some 76), (some (69, true)), (.ld none), [.t 75]⟩, ⟨(some 77), (some (69, true)), (.bin .sub), [.t 76, .k (.c (.int .i64 1))]⟩, ⟨(some 78), (some (69, true)), (.bld [(.c (.int .i64 0)), (.c (.int .i64 0))] [(0, 1), (1, 1)]), [.t 73, .t 77]⟩, ⟨(some 79), (some (69, true)), (.mlk true [0, 0] (.c (.bool false)) false), [.t 70, .t 78]⟩, ⟨(some 80), (some (69, true)), (.un .not), [.t 79]⟩, ⟨(some 81), none, .pick, [.t 69, .t 80, .k (.c (.bool false))]⟩] false) (.cn (.t 81) (.sq (.rg [⟨(some 4), none, .mv, [.k (.c (.bool false))]⟩] false) (.rt)) (.skip))) (.sq (.rg [⟨(some 82), none, (.fa 2), [.t 9]⟩, ⟨(some 83), none, (.ld none), [.t 82]⟩, ⟨(some 84), none, .len, [.t 83]⟩, ⟨(some 85), none, .mv, [.k (.c (.int .i64 0))]⟩] false) (.bl 4 (.lp (.sq (.rg [⟨(some 86), none, (.bin .lss), [.t 85, .t 84]⟩] false) (.sq (.cn (.t 86) (.skip) (.ex 4)) (.sq (.bl 5 (.sq (.rg [⟨(some 87), none, .mv, [.t 85]⟩, ⟨(some 88), none, (.ia 1), [.t 83, .t 85]⟩, ⟨(some 89), none, (.ld none), [.t 88]⟩, ⟨(some 10), none, .mv, [.t 87]⟩, ⟨(some 11), none, .mv, [.t 89]⟩] false) (.sq (.rg [⟨(some 90), none, .mv, [.t 5]⟩, ⟨(some 91), none, .mv, [.t 10]⟩, ⟨(some 92), none, .mv, [.t 11]⟩, ⟨(some 93), none, (.rcall 47), [.t 90, .t 91, .t 92]⟩, ⟨(some 94), none, (.un .not), [.t 93]⟩] false) (.cn (.t 94) (.sq (.rg [⟨(some 4), none, .mv, [.k (.c (.bool false))]⟩] false) (.rt)) (.skip))))) (.rg [⟨(some 95), none, (.bin .add), [.t 85, .k (.c (.int .i64 1))]⟩, ⟨(some 85), none, .mv, [.t 95]⟩] false)))))))))) (.rg [⟨(some 96), none, (.bin .add), [.t 61, .k (.c (.int .i64 1))]⟩, ⟨(some 61), none, .mv, [.t 96]⟩] false))))))) (.sq (.rg [⟨(some 4), none, .mv, [.k (.c (.bool true))]⟩] false) (.rt))))))
theorem cf22 : compF Try.prog 22 c22 = some ⟨c22, [.t 4], 97⟩ := by kernel_rfl

-- raddle/raddleref01.Vector
def c23 : IC := .sq (.rg [⟨(some 2), none, .mv, [.k (.c (.int .i64 0))]⟩] false) (.sq (.sq (.rg [⟨(some 4), none, .mv, [.t 0]⟩, ⟨(some 5), none, .len, [.t 4]⟩, ⟨(some 6), none, (.call 48 .fz), [.t 5, .k (.c (.int .i64 1)), .k (.c (.int .i64 5))]⟩, ⟨(some 7), none, (.un .not), [.t 6]⟩] false) (.cn (.t 7) (.sq (.rg [⟨(some 2), none, .mv, [.k (.c (.int .i64 2))]⟩] false) (.rt)) (.skip))) (.sq (.sq (.rg [⟨(some 3), none, .mv, [.k (.c (.int .i64 0))]⟩] false) (.bl 0 (.lp (.sq (.sq (.rg [⟨(some 8), none, .mv, [.t 3]⟩, ⟨(some 9), none, .mv, [.t 0]⟩, ⟨(some 10), none, .len, [.t 9]⟩, ⟨(some 11), none, (.bin .lss), [.t 8, .t 10]⟩] false) (.cn (.t 11) (.skip) (.ex 0))) (.sq (.bl 1 (.sq (.rg [⟨(some 14), none, .mv, [.t 0]⟩, ⟨(some 15), none, .mv, [.t 3]⟩, ⟨(some 16), none, (.ia 1), [.t 14, .t 15]⟩, ⟨(some 17), none, (.ld none), [.t 16]⟩, ⟨(some 18), none, (.call 48 .fz), [.t 17, .k (.c (.int .i64 0)), .k (.c (.int .i64 1073741824))]⟩, ⟨(some 19), none, (.un .not), [.t 18]⟩] false) (.cn (.t 19) (.sq (.rg [⟨(some 2), none, .mv, [.k (.c (.int .i64 1))]⟩] false) (.rt)) (.skip)))) (.rg [⟨(some 12), none, .mv, [.t 3]⟩, ⟨(some 13), none, (.bin .add), [.t 12, .k (.c (.int .i64 1))]⟩, ⟨(some 3), none, .mv, [.t 13]⟩] false)))))) (.sq (.rg [⟨(some 2), none, .mv, [.k (.c (.int .i64 0))]⟩] false) (.rt))))
theorem cf23 : compF Try.prog 23 c23 = some ⟨c23, [.t 2], 20⟩ := by kernel_rfl

-- raddle/raddleref01.Next
-- raddle/raddleref01.Le
-- raddle/raddleref01.Forms
def c26 : IC := .sq (.rg [⟨(some 2), none, .mv, [.k (.c (.int .i64 0))]⟩] false) (.sq (.sq (.rg [⟨(some 6), none, .mv, [.t 0]⟩, ⟨(some 7), none, .len, [.t 6]⟩, ⟨(some 8), none, (.call 48 .fz), [.t 7, .k (.c (.int .i64 1)), .k (.c (.int .i64 3))]⟩, ⟨(some 9), none, (.un .not), [.t 8]⟩] false) (.cn (.t 9) (.sq (.rg [⟨(some 2), none, .mv, [.k (.c (.int .i64 2))]⟩] false) (.rt)) (.skip))) (.sq (.sq (.rg [⟨(some 3), none, .mv, [.k (.c (.int .i64 0))]⟩] false) (.bl 0 (.lp (.sq (.sq (.rg [⟨(some 10), none, .mv, [.t 3]⟩, ⟨(some 11), none, .mv, [.t 0]⟩, ⟨(some 12), none, .len, [.t 11]⟩, ⟨(some 13), none, (.bin .lss), [.t 10, .t 12]⟩] false) (.cn (.t 13) (.skip) (.ex 0))) (.sq (.bl 1 (.sq (.rg [⟨(some 16), none, .mv, [.t 0]⟩, ⟨(some 17), none, .mv, [.t 3]⟩, ⟨(some 18), none, (.ia 1), [.t 16, .t 17]⟩, ⟨(some 19), none, (.fa 0), [.t 18]⟩, ⟨(some 20), none, (.ld none), [.t 19]⟩, ⟨(some 21), none, .len, [.t 20]⟩, ⟨(some 22), none, (.call 48 .fz), [.t 21, .k (.c (.int .i64 1)), .k (.c (.int .i64 4))]⟩, ⟨(some 23), none, (.un .not), [.t 22]⟩] false) (.cn (.t 23) (.sq (.rg [⟨(some 2), none, .mv, [.k (.c (.int .i64 2))]⟩] false) (.rt)) (.skip)))) (.rg [⟨(some 14), none, .mv, [.t 3]⟩, ⟨(some 15), none, (.bin .add), [.t 14, .k (.c (.int .i64 1))]⟩, ⟨(some 3), none, .mv, [.t 15]⟩] false)))))) (.sq (.sq (.rg [⟨(some 4), none, .mv, [.k (.c (.int .i64 0))]⟩] false) (.bl 2 (.lp (.sq (.sq (.rg [⟨(some 24), none, .mv, [.t 4]⟩, ⟨(some 25), none, .mv, [.t 0]⟩, ⟨(some 26), none, .len, [.t 25]⟩, ⟨(some 27), none, (.bin .lss), [.t 24, .t 26]⟩] false) (.cn (.t 27) (.skip) (.ex 2))) (.sq (.bl 3 (.sq (.rg [⟨(some 5), none, .mv, [.k (.c (.int .i64 0))]⟩] false) (.bl 4 (.lp (.sq (.sq (.rg [⟨(some 30), none, .mv, [.t 5]⟩, ⟨(some 31), none, .mv, [.t 0]⟩, ⟨(some 32), none, .mv, [.t 4]⟩, ⟨(some 33), none, (.ia 1), [.t 31, .t 32]⟩, ⟨(some 34), none, (.fa 0), [.t 33]⟩, ⟨(some 35), none, (.ld none), [.t 34]⟩, ⟨(some 36), none, .len, [.t 35]⟩, ⟨(some 37), none, (.bin .lss), [.t 30, .t 36]⟩] false) (.cn (.t 37) (.skip) (.ex 4))) (.sq (.bl 5 (.sq (.rg [⟨(some 40), none, .mv, [.t 0]⟩, ⟨(some 41), none, .mv, [.t 4]⟩, ⟨(some 42), none, (.ia 1), [.t 40, .t 41]⟩, ⟨(some 43), none, (.fa 0), [.t 42]⟩, ⟨(some 44), none, (.ld none), [.t 43]⟩, ⟨(some 45), none, .mv, [.t 5]⟩, ⟨(some 46), none, (.ia 1), [.t 44, .t 45]⟩, ⟨(some 47), none, (.ld none), [.t 46]⟩, ⟨(some 48), none, (.call 49 .fz), [.t 47]⟩, ⟨(some 49), none, (.un .not), [.t 48]⟩] false) (.cn (.t 49) (.sq (.rg [⟨(some 2), none, .mv, [.k (.c (.int .i64 10))]⟩] false) (.rt)) (.skip)))) (.rg [⟨(some 38), none, .mv, [.t 5]⟩, ⟨(some 39), none, (.bin .add), [.t 38, .k (.c (.int .i64 1))]⟩, ⟨(some 5), none, .mv, [.t 39]⟩] false))))))) (.rg [⟨(some 28), none, .mv, [.t 4]⟩, ⟨(some 29), none, (.bin .add), [.t 28, .k (.c (.int .i64 1))]⟩, ⟨(some 4), none, .mv, [.t 29]⟩] false)))))) (.sq (.rg [⟨(some 2), none, .mv, [.k (.c (.int .i64 0))]⟩] false) (.rt)))))
theorem cf26 : compF Try.prog 26 c26 = some ⟨c26, [.t 2], 50⟩ := by kernel_rfl

-- raddle/raddlekeep.Row
def c27 : IC := .sq (.rg [⟨(some 4), none, .mv, [.k (.c (.bool false))]⟩] false) (.sq (.sq (.rg [⟨(some 6), none, .mv, [.t 0]⟩, ⟨(some 7), none, .len, [.t 6]⟩, ⟨(some 8), none, .mv, [.t 1]⟩, ⟨(some 9), none, .len, [.t 8]⟩, ⟨(some 10), none, (.bin .neq), [.t 7, .t 9]⟩] false) (.cn (.t 10) (.sq (.rg [⟨(some 4), none, .mv, [.k (.c (.bool false))]⟩] false) (.rt)) (.skip))) (.sq (.sq (.rg [⟨(some 5), none, .mv, [.k (.c (.int .i64 0))]⟩] false) (.bl 0 (.lp (.sq (.sq (.rg [⟨(some 11), none, .mv, [.t 5]⟩, ⟨(some 12), none, .mv, [.t 0]⟩, ⟨(some 13), none, .len, [.t 12]⟩, ⟨(some 14), none, (.bin .lss), [.t 11, .t 13]⟩] false) (.cn (.t 14) (.skip) (.ex 0))) (.sq (.bl 1 (.sq (.rg [⟨(some 17), none, .mv, [.t 0]⟩, ⟨(some 18), none, .mv, [.t 5]⟩, ⟨(some 19), none, (.ia 3), [.t 17, .t 18]⟩, ⟨(some 20), none, (.ld (some 3)), [.t 19]⟩, ⟨(some 21), none, .mv, [.t 1]⟩, ⟨(some 22), none, .mv, [.t 5]⟩, ⟨(some 23), none, (.ia 3), [.t 21, .t 22]⟩, ⟨(some 24), none, (.ld (some 3)), [.t 23]⟩, ⟨(some 25), none, (.call 50 .fz), [.t 20, .t 24]⟩, ⟨(some 26), none, (.un .not), [.t 25]⟩] true) (.cn (.t 26) (.sq (.rg [⟨(some 4), none, .mv, [.k (.c (.bool false))]⟩] false) (.rt)) (.skip)))) (.rg [⟨(some 15), none, .mv, [.t 5]⟩, ⟨(some 16), none, (.bin .add), [.t 15, .k (.c (.int .i64 1))]⟩, ⟨(some 5), none, .mv, [.t 16]⟩] false)))))) (.sq (.rg [⟨(some 4), none, .mv, [.k (.c (.bool true))]⟩] false) (.rt))))
theorem cf27 : compF Try.prog 27 c27 = some ⟨c27, [.t 4], 27⟩ := by kernel_rfl

-- raddle/raddlelaw26.seen
-- raddle/raddlekeep.TwinOp
-- raddle/raddlelaw04.Heavy
def c30 : IC := .sq (.rg [⟨(some 2), none, .mv, [.k (.c (.bool false))]⟩] false) (.sq (.rg [⟨(some 3), none, .mv, [.t 0]⟩, ⟨(some 4), none, .len, [.t 3]⟩, ⟨(some 5), none, (.bin .gtr), [.t 4, .k (.c (.int .i64 40))]⟩, ⟨(some 6), none, .mv, [.t 5]⟩, ⟨(some 7), (some (6, false)), .mv, [.t 0]⟩, ⟨(some 8), (some (6, false)), (.call 53 .fz), [.t 7]⟩, ⟨(some 9), none, .pick, [.t 6, .k (.c (.bool true)), .t 8]⟩, ⟨(some 2), none, .mv, [.t 9]⟩] false) (.rt))
theorem cf30 : compF Try.prog 30 c30 = some ⟨c30, [.t 2], 10⟩ := by kernel_rfl

-- raddle/op.Twin
def c31 : IC := .sq (.rg [⟨(some 1), none, (.box (some 12)), [.t 0]⟩, ⟨(some 2), none, (.alloc [(.c (.int .i64 0)), (.c (.int .i64 0)), .z, (.c (.int .i64 0)), (.c (.int .i64 0)), (.c (.int .i64 0)), (.c (.int .i64 0)), (.c (.int .i64 0)), (.c (.string ⟨#[]⟩)), (.c (.int .i64 0)), .z, .z]), []⟩] false) (.sq (.rg [⟨(some 3), none, (.fa 2), [.t 1]⟩, ⟨(some 4), none, (.ld none), [.t 3]⟩, ⟨(some 5), none, (.call 54 .fz), [.t 4]⟩, ⟨(some 6), none, (.fa 10), [.t 1]⟩, ⟨(some 7), none, (.ld none), [.t 6]⟩, ⟨(some 8), none, (.call 55 .fz), [.t 7]⟩, ⟨(some 9), none, (.fa 11), [.t 1]⟩, ⟨(some 10), none, (.ld none), [.t 9]⟩, ⟨(some 11), none, (.call 56 .fz), [.t 10]⟩, ⟨(some 12), none, (.fa 2), [.t 1]⟩, ⟨none, none, (.st 1), [.t 12, .t 5]⟩, ⟨(some 13), none, (.fa 10), [.t 1]⟩, ⟨none, none, (.st 1), [.t 13, .t 8]⟩, ⟨(some 14), none, (.fa 11), [.t 1]⟩, ⟨none, none, (.st 1), [.t 14, .t 11]⟩] true) (.sq (.rg [⟨(some 15), none, (.ld (some 12)), [.t 1]⟩, ⟨none, none, (.st 12), [.t 2, .t 15]⟩] false) (.rt)))
theorem cf31 : compF Try.prog 31 c31 = some ⟨c31, [.c 2 (some 12)], 16⟩ := by kernel_rfl

-- raddle/dot.in
def c32 : IC := .sq (.rg [⟨(some 4), none, .mv, [.k (.c (.bool false))]⟩] false) (.sq (.rg [⟨(some 5), none, .mv, [.t 1]⟩, ⟨(some 6), none, (.bin .geq), [.t 5, .k (.c (.int .i64 0))]⟩, ⟨(some 7), none, .mv, [.t 6]⟩, ⟨(some 8), (some (7, true)), .mv, [.t 1]⟩, ⟨(some 9), (some (7, true)), .mv, [.t 0]⟩, ⟨(some 10), (some (7, true)), .len, [.t 9]⟩, ⟨(some 11), (some (7, true)), (.bin .lss), [.t 8, .t 10]⟩, ⟨(some 12), none, .pick, [.t 7, .t 11, .k (.c (.bool false))]⟩, ⟨(some 4), none, .mv, [.t 12]⟩] false) (.rt))
theorem cf32 : compF Try.prog 32 c32 = some ⟨c32, [.t 4], 13⟩ := by kernel_rfl

-- raddle/raddlekeep.Dot
-- raddle/raddlekeep.Stamp
-- raddle/raddlekeep.Dots
-- raddle/dot.each
-- raddle/dot.Merge$1
-- raddle/raddleref01.Op
def c38 : IC := .sq (.rg [⟨(some 5), none, (.box (some 12)), [.t 2]⟩, ⟨(some 6), none, .mv, [.k (.c (.bool false))]⟩] false) (.sq (.sq (.rg [⟨(some 10), none, (.fa 0), [.t 5]⟩, ⟨(some 11), none, (.fa 0), [.t 10]⟩, ⟨(some 12), none, (.ld none), [.t 11]⟩, ⟨(some 13), none, .mv, [.t 0]⟩, ⟨(some 14), none, (.bin .sub), [.t 13, .k (.c (.int .i64 1))]⟩, ⟨(some 15), none, (.call 48 .fz), [.t 12, .k (.c (.int .i64 0)), .t 14]⟩, ⟨(some 16), none, (.un .not), [.t 15]⟩, ⟨(some 17), none, .mv, [.t 16]⟩, ⟨(some 18), (some (17, false)), (.fa 0), [.t 5]⟩, ⟨(some 19), (some (17, false)), (.fa 1), [.t 18]⟩, ⟨(some 20), (some (17, false)), (.ld none), [.t 19]⟩, ⟨(some 21), (some (17, false)), (.call 48 .fz), [.t 20, .k (.c (.int .i64 1)), .k (.c (.int .i64 1073741824))]⟩, ⟨(some 22), (some (17, false)), (.un .not), [.t 21]⟩, ⟨(some 23), none, .pick, [.t 17, .k (.c (.bool true)), .t 22]⟩, ⟨(some 24), none, .mv, [.t 23]⟩, ⟨(some 25), (some (24, false)), (.fa 2), [.t 5]⟩, ⟨(some 26), (some (24, false)), (.ld none), [.t 25]⟩, ⟨(some 27), (some (24, false)), .len, [.t 26]⟩, ⟨(some 28), (some (24, false)), .mv, [.t 0]⟩, ⟨(some 29), (some (24, false)), (.bin .neq), [.t 27, .t 28]⟩, ⟨(some 30), none, .pick, [.t 24, .k (.c (.bool true)), .t 29]⟩, ⟨(some 31), none, .mv, [.t 30]⟩, ⟨(some 32), (some (31, false)), (.fa 2), [.t 5]⟩, ⟨(some 33), (some (31, false)), (.ld none), [.t 32]⟩, ⟨(some 34), (some (31, false)), (.call 23 .fz), [.t 33]⟩, ⟨(some 35), (some (31, false)), (.bin .neq), [.t 34, .k (.c (.int .i64 0))]⟩, ⟨(some 36), none, .pick, [.t 31, .k (.c (.bool true)), .t 35]⟩, ⟨(some 37), none, .mv, [.t 36]⟩, ⟨(some 38), (some (37, false)), (.fa 2), [.t 5]⟩, ⟨(some 39), (some (37, false)), (.ld none), [.t 38]⟩, ⟨(some 40), (some (37, false)), (.fa 0), [.t 5]⟩, ⟨(some 41), (some (37, false)), (.fa 0), [.t 40]⟩, ⟨(some 42), (some (37, false)), (.ld none), [.t 41]⟩, ⟨(some 43), (some (37, false)), (.ia 1), [.t 39, .t 42]⟩, ⟨(some 44), (some (37, false)), (.ld none), [.t 43]⟩, ⟨(some 45), (some (37, false)), (.fa 0), [.t 5]⟩, ⟨(some 46), (some (37, false)), (.fa 1), [.t 45]⟩, ⟨(some 47), (some (37, false)), (.ld none), [.t 46]⟩, ⟨(some 48), (some (37, false)), (.bin .sub), [.t 47, .k (.c (.int .i64 1))]⟩, ⟨(some 49), (some (37, false)), (.bin .neq), [.t 44, .t 48]⟩, ⟨(some 50), none, .pick, [.t 37, .k (.c (.bool true)), .t 49]⟩, ⟨(some 51), none, .mv, [.t 50]⟩, ⟨(some 52), (some (51, false)), (.fa 3), [.t 5]⟩, ⟨(some 53), (some (51, false)), (.ld (some 3)), [.t 52]⟩, ⟨(some 54), (some (51, false)), (.call 57 .fz), [.t 53]⟩, ⟨(some 55), (some (51, false)), (.un .not), [.t 54]⟩, ⟨(some 56), none, .pick, [.t 51, .k (.c (.bool true)), .t 55]⟩, ⟨(some 57), none, .mv, [.t 56]⟩, ⟨(some 58), (some (57, false)), (.fa 3), [.t 5]⟩, ⟨(some 59), (some (57, false)), (.fa 2), [.t 58]⟩, ⟨(some 60), (some (57, false)), (.ld none), [.t 59]⟩, ⟨(some 61), (some (57, false)), (.fa 0), [.t 5]⟩, ⟨(some 62), (some (57, false)), (.fa 0), [.t 61]⟩, ⟨(some 63), (some (57, false)), (.ld none), [.t 62]⟩, ⟨(some 64), (some (57, false)), (.bin .neq), [.t 60, .t 63]⟩, ⟨(some 65), none, .pick, [.t 57, .k (.c (.bool true)), .t 64]⟩, ⟨(some 66), none, .mv, [.t 65]⟩, ⟨(some 67), (some (66, false)), (.fa 7), [.t 5]⟩, ⟨(some 68), (some (66, false)), (.ld none), [.t 67]⟩, ⟨(some 69), (some (66, false)), .mv, [.t 1]⟩, ⟨(some 70), (some (66, false)), .len, [.t 69]⟩, ⟨(some 71), (some (66, false)), (.bin .sub), [.t 70, .k (.c (.int .i64 1))]⟩, ⟨(some 72), (some (66, false)), (.call 48 .fz), [.t 68, .k (.c (.int .i64 0)), .t 71]⟩, ⟨(some 73), (some (66, false)), (.un .not), [.t 72]⟩, ⟨(some 74), none, .pick, [.t 66, .k (.c (.bool true)), .t 73]⟩, ⟨(some 75), none, .mv, [.t 74]⟩, ⟨(some 76), (some (75, false)), (.fa 8), [.t 5]⟩, ⟨(some 77), (some (75, false)), (.ld none), [.t 76]⟩, ⟨(some 78), (some (75, false)), (.call 58 .fz), [.t 77]⟩, ⟨(some 79), (some (75, false)), (.un .not), [.t 78]⟩, ⟨(some 80), none, .pick, [.t 75, .k (.c (.bool true)), .t 79]⟩] true) (.cn (.t 80) (.sq (.rg [⟨(some 6), none, .mv, [.k (.c (.bool false))]⟩] false) (.rt)) (.skip))) (.sq (.rg [⟨(some 81), none, .mv, [.t 1]⟩, ⟨(some 82), none, (.fa 7), [.t 5]⟩, ⟨(some 83), none, (.ld none), [.t 82]⟩, ⟨(some 84), none, (.ia 1), [.t 81, .t 83]⟩, ⟨(some 85), none, (.fa 0), [.t 84]⟩, ⟨(some 86), none, (.ld none), [.t 85]⟩, ⟨(some 7), none, .mv, [.t 86]⟩] false) (.sq (.sq (.rg [⟨(some 87), none, (.fa 6), [.t 5]⟩, ⟨(some 88), none, (.ld none), [.t 87]⟩] false) (.bl 0 (.sq (.rg [⟨(some 90), none, (.bin .eql), [.t 88, .k (.c (.int .i64 1))]⟩, ⟨(some 89), none, .mv, [.t 90]⟩] false) (.cn (.t 89) (.sq (.sq (.rg [⟨(some 91), none, (.fa 10), [.t 5]⟩, ⟨(some 92), none, (.ld none), [.t 91]⟩, ⟨(some 93), none, .len, [.t 92]⟩, ⟨(some 94), none, .mv, [.t 7]⟩, ⟨(some 95), none, .len, [.t 94]⟩, ⟨(some 96), none, (.bin .neq), [.t 93, .t 95]⟩, ⟨(some 97), none, .mv, [.t 96]⟩, ⟨(some 98), (some (97, false)), (.fa 9), [.t 5]⟩, ⟨(some 99), (some (97, false)), (.ld none), [.t 98]⟩, ⟨(some 100), (some (97, false)), (.bin .neq), [.t 99, .k (.c (.int .i64 0))]⟩, ⟨(some 101), none, .pick, [.t 97, .k (.c (.bool true)), .t 100]⟩, ⟨(some 102), none, .mv, [.t 101]⟩, ⟨(some 103), (some (102, false)), (.fa 11), [.t 5]⟩, ⟨(some 104), (some (102, false)), (.ld none), [.t 103]⟩, ⟨(some 105), (some (102, false)), .len, [.t 104]⟩, ⟨(some 106), (some (102, false)), (.bin .gtr), [.t 105, .k (.c (.int .i64 0))]⟩, ⟨(some 107), none, .pick, [.t 102, .k (.c (.bool true)), .t 106]⟩] false) (.cn (.t 107) (.sq (.rg [⟨(some 6), none, .mv, [.k (.c (.bool false))]⟩] false) (.rt)) (.skip))) (.sq (.sq (.rg [⟨(some 8), none, .mv, [.k (.c (.int .i64 0))]⟩] false) (.bl 1 (.lp (.sq (.sq (.rg [⟨(some 108), none, .mv, [.t 8]⟩, ⟨(some 109), none, .mv, [.t 7]⟩, ⟨(some 110), none, .len, [.t 109]⟩, ⟨(some 111), none, (.bin .lss), [.t 108, .t 110]⟩] false) (.cn (.t 111) (.skip) (.ex 1))) (.sq (.bl 2 (.sq (.rg [⟨(some 114), none, (.fa 10), [.t 5]⟩, ⟨(some 115), none, (.ld none), [.t 114]⟩, ⟨(some 116), none, .mv, [.t 8]⟩, ⟨(some 117), none, (.ia 3), [.t 115, .t 116]⟩, ⟨(some 118), none, (.ld (some 3)), [.t 117]⟩, ⟨(some 119), none, (.call 59 .fz), [.t 118]⟩, ⟨(some 120), none, (.un .not), [.t 119]⟩, ⟨(some 121), none, .mv, [.t 120]⟩, ⟨(some 122), (some (121, false)), (.fa 10), [.t 5]⟩, ⟨(some 123), (some (121, false)), (.ld none), [.t 122]⟩, ⟨(some 124), (some (121, false)), .mv, [.t 8]⟩, ⟨(some 125), (some (121, false)), (.ia 3), [.t 123, .t 124]⟩, ⟨(some 126), (some (121, false)), (.ld (some 3)), [.t 125]⟩, ⟨(some 127), (some (121, false)), .mv, [.t 7]⟩, ⟨(some 128), (some (121, false)), .mv, [.t 8]⟩, ⟨(some 129), (some (121, false)), (.ia 1), [.t 127, .t 128]⟩, ⟨(some 130), (some (121, false)), (.ld none), [.t 129]⟩, ⟨(some 131), (some (121, false)), (.call 60 .fz), [.t 126, .t 130]⟩, ⟨(some 132), (some (121, false)), (.un .not), [.t 131]⟩, ⟨(some 133), none, .pick, [.t 121, .k (.c (.bool true)), .t 132]⟩] true) (.cn (.t 133) (.sq (.rg [⟨(some 6), none, .mv, [.k (.c (.bool false))]⟩] false) (.rt)) (.skip)))) (.rg [⟨(some 112), none, .mv, [.t 8]⟩, ⟨(some 113), none, (.bin .add), [.t 112, .k (.c (.int .i64 1))]⟩, ⟨(some 8), none, .mv, [.t 113]⟩] false)))))) (.sq (.rg [⟨(some 6), none, .mv, [.k (.c (.bool true))]⟩] false) (.rt)))) (.sq (.rg [⟨(some 135), none, (.bin .eql), [.t 88, .k (.c (.int .i64 2))]⟩, ⟨(some 134), none, .mv, [.t 135]⟩] false) (.cn (.t 134) (.sq (.rg [⟨(some 136), none, (.fa 9), [.t 5]⟩, ⟨(some 137), none, (.ld none), [.t 136]⟩, ⟨(some 138), none, .mv, [.t 7]⟩, ⟨(some 139), none, .len, [.t 138]⟩, ⟨(some 140), none, (.bin .sub), [.t 139, .k (.c (.int .i64 1))]⟩, ⟨(some 141), none, (.call 48 .fz), [.t 137, .k (.c (.int .i64 0)), .t 140]⟩, ⟨(some 142), none, .mv, [.t 141]⟩, ⟨(some 143), (some (142, true)), (.fa 10), [.t 5]⟩, ⟨(some 144), (some (142, true)), (.ld none), [.t 143]⟩, ⟨(some 145), (some (142, true)), .len, [.t 144]⟩, ⟨(some 146), (some (142, true)), (.bin .eql), [.t 145, .k (.c (.int .i64 1))]⟩, ⟨(some 147), none, .pick, [.t 142, .t 146, .k (.c (.bool false))]⟩, ⟨(some 148), none, .mv, [.t 147]⟩, ⟨(some 149), (some (148, true)), (.fa 10), [.t 5]⟩, ⟨(some 150), (some (148, true)), (.ld none), [.t 149]⟩, ⟨(some 151), (some (148, true)), (.ia 3), [.t 150, .k (.c (.int .i64 0))]⟩, ⟨(some 152), (some (148, true)), (.ld (some 3)), [.t 151]⟩, ⟨(some 153), (some (148, true)), (.call 59 .fz), [.t 152]⟩, ⟨(some 154), none, .pick, [.t 148, .t 153, .k (.c (.bool false))]⟩, ⟨(some 155), none, .mv, [.t 154]⟩, ⟨(some 156), (some (155, true)), (.fa 10), [.t 5]⟩, ⟨(some 157), (some (155, true)), (.ld none), [.t 156]⟩, ⟨(some 158), (some (155, true)), (.ia 3), [.t 157, .k (.c (.int .i64 0))]⟩, ⟨(some 159), (some (155, true)), (.ld (some 3)), [.t 158]⟩, ⟨(some 160), (some (155, true)), .mv, [.t 7]⟩, ⟨(some 161), (some (155, true)), (.fa 9), [.t 5]⟩, ⟨(some 162), (some (155, true)), (.ld none), [.t 161]⟩, ⟨(some 163), (some (155, true)), (.ia 1), [.t 160, .t 162]⟩, ⟨(some 164), (some (155, true)), (.ld none), [.t 163]⟩, ⟨(some 165), (some (155, true)), (.call 60 .fz), [.t 159, .t 164]⟩, ⟨(some 166), none, .pick, [.t 155, .t 165, .k (.c (.bool false))]⟩, ⟨(some 167), none, .mv, [.t 166]⟩, ⟨(some 168), (some (167, true)), (.fa 11), [.t 5]⟩, ⟨(some 169), (some (167, true)), (.ld none), [.t 168]⟩, ⟨(some 170), (some (167, true)), .len, [.t 169]⟩, ⟨(some 171), (some (167, true)), (.bin .eql), [.t 170, .k (.c (.int .i64 0))]⟩, ⟨(some 172), none, .pick, [.t 167, .t 171, .k (.c (.bool false))]⟩, ⟨(some 6), none, .mv, [.t 172]⟩] true) (.rt)) (.sq (.rg [⟨(some 174), none, (.bin .eql), [.t 88, .k (.c (.int .i64 3))]⟩, ⟨(some 173), none, .mv, [.t 174]⟩] false) (.cn (.t 173) (.sq (.sq (.rg [⟨(some 175), none, (.fa 11), [.t 5]⟩, ⟨(some 176), none, (.ld none), [.t 175]⟩, ⟨(some 177), none, .len, [.t 176]⟩, ⟨(some 178), none, (.call 48 .fz), [.t 177, .k (.c (.int .i64 1)), .k (.c (.int .i64 64))]⟩, ⟨(some 179), none, (.un .not), [.t 178]⟩, ⟨(some 180), none, .mv, [.t 179]⟩, ⟨(some 181), (some (180, false)), (.fa 9), [.t 5]⟩, ⟨(some 182), (some (180, false)), (.ld none), [.t 181]⟩, ⟨(some 183), (some (180, false)), (.bin .neq), [.t 182, .k (.c (.int .i64 0))]⟩, ⟨(some 184), none, .pick, [.t 180, .k (.c (.bool true)), .t 183]⟩, ⟨(some 185), none, .mv, [.t 184]⟩, ⟨(some 186), (some (185, false)), (.fa 10), [.t 5]⟩, ⟨(some 187), (some (185, false)), (.ld none), [.t 186]⟩, ⟨(some 188), (some (185, false)), .len, [.t 187]⟩, ⟨(some 189), (some (185, false)), (.bin .gtr), [.t 188, .k (.c (.int .i64 0))]⟩, ⟨(some 190), none, .pick, [.t 185, .k (.c (.bool true)), .t 189]⟩] false) (.cn (.t 190) (.sq (.rg [⟨(some 6), none, .mv, [.k (.c (.bool false))]⟩] false) (.rt)) (.skip))) (.sq (.sq (.rg [⟨(some 9), none, .mv, [.k (.c (.int .i64 0))]⟩] false) (.bl 3 (.lp (.sq (.sq (.rg [⟨(some 191), none, .mv, [.t 9]⟩, ⟨(some 192), none, (.fa 11), [.t 5]⟩, ⟨(some 193), none, (.ld none), [.t 192]⟩, ⟨(some 194), none, .len, [.t 193]⟩, ⟨(some 195), none, (.bin .lss), [.t 191, .t 194]⟩] false) (.cn (.t 195) (.skip) (.ex 3))) (.sq (.bl 4 (.sq (.rg [⟨(some 198), none, (.fa 2), [.t 5]⟩, ⟨(some 199), none, (.ld none), [.t 198]⟩, ⟨(some 200), none, (.fa 11), [.t 5]⟩, ⟨(some 201), none, (.ld none), [.t 200]⟩, ⟨(some 202), none, .mv, [.t 9]⟩, ⟨(some 203), none, (.ia 2), [.t 201, .t 202]⟩, ⟨(some 204), none, (.ld (some 2)), [.t 203]⟩, ⟨(some 205), none, (.call 61 .fz), [.t 199, .t 204]⟩, ⟨(some 206), none, (.un .not), [.t 205]⟩, ⟨(some 207), none, .mv, [.t 206]⟩, ⟨(some 208), (some (207, false)), .mv, [.t 9]⟩, ⟨(some 209), (some (207, false)), (.bin .gtr), [.t 208, .k (.c (.int .i64 0))]⟩, ⟨(some 210), (some (207, false)), .mv, [.t 209]⟩, ⟨(some 211), (some (210, true)), (.fa 11), [.t 5]⟩, ⟨(some 212), (some (210, true)), (.ld none), [.t 211]⟩, ⟨(some 213), (some (210, true)), .mv, [.t 9]⟩, ⟨(some 214), (some (210, true)), (.bin .sub), [.t 213, .k (.c (.int .i64 1))]⟩, ⟨(some 215), (some (210, true)), (.ia 2), [.t 212, .t 214]⟩, ⟨(some 216), (some (210, true)), (.ld (some 2)), [.t 215]⟩, ⟨(some 217), (some (210, true)), (.fa 11), [.t 5]⟩, ⟨(some 218), (some (210, true)), (.ld none), [.t 217]⟩, ⟨(some 219), (some (210, true)), .mv, [.t 9]⟩, ⟨(some 220), (some (210, true)), (.ia 2), [.t 218, .t 219]⟩, ⟨(some 221), (some (210, true)), (.ld (some 2)), [.t 220]⟩, ⟨(some 222), (some (210, true)), (.call 62 .fz), [.t 216, .t 221]⟩, ⟨(some 223), (some (210, true)), (.un .not), [.t 222]⟩, ⟨(some 224), (some (207, false)), .pick, [.t 210, .t 223, .k (.c (.bool false))]⟩, ⟨(some 225), none, .pick, [.t 207, .k (.c (.bool true)), .t 224]⟩] true) (.cn (.t 225) (.sq (.rg [⟨(some 6), none, .mv, [.k (.c (.bool false))]⟩] false) (.rt)) (.skip)))) (.rg [⟨(some 196), none, .mv, [.t 9]⟩, ⟨(some 197), none, (.bin .add), [.t 196, .k (.c (.int .i64 1))]⟩, ⟨(some 9), none, .mv, [.t 197]⟩] false)))))) (.sq (.rg [⟨(some 6), none, .mv, [.k (.c (.bool true))]⟩] false) (.rt)))) (.skip))))))))) (.sq (.rg [⟨(some 6), none, .mv, [.k (.c (.bool false))]⟩] false) (.rt)))))
theorem cf38 : compF Try.prog 38 c38 = some ⟨c38, [.t 6], 226⟩ := by kernel_rfl

-- raddle/raddleref01.sign
-- raddle/op.Forms
def c40 : IC := .sq (.rg [⟨(some 2), none, .mv, [.k (.c (.int .i64 0))]⟩] false) (.sq (.sq (.rg [⟨(some 5), none, .mv, [.t 0]⟩, ⟨(some 6), none, .len, [.t 5]⟩, ⟨(some 7), none, (.bin .lss), [.t 6, .k (.c (.int .i64 1))]⟩, ⟨(some 8), none, .mv, [.t 7]⟩, ⟨(some 9), (some (8, false)), .mv, [.t 0]⟩, ⟨(some 10), (some (8, false)), .len, [.t 9]⟩, ⟨(some 11), (some (8, false)), (.bin .gtr), [.t 10, .k (.c (.int .i64 3))]⟩, ⟨(some 12), none, .pick, [.t 8, .k (.c (.bool true)), .t 11]⟩] false) (.cn (.t 12) (.sq (.rg [⟨(some 2), none, .mv, [.k (.c (.int .i64 2))]⟩] false) (.rt)) (.skip))) (.sq (.sq (.rg [⟨(some 13), none, .mv, [.t 0]⟩, ⟨(some 14), none, (.call 63 .fz), [.t 13, .k (.fn 64 [])]⟩] false) (.cn (.t 14) (.sq (.rg [⟨(some 2), none, .mv, [.k (.c (.int .i64 2))]⟩] false) (.rt)) (.skip))) (.sq (.sq (.rg [⟨(some 15), none, .mv, [.t 0]⟩, ⟨(some 16), none, .len, [.t 15]⟩, ⟨(some 17), none, .mv, [.k (.c (.int .i64 0))]⟩] false) (.bl 0 (.lp (.sq (.rg [⟨(some 18), none, (.bin .lss), [.t 17, .t 16]⟩] false) (.sq (.cn (.t 18) (.skip) (.ex 0)) (.sq (.bl 1 (.sq (.rg [⟨(some 19), none, (.ia 1), [.t 15, .t 17]⟩, ⟨(some 20), none, (.ld (some 1)), [.t 19]⟩, ⟨(some 4), none, (.alloc [.z]), []⟩, ⟨none, none, (.st 1), [.t 4, .t 20]⟩] false) (.sq (.rg [⟨(some 21), none, (.fa 0), [.t 4]⟩, ⟨(some 22), none, (.ld none), [.t 21]⟩, ⟨(some 23), none, (.call 65 .fz), [.t 22, .k (.fn 66 [])]⟩] false) (.cn (.t 23) (.sq (.rg [⟨(some 2), none, .mv, [.k (.c (.int .i64 10))]⟩] false) (.rt)) (.skip))))) (.rg [⟨(some 24), none, (.bin .add), [.t 17, .k (.c (.int .i64 1))]⟩, ⟨(some 17), none, .mv, [.t 24]⟩] false))))))) (.sq (.rg [⟨(some 2), none, .mv, [.k (.c (.int .i64 0))]⟩] false) (.rt)))))
theorem cf40 : compF Try.prog 40 c40 = some ⟨c40, [.t 2], 25⟩ := by kernel_rfl

-- raddle/op.Check
def c41 : IC := .sq (.rg [⟨(some 5), none, (.box (some 12)), [.t 2]⟩, ⟨(some 6), none, .mv, [.k (.c (.int .i64 0))]⟩] false) (.sq (.rg [⟨(some 8), none, .mv, [.t 1]⟩, ⟨(some 9), none, (.call 40 .fz), [.t 8]⟩, ⟨(some 7), none, .mv, [.t 9]⟩] false) (.sq (.bl 0 (.sq (.rg [⟨(some 11), none, .mv, [.t 7]⟩, ⟨(some 12), none, (.bin .neq), [.t 11, .k (.c (.int .i64 0))]⟩, ⟨(some 10), none, .mv, [.t 12]⟩] false) (.cn (.t 10) (.sq (.rg [⟨(some 13), none, .mv, [.t 7]⟩, ⟨(some 6), none, .mv, [.t 13]⟩] false) (.rt)) (.sq (.rg [⟨(some 15), none, .mv, [.t 0]⟩, ⟨(some 16), none, (.bin .lss), [.t 15, .k (.c (.int .i64 1))]⟩, ⟨(some 17), none, .mv, [.t 16]⟩, ⟨(some 18), (some (17, false)), .mv, [.t 0]⟩, ⟨(some 19), (some (17, false)), (.bin .gtr), [.t 18, .k (.c (.int .i64 5))]⟩, ⟨(some 20), none, .pick, [.t 17, .k (.c (.bool true)), .t 19]⟩, ⟨(some 21), none, .mv, [.t 20]⟩, ⟨(some 22), (some (21, false)), .mv, [.t 0]⟩, ⟨(some 23), (some (21, false)), .mv, [.t 1]⟩, ⟨(some 24), (some (21, false)), (.ld (some 12)), [.t 5]⟩, ⟨(some 25), (some (21, false)), (.call 67 .fz), [.t 22, .t 23, .t 24]⟩, ⟨(some 26), (some (21, false)), (.un .not), [.t 25]⟩, ⟨(some 27), none, .pick, [.t 21, .k (.c (.bool true)), .t 26]⟩, ⟨(some 14), none, .mv, [.t 27]⟩] false) (.cn (.t 14) (.sq (.rg [⟨(some 6), none, .mv, [.k (.c (.int .i64 1))]⟩] false) (.rt)) (.skip)))))) (.sq (.rg [⟨(some 6), none, .mv, [.k (.c (.int .i64 0))]⟩] false) (.rt))))
theorem cf41 : compF Try.prog 41 c41 = some ⟨c41, [.t 6], 28⟩ := by kernel_rfl

-- (*raddle/audit.made).note
def c42 : IC := .sq (.rg [⟨(some 3), none, (.box (some 12)), [.t 1]⟩] false) (.sq (.sq (.rg [⟨(some 5), none, (.fa 6), [.t 3]⟩, ⟨(some 6), none, (.ld none), [.t 5]⟩] false) (.bl 0 (.sq (.rg [⟨(some 8), none, (.bin .eql), [.t 6, .k (.c (.int .i64 1))]⟩, ⟨(some 7), none, .mv, [.t 8]⟩] false) (.cn (.t 7) (.rg [⟨(some 9), none, .mv, [.t 0]⟩, ⟨(some 10), none, .mv, [.t 0]⟩, ⟨(some 11), none, (.fa 0), [.t 10]⟩, ⟨(some 12), none, (.fa 1), [.t 11]⟩, ⟨(some 13), none, (.ld none), [.t 12]⟩, ⟨(some 14), none, (.fa 0), [.t 3]⟩, ⟨(some 15), none, (.ld (some 2)), [.t 14]⟩, ⟨(some 16), none, (.bsl 2 [(.c (.int .i64 0)), (.c (.int .i64 0))] [0] 1 true), [.t 15]⟩, ⟨(some 17), none, (.app 2), [.t 13, .t 16]⟩, ⟨(some 18), none, (.fa 0), [.t 9]⟩, ⟨(some 19), none, (.fa 1), [.t 18]⟩, ⟨none, none, (.st 1), [.t 19, .t 17]⟩] true) (.sq (.rg [⟨(some 21), none, (.bin .eql), [.t 6, .k (.c (.int .i64 3))]⟩, ⟨(some 20), none, .mv, [.t 21]⟩] false) (.cn (.t 20) (.rg [⟨(some 22), none, .mv, [.t 0]⟩, ⟨(some 23), none, .mv, [.t 0]⟩, ⟨(some 24), none, (.fa 0), [.t 23]⟩, ⟨(some 25), none, (.fa 2), [.t 24]⟩, ⟨(some 26), none, (.ld none), [.t 25]⟩, ⟨(some 27), none, (.fa 11), [.t 3]⟩, ⟨(some 28), none, (.ld none), [.t 27]⟩, ⟨(some 29), none, (.app 2), [.t 26, .t 28]⟩, ⟨(some 30), none, (.fa 0), [.t 22]⟩, ⟨(some 31), none, (.fa 2), [.t 30]⟩, ⟨none, none, (.st 1), [.t 31, .t 29]⟩] true) (.skip))))))) (.sq (.rg [⟨(some 32), none, .mv, [.t 0]⟩, ⟨(some 33), none, (.fa 0), [.t 32]⟩, ⟨(some 34), none, (.fa 3), [.t 33]⟩, ⟨(some 35), none, (.ld none), [.t 34]⟩, ⟨(some 36), none, .len, [.t 35]⟩, ⟨(some 37), none, .mv, [.k (.c (.int .i64 0))]⟩] false) (.bl 1 (.lp (.sq (.rg [⟨(some 38), none, (.bin .lss), [.t 37, .t 36]⟩] false) (.sq (.cn (.t 38) (.skip) (.ex 1)) (.sq (.bl 2 (.sq (.rg [⟨(some 39), none, .mv, [.t 37]⟩, ⟨(some 4), none, .mv, [.t 39]⟩] false) (.sq (.rg [⟨(some 40), none, (.ld (some 12)), [.t 3]⟩, ⟨(some 41), none, .mv, [.t 4]⟩, ⟨(some 42), none, (.call 68 .fz), [.t 40, .t 41]⟩, ⟨(some 43), none, (.bin .geq), [.t 42, .k (.c (.int .i64 0))]⟩, ⟨(some 44), none, .mv, [.t 43]⟩, ⟨(some 45), (some (44, true)), .mv, [.t 0]⟩, ⟨(some 46), (some (44, true)), (.fa 0), [.t 45]⟩, ⟨(some 47), (some (44, true)), (.fa 3), [.t 46]⟩, ⟨(some 48), (some (44, true)), (.ld none), [.t 47]⟩, ⟨(some 49), (some (44, true)), .mv, [.t 4]⟩, ⟨(some 50), (some (44, true)), (.ia 12), [.t 48, .t 49]⟩, ⟨(some 51), (some (44, true)), (.fa 6), [.t 50]⟩, ⟨(some 52), (some (44, true)), (.ld none), [.t 51]⟩, ⟨(some 53), (some (44, true)), (.bin .eql), [.t 52, .k (.c (.int .i64 0))]⟩, ⟨(some 54), (some (44, true)), .mv, [.t 53]⟩, ⟨(some 55), (some (54, false)), .mv, [.t 0]⟩, ⟨(some 56), (some (54, false)), (.fa 0), [.t 55]⟩, ⟨(some 57), (some (54, false)), (.fa 3), [.t 56]⟩, ⟨(some 58), (some (54, false)), (.ld none), [.t 57]⟩, ⟨(some 59), (some (54, false)), .mv, [.t 4]⟩, ⟨(some 60), (some (54, false)), (.ia 12), [.t 58, .t 59]⟩, ⟨(some 61), (some (54, false)), (.fa 3), [.t 60]⟩, ⟨(some 62), (some (54, false)), (.ld (some 3)), [.t 61]⟩, ⟨(some 63), (some (54, false)), (.fa 3), [.t 3]⟩, ⟨(some 64), (some (54, false)), (.ld (some 3)), [.t 63]⟩, ⟨(some 65), (some (54, false)), (.call 69 .fz), [.t 62, .t 64]⟩, ⟨(some 66), (some (54, false)), (.bin .lss), [.t 65, .k (.c (.int .i64 0))]⟩, ⟨(some 67), (some (44, true)), .pick, [.t 54, .k (.c (.bool true)), .t 66]⟩, ⟨(some 68), none, .pick, [.t 44, .t 67, .k (.c (.bool false))]⟩] true) (.cn (.t 68) (.rg [⟨(some 69), none, .mv, [.t 0]⟩, ⟨(some 70), none, (.fa 0), [.t 69]⟩, ⟨(some 71), none, (.fa 3), [.t 70]⟩, ⟨(some 72), none, (.ld none), [.t 71]⟩, ⟨(some 73), none, .mv, [.t 4]⟩, ⟨(some 74), none, (.ld (some 12)), [.t 3]⟩, ⟨(some 75), none, (.ia 12), [.t 72, .t 73]⟩, ⟨none, none, (.st 12), [.t 75, .t 74]⟩] true) (.skip))))) (.rg [⟨(some 76), none, (.bin .add), [.t 37, .k (.c (.int .i64 1))]⟩, ⟨(some 37), none, .mv, [.t 76]⟩] false))))))))
theorem cf42 : compF Try.prog 42 c42 = some ⟨c42, [], 77⟩ := by kernel_rfl

-- slices.Sort[[]string,string]
-- (*raddle/audit.made).row
def c44 : IC := .sq (.rg [⟨(some 1), none, (.box none), [.t 0]⟩, ⟨(some 2), none, .mv, [.k .z]⟩] false) (.sq (.sq (.rg [⟨(some 6), none, (.ld none), [.t 1]⟩, ⟨(some 7), none, (.fa 0), [.t 6]⟩, ⟨(some 8), none, (.fa 1), [.t 7]⟩, ⟨(some 9), none, (.ld none), [.t 8]⟩, ⟨(some 10), none, (.mkf 73), [.t 1]⟩, ⟨(some 11), none, (.call 72 .fz), [.t 9, .t 10]⟩, ⟨(some 12), none, (.un .not), [.t 11]⟩] false) (.cn (.t 12) (.sq (.rg [⟨(some 2), none, .mv, [.k .z]⟩] false) (.rt)) (.skip))) (.sq (.rg [⟨(some 13), none, (.ld none), [.t 1]⟩, ⟨(some 14), none, (.fa 0), [.t 13]⟩, ⟨(some 15), none, (.fa 0), [.t 14]⟩, ⟨(some 16), none, (.ld none), [.t 15]⟩, ⟨(some 17), none, (.bld [(.c (.int .i64 0)), (.c (.int .i64 0)), (.c (.string ⟨#[]⟩))] [(0, 1), (2, 1)]), [.k (.c (.int .i64 4)), .t 16]⟩, ⟨(some 18), none, (.bsl 3 [(.c (.int .i64 0)), (.c (.int .i64 0)), (.c (.string ⟨#[]⟩))] [0] 1 false), [.t 17]⟩, ⟨(some 3), none, .mv, [.t 18]⟩] false) (.sq (.sq (.rg [⟨(some 19), none, (.ld none), [.t 1]⟩, ⟨(some 20), none, (.fa 0), [.t 19]⟩, ⟨(some 21), none, (.fa 3), [.t 20]⟩, ⟨(some 22), none, (.ld none), [.t 21]⟩, ⟨(some 23), none, .len, [.t 22]⟩, ⟨(some 24), none, .mv, [.k (.c (.int .i64 0))]⟩] false) (.bl 0 (.lp (.sq (.rg [⟨(some 25), none, (.bin .lss), [.t 24, .t 23]⟩] false) (.sq (.cn (.t 25) (.skip) (.ex 0)) (.sq (.bl 1 (.sq (.rg [⟨(some 26), none, .mv, [.t 24]⟩, ⟨(some 27), none, (.ia 12), [.t 22, .t 24]⟩, ⟨(some 28), none, (.ld (some 12)), [.t 27]⟩, ⟨(some 5), none, (.alloc [(.c (.int .i64 0)), (.c (.int .i64 0)), .z, (.c (.int .i64 0)), (.c (.int .i64 0)), (.c (.int .i64 0)), (.c (.int .i64 0)), (.c (.int .i64 0)), (.c (.string ⟨#[]⟩)), (.c (.int .i64 0)), .z, .z]), []⟩, ⟨(some 4), none, .mv, [.t 26]⟩, ⟨none, none, (.st 12), [.t 5, .t 28]⟩] false) (.rg [⟨(some 29), none, .mv, [.t 3]⟩, ⟨(some 30), none, (.fa 10), [.t 5]⟩, ⟨(some 31), none, (.ld none), [.t 30]⟩, ⟨(some 32), none, (.ld (some 12)), [.t 5]⟩, ⟨(some 33), none, .mv, [.t 4]⟩, ⟨(some 34), none, (.call 68 .fz), [.t 32, .t 33]⟩, ⟨(some 35), none, (.ia 3), [.t 31, .t 34]⟩, ⟨(some 36), none, (.ld (some 3)), [.t 35]⟩, ⟨(some 37), none, (.bsl 3 [(.c (.int .i64 0)), (.c (.int .i64 0)), (.c (.string ⟨#[]⟩))] [0] 1 true), [.t 36]⟩, ⟨(some 38), none, (.app 3), [.t 29, .t 37]⟩, ⟨(some 3), none, .mv, [.t 38]⟩] true))) (.rg [⟨(some 39), none, (.bin .add), [.t 24, .k (.c (.int .i64 1))]⟩, ⟨(some 24), none, .mv, [.t 39]⟩] false))))))) (.sq (.rg [⟨(some 40), none, .mv, [.t 3]⟩, ⟨(some 2), none, .mv, [.t 40]⟩] false) (.rt)))))
theorem cf44 : compF Try.prog 44 c44 = some ⟨c44, [.t 2], 41⟩ := by kernel_rfl

-- raddle/raddlekeep.Rows
-- raddle/dot.Check
def c46 : IC := .sq (.rg [⟨(some 2), none, .mv, [.k (.c (.int .i64 0))]⟩] false) (.sq (.bl 0 (.sq (.rg [⟨(some 4), none, .mv, [.t 0]⟩, ⟨(some 5), none, .len, [.t 4]⟩, ⟨(some 6), none, (.bin .lss), [.t 5, .k (.c (.int .i64 1))]⟩, ⟨(some 7), none, .mv, [.t 6]⟩, ⟨(some 8), (some (7, false)), .mv, [.t 0]⟩, ⟨(some 9), (some (7, false)), .len, [.t 8]⟩, ⟨(some 10), (some (7, false)), (.bin .gtr), [.t 9, .k (.c (.int .i64 5))]⟩, ⟨(some 11), none, .pick, [.t 7, .k (.c (.bool true)), .t 10]⟩, ⟨(some 3), none, .mv, [.t 11]⟩] false) (.cn (.t 3) (.sq (.rg [⟨(some 2), none, .mv, [.k (.c (.int .i64 2))]⟩] false) (.rt)) (.sq (.rg [⟨(some 13), none, .mv, [.t 0]⟩, ⟨(some 14), none, (.call 65 .fz), [.t 13, .k (.fn 75 [])]⟩, ⟨(some 12), none, .mv, [.t 14]⟩] false) (.cn (.t 12) (.sq (.rg [⟨(some 2), none, .mv, [.k (.c (.int .i64 1))]⟩] false) (.rt)) (.skip)))))) (.sq (.rg [⟨(some 2), none, .mv, [.k (.c (.int .i64 0))]⟩] false) (.rt)))
theorem cf46 : compF Try.prog 46 c46 = some ⟨c46, [.t 2], 15⟩ := by kernel_rfl

-- raddle/audit.all
def c47 : IC := .sq (.rg [⟨(some 6), none, .mv, [.k (.c (.bool false))]⟩] false) (.sq (.sq (.rg [⟨(some 7), none, .mv, [.k (.c (.int .i64 1))]⟩] false) (.bl 0 (.lp (.sq (.sq (.rg [⟨(some 8), none, .mv, [.t 7]⟩, ⟨(some 9), none, .mv, [.t 2]⟩, ⟨(some 10), none, (.bin .leq), [.t 8, .t 9]⟩] false) (.cn (.t 10) (.skip) (.ex 0))) (.sq (.bl 1 (.sq (.rg [⟨(some 13), none, .mv, [.t 0]⟩, ⟨(some 14), none, .mv, [.t 1]⟩, ⟨(some 15), none, .mv, [.t 7]⟩, ⟨(some 16), none, (.bld [(.c (.int .i64 0)), (.c (.int .i64 0))] [(0, 1), (1, 1)]), [.t 14, .t 15]⟩, ⟨(some 17), none, (.mlk true [0, 0] (.c (.bool false)) false), [.t 13, .t 16]⟩, ⟨(some 18), none, (.un .not), [.t 17]⟩] false) (.cn (.t 18) (.sq (.rg [⟨(some 6), none, .mv, [.k (.c (.bool false))]⟩] false) (.rt)) (.skip)))) (.rg [⟨(some 11), none, .mv, [.t 7]⟩, ⟨(some 12), none, (.bin .add), [.t 11, .k (.c (.int .i64 1))]⟩, ⟨(some 7), none, .mv, [.t 12]⟩] false)))))) (.sq (.rg [⟨(some 6), none, .mv, [.k (.c (.bool true))]⟩] false) (.rt)))
theorem cf47 : compF Try.prog 47 c47 = some ⟨c47, [.t 6], 19⟩ := by kernel_rfl

-- raddle/raddleref01.in
def c48 : IC := .sq (.rg [⟨(some 6), none, .mv, [.k (.c (.bool false))]⟩] false) (.sq (.rg [⟨(some 7), none, .mv, [.t 0]⟩, ⟨(some 8), none, .mv, [.t 1]⟩, ⟨(some 9), none, (.bin .geq), [.t 7, .t 8]⟩, ⟨(some 10), none, .mv, [.t 9]⟩, ⟨(some 11), (some (10, true)), .mv, [.t 0]⟩, ⟨(some 12), (some (10, true)), .mv, [.t 2]⟩, ⟨(some 13), (some (10, true)), (.bin .leq), [.t 11, .t 12]⟩, ⟨(some 14), none, .pick, [.t 10, .t 13, .k (.c (.bool false))]⟩, ⟨(some 6), none, .mv, [.t 14]⟩] false) (.rt))
theorem cf48 : compF Try.prog 48 c48 = some ⟨c48, [.t 6], 15⟩ := by kernel_rfl

-- raddle/raddleref01.Type
def c49 : IC := .sq (.rg [⟨(some 2), none, .mv, [.k (.c (.bool false))]⟩] false) (.sq (.rg [⟨(some 3), none, .mv, [.t 0]⟩, ⟨(some 4), none, (.call 48 .fz), [.t 3, .k (.c (.int .i64 2)), .k (.c (.int .i64 4))]⟩, ⟨(some 2), none, .mv, [.t 4]⟩] false) (.rt))
theorem cf49 : compF Try.prog 49 c49 = some ⟨c49, [.t 2], 5⟩ := by kernel_rfl

-- raddle/raddlekeep.Value
def c50 : IC := .sq (.rg [⟨(some 2), none, (.box (some 3)), [.t 0]⟩, ⟨(some 3), none, (.box (some 3)), [.t 1]⟩, ⟨(some 4), none, .mv, [.k (.c (.bool false))]⟩] false) (.sq (.rg [⟨(some 5), none, (.fa 0), [.t 2]⟩, ⟨(some 6), none, (.ld none), [.t 5]⟩, ⟨(some 7), none, (.fa 0), [.t 3]⟩, ⟨(some 8), none, (.ld none), [.t 7]⟩, ⟨(some 9), none, (.bin .eql), [.t 6, .t 8]⟩, ⟨(some 10), none, .mv, [.t 9]⟩, ⟨(some 11), (some (10, true)), (.fa 1), [.t 2]⟩, ⟨(some 12), (some (10, true)), (.ld none), [.t 11]⟩, ⟨(some 13), (some (10, true)), (.fa 1), [.t 3]⟩, ⟨(some 14), (some (10, true)), (.ld none), [.t 13]⟩, ⟨(some 15), (some (10, true)), (.bin .eql), [.t 12, .t 14]⟩, ⟨(some 16), none, .pick, [.t 10, .t 15, .k (.c (.bool false))]⟩, ⟨(some 17), none, .mv, [.t 16]⟩, ⟨(some 18), (some (17, true)), (.fa 2), [.t 2]⟩, ⟨(some 19), (some (17, true)), (.ld none), [.t 18]⟩, ⟨(some 20), (some (17, true)), (.fa 2), [.t 3]⟩, ⟨(some 21), (some (17, true)), (.ld none), [.t 20]⟩, ⟨(some 22), (some (17, true)), (.bin .eql), [.t 19, .t 21]⟩, ⟨(some 23), none, .pick, [.t 17, .t 22, .k (.c (.bool false))]⟩, ⟨(some 4), none, .mv, [.t 23]⟩] false) (.rt))
theorem cf50 : compF Try.prog 50 c50 = some ⟨c50, [.t 4], 24⟩ := by kernel_rfl

-- raddle/raddlekeep.TwinInts
-- raddle/raddlekeep.TwinRow
-- raddle/raddlelaw03.Long
def c53 : IC := .sq (.rg [⟨(some 2), none, .mv, [.k (.c (.bool false))]⟩] false) (.sq (.sq (.rg [⟨(some 3), none, .mv, [.k (.c (.int .i64 0))]⟩] false) (.bl 0 (.lp (.sq (.sq (.rg [⟨(some 4), none, .mv, [.t 3]⟩, ⟨(some 5), none, .mv, [.t 0]⟩, ⟨(some 6), none, .len, [.t 5]⟩, ⟨(some 7), none, (.bin .lss), [.t 4, .t 6]⟩] false) (.cn (.t 7) (.skip) (.ex 0))) (.sq (.bl 1 (.sq (.rg [⟨(some 10), none, .mv, [.t 0]⟩, ⟨(some 11), none, .mv, [.t 3]⟩, ⟨(some 12), none, (.ia 3), [.t 10, .t 11]⟩, ⟨(some 13), none, (.fa 2), [.t 12]⟩, ⟨(some 14), none, (.ld none), [.t 13]⟩, ⟨(some 15), none, .slen, [.t 14]⟩, ⟨(some 16), none, (.bin .gtr), [.t 15, .k (.c (.int .i64 300))]⟩] false) (.cn (.t 16) (.sq (.rg [⟨(some 2), none, .mv, [.k (.c (.bool true))]⟩] false) (.rt)) (.skip)))) (.rg [⟨(some 8), none, .mv, [.t 3]⟩, ⟨(some 9), none, (.bin .add), [.t 8, .k (.c (.int .i64 1))]⟩, ⟨(some 3), none, .mv, [.t 9]⟩] false)))))) (.sq (.rg [⟨(some 2), none, .mv, [.k (.c (.bool false))]⟩] false) (.rt)))
theorem cf53 : compF Try.prog 53 c53 = some ⟨c53, [.t 2], 17⟩ := by kernel_rfl

-- slices.Clone[[]int,int]
def c54 : IC := .sq (.rg [⟨(some 2), none, .mv, [.k .z]⟩] false) (.sq (.sq (.rg [⟨(some 3), none, .mv, [.t 0]⟩, ⟨(some 4), none, (.nilq 0 false), [.t 3]⟩] false) (.cn (.t 4) (.sq (.rg [⟨(some 2), none, .mv, [.k .z]⟩] false) (.rt)) (.skip))) (.sq (.rg [⟨(some 5), none, (.bsl 1 [(.c (.int .i64 0))] [] 0 true), []⟩, ⟨(some 6), none, .mv, [.t 0]⟩, ⟨(some 7), none, (.app 1), [.t 5, .t 6]⟩, ⟨(some 2), none, .mv, [.t 7]⟩] false) (.rt)))
theorem cf54 : compF Try.prog 54 c54 = some ⟨c54, [.t 2], 8⟩ := by kernel_rfl

-- slices.Clone[[]raddle/api.Value,raddle/api.Value]
def c55 : IC := .sq (.rg [⟨(some 2), none, .mv, [.k .z]⟩] false) (.sq (.sq (.rg [⟨(some 3), none, .mv, [.t 0]⟩, ⟨(some 4), none, (.nilq 0 false), [.t 3]⟩] false) (.cn (.t 4) (.sq (.rg [⟨(some 2), none, .mv, [.k .z]⟩] false) (.rt)) (.skip))) (.sq (.rg [⟨(some 5), none, (.bsl 3 [(.c (.int .i64 0)), (.c (.int .i64 0)), (.c (.string ⟨#[]⟩))] [] 0 true), []⟩, ⟨(some 6), none, .mv, [.t 0]⟩, ⟨(some 7), none, (.app 3), [.t 5, .t 6]⟩, ⟨(some 2), none, .mv, [.t 7]⟩] false) (.rt)))
theorem cf55 : compF Try.prog 55 c55 = some ⟨c55, [.t 2], 8⟩ := by kernel_rfl

-- slices.Clone[[]raddle/api.Dot,raddle/api.Dot]
def c56 : IC := .sq (.rg [⟨(some 2), none, .mv, [.k .z]⟩] false) (.sq (.sq (.rg [⟨(some 3), none, .mv, [.t 0]⟩, ⟨(some 4), none, (.nilq 0 false), [.t 3]⟩] false) (.cn (.t 4) (.sq (.rg [⟨(some 2), none, .mv, [.k .z]⟩] false) (.rt)) (.skip))) (.sq (.rg [⟨(some 5), none, (.bsl 2 [(.c (.int .i64 0)), (.c (.int .i64 0))] [] 0 true), []⟩, ⟨(some 6), none, .mv, [.t 0]⟩, ⟨(some 7), none, (.app 2), [.t 5, .t 6]⟩, ⟨(some 2), none, .mv, [.t 7]⟩] false) (.rt)))
theorem cf56 : compF Try.prog 56 c56 = some ⟨c56, [.t 2], 8⟩ := by kernel_rfl

-- raddle/raddleref01.Stamp
def c57 : IC := .sq (.rg [⟨(some 1), none, (.box (some 3)), [.t 0]⟩, ⟨(some 2), none, .mv, [.k (.c (.bool false))]⟩] false) (.sq (.rg [⟨(some 3), none, (.fa 0), [.t 1]⟩, ⟨(some 4), none, (.ld none), [.t 3]⟩, ⟨(some 5), none, (.call 48 .fz), [.t 4, .k (.c (.int .i64 0)), .k (.c (.int .i64 1099511627776))]⟩, ⟨(some 6), none, .mv, [.t 5]⟩, ⟨(some 7), (some (6, true)), (.fa 1), [.t 1]⟩, ⟨(some 8), (some (6, true)), (.ld none), [.t 7]⟩, ⟨(some 9), (some (6, true)), (.call 48 .fz), [.t 8, .k (.c (.int .i64 0)), .k (.c (.int .i64 65536))]⟩, ⟨(some 10), none, .pick, [.t 6, .t 9, .k (.c (.bool false))]⟩, ⟨(some 11), none, .mv, [.t 10]⟩, ⟨(some 12), (some (11, true)), (.fa 2), [.t 1]⟩, ⟨(some 13), (some (11, true)), (.ld none), [.t 12]⟩, ⟨(some 14), (some (11, true)), (.call 48 .fz), [.t 13, .k (.c (.int .i64 0)), .k (.c (.int .i64 4))]⟩, ⟨(some 15), none, .pick, [.t 11, .t 14, .k (.c (.bool false))]⟩, ⟨(some 2), none, .mv, [.t 15]⟩] false) (.rt))
theorem cf57 : compF Try.prog 57 c57 = some ⟨c57, [.t 2], 16⟩ := by kernel_rfl

-- raddle/raddleref01.Key
def c58 : IC := .sq (.rg [⟨(some 2), none, .mv, [.k (.c (.bool false))]⟩] false) (.sq (.rg [⟨(some 3), none, .mv, [.t 0]⟩, ⟨(some 4), none, .slen, [.t 3]⟩, ⟨(some 5), none, (.call 48 .fz), [.t 4, .k (.c (.int .i64 1)), .k (.c (.int .i64 12))]⟩, ⟨(some 2), none, .mv, [.t 5]⟩] false) (.rt))
theorem cf58 : compF Try.prog 58 c58 = some ⟨c58, [.t 2], 6⟩ := by kernel_rfl

-- raddle/raddleref01.Small
def c59 : IC := .sq (.rg [⟨(some 1), none, (.box (some 3)), [.t 0]⟩, ⟨(some 2), none, .mv, [.k (.c (.bool false))]⟩] false) (.sq (.rg [⟨(some 3), none, (.ld (some 3)), [.t 1]⟩, ⟨(some 4), none, (.call 76 .fz), [.t 3]⟩, ⟨(some 5), none, .mv, [.t 4]⟩, ⟨(some 6), (some (5, true)), (.fa 0), [.t 1]⟩, ⟨(some 7), (some (5, true)), (.ld none), [.t 6]⟩, ⟨(some 8), (some (5, true)), (.bin .neq), [.t 7, .k (.c (.int .i64 3))]⟩, ⟨(some 9), (some (5, true)), .mv, [.t 8]⟩, ⟨(some 10), (some (9, false)), (.fa 1), [.t 1]⟩, ⟨(some 11), (some (9, false)), (.ld none), [.t 10]⟩, ⟨(some 12), (some (9, false)), (.call 48 .fz), [.t 11, .k (.c (.int .i64 (-2147483648))), .k (.c (.int .i64 2147483648))]⟩, ⟨(some 13), (some (5, true)), .pick, [.t 9, .k (.c (.bool true)), .t 12]⟩, ⟨(some 14), none, .pick, [.t 5, .t 13, .k (.c (.bool false))]⟩, ⟨(some 2), none, .mv, [.t 14]⟩] false) (.rt))
theorem cf59 : compF Try.prog 59 c59 = some ⟨c59, [.t 2], 15⟩ := by kernel_rfl

-- raddle/raddleref01.Fits
def c60 : IC := .sq (.rg [⟨(some 2), none, (.box (some 3)), [.t 0]⟩, ⟨(some 4), none, .mv, [.k (.c (.bool false))]⟩] false) (.sq (.rg [⟨(some 5), none, .mv, [.t 1]⟩, ⟨(some 6), none, (.call 49 .fz), [.t 5]⟩, ⟨(some 7), none, .mv, [.t 6]⟩, ⟨(some 8), (some (7, true)), (.ld (some 3)), [.t 2]⟩, ⟨(some 9), (some (7, true)), (.call 76 .fz), [.t 8]⟩, ⟨(some 10), none, .pick, [.t 7, .t 9, .k (.c (.bool false))]⟩, ⟨(some 11), none, .mv, [.t 10]⟩, ⟨(some 12), (some (11, true)), (.fa 0), [.t 2]⟩, ⟨(some 13), (some (11, true)), (.ld none), [.t 12]⟩, ⟨(some 14), (some (11, true)), .mv, [.t 1]⟩, ⟨(some 15), (some (11, true)), (.bin .eql), [.t 13, .t 14]⟩, ⟨(some 16), (some (11, true)), .mv, [.t 15]⟩, ⟨(some 17), (some (16, false)), (.fa 0), [.t 2]⟩, ⟨(some 18), (some (16, false)), (.ld none), [.t 17]⟩, ⟨(some 19), (some (16, false)), (.bin .eql), [.t 18, .k (.c (.int .i64 1))]⟩, ⟨(some 20), (some (11, true)), .pick, [.t 16, .k (.c (.bool true)), .t 19]⟩, ⟨(some 21), none, .pick, [.t 11, .t 20, .k (.c (.bool false))]⟩, ⟨(some 4), none, .mv, [.t 21]⟩] false) (.rt))
theorem cf60 : compF Try.prog 60 c60 = some ⟨c60, [.t 4], 22⟩ := by kernel_rfl

-- raddle/raddleref01.Has
def c61 : IC := .sq (.rg [⟨(some 3), none, (.box (some 2)), [.t 1]⟩, ⟨(some 4), none, .mv, [.k (.c (.bool false))]⟩] false) (.sq (.rg [⟨(some 5), none, (.fa 0), [.t 3]⟩, ⟨(some 6), none, (.ld none), [.t 5]⟩, ⟨(some 7), none, .mv, [.t 0]⟩, ⟨(some 8), none, .len, [.t 7]⟩, ⟨(some 9), none, (.bin .sub), [.t 8, .k (.c (.int .i64 1))]⟩, ⟨(some 10), none, (.call 48 .fz), [.t 6, .k (.c (.int .i64 0)), .t 9]⟩, ⟨(some 11), none, .mv, [.t 10]⟩, ⟨(some 12), (some (11, true)), (.fa 1), [.t 3]⟩, ⟨(some 13), (some (11, true)), (.ld none), [.t 12]⟩, ⟨(some 14), (some (11, true)), (.bin .geq), [.t 13, .k (.c (.int .i64 1))]⟩, ⟨(some 15), none, .pick, [.t 11, .t 14, .k (.c (.bool false))]⟩, ⟨(some 16), none, .mv, [.t 15]⟩, ⟨(some 17), (some (16, true)), (.fa 1), [.t 3]⟩, ⟨(some 18), (some (16, true)), (.ld none), [.t 17]⟩, ⟨(some 19), (some (16, true)), .mv, [.t 0]⟩, ⟨(some 20), (some (16, true)), (.fa 0), [.t 3]⟩, ⟨(some 21), (some (16, true)), (.ld none), [.t 20]⟩, ⟨(some 22), (some (16, true)), (.ia 1), [.t 19, .t 21]⟩, ⟨(some 23), (some (16, true)), (.ld none), [.t 22]⟩, ⟨(some 24), (some (16, true)), (.bin .leq), [.t 18, .t 23]⟩, ⟨(some 25), none, .pick, [.t 16, .t 24, .k (.c (.bool false))]⟩, ⟨(some 4), none, .mv, [.t 25]⟩] true) (.rt))
theorem cf61 : compF Try.prog 61 c61 = some ⟨c61, [.t 4], 26⟩ := by kernel_rfl

-- raddle/raddleref01.LessDot
def c62 : IC := .sq (.rg [⟨(some 2), none, (.box (some 2)), [.t 0]⟩, ⟨(some 3), none, (.box (some 2)), [.t 1]⟩, ⟨(some 4), none, .mv, [.k (.c (.bool false))]⟩] false) (.sq (.rg [⟨(some 5), none, (.fa 0), [.t 2]⟩, ⟨(some 6), none, (.ld none), [.t 5]⟩, ⟨(some 7), none, (.fa 0), [.t 3]⟩, ⟨(some 8), none, (.ld none), [.t 7]⟩, ⟨(some 9), none, (.bin .lss), [.t 6, .t 8]⟩, ⟨(some 10), none, .mv, [.t 9]⟩, ⟨(some 11), (some (10, false)), (.fa 0), [.t 2]⟩, ⟨(some 12), (some (10, false)), (.ld none), [.t 11]⟩, ⟨(some 13), (some (10, false)), (.fa 0), [.t 3]⟩, ⟨(some 14), (some (10, false)), (.ld none), [.t 13]⟩, ⟨(some 15), (some (10, false)), (.bin .eql), [.t 12, .t 14]⟩, ⟨(some 16), (some (10, false)), .mv, [.t 15]⟩, ⟨(some 17), (some (16, true)), (.fa 1), [.t 2]⟩, ⟨(some 18), (some (16, true)), (.ld none), [.t 17]⟩, ⟨(some 19), (some (16, true)), (.fa 1), [.t 3]⟩, ⟨(some 20), (some (16, true)), (.ld none), [.t 19]⟩, ⟨(some 21), (some (16, true)), (.bin .lss), [.t 18, .t 20]⟩, ⟨(some 22), (some (10, false)), .pick, [.t 16, .t 21, .k (.c (.bool false))]⟩, ⟨(some 23), none, .pick, [.t 10, .k (.c (.bool true)), .t 22]⟩, ⟨(some 4), none, .mv, [.t 23]⟩] false) (.rt))
theorem cf62 : compF Try.prog 62 c62 = some ⟨c62, [.t 4], 24⟩ := by kernel_rfl

-- slices.ContainsFunc[[]raddle/api.Table,raddle/api.Table]
def c63 : IC := .sq (.rg [⟨(some 4), none, .mv, [.k (.c (.bool false))]⟩] false) (.sq (.rg [⟨(some 5), none, .mv, [.t 0]⟩, ⟨(some 6), none, .mv, [.t 1]⟩, ⟨(some 7), none, (.call 77 .fz), [.t 5, .t 6]⟩, ⟨(some 8), none, (.bin .geq), [.t 7, .k (.c (.int .i64 0))]⟩, ⟨(some 4), none, .mv, [.t 8]⟩] false) (.rt))
theorem cf63 : compF Try.prog 63 c63 = some ⟨c63, [.t 4], 9⟩ := by kernel_rfl

-- raddle/op.Forms$1
def c64 : IC := .sq (.rg [⟨(some 1), none, (.box (some 1)), [.t 0]⟩, ⟨(some 2), none, .mv, [.k (.c (.bool false))]⟩] false) (.sq (.rg [⟨(some 3), none, (.fa 0), [.t 1]⟩, ⟨(some 4), none, (.ld none), [.t 3]⟩, ⟨(some 5), none, .len, [.t 4]⟩, ⟨(some 6), none, (.bin .lss), [.t 5, .k (.c (.int .i64 1))]⟩, ⟨(some 7), none, .mv, [.t 6]⟩, ⟨(some 8), (some (7, false)), (.fa 0), [.t 1]⟩, ⟨(some 9), (some (7, false)), (.ld none), [.t 8]⟩, ⟨(some 10), (some (7, false)), .len, [.t 9]⟩, ⟨(some 11), (some (7, false)), (.bin .gtr), [.t 10, .k (.c (.int .i64 4))]⟩, ⟨(some 12), none, .pick, [.t 7, .k (.c (.bool true)), .t 11]⟩, ⟨(some 2), none, .mv, [.t 12]⟩] false) (.rt))
theorem cf64 : compF Try.prog 64 c64 = some ⟨c64, [.t 2], 13⟩ := by kernel_rfl

-- slices.ContainsFunc[[]int,int]
def c65 : IC := .sq (.rg [⟨(some 4), none, .mv, [.k (.c (.bool false))]⟩] false) (.sq (.rg [⟨(some 5), none, .mv, [.t 0]⟩, ⟨(some 6), none, .mv, [.t 1]⟩, ⟨(some 7), none, (.call 78 .fz), [.t 5, .t 6]⟩, ⟨(some 8), none, (.bin .geq), [.t 7, .k (.c (.int .i64 0))]⟩, ⟨(some 4), none, .mv, [.t 8]⟩] false) (.rt))
theorem cf65 : compF Try.prog 65 c65 = some ⟨c65, [.t 4], 9⟩ := by kernel_rfl

-- raddle/op.Forms$2
def c66 : IC := .sq (.rg [⟨(some 2), none, .mv, [.k (.c (.bool false))]⟩] false) (.sq (.rg [⟨(some 3), none, .mv, [.t 0]⟩, ⟨(some 4), none, (.bin .lss), [.t 3, .k (.c (.int .i64 2))]⟩, ⟨(some 5), none, .mv, [.t 4]⟩, ⟨(some 6), (some (5, false)), .mv, [.t 0]⟩, ⟨(some 7), (some (5, false)), (.bin .gtr), [.t 6, .k (.c (.int .i64 4))]⟩, ⟨(some 8), none, .pick, [.t 5, .k (.c (.bool true)), .t 7]⟩, ⟨(some 2), none, .mv, [.t 8]⟩] false) (.rt))
theorem cf66 : compF Try.prog 66 c66 = some ⟨c66, [.t 2], 9⟩ := by kernel_rfl

-- raddle/op.right
def c67 : IC := .sq (.rg [⟨(some 5), none, (.box (some 12)), [.t 2]⟩, ⟨(some 6), none, .mv, [.k (.c (.bool false))]⟩] false) (.sq (.sq (.rg [⟨(some 8), none, .mv, [.t 0]⟩, ⟨(some 9), none, (.ld (some 12)), [.t 5]⟩, ⟨(some 10), none, (.call 79 .fz), [.t 8, .t 9]⟩, ⟨(some 11), none, (.un .not), [.t 10]⟩, ⟨(some 12), none, .mv, [.t 11]⟩, ⟨(some 13), (some (12, false)), (.fa 7), [.t 5]⟩, ⟨(some 14), (some (12, false)), (.ld none), [.t 13]⟩, ⟨(some 15), (some (12, false)), (.bin .lss), [.t 14, .k (.c (.int .i64 0))]⟩, ⟨(some 16), none, .pick, [.t 12, .k (.c (.bool true)), .t 15]⟩, ⟨(some 17), none, .mv, [.t 16]⟩, ⟨(some 18), (some (17, false)), (.fa 7), [.t 5]⟩, ⟨(some 19), (some (17, false)), (.ld none), [.t 18]⟩, ⟨(some 20), (some (17, false)), .mv, [.t 1]⟩, ⟨(some 21), (some (17, false)), .len, [.t 20]⟩, ⟨(some 22), (some (17, false)), (.bin .geq), [.t 19, .t 21]⟩, ⟨(some 23), none, .pick, [.t 17, .k (.c (.bool true)), .t 22]⟩, ⟨(some 24), none, .mv, [.t 23]⟩, ⟨(some 25), (some (24, false)), (.fa 8), [.t 5]⟩, ⟨(some 26), (some (24, false)), (.ld none), [.t 25]⟩, ⟨(some 27), (some (24, false)), (.call 80 .fz), [.t 26]⟩, ⟨(some 28), (some (24, false)), (.un .not), [.t 27]⟩, ⟨(some 29), none, .pick, [.t 24, .k (.c (.bool true)), .t 28]⟩] false) (.cn (.t 29) (.sq (.rg [⟨(some 6), none, .mv, [.k (.c (.bool false))]⟩] false) (.rt)) (.skip))) (.sq (.rg [⟨(some 30), none, .mv, [.t 1]⟩, ⟨(some 31), none, (.fa 7), [.t 5]⟩, ⟨(some 32), none, (.ld none), [.t 31]⟩, ⟨(some 33), none, (.ia 1), [.t 30, .t 32]⟩, ⟨(some 34), none, (.fa 0), [.t 33]⟩, ⟨(some 35), none, (.ld none), [.t 34]⟩, ⟨(some 7), none, .mv, [.t 35]⟩] false) (.sq (.sq (.rg [⟨(some 36), none, (.fa 6), [.t 5]⟩, ⟨(some 37), none, (.ld none), [.t 36]⟩] false) (.bl 0 (.sq (.rg [⟨(some 39), none, (.bin .eql), [.t 37, .k (.c (.int .i64 1))]⟩, ⟨(some 38), none, .mv, [.t 39]⟩] false) (.cn (.t 38) (.sq (.rg [⟨(some 40), none, (.fa 10), [.t 5]⟩, ⟨(some 41), none, (.ld none), [.t 40]⟩, ⟨(some 42), none, .mv, [.t 7]⟩, ⟨(some 43), none, (.call 81 .fz), [.t 41, .t 42]⟩, ⟨(some 44), none, .mv, [.t 43]⟩, ⟨(some 45), (some (44, true)), (.fa 9), [.t 5]⟩, ⟨(some 46), (some (44, true)), (.ld none), [.t 45]⟩, ⟨(some 47), (some (44, true)), (.bin .eql), [.t 46, .k (.c (.int .i64 0))]⟩, ⟨(some 48), none, .pick, [.t 44, .t 47, .k (.c (.bool false))]⟩, ⟨(some 49), none, .mv, [.t 48]⟩, ⟨(some 50), (some (49, true)), (.fa 11), [.t 5]⟩, ⟨(some 51), (some (49, true)), (.ld none), [.t 50]⟩, ⟨(some 52), (some (49, true)), .len, [.t 51]⟩, ⟨(some 53), (some (49, true)), (.bin .eql), [.t 52, .k (.c (.int .i64 0))]⟩, ⟨(some 54), none, .pick, [.t 49, .t 53, .k (.c (.bool false))]⟩, ⟨(some 6), none, .mv, [.t 54]⟩] false) (.rt)) (.sq (.rg [⟨(some 56), none, (.bin .eql), [.t 37, .k (.c (.int .i64 2))]⟩, ⟨(some 55), none, .mv, [.t 56]⟩] false) (.cn (.t 55) (.sq (.rg [⟨(some 57), none, (.fa 9), [.t 5]⟩, ⟨(some 58), none, (.ld none), [.t 57]⟩, ⟨(some 59), none, (.bin .geq), [.t 58, .k (.c (.int .i64 0))]⟩, ⟨(some 60), none, .mv, [.t 59]⟩, ⟨(some 61), (some (60, true)), (.fa 9), [.t 5]⟩, ⟨(some 62), (some (60, true)), (.ld none), [.t 61]⟩, ⟨(some 63), (some (60, true)), .mv, [.t 7]⟩, ⟨(some 64), (some (60, true)), .len, [.t 63]⟩, ⟨(some 65), (some (60, true)), (.bin .lss), [.t 62, .t 64]⟩, ⟨(some 66), none, .pick, [.t 60, .t 65, .k (.c (.bool false))]⟩, ⟨(some 67), none, .mv, [.t 66]⟩, ⟨(some 68), (some (67, true)), (.fa 10), [.t 5]⟩, ⟨(some 69), (some (67, true)), (.ld none), [.t 68]⟩, ⟨(some 70), (some (67, true)), .mv, [.t 7]⟩, ⟨(some 71), (some (67, true)), (.fa 9), [.t 5]⟩, ⟨(some 72), (some (67, true)), (.ld none), [.t 71]⟩, ⟨(some 73), (some (67, true)), (.fa 9), [.t 5]⟩, ⟨(some 74), (some (67, true)), (.ld none), [.t 73]⟩, ⟨(some 75), (some (67, true)), (.bin .add), [.t 74, .k (.c (.int .i64 1))]⟩, ⟨(some 76), (some (67, true)), (.slc 1 true true), [.t 70, .t 72, .t 75]⟩, ⟨(some 77), (some (67, true)), (.call 81 .fz), [.t 69, .t 76]⟩, ⟨(some 78), none, .pick, [.t 67, .t 77, .k (.c (.bool false))]⟩, ⟨(some 79), none, .mv, [.t 78]⟩, ⟨(some 80), (some (79, true)), (.fa 11), [.t 5]⟩, ⟨(some 81), (some (79, true)), (.ld none), [.t 80]⟩, ⟨(some 82), (some (79, true)), .len, [.t 81]⟩, ⟨(some 83), (some (79, true)), (.bin .eql), [.t 82, .k (.c (.int .i64 0))]⟩, ⟨(some 84), none, .pick, [.t 79, .t 83, .k (.c (.bool false))]⟩, ⟨(some 6), none, .mv, [.t 84]⟩] true) (.rt)) (.sq (.rg [⟨(some 86), none, (.bin .eql), [.t 37, .k (.c (.int .i64 3))]⟩, ⟨(some 85), none, .mv, [.t 86]⟩] false) (.cn (.t 85) (.sq (.rg [⟨(some 87), none, (.fa 11), [.t 5]⟩, ⟨(some 88), none, (.ld none), [.t 87]⟩, ⟨(some 89), none, .len, [.t 88]⟩, ⟨(some 90), none, (.bin .geq), [.t 89, .k (.c (.int .i64 1))]⟩, ⟨(some 91), none, .mv, [.t 90]⟩, ⟨(some 92), (some (91, true)), (.fa 11), [.t 5]⟩, ⟨(some 93), (some (91, true)), (.ld none), [.t 92]⟩, ⟨(some 94), (some (91, true)), .len, [.t 93]⟩, ⟨(some 95), (some (91, true)), (.bin .leq), [.t 94, .k (.c (.int .i64 64))]⟩, ⟨(some 96), none, .pick, [.t 91, .t 95, .k (.c (.bool false))]⟩, ⟨(some 97), none, .mv, [.t 96]⟩, ⟨(some 98), (some (97, true)), (.fa 2), [.t 5]⟩, ⟨(some 99), (some (97, true)), (.ld none), [.t 98]⟩, ⟨(some 100), (some (97, true)), (.fa 11), [.t 5]⟩, ⟨(some 101), (some (97, true)), (.ld none), [.t 100]⟩, ⟨(some 102), (some (97, true)), (.call 82 .fz), [.t 99, .t 101]⟩, ⟨(some 103), none, .pick, [.t 97, .t 102, .k (.c (.bool false))]⟩, ⟨(some 104), none, .mv, [.t 103]⟩, ⟨(some 105), (some (104, true)), (.fa 9), [.t 5]⟩, ⟨(some 106), (some (104, true)), (.ld none), [.t 105]⟩, ⟨(some 107), (some (104, true)), (.bin .eql), [.t 106, .k (.c (.int .i64 0))]⟩, ⟨(some 108), none, .pick, [.t 104, .t 107, .k (.c (.bool false))]⟩, ⟨(some 109), none, .mv, [.t 108]⟩, ⟨(some 110), (some (109, true)), (.fa 10), [.t 5]⟩, ⟨(some 111), (some (109, true)), (.ld none), [.t 110]⟩, ⟨(some 112), (some (109, true)), .len, [.t 111]⟩, ⟨(some 113), (some (109, true)), (.bin .eql), [.t 112, .k (.c (.int .i64 0))]⟩, ⟨(some 114), none, .pick, [.t 109, .t 113, .k (.c (.bool false))]⟩, ⟨(some 6), none, .mv, [.t 114]⟩] false) (.rt)) (.skip))))))))) (.sq (.rg [⟨(some 6), none, .mv, [.k (.c (.bool false))]⟩] false) (.rt)))))
theorem cf67 : compF Try.prog 67 c67 = some ⟨c67, [.t 6], 115⟩ := by kernel_rfl

-- raddle/audit.at
def c68 : IC := .sq (.rg [⟨(some 2), none, (.box (some 12)), [.t 0]⟩, ⟨(some 4), none, .mv, [.k (.c (.int .i64 0))]⟩] false) (.sq (.bl 0 (.sq (.rg [⟨(some 6), none, (.fa 6), [.t 2]⟩, ⟨(some 7), none, (.ld none), [.t 6]⟩, ⟨(some 8), none, (.bin .eql), [.t 7, .k (.c (.int .i64 1))]⟩, ⟨(some 5), none, .mv, [.t 8]⟩] false) (.cn (.t 5) (.sq (.rg [⟨(some 9), none, .mv, [.t 1]⟩, ⟨(some 4), none, .mv, [.t 9]⟩] false) (.rt)) (.sq (.rg [⟨(some 11), none, (.fa 6), [.t 2]⟩, ⟨(some 12), none, (.ld none), [.t 11]⟩, ⟨(some 13), none, (.bin .eql), [.t 12, .k (.c (.int .i64 2))]⟩, ⟨(some 14), none, .mv, [.t 13]⟩, ⟨(some 15), (some (14, true)), (.fa 9), [.t 2]⟩, ⟨(some 16), (some (14, true)), (.ld none), [.t 15]⟩, ⟨(some 17), (some (14, true)), .mv, [.t 1]⟩, ⟨(some 18), (some (14, true)), (.bin .eql), [.t 16, .t 17]⟩, ⟨(some 19), none, .pick, [.t 14, .t 18, .k (.c (.bool false))]⟩, ⟨(some 10), none, .mv, [.t 19]⟩] false) (.cn (.t 10) (.sq (.rg [⟨(some 4), none, .mv, [.k (.c (.int .i64 0))]⟩] false) (.rt)) (.skip)))))) (.sq (.rg [⟨(some 4), none, .mv, [.k (.c (.int .i64 (-1)))]⟩] false) (.rt)))
theorem cf68 : compF Try.prog 68 c68 = some ⟨c68, [.t 4], 20⟩ := by kernel_rfl

-- raddle/hlc.Compare
def c69 : IC := .sq (.rg [⟨(some 2), none, (.box (some 3)), [.t 0]⟩, ⟨(some 3), none, (.box (some 3)), [.t 1]⟩, ⟨(some 4), none, .mv, [.k (.c (.int .i64 0))]⟩] false) (.sq (.rg [⟨(some 5), none, (.fa 0), [.t 2]⟩, ⟨(some 6), none, (.ld none), [.t 5]⟩, ⟨(some 7), none, (.fa 0), [.t 3]⟩, ⟨(some 8), none, (.ld none), [.t 7]⟩, ⟨(some 9), none, (.call 84 .fz), [.t 6, .t 8]⟩, ⟨(some 10), none, (.fa 1), [.t 2]⟩, ⟨(some 11), none, (.ld none), [.t 10]⟩, ⟨(some 12), none, (.fa 1), [.t 3]⟩, ⟨(some 13), none, (.ld none), [.t 12]⟩, ⟨(some 14), none, (.call 84 .fz), [.t 11, .t 13]⟩, ⟨(some 15), none, (.fa 2), [.t 2]⟩, ⟨(some 16), none, (.ld none), [.t 15]⟩, ⟨(some 17), none, (.fa 2), [.t 3]⟩, ⟨(some 18), none, (.ld none), [.t 17]⟩, ⟨(some 19), none, (.call 84 .fz), [.t 16, .t 18]⟩, ⟨(some 20), none, (.bsl 1 [(.c (.int .i64 0))] [0, 1, 2] 3 true), [.t 9, .t 14, .t 19]⟩, ⟨(some 21), none, (.call 83 .fz), [.t 20]⟩, ⟨(some 4), none, .mv, [.t 21]⟩] true) (.rt))
theorem cf69 : compF Try.prog 69 c69 = some ⟨c69, [.t 4], 22⟩ := by kernel_rfl

-- slices.pdqsortOrdered[string]
-- math/bits.Len
-- slices.ContainsFunc[[]raddle/api.Dot,raddle/api.Dot]
def c72 : IC := .sq (.rg [⟨(some 4), none, .mv, [.k (.c (.bool false))]⟩] false) (.sq (.rg [⟨(some 5), none, .mv, [.t 0]⟩, ⟨(some 6), none, .mv, [.t 1]⟩, ⟨(some 7), none, (.call 96 .fz), [.t 5, .t 6]⟩, ⟨(some 8), none, (.bin .geq), [.t 7, .k (.c (.int .i64 0))]⟩, ⟨(some 4), none, .mv, [.t 8]⟩] false) (.rt))
theorem cf72 : compF Try.prog 72 c72 = some ⟨c72, [.t 4], 9⟩ := by kernel_rfl

-- (*raddle/audit.made).row$1
def c73 : IC := .sq (.rg [⟨(some 2), none, (.box (some 2)), [.t 0]⟩, ⟨(some 3), none, .mv, [.k (.c (.bool false))]⟩] false) (.sq (.rg [⟨(some 4), none, (.ld none), [.t 1]⟩, ⟨(some 5), none, (.fa 0), [.t 4]⟩, ⟨(some 6), none, (.fa 2), [.t 5]⟩, ⟨(some 7), none, (.ld none), [.t 6]⟩, ⟨(some 8), none, (.ld (some 2)), [.t 2]⟩, ⟨(some 9), none, (.call 74 .fz), [.t 7, .t 8]⟩, ⟨(some 10), none, (.un .not), [.t 9]⟩, ⟨(some 3), none, .mv, [.t 10]⟩] true) (.rt))
theorem cf73 : compF Try.prog 73 c73 = some ⟨c73, [.t 3], 11⟩ := by kernel_rfl

-- slices.Contains[[]raddle/api.Dot,raddle/api.Dot]
def c74 : IC := .sq (.rg [⟨(some 3), none, (.box (some 2)), [.t 1]⟩, ⟨(some 4), none, .mv, [.k (.c (.bool false))]⟩] false) (.sq (.rg [⟨(some 5), none, .mv, [.t 0]⟩, ⟨(some 6), none, (.ld (some 2)), [.t 3]⟩, ⟨(some 7), none, (.call 97 .fz), [.t 5, .t 6]⟩, ⟨(some 8), none, (.bin .geq), [.t 7, .k (.c (.int .i64 0))]⟩, ⟨(some 4), none, .mv, [.t 8]⟩] false) (.rt))
theorem cf74 : compF Try.prog 74 c74 = some ⟨c74, [.t 4], 9⟩ := by kernel_rfl

-- raddle/dot.Check$1
def c75 : IC := .sq (.rg [⟨(some 2), none, .mv, [.k (.c (.bool false))]⟩] false) (.sq (.rg [⟨(some 3), none, .mv, [.t 0]⟩, ⟨(some 4), none, (.bin .lss), [.t 3, .k (.c (.int .i64 0))]⟩, ⟨(some 5), none, .mv, [.t 4]⟩, ⟨(some 6), (some (5, false)), .mv, [.t 0]⟩, ⟨(some 7), (some (5, false)), (.bin .gtr), [.t 6, .k (.c (.int .i64 1073741824))]⟩, ⟨(some 8), none, .pick, [.t 5, .k (.c (.bool true)), .t 7]⟩, ⟨(some 2), none, .mv, [.t 8]⟩] false) (.rt))
theorem cf75 : compF Try.prog 75 c75 = some ⟨c75, [.t 2], 9⟩ := by kernel_rfl

-- raddle/raddleref01.Value
def c76 : IC := .sq (.rg [⟨(some 1), none, (.box (some 3)), [.t 0]⟩, ⟨(some 2), none, .mv, [.k (.c (.bool false))]⟩] false) (.sq (.sq (.rg [⟨(some 3), none, (.fa 0), [.t 1]⟩, ⟨(some 4), none, (.ld none), [.t 3]⟩] false) (.bl 0 (.sq (.rg [⟨(some 6), none, (.bin .eql), [.t 4, .k (.c (.int .i64 1))]⟩, ⟨(some 5), none, .mv, [.t 6]⟩] false) (.cn (.t 5) (.sq (.rg [⟨(some 7), none, (.fa 1), [.t 1]⟩, ⟨(some 8), none, (.ld none), [.t 7]⟩, ⟨(some 9), none, (.bin .eql), [.t 8, .k (.c (.int .i64 0))]⟩, ⟨(some 10), none, .mv, [.t 9]⟩, ⟨(some 11), (some (10, true)), (.fa 2), [.t 1]⟩, ⟨(some 12), (some (10, true)), (.ld none), [.t 11]⟩, ⟨(some 13), (some (10, true)), (.bin .eql), [.t 12, .k (.c (.string ⟨#[]⟩))]⟩, ⟨(some 14), none, .pick, [.t 10, .t 13, .k (.c (.bool false))]⟩, ⟨(some 2), none, .mv, [.t 14]⟩] false) (.rt)) (.sq (.rg [⟨(some 16), none, (.bin .eql), [.t 4, .k (.c (.int .i64 2))]⟩, ⟨(some 15), none, .mv, [.t 16]⟩] false) (.cn (.t 15) (.sq (.rg [⟨(some 17), none, (.fa 1), [.t 1]⟩, ⟨(some 18), none, (.ld none), [.t 17]⟩, ⟨(some 19), none, (.call 48 .fz), [.t 18, .k (.c (.int .i64 0)), .k (.c (.int .i64 1))]⟩, ⟨(some 20), none, .mv, [.t 19]⟩, ⟨(some 21), (some (20, true)), (.fa 2), [.t 1]⟩, ⟨(some 22), (some (20, true)), (.ld none), [.t 21]⟩, ⟨(some 23), (some (20, true)), (.bin .eql), [.t 22, .k (.c (.string ⟨#[]⟩))]⟩, ⟨(some 24), none, .pick, [.t 20, .t 23, .k (.c (.bool false))]⟩, ⟨(some 2), none, .mv, [.t 24]⟩] false) (.rt)) (.sq (.rg [⟨(some 26), none, (.bin .eql), [.t 4, .k (.c (.int .i64 3))]⟩, ⟨(some 25), none, .mv, [.t 26]⟩] false) (.cn (.t 25) (.sq (.rg [⟨(some 27), none, (.fa 1), [.t 1]⟩, ⟨(some 28), none, (.ld none), [.t 27]⟩, ⟨(some 29), none, (.call 48 .fz), [.t 28, .k (.c (.int .i64 (-1152921504606846976))), .k (.c (.int .i64 1152921504606846976))]⟩, ⟨(some 30), none, .mv, [.t 29]⟩, ⟨(some 31), (some (30, true)), (.fa 2), [.t 1]⟩, ⟨(some 32), (some (30, true)), (.ld none), [.t 31]⟩, ⟨(some 33), (some (30, true)), (.bin .eql), [.t 32, .k (.c (.string ⟨#[]⟩))]⟩, ⟨(some 34), none, .pick, [.t 30, .t 33, .k (.c (.bool false))]⟩, ⟨(some 2), none, .mv, [.t 34]⟩] false) (.rt)) (.sq (.rg [⟨(some 36), none, (.bin .eql), [.t 4, .k (.c (.int .i64 4))]⟩, ⟨(some 35), none, .mv, [.t 36]⟩] false) (.cn (.t 35) (.sq (.rg [⟨(some 37), none, (.fa 1), [.t 1]⟩, ⟨(some 38), none, (.ld none), [.t 37]⟩, ⟨(some 39), none, (.bin .eql), [.t 38, .k (.c (.int .i64 0))]⟩, ⟨(some 40), none, .mv, [.t 39]⟩, ⟨(some 41), (some (40, true)), (.fa 2), [.t 1]⟩, ⟨(some 42), (some (40, true)), (.ld none), [.t 41]⟩, ⟨(some 43), (some (40, true)), .slen, [.t 42]⟩, ⟨(some 44), (some (40, true)), (.bin .leq), [.t 43, .k (.c (.int .i64 24))]⟩, ⟨(some 45), none, .pick, [.t 40, .t 44, .k (.c (.bool false))]⟩, ⟨(some 2), none, .mv, [.t 45]⟩] false) (.rt)) (.skip))))))))))) (.sq (.rg [⟨(some 2), none, .mv, [.k (.c (.bool false))]⟩] false) (.rt)))
theorem cf76 : compF Try.prog 76 c76 = some ⟨c76, [.t 2], 46⟩ := by kernel_rfl

-- slices.IndexFunc[[]raddle/api.Table,raddle/api.Table]
def c77 : IC := .sq (.rg [⟨(some 4), none, .mv, [.k (.c (.int .i64 0))]⟩] false) (.sq (.sq (.rg [⟨(some 6), none, .mv, [.t 0]⟩, ⟨(some 7), none, .len, [.t 6]⟩, ⟨(some 8), none, .mv, [.k (.c (.int .i64 0))]⟩] false) (.bl 0 (.lp (.sq (.rg [⟨(some 9), none, (.bin .lss), [.t 8, .t 7]⟩] false) (.sq (.cn (.t 9) (.skip) (.ex 0)) (.sq (.bl 1 (.sq (.rg [⟨(some 10), none, .mv, [.t 8]⟩, ⟨(some 5), none, .mv, [.t 10]⟩] false) (.sq (.rg [⟨(some 11), none, .mv, [.t 1]⟩, ⟨(some 12), none, .mv, [.t 0]⟩, ⟨(some 13), none, .mv, [.t 5]⟩, ⟨(some 14), none, (.ia 1), [.t 12, .t 13]⟩, ⟨(some 15), none, (.ld (some 1)), [.t 14]⟩, ⟨(some 16), none, (.callv .fz), [.t 11, .t 15]⟩] false) (.cn (.t 16) (.sq (.rg [⟨(some 17), none, .mv, [.t 5]⟩, ⟨(some 4), none, .mv, [.t 17]⟩] false) (.rt)) (.skip))))) (.rg [⟨(some 18), none, (.bin .add), [.t 8, .k (.c (.int .i64 1))]⟩, ⟨(some 8), none, .mv, [.t 18]⟩] false))))))) (.sq (.rg [⟨(some 4), none, .mv, [.k (.c (.int .i64 (-1)))]⟩] false) (.rt)))
theorem cf77 : compF Try.prog 77 c77 = some ⟨c77, [.t 4], 19⟩ := by kernel_rfl

-- slices.IndexFunc[[]int,int]
def c78 : IC := .sq (.rg [⟨(some 4), none, .mv, [.k (.c (.int .i64 0))]⟩] false) (.sq (.sq (.rg [⟨(some 6), none, .mv, [.t 0]⟩, ⟨(some 7), none, .len, [.t 6]⟩, ⟨(some 8), none, .mv, [.k (.c (.int .i64 0))]⟩] false) (.bl 0 (.lp (.sq (.rg [⟨(some 9), none, (.bin .lss), [.t 8, .t 7]⟩] false) (.sq (.cn (.t 9) (.skip) (.ex 0)) (.sq (.bl 1 (.sq (.rg [⟨(some 10), none, .mv, [.t 8]⟩, ⟨(some 5), none, .mv, [.t 10]⟩] false) (.sq (.rg [⟨(some 11), none, .mv, [.t 1]⟩, ⟨(some 12), none, .mv, [.t 0]⟩, ⟨(some 13), none, .mv, [.t 5]⟩, ⟨(some 14), none, (.ia 1), [.t 12, .t 13]⟩, ⟨(some 15), none, (.ld none), [.t 14]⟩, ⟨(some 16), none, (.callv .fz), [.t 11, .t 15]⟩] false) (.cn (.t 16) (.sq (.rg [⟨(some 17), none, .mv, [.t 5]⟩, ⟨(some 4), none, .mv, [.t 17]⟩] false) (.rt)) (.skip))))) (.rg [⟨(some 18), none, (.bin .add), [.t 8, .k (.c (.int .i64 1))]⟩, ⟨(some 8), none, .mv, [.t 18]⟩] false))))))) (.sq (.rg [⟨(some 4), none, .mv, [.k (.c (.int .i64 (-1)))]⟩] false) (.rt)))
theorem cf78 : compF Try.prog 78 c78 = some ⟨c78, [.t 4], 19⟩ := by kernel_rfl

-- raddle/op.whole
def c79 : IC := .sq (.rg [⟨(some 3), none, (.box (some 12)), [.t 1]⟩, ⟨(some 4), none, .mv, [.k (.c (.bool false))]⟩] false) (.sq (.rg [⟨(some 6), none, (.fa 0), [.t 3]⟩, ⟨(some 7), none, (.ld (some 2)), [.t 6]⟩, ⟨(some 5), none, (.alloc [(.c (.int .i64 0)), (.c (.int .i64 0))]), []⟩, ⟨none, none, (.st 2), [.t 5, .t 7]⟩] false) (.sq (.rg [⟨(some 8), none, (.fa 0), [.t 5]⟩, ⟨(some 9), none, (.ld none), [.t 8]⟩, ⟨(some 10), none, (.bin .geq), [.t 9, .k (.c (.int .i64 0))]⟩, ⟨(some 11), none, .mv, [.t 10]⟩, ⟨(some 12), (some (11, true)), (.fa 0), [.t 5]⟩, ⟨(some 13), (some (11, true)), (.ld none), [.t 12]⟩, ⟨(some 14), (some (11, true)), .mv, [.t 0]⟩, ⟨(some 15), (some (11, true)), (.bin .lss), [.t 13, .t 14]⟩, ⟨(some 16), none, .pick, [.t 11, .t 15, .k (.c (.bool false))]⟩, ⟨(some 17), none, .mv, [.t 16]⟩, ⟨(some 18), (some (17, true)), (.fa 1), [.t 5]⟩, ⟨(some 19), (some (17, true)), (.ld none), [.t 18]⟩, ⟨(some 20), (some (17, true)), (.bin .geq), [.t 19, .k (.c (.int .i64 1))]⟩, ⟨(some 21), none, .pick, [.t 17, .t 20, .k (.c (.bool false))]⟩, ⟨(some 22), none, .mv, [.t 21]⟩, ⟨(some 23), (some (22, true)), (.fa 1), [.t 5]⟩, ⟨(some 24), (some (22, true)), (.ld none), [.t 23]⟩, ⟨(some 25), (some (22, true)), (.bin .leq), [.t 24, .k (.c (.int .i64 1073741824))]⟩, ⟨(some 26), none, .pick, [.t 22, .t 25, .k (.c (.bool false))]⟩, ⟨(some 27), none, .mv, [.t 26]⟩, ⟨(some 28), (some (27, true)), (.fa 2), [.t 3]⟩, ⟨(some 29), (some (27, true)), (.ld none), [.t 28]⟩, ⟨(some 30), (some (27, true)), .len, [.t 29]⟩, ⟨(some 31), (some (27, true)), .mv, [.t 0]⟩, ⟨(some 32), (some (27, true)), (.bin .eql), [.t 30, .t 31]⟩, ⟨(some 33), none, .pick, [.t 27, .t 32, .k (.c (.bool false))]⟩, ⟨(some 34), none, .mv, [.t 33]⟩, ⟨(some 35), (some (34, true)), (.fa 2), [.t 3]⟩, ⟨(some 36), (some (34, true)), (.ld none), [.t 35]⟩, ⟨(some 37), (some (34, true)), (.call 46 .fz), [.t 36]⟩, ⟨(some 38), (some (34, true)), (.bin .eql), [.t 37, .k (.c (.int .i64 0))]⟩, ⟨(some 39), none, .pick, [.t 34, .t 38, .k (.c (.bool false))]⟩, ⟨(some 40), none, .mv, [.t 39]⟩, ⟨(some 41), (some (40, true)), (.fa 2), [.t 3]⟩, ⟨(some 42), (some (40, true)), (.ld none), [.t 41]⟩, ⟨(some 43), (some (40, true)), (.fa 0), [.t 5]⟩, ⟨(some 44), (some (40, true)), (.ld none), [.t 43]⟩, ⟨(some 45), (some (40, true)), (.ia 1), [.t 42, .t 44]⟩, ⟨(some 46), (some (40, true)), (.ld none), [.t 45]⟩, ⟨(some 47), (some (40, true)), (.fa 1), [.t 5]⟩, ⟨(some 48), (some (40, true)), (.ld none), [.t 47]⟩, ⟨(some 49), (some (40, true)), (.bin .sub), [.t 48, .k (.c (.int .i64 1))]⟩, ⟨(some 50), (some (40, true)), (.bin .eql), [.t 46, .t 49]⟩, ⟨(some 51), none, .pick, [.t 40, .t 50, .k (.c (.bool false))]⟩, ⟨(some 52), none, .mv, [.t 51]⟩, ⟨(some 53), (some (52, true)), (.fa 3), [.t 3]⟩, ⟨(some 54), (some (52, true)), (.ld (some 3)), [.t 53]⟩, ⟨(some 55), (some (52, true)), (.call 98 .fz), [.t 54]⟩, ⟨(some 56), (some (52, true)), (.bin .eql), [.t 55, .k (.c (.int .i64 0))]⟩, ⟨(some 57), none, .pick, [.t 52, .t 56, .k (.c (.bool false))]⟩, ⟨(some 58), none, .mv, [.t 57]⟩, ⟨(some 59), (some (58, true)), (.fa 3), [.t 3]⟩, ⟨(some 60), (some (58, true)), (.fa 2), [.t 59]⟩, ⟨(some 61), (some (58, true)), (.ld none), [.t 60]⟩, ⟨(some 62), (some (58, true)), (.fa 0), [.t 5]⟩, ⟨(some 63), (some (58, true)), (.ld none), [.t 62]⟩, ⟨(some 64), (some (58, true)), (.bin .eql), [.t 61, .t 63]⟩, ⟨(some 65), none, .pick, [.t 58, .t 64, .k (.c (.bool false))]⟩, ⟨(some 4), none, .mv, [.t 65]⟩] true) (.rt)))
theorem cf79 : compF Try.prog 79 c79 = some ⟨c79, [.t 4], 66⟩ := by kernel_rfl

-- raddle/op.Key
def c80 : IC := .sq (.rg [⟨(some 2), none, .mv, [.k (.c (.bool false))]⟩] false) (.sq (.rg [⟨(some 3), none, .mv, [.t 0]⟩, ⟨(some 4), none, .slen, [.t 3]⟩, ⟨(some 5), none, (.bin .geq), [.t 4, .k (.c (.int .i64 1))]⟩, ⟨(some 6), none, .mv, [.t 5]⟩, ⟨(some 7), (some (6, true)), .mv, [.t 0]⟩, ⟨(some 8), (some (6, true)), .slen, [.t 7]⟩, ⟨(some 9), (some (6, true)), (.bin .leq), [.t 8, .k (.c (.int .i64 12))]⟩, ⟨(some 10), none, .pick, [.t 6, .t 9, .k (.c (.bool false))]⟩, ⟨(some 2), none, .mv, [.t 10]⟩] false) (.rt))
theorem cf80 : compF Try.prog 80 c80 = some ⟨c80, [.t 2], 11⟩ := by kernel_rfl

-- raddle/op.small
def c81 : IC := .sq (.rg [⟨(some 4), none, .mv, [.k (.c (.bool false))]⟩] false) (.sq (.rg [⟨(some 5), none, .mv, [.t 0]⟩, ⟨(some 6), none, .mv, [.t 1]⟩, ⟨(some 7), none, (.call 99 .fz), [.t 5, .t 6]⟩, ⟨(some 8), none, .mv, [.t 7]⟩, ⟨(some 9), (some (8, true)), .mv, [.t 0]⟩, ⟨(some 10), (some (8, true)), (.call 100 .fz), [.t 9, .k (.fn 101 [])]⟩, ⟨(some 11), (some (8, true)), (.un .not), [.t 10]⟩, ⟨(some 12), none, .pick, [.t 8, .t 11, .k (.c (.bool false))]⟩, ⟨(some 4), none, .mv, [.t 12]⟩] false) (.rt))
theorem cf81 : compF Try.prog 81 c81 = some ⟨c81, [.t 4], 13⟩ := by kernel_rfl

-- raddle/op.had
def c82 : IC := .sq (.rg [⟨(some 4), none, .mv, [.k (.c (.bool false))]⟩] false) (.sq (.sq (.rg [⟨(some 7), none, .mv, [.t 1]⟩, ⟨(some 8), none, .len, [.t 7]⟩, ⟨(some 9), none, .mv, [.k (.c (.int .i64 0))]⟩] false) (.bl 0 (.lp (.sq (.rg [⟨(some 10), none, (.bin .lss), [.t 9, .t 8]⟩] false) (.sq (.cn (.t 10) (.skip) (.ex 0)) (.sq (.bl 1 (.sq (.rg [⟨(some 11), none, .mv, [.t 9]⟩, ⟨(some 12), none, (.ia 2), [.t 7, .t 9]⟩, ⟨(some 13), none, (.ld (some 2)), [.t 12]⟩, ⟨(some 6), none, (.alloc [(.c (.int .i64 0)), (.c (.int .i64 0))]), []⟩, ⟨(some 5), none, .mv, [.t 11]⟩, ⟨none, none, (.st 2), [.t 6, .t 13]⟩] false) (.sq (.rg [⟨(some 14), none, .mv, [.t 0]⟩, ⟨(some 15), none, (.ld (some 2)), [.t 6]⟩, ⟨(some 16), none, (.call 10 .fz), [.t 14, .t 15]⟩, ⟨(some 17), none, (.un .not), [.t 16]⟩, ⟨(some 18), none, .mv, [.t 17]⟩, ⟨(some 19), (some (18, false)), .mv, [.t 5]⟩, ⟨(some 20), (some (18, false)), (.bin .gtr), [.t 19, .k (.c (.int .i64 0))]⟩, ⟨(some 21), (some (18, false)), .mv, [.t 20]⟩, ⟨(some 22), (some (21, true)), .mv, [.t 1]⟩, ⟨(some 23), (some (21, true)), .mv, [.t 5]⟩, ⟨(some 24), (some (21, true)), (.bin .sub), [.t 23, .k (.c (.int .i64 1))]⟩, ⟨(some 25), (some (21, true)), (.ia 2), [.t 22, .t 24]⟩, ⟨(some 26), (some (21, true)), (.ld (some 2)), [.t 25]⟩, ⟨(some 27), (some (21, true)), (.ld (some 2)), [.t 6]⟩, ⟨(some 28), (some (21, true)), (.call 103 .fz), [.t 26, .t 27]⟩, ⟨(some 29), (some (21, true)), (.un .not), [.t 28]⟩, ⟨(some 30), (some (18, false)), .pick, [.t 21, .t 29, .k (.c (.bool false))]⟩, ⟨(some 31), none, .pick, [.t 18, .k (.c (.bool true)), .t 30]⟩] true) (.cn (.t 31) (.sq (.rg [⟨(some 4), none, .mv, [.k (.c (.bool false))]⟩] false) (.rt)) (.skip))))) (.rg [⟨(some 32), none, (.bin .add), [.t 9, .k (.c (.int .i64 1))]⟩, ⟨(some 9), none, .mv, [.t 32]⟩] false))))))) (.sq (.rg [⟨(some 4), none, .mv, [.k (.c (.bool true))]⟩] false) (.rt)))
theorem cf82 : compF Try.prog 82 c82 = some ⟨c82, [.t 4], 33⟩ := by kernel_rfl

-- cmp.Or[int]
def c83 : IC := .sq (.rg [⟨(some 2), none, .mv, [.k (.c (.int .i64 0))]⟩] false) (.sq (.rg [⟨(some 3), none, .mv, [.k (.c (.int .i64 0))]⟩] false) (.sq (.sq (.rg [⟨(some 6), none, .mv, [.t 0]⟩, ⟨(some 7), none, .len, [.t 6]⟩, ⟨(some 8), none, .mv, [.k (.c (.int .i64 0))]⟩] false) (.bl 0 (.lp (.sq (.rg [⟨(some 9), none, (.bin .lss), [.t 8, .t 7]⟩] false) (.sq (.cn (.t 9) (.skip) (.ex 0)) (.sq (.bl 1 (.sq (.rg [⟨(some 10), none, (.ia 1), [.t 6, .t 8]⟩, ⟨(some 11), none, (.ld none), [.t 10]⟩, ⟨(some 5), none, .mv, [.t 11]⟩] false) (.sq (.rg [⟨(some 12), none, .mv, [.t 5]⟩, ⟨(some 13), none, .mv, [.t 3]⟩, ⟨(some 14), none, (.bin .neq), [.t 12, .t 13]⟩] false) (.cn (.t 14) (.sq (.rg [⟨(some 15), none, .mv, [.t 5]⟩, ⟨(some 2), none, .mv, [.t 15]⟩] false) (.rt)) (.skip))))) (.rg [⟨(some 16), none, (.bin .add), [.t 8, .k (.c (.int .i64 1))]⟩, ⟨(some 8), none, .mv, [.t 16]⟩] false))))))) (.sq (.rg [⟨(some 17), none, .mv, [.t 3]⟩, ⟨(some 2), none, .mv, [.t 17]⟩] false) (.rt))))
theorem cf83 : compF Try.prog 83 c83 = some ⟨c83, [.t 2], 18⟩ := by kernel_rfl

-- cmp.Compare[int]
def c84 : IC := .sq (.rg [⟨(some 4), none, .mv, [.k (.c (.int .i64 0))]⟩] false) (.sq (.rg [⟨(some 7), none, .mv, [.t 0]⟩, ⟨(some 8), none, (.call 104 .fz), [.t 7]⟩, ⟨(some 5), none, .mv, [.t 8]⟩] false) (.sq (.rg [⟨(some 9), none, .mv, [.t 1]⟩, ⟨(some 10), none, (.call 104 .fz), [.t 9]⟩, ⟨(some 6), none, .mv, [.t 10]⟩] false) (.sq (.sq (.rg [⟨(some 11), none, .mv, [.t 5]⟩] false) (.cn (.t 11) (.sq (.sq (.rg [⟨(some 12), none, .mv, [.t 6]⟩] false) (.cn (.t 12) (.sq (.rg [⟨(some 4), none, .mv, [.k (.c (.int .i64 0))]⟩] false) (.rt)) (.skip))) (.sq (.rg [⟨(some 4), none, .mv, [.k (.c (.int .i64 (-1)))]⟩] false) (.rt))) (.skip))) (.sq (.sq (.rg [⟨(some 13), none, .mv, [.t 6]⟩] false) (.cn (.t 13) (.sq (.rg [⟨(some 4), none, .mv, [.k (.c (.int .i64 1))]⟩] false) (.rt)) (.skip))) (.sq (.sq (.rg [⟨(some 14), none, .mv, [.t 0]⟩, ⟨(some 15), none, .mv, [.t 1]⟩, ⟨(some 16), none, (.bin .lss), [.t 14, .t 15]⟩] false) (.cn (.t 16) (.sq (.rg [⟨(some 4), none, .mv, [.k (.c (.int .i64 (-1)))]⟩] false) (.rt)) (.skip))) (.sq (.sq (.rg [⟨(some 17), none, .mv, [.t 0]⟩, ⟨(some 18), none, .mv, [.t 1]⟩, ⟨(some 19), none, (.bin .gtr), [.t 17, .t 18]⟩] false) (.cn (.t 19) (.sq (.rg [⟨(some 4), none, .mv, [.k (.c (.int .i64 1))]⟩] false) (.rt)) (.skip))) (.sq (.rg [⟨(some 4), none, .mv, [.k (.c (.int .i64 0))]⟩] false) (.rt))))))))
theorem cf84 : compF Try.prog 84 c84 = some ⟨c84, [.t 4], 20⟩ := by kernel_rfl

-- slices.insertionSortOrdered[string]
-- slices.heapSortOrdered[string]
-- slices.breakPatternsOrdered[string]
-- slices.choosePivotOrdered[string]
-- slices.reverseRangeOrdered[string]
-- slices.partialInsertionSortOrdered[string]
-- cmp.Less[string]
-- slices.partitionEqualOrdered[string]
-- slices.partitionOrdered[string]
-- slices.IndexFunc[[]raddle/api.Dot,raddle/api.Dot]
def c96 : IC := .sq (.rg [⟨(some 4), none, .mv, [.k (.c (.int .i64 0))]⟩] false) (.sq (.sq (.rg [⟨(some 6), none, .mv, [.t 0]⟩, ⟨(some 7), none, .len, [.t 6]⟩, ⟨(some 8), none, .mv, [.k (.c (.int .i64 0))]⟩] false) (.bl 0 (.lp (.sq (.rg [⟨(some 9), none, (.bin .lss), [.t 8, .t 7]⟩] false) (.sq (.cn (.t 9) (.skip) (.ex 0)) (.sq (.bl 1 (.sq (.rg [⟨(some 10), none, .mv, [.t 8]⟩, ⟨(some 5), none, .mv, [.t 10]⟩] false) (.sq (.rg [⟨(some 11), none, .mv, [.t 1]⟩, ⟨(some 12), none, .mv, [.t 0]⟩, ⟨(some 13), none, .mv, [.t 5]⟩, ⟨(some 14), none, (.ia 2), [.t 12, .t 13]⟩, ⟨(some 15), none, (.ld (some 2)), [.t 14]⟩, ⟨(some 16), none, (.callv .fz), [.t 11, .t 15]⟩] false) (.cn (.t 16) (.sq (.rg [⟨(some 17), none, .mv, [.t 5]⟩, ⟨(some 4), none, .mv, [.t 17]⟩] false) (.rt)) (.skip))))) (.rg [⟨(some 18), none, (.bin .add), [.t 8, .k (.c (.int .i64 1))]⟩, ⟨(some 8), none, .mv, [.t 18]⟩] false))))))) (.sq (.rg [⟨(some 4), none, .mv, [.k (.c (.int .i64 (-1)))]⟩] false) (.rt)))
theorem cf96 : compF Try.prog 96 c96 = some ⟨c96, [.t 4], 19⟩ := by kernel_rfl

-- slices.Index[[]raddle/api.Dot,raddle/api.Dot]
def c97 : IC := .sq (.rg [⟨(some 3), none, (.box (some 2)), [.t 1]⟩, ⟨(some 4), none, .mv, [.k (.c (.int .i64 0))]⟩] false) (.sq (.sq (.rg [⟨(some 6), none, .mv, [.t 0]⟩, ⟨(some 7), none, .len, [.t 6]⟩, ⟨(some 8), none, .mv, [.k (.c (.int .i64 0))]⟩] false) (.bl 0 (.lp (.sq (.rg [⟨(some 9), none, (.bin .lss), [.t 8, .t 7]⟩] false) (.sq (.cn (.t 9) (.skip) (.ex 0)) (.sq (.bl 1 (.sq (.rg [⟨(some 10), none, .mv, [.t 8]⟩, ⟨(some 5), none, .mv, [.t 10]⟩] false) (.sq (.rg [⟨(some 11), none, (.ld (some 2)), [.t 3]⟩, ⟨(some 12), none, .mv, [.t 0]⟩, ⟨(some 13), none, .mv, [.t 5]⟩, ⟨(some 14), none, (.ia 2), [.t 12, .t 13]⟩, ⟨(some 15), none, (.ld (some 2)), [.t 14]⟩, ⟨(some 16), none, (.eqs false [0, 0]), [.t 11, .t 15]⟩] true) (.cn (.t 16) (.sq (.rg [⟨(some 17), none, .mv, [.t 5]⟩, ⟨(some 4), none, .mv, [.t 17]⟩] false) (.rt)) (.skip))))) (.rg [⟨(some 18), none, (.bin .add), [.t 8, .k (.c (.int .i64 1))]⟩, ⟨(some 8), none, .mv, [.t 18]⟩] false))))))) (.sq (.rg [⟨(some 4), none, .mv, [.k (.c (.int .i64 (-1)))]⟩] false) (.rt)))
theorem cf97 : compF Try.prog 97 c97 = some ⟨c97, [.t 4], 19⟩ := by kernel_rfl

-- raddle/hlc.Check
def c98 : IC := .sq (.rg [⟨(some 1), none, (.box (some 3)), [.t 0]⟩, ⟨(some 2), none, .mv, [.k (.c (.int .i64 0))]⟩] false) (.sq (.sq (.rg [⟨(some 3), none, (.fa 0), [.t 1]⟩, ⟨(some 4), none, (.ld none), [.t 3]⟩, ⟨(some 5), none, (.call 111 .fz), [.t 4, .k (.c (.int .i64 1099511627776))]⟩, ⟨(some 6), none, .mv, [.t 5]⟩, ⟨(some 7), (some (6, true)), (.fa 1), [.t 1]⟩, ⟨(some 8), (some (6, true)), (.ld none), [.t 7]⟩, ⟨(some 9), (some (6, true)), (.call 111 .fz), [.t 8, .k (.c (.int .i64 65536))]⟩, ⟨(some 10), none, .pick, [.t 6, .t 9, .k (.c (.bool false))]⟩, ⟨(some 11), none, .mv, [.t 10]⟩, ⟨(some 12), (some (11, true)), (.fa 2), [.t 1]⟩, ⟨(some 13), (some (11, true)), (.ld none), [.t 12]⟩, ⟨(some 14), (some (11, true)), (.call 111 .fz), [.t 13, .k (.c (.int .i64 4))]⟩, ⟨(some 15), none, .pick, [.t 11, .t 14, .k (.c (.bool false))]⟩] false) (.cn (.t 15) (.sq (.rg [⟨(some 2), none, .mv, [.k (.c (.int .i64 0))]⟩] false) (.rt)) (.skip))) (.sq (.rg [⟨(some 2), none, .mv, [.k (.c (.int .i64 1))]⟩] false) (.rt)))
theorem cf98 : compF Try.prog 98 c98 = some ⟨c98, [.t 2], 16⟩ := by kernel_rfl

-- raddle/row.Fits
def c99 : IC := .sq (.rg [⟨(some 4), none, .mv, [.k (.c (.bool false))]⟩] false) (.sq (.rg [⟨(some 5), none, .mv, [.t 0]⟩, ⟨(some 6), none, .mv, [.t 1]⟩, ⟨(some 7), none, (.call 112 .fz), [.t 5, .t 6, .k (.fn 113 [])]⟩, ⟨(some 4), none, .mv, [.t 7]⟩] false) (.rt))
theorem cf99 : compF Try.prog 99 c99 = some ⟨c99, [.t 4], 8⟩ := by kernel_rfl

-- slices.ContainsFunc[[]raddle/api.Value,raddle/api.Value]
def c100 : IC := .sq (.rg [⟨(some 4), none, .mv, [.k (.c (.bool false))]⟩] false) (.sq (.rg [⟨(some 5), none, .mv, [.t 0]⟩, ⟨(some 6), none, .mv, [.t 1]⟩, ⟨(some 7), none, (.call 114 .fz), [.t 5, .t 6]⟩, ⟨(some 8), none, (.bin .geq), [.t 7, .k (.c (.int .i64 0))]⟩, ⟨(some 4), none, .mv, [.t 8]⟩] false) (.rt))
theorem cf100 : compF Try.prog 100 c100 = some ⟨c100, [.t 4], 9⟩ := by kernel_rfl

-- raddle/op.small$1
def c101 : IC := .sq (.rg [⟨(some 1), none, (.box (some 3)), [.t 0]⟩, ⟨(some 2), none, .mv, [.k (.c (.bool false))]⟩] false) (.sq (.rg [⟨(some 3), none, (.ld (some 3)), [.t 1]⟩, ⟨(some 4), none, (.call 102 .fz), [.t 3]⟩, ⟨(some 5), none, (.un .not), [.t 4]⟩, ⟨(some 2), none, .mv, [.t 5]⟩] false) (.rt))
theorem cf101 : compF Try.prog 101 c101 = some ⟨c101, [.t 2], 6⟩ := by kernel_rfl

-- raddle/value.Small
def c102 : IC := .sq (.rg [⟨(some 1), none, (.box (some 3)), [.t 0]⟩, ⟨(some 2), none, .mv, [.k (.c (.bool false))]⟩] false) (.sq (.rg [⟨(some 3), none, (.ld (some 3)), [.t 1]⟩, ⟨(some 4), none, (.call 115 .fz), [.t 3]⟩, ⟨(some 5), none, (.bin .eql), [.t 4, .k (.c (.int .i64 0))]⟩, ⟨(some 6), none, .mv, [.t 5]⟩, ⟨(some 7), (some (6, true)), (.fa 0), [.t 1]⟩, ⟨(some 8), (some (6, true)), (.ld none), [.t 7]⟩, ⟨(some 9), (some (6, true)), (.bin .neq), [.t 8, .k (.c (.int .i64 3))]⟩, ⟨(some 10), (some (6, true)), .mv, [.t 9]⟩, ⟨(some 11), (some (10, false)), (.fa 1), [.t 1]⟩, ⟨(some 12), (some (10, false)), (.ld none), [.t 11]⟩, ⟨(some 13), (some (10, false)), (.call 116 .fz), [.t 12, .k (.c (.int .i64 2147483648))]⟩, ⟨(some 14), (some (6, true)), .pick, [.t 10, .k (.c (.bool true)), .t 13]⟩, ⟨(some 15), none, .pick, [.t 6, .t 14, .k (.c (.bool false))]⟩, ⟨(some 2), none, .mv, [.t 15]⟩] false) (.rt))
theorem cf102 : compF Try.prog 102 c102 = some ⟨c102, [.t 2], 16⟩ := by kernel_rfl

-- raddle/dot.Less
def c103 : IC := .sq (.rg [⟨(some 2), none, (.box (some 2)), [.t 0]⟩, ⟨(some 3), none, (.box (some 2)), [.t 1]⟩, ⟨(some 4), none, .mv, [.k (.c (.bool false))]⟩] false) (.sq (.rg [⟨(some 5), none, (.ld (some 2)), [.t 2]⟩, ⟨(some 6), none, (.ld (some 2)), [.t 3]⟩, ⟨(some 7), none, (.call 117 .fz), [.t 5, .t 6]⟩, ⟨(some 8), none, (.bin .lss), [.t 7, .k (.c (.int .i64 0))]⟩, ⟨(some 4), none, .mv, [.t 8]⟩] false) (.rt))
theorem cf103 : compF Try.prog 103 c103 = some ⟨c103, [.t 4], 9⟩ := by kernel_rfl

-- cmp.isNaN[int]
def c104 : IC := .sq (.rg [⟨(some 2), none, .mv, [.k (.c (.bool false))]⟩] false) (.sq (.rg [⟨(some 3), none, .mv, [.t 0]⟩, ⟨(some 4), none, .mv, [.t 0]⟩, ⟨(some 5), none, (.bin .neq), [.t 3, .t 4]⟩, ⟨(some 2), none, .mv, [.t 5]⟩] false) (.rt))
theorem cf104 : compF Try.prog 104 c104 = some ⟨c104, [.t 2], 6⟩ := by kernel_rfl

-- slices.siftDownOrdered[string]
-- slices.nextPowerOfTwo
-- (*slices.xorshift).Next
-- slices.medianAdjacentOrdered[string]
-- slices.medianOrdered[string]
-- cmp.isNaN[string]
-- raddle/hlc.in
def c111 : IC := .sq (.rg [⟨(some 4), none, .mv, [.k (.c (.bool false))]⟩] false) (.sq (.rg [⟨(some 5), none, .mv, [.t 0]⟩, ⟨(some 6), none, (.bin .geq), [.t 5, .k (.c (.int .i64 0))]⟩, ⟨(some 7), none, .mv, [.t 6]⟩, ⟨(some 8), (some (7, true)), .mv, [.t 0]⟩, ⟨(some 9), (some (7, true)), .mv, [.t 1]⟩, ⟨(some 10), (some (7, true)), (.bin .leq), [.t 8, .t 9]⟩, ⟨(some 11), none, .pick, [.t 7, .t 10, .k (.c (.bool false))]⟩, ⟨(some 4), none, .mv, [.t 11]⟩] false) (.rt))
theorem cf111 : compF Try.prog 111 c111 = some ⟨c111, [.t 4], 12⟩ := by kernel_rfl

-- slices.EqualFunc[[]raddle/api.Value,[]int,raddle/api.Value,int]
def c112 : IC := .sq (.rg [⟨(some 6), none, .mv, [.k (.c (.bool false))]⟩] false) (.sq (.sq (.rg [⟨(some 10), none, .mv, [.t 0]⟩, ⟨(some 11), none, .len, [.t 10]⟩, ⟨(some 12), none, .mv, [.t 1]⟩, ⟨(some 13), none, .len, [.t 12]⟩, ⟨(some 14), none, (.bin .neq), [.t 11, .t 13]⟩] false) (.cn (.t 14) (.sq (.rg [⟨(some 6), none, .mv, [.k (.c (.bool false))]⟩] false) (.rt)) (.skip))) (.sq (.sq (.rg [⟨(some 15), none, .mv, [.t 0]⟩, ⟨(some 16), none, .len, [.t 15]⟩, ⟨(some 17), none, .mv, [.k (.c (.int .i64 0))]⟩] false) (.bl 0 (.lp (.sq (.rg [⟨(some 18), none, (.bin .lss), [.t 17, .t 16]⟩] false) (.sq (.cn (.t 18) (.skip) (.ex 0)) (.sq (.bl 1 (.sq (.rg [⟨(some 19), none, .mv, [.t 17]⟩, ⟨(some 20), none, (.ia 3), [.t 15, .t 17]⟩, ⟨(some 21), none, (.ld (some 3)), [.t 20]⟩, ⟨(some 8), none, (.alloc [(.c (.int .i64 0)), (.c (.int .i64 0)), (.c (.string ⟨#[]⟩))]), []⟩, ⟨(some 7), none, .mv, [.t 19]⟩, ⟨none, none, (.st 3), [.t 8, .t 21]⟩] false) (.sq (.rg [⟨(some 22), none, .mv, [.t 1]⟩, ⟨(some 23), none, .mv, [.t 7]⟩, ⟨(some 24), none, (.ia 1), [.t 22, .t 23]⟩, ⟨(some 25), none, (.ld none), [.t 24]⟩, ⟨(some 9), none, .mv, [.t 25]⟩] false) (.sq (.rg [⟨(some 26), none, .mv, [.t 2]⟩, ⟨(some 27), none, (.ld (some 3)), [.t 8]⟩, ⟨(some 28), none, .mv, [.t 9]⟩, ⟨(some 29), none, (.callv .fz), [.t 26, .t 27, .t 28]⟩, ⟨(some 30), none, (.un .not), [.t 29]⟩] false) (.cn (.t 30) (.sq (.rg [⟨(some 6), none, .mv, [.k (.c (.bool false))]⟩] false) (.rt)) (.skip)))))) (.rg [⟨(some 31), none, (.bin .add), [.t 17, .k (.c (.int .i64 1))]⟩, ⟨(some 17), none, .mv, [.t 31]⟩] false))))))) (.sq (.rg [⟨(some 6), none, .mv, [.k (.c (.bool true))]⟩] false) (.rt))))
theorem cf112 : compF Try.prog 112 c112 = some ⟨c112, [.t 6], 32⟩ := by kernel_rfl

-- raddle/value.Fits
def c113 : IC := .sq (.rg [⟨(some 2), none, (.box (some 3)), [.t 0]⟩, ⟨(some 4), none, .mv, [.k (.c (.bool false))]⟩] false) (.sq (.rg [⟨(some 5), none, .mv, [.t 1]⟩, ⟨(some 6), none, (.bin .eql), [.t 5, .k (.c (.int .i64 2))]⟩, ⟨(some 7), none, .mv, [.t 6]⟩, ⟨(some 8), (some (7, false)), .mv, [.t 1]⟩, ⟨(some 9), (some (7, false)), (.bin .eql), [.t 8, .k (.c (.int .i64 3))]⟩, ⟨(some 10), none, .pick, [.t 7, .k (.c (.bool true)), .t 9]⟩, ⟨(some 11), none, .mv, [.t 10]⟩, ⟨(some 12), (some (11, false)), .mv, [.t 1]⟩, ⟨(some 13), (some (11, false)), (.bin .eql), [.t 12, .k (.c (.int .i64 4))]⟩, ⟨(some 14), none, .pick, [.t 11, .k (.c (.bool true)), .t 13]⟩, ⟨(some 15), none, .mv, [.t 14]⟩, ⟨(some 16), (some (15, true)), (.ld (some 3)), [.t 2]⟩, ⟨(some 17), (some (15, true)), (.call 115 .fz), [.t 16]⟩, ⟨(some 18), (some (15, true)), (.bin .eql), [.t 17, .k (.c (.int .i64 0))]⟩, ⟨(some 19), none, .pick, [.t 15, .t 18, .k (.c (.bool false))]⟩, ⟨(some 20), none, .mv, [.t 19]⟩, ⟨(some 21), (some (20, true)), (.fa 0), [.t 2]⟩, ⟨(some 22), (some (20, true)), (.ld none), [.t 21]⟩, ⟨(some 23), (some (20, true)), .mv, [.t 1]⟩, ⟨(some 24), (some (20, true)), (.bin .eql), [.t 22, .t 23]⟩, ⟨(some 25), (some (20, true)), .mv, [.t 24]⟩, ⟨(some 26), (some (25, false)), (.fa 0), [.t 2]⟩, ⟨(some 27), (some (25, false)), (.ld none), [.t 26]⟩, ⟨(some 28), (some (25, false)), (.bin .eql), [.t 27, .k (.c (.int .i64 1))]⟩, ⟨(some 29), (some (20, true)), .pick, [.t 25, .k (.c (.bool true)), .t 28]⟩, ⟨(some 30), none, .pick, [.t 20, .t 29, .k (.c (.bool false))]⟩, ⟨(some 4), none, .mv, [.t 30]⟩] false) (.rt))
theorem cf113 : compF Try.prog 113 c113 = some ⟨c113, [.t 4], 31⟩ := by kernel_rfl

-- slices.IndexFunc[[]raddle/api.Value,raddle/api.Value]
def c114 : IC := .sq (.rg [⟨(some 4), none, .mv, [.k (.c (.int .i64 0))]⟩] false) (.sq (.sq (.rg [⟨(some 6), none, .mv, [.t 0]⟩, ⟨(some 7), none, .len, [.t 6]⟩, ⟨(some 8), none, .mv, [.k (.c (.int .i64 0))]⟩] false) (.bl 0 (.lp (.sq (.rg [⟨(some 9), none, (.bin .lss), [.t 8, .t 7]⟩] false) (.sq (.cn (.t 9) (.skip) (.ex 0)) (.sq (.bl 1 (.sq (.rg [⟨(some 10), none, .mv, [.t 8]⟩, ⟨(some 5), none, .mv, [.t 10]⟩] false) (.sq (.rg [⟨(some 11), none, .mv, [.t 1]⟩, ⟨(some 12), none, .mv, [.t 0]⟩, ⟨(some 13), none, .mv, [.t 5]⟩, ⟨(some 14), none, (.ia 3), [.t 12, .t 13]⟩, ⟨(some 15), none, (.ld (some 3)), [.t 14]⟩, ⟨(some 16), none, (.callv .fz), [.t 11, .t 15]⟩] false) (.cn (.t 16) (.sq (.rg [⟨(some 17), none, .mv, [.t 5]⟩, ⟨(some 4), none, .mv, [.t 17]⟩] false) (.rt)) (.skip))))) (.rg [⟨(some 18), none, (.bin .add), [.t 8, .k (.c (.int .i64 1))]⟩, ⟨(some 8), none, .mv, [.t 18]⟩] false))))))) (.sq (.rg [⟨(some 4), none, .mv, [.k (.c (.int .i64 (-1)))]⟩] false) (.rt)))
theorem cf114 : compF Try.prog 114 c114 = some ⟨c114, [.t 4], 19⟩ := by kernel_rfl

-- raddle/value.Check
def c115 : IC := .sq (.rg [⟨(some 1), none, (.box (some 3)), [.t 0]⟩, ⟨(some 2), none, .mv, [.k (.c (.int .i64 0))]⟩] false) (.sq (.rg [⟨(some 3), none, .mv, [.k (.c (.bool false))]⟩] false) (.sq (.sq (.rg [⟨(some 4), none, (.fa 0), [.t 1]⟩, ⟨(some 5), none, (.ld none), [.t 4]⟩] false) (.bl 0 (.sq (.rg [⟨(some 7), none, (.bin .eql), [.t 5, .k (.c (.int .i64 1))]⟩, ⟨(some 6), none, .mv, [.t 7]⟩] false) (.cn (.t 6) (.rg [⟨(some 8), none, (.fa 1), [.t 1]⟩, ⟨(some 9), none, (.ld none), [.t 8]⟩, ⟨(some 10), none, (.bin .eql), [.t 9, .k (.c (.int .i64 0))]⟩, ⟨(some 11), none, .mv, [.t 10]⟩, ⟨(some 12), (some (11, true)), (.fa 2), [.t 1]⟩, ⟨(some 13), (some (11, true)), (.ld none), [.t 12]⟩, ⟨(some 14), (some (11, true)), (.bin .eql), [.t 13, .k (.c (.string ⟨#[]⟩))]⟩, ⟨(some 15), none, .pick, [.t 11, .t 14, .k (.c (.bool false))]⟩, ⟨(some 3), none, .mv, [.t 15]⟩] false) (.sq (.rg [⟨(some 17), none, (.bin .eql), [.t 5, .k (.c (.int .i64 2))]⟩, ⟨(some 16), none, .mv, [.t 17]⟩] false) (.cn (.t 16) (.rg [⟨(some 18), none, (.fa 1), [.t 1]⟩, ⟨(some 19), none, (.ld none), [.t 18]⟩, ⟨(some 20), none, (.bin .eql), [.t 19, .k (.c (.int .i64 0))]⟩, ⟨(some 21), none, .mv, [.t 20]⟩, ⟨(some 22), (some (21, false)), (.fa 1), [.t 1]⟩, ⟨(some 23), (some (21, false)), (.ld none), [.t 22]⟩, ⟨(some 24), (some (21, false)), (.bin .eql), [.t 23, .k (.c (.int .i64 1))]⟩, ⟨(some 25), none, .pick, [.t 21, .k (.c (.bool true)), .t 24]⟩, ⟨(some 26), none, .mv, [.t 25]⟩, ⟨(some 27), (some (26, true)), (.fa 2), [.t 1]⟩, ⟨(some 28), (some (26, true)), (.ld none), [.t 27]⟩, ⟨(some 29), (some (26, true)), (.bin .eql), [.t 28, .k (.c (.string ⟨#[]⟩))]⟩, ⟨(some 30), none, .pick, [.t 26, .t 29, .k (.c (.bool false))]⟩, ⟨(some 3), none, .mv, [.t 30]⟩] false) (.sq (.rg [⟨(some 32), none, (.bin .eql), [.t 5, .k (.c (.int .i64 3))]⟩, ⟨(some 31), none, .mv, [.t 32]⟩] false) (.cn (.t 31) (.rg [⟨(some 33), none, (.fa 1), [.t 1]⟩, ⟨(some 34), none, (.ld none), [.t 33]⟩, ⟨(some 35), none, (.call 116 .fz), [.t 34, .k (.c (.int .i64 1152921504606846976))]⟩, ⟨(some 36), none, .mv, [.t 35]⟩, ⟨(some 37), (some (36, true)), (.fa 2), [.t 1]⟩, ⟨(some 38), (some (36, true)), (.ld none), [.t 37]⟩, ⟨(some 39), (some (36, true)), (.bin .eql), [.t 38, .k (.c (.string ⟨#[]⟩))]⟩, ⟨(some 40), none, .pick, [.t 36, .t 39, .k (.c (.bool false))]⟩, ⟨(some 3), none, .mv, [.t 40]⟩] false) (.sq (.rg [⟨(some 42), none, (.bin .eql), [.t 5, .k (.c (.int .i64 4))]⟩, ⟨(some 41), none, .mv, [.t 42]⟩] false) (.cn (.t 41) (.rg [⟨(some 43), none, (.fa 1), [.t 1]⟩, ⟨(some 44), none, (.ld none), [.t 43]⟩, ⟨(some 45), none, (.bin .eql), [.t 44, .k (.c (.int .i64 0))]⟩, ⟨(some 46), none, .mv, [.t 45]⟩, ⟨(some 47), (some (46, true)), (.fa 2), [.t 1]⟩, ⟨(some 48), (some (46, true)), (.ld none), [.t 47]⟩, ⟨(some 49), (some (46, true)), .slen, [.t 48]⟩, ⟨(some 50), (some (46, true)), (.bin .leq), [.t 49, .k (.c (.int .i64 24))]⟩, ⟨(some 51), none, .pick, [.t 46, .t 50, .k (.c (.bool false))]⟩, ⟨(some 3), none, .mv, [.t 51]⟩] false) (.skip))))))))))) (.sq (.sq (.rg [⟨(some 52), none, .mv, [.t 3]⟩, ⟨(some 53), none, (.un .not), [.t 52]⟩] false) (.cn (.t 53) (.sq (.rg [⟨(some 2), none, .mv, [.k (.c (.int .i64 1))]⟩] false) (.rt)) (.skip))) (.sq (.rg [⟨(some 2), none, .mv, [.k (.c (.int .i64 0))]⟩] false) (.rt)))))
theorem cf115 : compF Try.prog 115 c115 = some ⟨c115, [.t 2], 54⟩ := by kernel_rfl

-- raddle/value.within
def c116 : IC := .sq (.rg [⟨(some 4), none, .mv, [.k (.c (.bool false))]⟩] false) (.sq (.rg [⟨(some 5), none, .mv, [.t 0]⟩, ⟨(some 6), none, .mv, [.t 1]⟩, ⟨(some 7), none, (.un .neg), [.t 6]⟩, ⟨(some 8), none, (.bin .geq), [.t 5, .t 7]⟩, ⟨(some 9), none, .mv, [.t 8]⟩, ⟨(some 10), (some (9, true)), .mv, [.t 0]⟩, ⟨(some 11), (some (9, true)), .mv, [.t 1]⟩, ⟨(some 12), (some (9, true)), (.bin .leq), [.t 10, .t 11]⟩, ⟨(some 13), none, .pick, [.t 9, .t 12, .k (.c (.bool false))]⟩, ⟨(some 4), none, .mv, [.t 13]⟩] false) (.rt))
theorem cf116 : compF Try.prog 116 c116 = some ⟨c116, [.t 4], 14⟩ := by kernel_rfl

-- raddle/dot.Compare
def c117 : IC := .sq (.rg [⟨(some 2), none, (.box (some 2)), [.t 0]⟩, ⟨(some 3), none, (.box (some 2)), [.t 1]⟩, ⟨(some 4), none, .mv, [.k (.c (.int .i64 0))]⟩] false) (.sq (.rg [⟨(some 5), none, (.fa 0), [.t 2]⟩, ⟨(some 6), none, (.ld none), [.t 5]⟩, ⟨(some 7), none, (.fa 0), [.t 3]⟩, ⟨(some 8), none, (.ld none), [.t 7]⟩, ⟨(some 9), none, (.call 84 .fz), [.t 6, .t 8]⟩, ⟨(some 10), none, (.fa 1), [.t 2]⟩, ⟨(some 11), none, (.ld none), [.t 10]⟩, ⟨(some 12), none, (.fa 1), [.t 3]⟩, ⟨(some 13), none, (.ld none), [.t 12]⟩, ⟨(some 14), none, (.call 84 .fz), [.t 11, .t 13]⟩, ⟨(some 15), none, (.bsl 1 [(.c (.int .i64 0))] [0, 1] 2 true), [.t 9, .t 14]⟩, ⟨(some 16), none, (.call 83 .fz), [.t 15]⟩, ⟨(some 4), none, .mv, [.t 16]⟩] true) (.rt))
theorem cf117 : compF Try.prog 117 c117 = some ⟨c117, [.t 4], 17⟩ := by kernel_rfl

-- slices.order2Ordered[string]
end Go.Proofs.Ytbojpedklnmidaa.D
end
section
set_option linter.unusedVariables false
set_option linter.unusedSimpArgs false
set_option maxRecDepth 100000
set_option linter.constructorNameAsVariable false

/- What functions of raddlekeep, raddleref01 and dot answer. No condition. -/
namespace Go.Proofs.Ytbojpedklnmidaa.D
open Go Go.Proofs

theorem refIn_ok (n lo hi : Int) : FnB Try.prog 48 [vi n, vi lo, vi hi] (vb (decide (lo ≤ n ∧ n ≤ hi))) := by
  refine fnB_intro cf48 (by simp) ?_
  simp (config := {contextual := true, maxSteps := 1000000}) only [go_sem, ints, intRows, iv_c, Nat.reduceAdd, Nat.reduceBEq, Nat.reduceEqDiff, Nat.reduceLeDiff, Nat.reduceLT, reduceIte, Nat.le_refl, true_or, or_true, and_self, Int.reduceLE, Int.reduceLT, Int.reduceEq, Int.reduceNeg, Int.natCast_nonneg, Int.reduceToNat, c48]
  simp

theorem in_ok {fl : Fl} (l : List Int) (p : Int) : FnB Try.prog 32 [ints fl l, vi p] (vb (decide (0 ≤ p ∧ p < l.length))) := by
  refine fnB_intro cf32 (by simp) ?_
  simp (config := {contextual := true, maxSteps := 1000000}) only [go_sem, ints, intRows, iv_c, Nat.reduceAdd, Nat.reduceBEq, Nat.reduceEqDiff, Nat.reduceLeDiff, Nat.reduceLT, reduceIte, Nat.le_refl, true_or, or_true, and_self, Int.reduceLE, Int.reduceLT, Int.reduceEq, Int.reduceNeg, Int.natCast_nonneg, Int.reduceToNat, c32]
  simp

theorem take_succ_iff {α : Type} [Inhabited α] {p : α → Prop} {l : List α} {i : Nat} (h : i < l.length) : (∀ n ∈ l.take (i + 1), p n) ↔ (∀ n ∈ l.take i, p n) ∧ p (gN l i) := by
  rw [List.take_add_one, gN_at h]; simp [or_imp, forall_and]
/-- Whether a vector may be. -/
def vecE (v : List Int) : Int := if 1 ≤ v.length ∧ v.length ≤ 5 then (if ∀ n ∈ v, 0 ≤ n ∧ n ≤ 1073741824 then 0 else 1) else 2

theorem Vector_ok {fl : Fl} (v : List Int) : FnB Try.prog 23 [ints fl v] (vi (vecE v)) := by
  refine fnB_intro cf23 (by simp) ?_
  simp (config := {contextual := true, maxSteps := 1000000}) only [go_sem, ints, intRows, iv_c, Nat.reduceAdd, Nat.reduceBEq, Nat.reduceEqDiff, Nat.reduceLeDiff, Nat.reduceLT, reduceIte, Nat.le_refl, true_or, or_true, and_self, Int.reduceLE, Int.reduceLT, Int.reduceEq, Int.reduceNeg, Int.natCast_nonneg, Int.reduceToNat, c23]
  refine caS_i (refIn_ok _ _ _) trivial ?_
  simp (config := {contextual := true, maxSteps := 1000000}) only [go_sem, ints, intRows, iv_c, Nat.reduceAdd, Nat.reduceBEq, Nat.reduceEqDiff, Nat.reduceLeDiff, Nat.reduceLT, reduceIte, Nat.le_refl, true_or, or_true, and_self, Int.reduceLE, Int.reduceLT, Int.reduceEq, Int.reduceNeg, Int.natCast_nonneg, Int.reduceToNat]
  refine ⟨?_, ?_⟩
  · intro h; simp at h
    rw [vecE, if_neg (by omega)]
  · intro h; simp at h
    refine wpC_lp (fun env ob n => env 0 = ints fl v ∧ ∃ i : Nat, env 3 = vi i ∧ i ≤ v.length ∧ ∀ n ∈ v.take i, 0 ≤ n ∧ n ≤ 1073741824) (fun env ob n => (v.length - iv (env 3)).toNat) ?_ ?_
    · simp (config := {contextual := true, maxSteps := 1000000}) only [go_sem, ints, intRows, iv_c, Nat.reduceAdd, Nat.reduceBEq, Nat.reduceEqDiff, Nat.reduceLeDiff, Nat.reduceLT, reduceIte, Nat.le_refl, true_or, or_true, and_self, Int.reduceLE, Int.reduceLT, Int.reduceEq, Int.reduceNeg, Int.natCast_nonneg, Int.reduceToNat]
      simp
      exact ⟨0, by simp⟩
    · rintro env ob n ⟨h0, i, h3, hi, he⟩
      simp (config := {contextual := true, maxSteps := 1000000}) only [go_sem, ints, intRows, iv_c, Nat.reduceAdd, Nat.reduceBEq, Nat.reduceEqDiff, Nat.reduceLeDiff, Nat.reduceLT, reduceIte, Nat.le_refl, true_or, or_true, and_self, Int.reduceLE, Int.reduceLT, Int.reduceEq, Int.reduceNeg, Int.natCast_nonneg, Int.reduceToNat, h0, h3]
      refine ⟨fun hlt => ?_, fun hge => ?_⟩
      · simp at hlt
        refine ⟨by omega, caS_i (refIn_ok _ _ _) trivial ?_⟩
        simp (config := {contextual := true, maxSteps := 1000000}) only [go_sem, ints, intRows, iv_c, Nat.reduceAdd, Nat.reduceBEq, Nat.reduceEqDiff, Nat.reduceLeDiff, Nat.reduceLT, reduceIte, Nat.le_refl, true_or, or_true, and_self, Int.reduceLE, Int.reduceLT, Int.reduceEq, Int.reduceNeg, Int.natCast_nonneg, Int.reduceToNat, h0, h3]
        simp
        refine ⟨fun hb => ?_, fun hg hg2 => ⟨⟨i + 1, ?_, by omega, (take_succ_iff hlt).2 ⟨he, hg, hg2⟩⟩, ?_⟩⟩
        · unfold vecE; rw [if_pos (by omega), if_neg]
          intro hall; have := hall (gN v i) (by rw [gN_eq hlt]; exact List.getElem_mem _); omega
        · rw [w64 (by omega)]; simp
        · rw [w64 (by omega)]; omega
      · simp at hge
        rw [List.take_of_length_le (by omega)] at he
        rw [vecE, if_pos (by omega), if_pos he]
end Go.Proofs.Ytbojpedklnmidaa.D
end
