/- Lists of bytes and texts that are lent: with marks behind their ends; kept; written over. -/
import Derived.Test.YtinpiaibhjmfaaaMf
namespace Go.Proofs.Ytinpiaibhjmfaaa
open Go.RowKit
set_option maxRecDepth 100000
set_option linter.unusedVariables false
set_option linter.unusedSimpArgs false
theorem Zjl : Program.underlying Try.prog 3 = some (.int .i64) := by kernel_rfl
theorem Zl8 : Program.underlying Try.prog 108 = some (.int .u64) := by kernel_rfl
theorem Zpz : Program.underlying Try.prog 32 = some (.slice 5) := by kernel_rfl
theorem Zl9 : ZcL Try.prog 9 = some 16 := by kernel_rfl
theorem Zop : ZcL Try.prog 32 = some 24 := by kernel_rfl
theorem Zj9 : ZbE Try.prog 9 = some (.string ⟨#[]⟩) := by kernel_rfl
def mkI (k i : Nat) : Int := 1000003 * ((k : Int) + 7) + i
def mkB (k i : Nat) : Int := IntKind.u8.wrap ((IntKind.u64.wrap (IntKind.u64.wrap (mkI k i) * 11400714819323198485)).fdiv (2 ^ min 56 64))
def tB (x : Int) : UInt8 := UInt8.ofNat (IntKind.u8.wrap x).toNat
theorem ZkC (x : Int) : IntKind.u8.wrap x = ((tB x).toNat : Int) := by
 have h1 : IntKind.u8.wrap x = x % 256 := IntKind.wrap_u8 x
 unfold tB
 rw [h1, UInt8.toNat_ofNat']
 omega
def mkT (k i : Nat) : List UInt8 := [35, tB k, tB ((k : Int).fdiv (2 ^ min 8 64)), tB ((k : Int).fdiv (2 ^ min 16 64)), 47, tB i, tB ((i : Int).fdiv (2 ^ min 8 64)), tB ((i : Int).fdiv (2 ^ min 16 64))]
section
variable {σ : St} {K : AV -> St -> Prop}
theorem Zoq {k i : Nat} (hk : k <= 2) (hi : i <= 100000000) (hK : K (vI (mkI k i)) σ) : Zat Try.prog 74 [vI k, vI i] σ K := by
 refine Zan Zas Try.func74 rfl rfl rfl (Nat.le_of_ble_eq_true rfl) ?_
 refine ZaO 0 1 (v0 := vI k) (v1 := vI i) rfl rfl ?_
 intro e he
 repeat refine Zac ?_
 first|refine Zaa ?_|refine Zad ?_
 refine Zab (Zag rfl (by simp only [EV,Nat.reduceEqDiff,↓reduceIte,he];try rfl) ?_)
 refine Zaf ?_
 apply ZaO 0 1
 iterate 2 ·simp only [EV,Nat.reduceEqDiff,↓reduceIte,he];try rfl
 clear he e
 intro e he
 repeat refine Zac ?_
 first|refine Zaa ?_|refine Zad ?_
 refine Zab (Zag rfl (by simp only [EV,Nat.reduceEqDiff,↓reduceIte,he];try rfl) ?_)
 refine Zab ?_
 refine ZaL k 7 (by simp only [EV,Nat.reduceEqDiff,↓reduceIte,he];try rfl) (by simp only [EV,Nat.reduceEqDiff,↓reduceIte,he];try rfl) (by omega) ?_
 refine Zab ?_
 refine ZoK (k := .i64) (a := 1000003) (b := ((k + 7 : Nat) : Int)) (r := 1000003 * ((k : Int) + 7)) (by simp only [EV,Nat.reduceEqDiff,↓reduceIte,he];try rfl) (by simp only [EV,Nat.reduceEqDiff,↓reduceIte,he];try rfl) (by rw [IntWalk.i64_in _ (by omega)]; omega) ?_
 refine Zab (Zag rfl (by simp only [EV,Nat.reduceEqDiff,↓reduceIte,he];try rfl) ?_)
 refine Zab ?_
 refine ZnK (k := .i64) (a := 1000003 * ((k : Int) + 7)) (b := (i : Int)) (r := mkI k i) (by simp only [EV,Nat.reduceEqDiff,↓reduceIte,he];try rfl) (by simp only [EV,Nat.reduceEqDiff,↓reduceIte,he];try rfl) (by unfold mkI; exact IntWalk.i64_in _ (by omega)) ?_
 refine Zab (Zag rfl (by simp only [EV,Nat.reduceEqDiff,↓reduceIte,he];try rfl) ?_)
 refine Zaf ?_
 refine Zaw ?_
 show ∃ r, Zaj _ _ _ _ r /\ _
 exact ⟨_, Zal rfl (by simp only [EV,Nat.reduceEqDiff,↓reduceIte,he];try rfl), hK⟩
theorem ZhU {k i : Nat} (hk : k <= 2) (hi : i <= 100000000) (hK : K (.raw (.int .u8 (mkB k i))) σ) : Zat Try.prog 58 [vI k, vI i] σ K := by
 refine Zan Zas Try.func58 rfl rfl rfl (Nat.le_of_ble_eq_true rfl) ?_
 refine ZaO 0 1 (v0 := vI k) (v1 := vI i) rfl rfl ?_
 intro e he
 repeat refine Zac ?_
 first|refine Zaa ?_|refine Zad ?_
 refine Zab (Zag rfl (by simp only [EV,Nat.reduceEqDiff,↓reduceIte,he];try rfl) ?_)
 refine Zaf ?_
 apply ZaO 0 1
 iterate 2 ·simp only [EV,Nat.reduceEqDiff,↓reduceIte,he];try rfl
 clear he e
 intro e he
 repeat refine Zac ?_
 first|refine Zaa ?_|refine Zad ?_
 refine Zab (Zag rfl (by simp only [EV,Nat.reduceEqDiff,↓reduceIte,he];try rfl) ?_)
 refine Zab (Zag rfl (by simp only [EV,Nat.reduceEqDiff,↓reduceIte,he];try rfl) ?_)
 refine Zab ?_
 refine Zar (vs := [vI k, vI i]) (by simp only [List.map_cons, List.map_nil, EV,Nat.reduceEqDiff,↓reduceIte,he];try rfl) ?_
 refine Zoq hk hi ?_
 refine Zab ?_
 refine Zeu (a := mkI k i) (r := IntKind.u64.wrap (mkI k i)) Zjl Zl8 (by simp only [EV,Nat.reduceEqDiff,↓reduceIte,he];try rfl) rfl ?_
 refine Zab ?_
 refine ZoK (k := .u64) (a := IntKind.u64.wrap (mkI k i)) (b := 11400714819323198485) (by simp only [EV,Nat.reduceEqDiff,↓reduceIte,he];try rfl) (by simp only [EV,Nat.reduceEqDiff,↓reduceIte,he];try rfl) rfl ?_
 refine Zab ?_
 refine Zlk (k := .u64) (k' := .u64) (a := IntKind.u64.wrap (IntKind.u64.wrap (mkI k i) * 11400714819323198485)) (b := 56) (by simp only [EV,Nat.reduceEqDiff,↓reduceIte,he];try rfl) (by simp only [EV,Nat.reduceEqDiff,↓reduceIte,he];try rfl) (by omega) ?_
 refine Zab ?_
 refine Zeu (k := .u64) (a := (IntKind.u64.wrap (IntKind.u64.wrap (mkI k i) * 11400714819323198485)).fdiv (2 ^ min 56 64)) (r := mkB k i) Zl8 Zim (by simp only [EV,Nat.reduceEqDiff,↓reduceIte,he];try rfl) rfl ?_
 refine Zab (Zag rfl (by simp only [EV,Nat.reduceEqDiff,↓reduceIte,he];try rfl) ?_)
 refine Zaf ?_
 refine Zaw ?_
 show ∃ r, Zaj _ _ _ _ r /\ _
 exact ⟨_, Zal rfl (by simp only [EV,Nat.reduceEqDiff,↓reduceIte,he];try rfl), hK⟩
theorem Zka {k i : Nat} (hK : ∀ τ, Ext σ τ -> K (.raw (sV (mkT k i))) τ) : Zat Try.prog 45 [vI k, vI i] σ K := by
 have hb8 : bys (mkT k i) = [.raw (.int .u8 35), .raw (.int .u8 (tB k).toNat), .raw (.int .u8 (tB ((k : Int).fdiv (2 ^ min 8 64))).toNat), .raw (.int .u8 (tB ((k : Int).fdiv (2 ^ min 16 64))).toNat), .raw (.int .u8 47), .raw (.int .u8 (tB i).toNat), .raw (.int .u8 (tB ((i : Int).fdiv (2 ^ min 8 64))).toNat), .raw (.int .u8 (tB ((i : Int).fdiv (2 ^ min 16 64))).toNat)] := rfl
 refine Zan Zas Try.func45 rfl rfl rfl (Nat.le_of_ble_eq_true rfl) ?_
 refine ZaO 0 1 (v0 := vI k) (v1 := vI i) rfl rfl ?_
 intro e he
 repeat refine Zac ?_
 first|refine Zaa ?_|refine Zad ?_
 refine Zab (Zag rfl (by simp only [EV,Nat.reduceEqDiff,↓reduceIte,he];try rfl) ?_)
 refine Zaf ?_
 apply ZaO 0 1
 iterate 2 ·simp only [EV,Nat.reduceEqDiff,↓reduceIte,he];try rfl
 clear he e
 intro e he
 repeat refine Zac ?_
 first|refine Zaa ?_|refine Zad ?_
 refine Zab (Zag rfl (by simp only [EV,Nat.reduceEqDiff,↓reduceIte,he];try rfl) ?_)
 refine Zab ?_
 refine Zeu (k := .i64) (a := (k : Int)) (r := ((tB k).toNat : Int)) Zjl Zim (by simp only [EV,Nat.reduceEqDiff,↓reduceIte,he];try rfl) (ZkC _) ?_
 refine Zab (Zag rfl (by simp only [EV,Nat.reduceEqDiff,↓reduceIte,he];try rfl) ?_)
 refine Zab ?_
 refine Zlk (k := .i64) (k' := .u64) (a := (k : Int)) (b := 8) (by simp only [EV,Nat.reduceEqDiff,↓reduceIte,he];try rfl) (by simp only [EV,Nat.reduceEqDiff,↓reduceIte,he];try rfl) (by omega) ?_
 refine Zab ?_
 refine Zeu (k := .i64) (a := (k : Int).fdiv (2 ^ min 8 64)) (r := ((tB ((k : Int).fdiv (2 ^ min 8 64))).toNat : Int)) Zjl Zim (by simp only [EV,Nat.reduceEqDiff,↓reduceIte,he];try rfl) (ZkC _) ?_
 refine Zab (Zag rfl (by simp only [EV,Nat.reduceEqDiff,↓reduceIte,he];try rfl) ?_)
 refine Zab ?_
 refine Zlk (k := .i64) (k' := .u64) (a := (k : Int)) (b := 16) (by simp only [EV,Nat.reduceEqDiff,↓reduceIte,he];try rfl) (by simp only [EV,Nat.reduceEqDiff,↓reduceIte,he];try rfl) (by omega) ?_
 refine Zab ?_
 refine Zeu (k := .i64) (a := (k : Int).fdiv (2 ^ min 16 64)) (r := ((tB ((k : Int).fdiv (2 ^ min 16 64))).toNat : Int)) Zjl Zim (by simp only [EV,Nat.reduceEqDiff,↓reduceIte,he];try rfl) (ZkC _) ?_
 refine Zab (Zag rfl (by simp only [EV,Nat.reduceEqDiff,↓reduceIte,he];try rfl) ?_)
 refine Zab ?_
 refine Zeu (k := .i64) (a := (i : Int)) (r := ((tB i).toNat : Int)) Zjl Zim (by simp only [EV,Nat.reduceEqDiff,↓reduceIte,he];try rfl) (ZkC _) ?_
 refine Zab (Zag rfl (by simp only [EV,Nat.reduceEqDiff,↓reduceIte,he];try rfl) ?_)
 refine Zab ?_
 refine Zlk (k := .i64) (k' := .u64) (a := (i : Int)) (b := 8) (by simp only [EV,Nat.reduceEqDiff,↓reduceIte,he];try rfl) (by simp only [EV,Nat.reduceEqDiff,↓reduceIte,he];try rfl) (by omega) ?_
 refine Zab ?_
 refine Zeu (k := .i64) (a := (i : Int).fdiv (2 ^ min 8 64)) (r := ((tB ((i : Int).fdiv (2 ^ min 8 64))).toNat : Int)) Zjl Zim (by simp only [EV,Nat.reduceEqDiff,↓reduceIte,he];try rfl) (ZkC _) ?_
 refine Zab (Zag rfl (by simp only [EV,Nat.reduceEqDiff,↓reduceIte,he];try rfl) ?_)
 refine Zab ?_
 refine Zlk (k := .i64) (k' := .u64) (a := (i : Int)) (b := 16) (by simp only [EV,Nat.reduceEqDiff,↓reduceIte,he];try rfl) (by simp only [EV,Nat.reduceEqDiff,↓reduceIte,he];try rfl) (by omega) ?_
 refine Zab ?_
 refine Zeu (k := .i64) (a := (i : Int).fdiv (2 ^ min 16 64)) (r := ((tB ((i : Int).fdiv (2 ^ min 16 64))).toNat : Int)) Zjl Zim (by simp only [EV,Nat.reduceEqDiff,↓reduceIte,he];try rfl) (ZkC _) ?_
 refine Zab ?_
 refine ZcX (vs := bys (mkT k i)) (cells := bys (mkT k i)) (by simp only [List.map_cons, List.map_nil, EV,Nat.reduceEqDiff,↓reduceIte,he, hb8] <;> try rfl) Zax Zbu Zcg rfl (by decide) (by rw [hb8]; rfl) fun b hu hb => ?_
 refine Zab ?_
 refine Zn3 (bs := mkT k i) (A := some ⟨b, 0, none⟩) (n := 8) (c := 8) (rest := []) Zpz Zim ZcE (by simp only [EV,Nat.reduceEqDiff,↓reduceIte,he, List.append_nil]) rfl ?_
 refine Zab (Zag rfl (by simp only [EV,Nat.reduceEqDiff,↓reduceIte,he];try rfl) ?_)
 refine Zaf ?_
 refine Zaw ?_
 show ∃ r, Zaj _ _ _ _ r /\ _
 exact ⟨_, Zal rfl (by simp only [EV,Nat.reduceEqDiff,↓reduceIte,he];try rfl), hK _ (Ext.put _ hb)⟩
theorem ZiN {P : Program} {ops : Array Oper} {env : Env} {σ : St} {K : Env -> St -> Prop} {d : Option Nat} {ty t : TypeId} {pos : String} {af : Array Edge} {x y : Operand} {b n c u e sz : Nat} (hx : ev env x = hdr b n c) (hy : ev env y = vI u) (ht : ZaU P t = some e) (hs : ZaH P e = some sz) (hu : u <= c) (h : K (env.put d (hdr b u c)) σ) : aOp P ops ⟨d, .slice t x none (some y) none, ty, pos, af, none⟩ env σ K := by
 refine Zec (A := some ⟨b, 0, none⟩) (n := n) (c := c) (l := 0) (u := u) (ix := [vI u]) hx (by simp [hy]) ht hs (ZkW rfl) (Nat.zero_le _) hu ?_
 have e1 : (if c = 0 then (some ⟨b, 0, none⟩ : Option Addr) else (some (⟨b, 0, none⟩ : Addr)).map (·.add (0 * sz))) = some ⟨b, 0, none⟩ := by
  split
  ·rfl
  ·simp [Nat.zero_mul, Zcd]
 rw [e1]
 exact h
def Zm7 (m : Nat) : List AV := (List.range m).map fun i => .raw (.int .u8 (mkB 1 i))
def Zm8 (m : Nat) : List AV := (List.range m).map fun i => .raw (sV (mkT 1 i))
theorem Zma (m : Nat) : Zm7 (m + 1) = Zm7 m ++ [.raw (.int .u8 (mkB 1 m))] := by simp [Zm7, List.range_succ]
theorem Zmb (m : Nat) : Zm8 (m + 1) = Zm8 m ++ [.raw (sV (mkT 1 m))] := by simp [Zm8, List.range_succ]
def Zkb (σ : St) (e b n : Nat) (v : AV) (cells marks : List AV) : Prop := ∃ c, v = hdr b n c /\ Hd σ e 1 (hdr b (n + 12) c) (n + 12) (cells ++ marks)
theorem Zkb.bk {e b n : Nat} {v : AV} {cells marks : List AV} (h : Zkb σ e b n v cells marks) : hbk v = some b := by
 obtain ⟨c, rfl, h⟩ := h
 rcases h.2.2 with ⟨_, h0⟩ | ⟨b', c', all, h0, h1, _⟩
 ·omega
 ·unfold hdr at h1
  injection h1 with h1
  injection h1 with h2 h3 h4
  subst h4
  exact ZcO h0
theorem Zkb.hd {e b n : Nat} {v : AV} {cells marks : List AV} (h : Zkb σ e b n v cells marks) (hl : cells.length = n) : Hd σ e 1 v n cells := by
 have hb := h.bk
 obtain ⟨c, rfl, h⟩ := h
 have hc : 0 < c := by
  rcases Nat.eq_zero_or_pos c with q | q
  ·subst q; cases hb
  ·exact q
 obtain ⟨c', all, q0, q1, q2, q3, q4, q5, q6⟩ := h.at_ (ZcO hc)
 unfold hdr at q0
 injection q0 with q0
 injection q0 with _ _ q0
 subst q0
 refine ⟨by rw [hl, Nat.mul_one], fun a ha => h.one a (List.mem_append_left _ ha), .inr ⟨b, c, all, hc, rfl, q1, q2, q3, ?_, by omega, q6⟩⟩
 have : all.take (n * 1) = (all.take ((n + 12) * 1)).take (n * 1) := by rw [List.take_take]; congr 1; omega
 rw [this, q4, <- hl, Nat.mul_one, List.take_left]
theorem Zkb.but {U : Nat -> Prop} {τ : St} {e b n : Nat} {v : AV} {cells marks : List AV} (h : Zkb σ e b n v cells marks) (k : But U σ τ) (hU : ¬ U b) : Zkb τ e b n v cells marks := by
 obtain ⟨c, rfl, h⟩ := h
 refine ⟨c, rfl, h.but k fun b' hb' => ?_⟩
 rw [<- Zdm hb']
 exact hU
theorem Zkb.ext {τ : St} {e b n : Nat} {v : AV} {cells marks : List AV} (h : Zkb σ e b n v cells marks) (k : Ext σ τ) : Zkb τ e b n v cells marks := h.but (U := fun _ => False) k.but id
abbrev Zjm (σ : St) (b : Nat) (v : AV) (d : List UInt8) : Prop := Zkb σ 5 b d.length v (bys d) (Zm7 12)
abbrev ZpA (σ : St) (b : Nat) (v : AV) (ns : List (List UInt8)) : Prop := Zkb σ 9 b ns.length v (ZeO ns) (Zm8 12)
theorem ZpB {z a : AV} (ha : Zbc a = true /\ a.cells = [a]) : Zcm (fun i => some (i * 1, 1)) [z] [(0, a)] = some [a] := by
 simp [Zcm, ha.1, ha.2, ZaJ]
theorem Zm9 {v : AV} {d : List UInt8} (hv : ZcG σ v d) (hl : d.length <= 1000000) (hK : ∀ b u τ, Zjm τ b u d -> Ext σ τ -> ZaT σ b -> K u τ) : Zat Try.prog 44 [v] σ K := by
 have hL := hv.ls
 refine Zan Zas Try.func44 rfl rfl rfl (Nat.le_of_ble_eq_true rfl) ?_
 refine ZbN 0 (v0 := v) rfl ?_
 intro e he
 repeat refine Zac ?_
 first|refine Zaa ?_|refine Zad ?_
 refine Zab (Zag rfl (by simp only [EV,Nat.reduceEqDiff,↓reduceIte,he];try rfl) ?_)
 refine Zaf ?_
 apply ZbN 0
 ·simp only [EV,Nat.reduceEqDiff,↓reduceIte,he];try rfl
 clear he e
 intro e he
 repeat refine Zac ?_
 first|refine Zaa ?_|refine Zad ?_
 refine Zab (Zag rfl (by simp only [EV,Nat.reduceEqDiff,↓reduceIte,he];try rfl) ?_)
 refine Zab ?_
 refine Zbz (by simp only [EV,Nat.reduceEqDiff,↓reduceIte,he];try rfl) hL rfl Zax ?_
 refine Zab ?_
 refine ZaL d.length 12 (by simp only [EV,Nat.reduceEqDiff,↓reduceIte,he];try rfl) (by simp only [EV,Nat.reduceEqDiff,↓reduceIte,he];try rfl) (by omega) ?_
 refine Zab ?_
 refine Zll (m := d.length + 12) (by simp only [EV,Nat.reduceEqDiff,↓reduceIte,he];try rfl) (by simp only [EV,Nat.reduceEqDiff,↓reduceIte,he];try rfl) Zax Zbu Zcg Zik rfl (by omega) (by omega) (by omega) (by omega) fun b0 υ1 h1 hX1 hn1 => ?_
 refine Zab (Zag rfl (by simp only [EV,Nat.reduceEqDiff,↓reduceIte,he];try rfl) ?_)
 refine Zaf ?_
 apply ZaO 0 3
 iterate 2 ·simp only [EV,Nat.reduceEqDiff,↓reduceIte,he];try rfl
 clear he e
 intro e he
 repeat refine Zac ?_
 first|refine Zaa ?_|refine Zad ?_
 refine Zab (Zag rfl (by simp only [EV,Nat.reduceEqDiff,↓reduceIte,he];try rfl) ?_)
 refine Zab (Zag rfl (by simp only [EV,Nat.reduceEqDiff,↓reduceIte,he];try rfl) ?_)
 refine Zab ?_
 refine Za8 (m := d.length) (news := bys d) (by simp only [EV,Nat.reduceEqDiff,↓reduceIte,he];try rfl) (by simp only [EV,Nat.reduceEqDiff,↓reduceIte,he];try rfl) Zax Zbu Zcg Zik rfl (by omega) h1 (hL.ext hX1).src (by unfold maxLen; omega) (by omega) fun v2 υ2 hv2 hB2 hn2 => ?_
 rw [Nat.zero_add, List.nil_append] at hv2
 have hX2 : Ext σ υ2 := But.ext hX1 (fun c hc => by rw [<- Zdm hc]; exact hn1.1) hB2
 have hN2 : ∀ c, hbk v2 = some c -> ZaT σ c := fun c hc => (hn2 c hc).elim (fun q => by rw [<- Zdm q]; exact hn1) fun q => ZaT.of q hX1
 refine Zab (Zag rfl (by simp only [EV,Nat.reduceEqDiff,↓reduceIte,he];try rfl) ?_)
 refine Zaf ?_
 apply ZaO 0 3
 iterate 2 ·simp only [EV,Nat.reduceEqDiff,↓reduceIte,he];try rfl
 clear he e
 intro e he
 repeat refine Zac ?_
 first|refine Zaa ?_|refine Zad ?_
 refine Zab (Zag rfl (by simp only [EV,Nat.reduceEqDiff,↓reduceIte,he];try rfl) ?_)
 refine Zaf ?_
 apply ZaP 0 3 4
 iterate 3 ·simp only [EV,Nat.reduceEqDiff,↓reduceIte,he];try rfl
 clear he e
 intro e he
 refine ZaD ?_
 refine ZaN (fun μ env υ => ∃ (i : Nat) (u : AV), μ = 12 - i /\ i <= 12 /\ (env 0 = v /\ env 3 = u /\ env 4 = vI i) /\ Hd υ 5 1 u (d.length + i) (bys d ++ Zm7 i) /\ Ext σ υ /\ ∀ c, hbk u = some c -> ZaT σ c) ⟨_, 0, v2, rfl, Nat.zero_le _, he, by rw [show Zm7 0 = [] from rfl, List.append_nil]; exact hv2, hX2, hN2⟩ ?_
 clear he e hv2 hX2 hN2
 rintro _ e υ ⟨i, u, rfl, hi, he, hu, hX, hN⟩
 repeat refine Zac ?_
 first|refine Zaa ?_|refine Zad ?_
 refine Zab (Zag rfl (by simp only [EV,Nat.reduceEqDiff,↓reduceIte,he];try rfl) ?_)
 refine Zab ?_
 refine Zbm i 12 (by simp only [EV,Nat.reduceEqDiff,↓reduceIte,he];try rfl) (by simp only [EV,Nat.reduceEqDiff,↓reduceIte,he];try rfl) ?_
 refine Zaf ?_
 apply ZaK 0 3 4 13
 iterate 4 ·simp only [EV,Nat.reduceEqDiff,↓reduceIte,he];try rfl
 clear he e
 intro e he
 refine Zav (t := decide (i < 12)) (by simp only [EV,Nat.reduceEqDiff,↓reduceIte,he];try rfl) (fun ht => ?_) (fun ht => ?_)
 ·have hlt : i < 12 := of_decide_eq_true ht
  refine Zaz ?_
  refine ZaD ?_
  repeat refine Zac ?_
  first|refine Zaa ?_|refine Zad ?_
  refine Zab (Zag rfl (by simp only [EV,Nat.reduceEqDiff,↓reduceIte,he];try rfl) ?_)
  refine Zab (Zag rfl (by simp only [EV,Nat.reduceEqDiff,↓reduceIte,he];try rfl) ?_)
  refine Zab ?_
  refine Zar (vs := [vI (1 : Nat), vI i]) (by simp only [List.map_cons, List.map_nil, EV,Nat.reduceEqDiff,↓reduceIte,he];try rfl) ?_
  refine ZhU (by omega) (by omega) ?_
  refine Zab ?_
  refine ZcX (vs := [.raw (.int .u8 (mkB 1 i))]) (cells := [.raw (.int .u8 (mkB 1 i))]) (by simp only [List.map_cons, List.map_nil, EV,Nat.reduceEqDiff,↓reduceIte,he];try rfl) Zax Zbu Zcg rfl (by decide) rfl fun b3 hu3 hb3 => ?_
  have hX3 := Ext.put (σ := υ) (.tail 5 (1 * 1) (1 * 1)) hb3
  refine Zab ?_
  refine Za8 (m := 1) (news := [.raw (.int .u8 (mkB 1 i))]) (by simp only [EV,Nat.reduceEqDiff,↓reduceIte,he];try rfl) (by simp only [EV,Nat.reduceEqDiff,↓reduceIte,he];try rfl) Zax Zbu Zcg Zik rfl (by omega) (hu.ext hX3) (Zb5 (rest := []) rfl (fun a ha => by rw [List.mem_singleton.1 ha]; rfl) (fun q => by cases q)) (by unfold maxLen; omega) (by omega) fun v4 υ4 hv4 hB4 hn4 => ?_
  refine Zab (Zag rfl (by simp only [EV,Nat.reduceEqDiff,↓reduceIte,he];try rfl) ?_)
  refine Zaf ?_
  apply ZaP 0 3 4
  iterate 3 ·simp only [EV,Nat.reduceEqDiff,↓reduceIte,he];try rfl
  clear he e
  intro e he
  repeat refine Zac ?_
  first|refine Zaa ?_|refine Zad ?_
  refine Zab (Zag rfl (by simp only [EV,Nat.reduceEqDiff,↓reduceIte,he];try rfl) ?_)
  refine Zab ?_
  refine ZaL i 1 (by simp only [EV,Nat.reduceEqDiff,↓reduceIte,he];try rfl) (by simp only [EV,Nat.reduceEqDiff,↓reduceIte,he];try rfl) (by omega) ?_
  refine Zab (Zag rfl (by simp only [EV,Nat.reduceEqDiff,↓reduceIte,he];try rfl) ?_)
  refine Zaf ?_
  show ∃ n', n' < _ /\ _
  refine ⟨_, (by omega : 12 - (i + 1) < 12 - i), i + 1, v4, rfl, hlt, ⟨by simp only [EV,Nat.reduceEqDiff,↓reduceIte,he];try rfl, by simp only [EV,Nat.reduceEqDiff,↓reduceIte,he];try rfl, by simp only [EV,Nat.reduceEqDiff,↓reduceIte,he];try rfl⟩, ?_, But.ext (hX.trans hX3) (fun c hc => (hN c hc).1) hB4, fun c hc => (hn4 c hc).elim (fun q => hN c q) fun q => ZaT.of q (hX.trans hX3)⟩
  rw [Zma, <- List.append_assoc]
  exact hv4
 ·have hi12 : i = 12 := by have := of_decide_eq_false ht; omega
  subst hi12
  refine Zba ?_
  show Zay _ _ _ _ _ _
  rcases hu.2.2 with ⟨_, h0⟩ | ⟨b, c, all, hc, rfl, g1, g2, g3, g4, g5, g6⟩
  ·omega
  repeat refine Zac ?_
  first|refine Zaa ?_|refine Zad ?_
  refine Zab (Zag rfl (by simp only [EV,Nat.reduceEqDiff,↓reduceIte,he];try rfl) ?_)
  refine Zab (Zag rfl (by simp only [EV,Nat.reduceEqDiff,↓reduceIte,he];try rfl) ?_)
  refine Zab ?_
  refine Zbz (by simp only [EV,Nat.reduceEqDiff,↓reduceIte,he];try rfl) (hL.ext hX) rfl Zax ?_
  refine Zab ?_
  refine ZiN (b := b) (n := d.length + 12) (c := c) (u := d.length) (by simp only [EV,Nat.reduceEqDiff,↓reduceIte,he];try rfl) (by simp only [EV,Nat.reduceEqDiff,↓reduceIte,he];try rfl) Zax Zbu (by omega) ?_
  refine Zab (Zag rfl (by simp only [EV,Nat.reduceEqDiff,↓reduceIte,he];try rfl) ?_)
  refine Zaf ?_
  refine Zaw ?_
  show ∃ r, Zaj _ _ _ _ r /\ _
  exact ⟨_, Zal rfl (by simp only [EV,Nat.reduceEqDiff,↓reduceIte,he];try rfl), hK b _ _ ⟨c, rfl, hu⟩ hX (hN b (ZcO hc))⟩
theorem Zna {v : AV} {ns : List (List UInt8)} (hL : Ls σ 9 v ns.length (ZeO ns)) (hl : ns.length <= 1000000) (hK : ∀ b u τ, ZpA τ b u ns -> Ext σ τ -> ZaT σ b -> K u τ) : Zat Try.prog 21 [v] σ K := by
 refine Zan Zas Try.func21 rfl rfl rfl (Nat.le_of_ble_eq_true rfl) ?_
 refine ZbN 0 (v0 := v) rfl ?_
 intro e he
 repeat refine Zac ?_
 first|refine Zaa ?_|refine Zad ?_
 refine Zab (Zag rfl (by simp only [EV,Nat.reduceEqDiff,↓reduceIte,he];try rfl) ?_)
 refine Zaf ?_
 apply ZbN 0
 ·simp only [EV,Nat.reduceEqDiff,↓reduceIte,he];try rfl
 clear he e
 intro e he
 repeat refine Zac ?_
 first|refine Zaa ?_|refine Zad ?_
 refine Zab (Zag rfl (by simp only [EV,Nat.reduceEqDiff,↓reduceIte,he];try rfl) ?_)
 refine Zab ?_
 refine Zbz (by simp only [EV,Nat.reduceEqDiff,↓reduceIte,he];try rfl) hL rfl ZaR ?_
 refine Zab ?_
 refine ZaL ns.length 12 (by simp only [EV,Nat.reduceEqDiff,↓reduceIte,he];try rfl) (by simp only [EV,Nat.reduceEqDiff,↓reduceIte,he];try rfl) (by omega) ?_
 refine Zab ?_
 refine Zll (m := ns.length + 12) (by simp only [EV,Nat.reduceEqDiff,↓reduceIte,he];try rfl) (by simp only [EV,Nat.reduceEqDiff,↓reduceIte,he];try rfl) ZaR Zc8 Zj9 Zl9 rfl (by omega) (by omega) (by omega) (by omega) fun b0 υ1 h1 hX1 hn1 => ?_
 refine Zab (Zag rfl (by simp only [EV,Nat.reduceEqDiff,↓reduceIte,he];try rfl) ?_)
 refine Zaf ?_
 apply ZaO 0 3
 iterate 2 ·simp only [EV,Nat.reduceEqDiff,↓reduceIte,he];try rfl
 clear he e
 intro e he
 repeat refine Zac ?_
 first|refine Zaa ?_|refine Zad ?_
 refine Zab (Zag rfl (by simp only [EV,Nat.reduceEqDiff,↓reduceIte,he];try rfl) ?_)
 refine Zab (Zag rfl (by simp only [EV,Nat.reduceEqDiff,↓reduceIte,he];try rfl) ?_)
 refine Zab ?_
 refine Za8 (m := ns.length) (news := ZeO ns) (by simp only [EV,Nat.reduceEqDiff,↓reduceIte,he];try rfl) (by simp only [EV,Nat.reduceEqDiff,↓reduceIte,he];try rfl) ZaR Zc8 Zj9 Zl9 rfl (by omega) h1 (hL.ext hX1).src (by unfold maxLen; omega) (by omega) fun v2 υ2 hv2 hB2 hn2 => ?_
 rw [Nat.zero_add, List.nil_append] at hv2
 have hX2 : Ext σ υ2 := But.ext hX1 (fun c hc => by rw [<- Zdm hc]; exact hn1.1) hB2
 have hN2 : ∀ c, hbk v2 = some c -> ZaT σ c := fun c hc => (hn2 c hc).elim (fun q => by rw [<- Zdm q]; exact hn1) fun q => ZaT.of q hX1
 refine Zab (Zag rfl (by simp only [EV,Nat.reduceEqDiff,↓reduceIte,he];try rfl) ?_)
 refine Zaf ?_
 apply ZaO 0 3
 iterate 2 ·simp only [EV,Nat.reduceEqDiff,↓reduceIte,he];try rfl
 clear he e
 intro e he
 repeat refine Zac ?_
 first|refine Zaa ?_|refine Zad ?_
 refine Zab (Zag rfl (by simp only [EV,Nat.reduceEqDiff,↓reduceIte,he];try rfl) ?_)
 refine Zaf ?_
 apply ZaP 0 3 4
 iterate 3 ·simp only [EV,Nat.reduceEqDiff,↓reduceIte,he];try rfl
 clear he e
 intro e he
 refine ZaD ?_
 refine ZaN (fun μ env υ => ∃ (i : Nat) (u : AV), μ = 12 - i /\ i <= 12 /\ (env 0 = v /\ env 3 = u /\ env 4 = vI i) /\ Hd υ 9 1 u (ns.length + i) (ZeO ns ++ Zm8 i) /\ Ext σ υ /\ ∀ c, hbk u = some c -> ZaT σ c) ⟨_, 0, v2, rfl, Nat.zero_le _, he, by rw [show Zm8 0 = [] from rfl, List.append_nil]; exact hv2, hX2, hN2⟩ ?_
 clear he e hv2 hX2 hN2
 rintro _ e υ ⟨i, u, rfl, hi, he, hu, hX, hN⟩
 repeat refine Zac ?_
 first|refine Zaa ?_|refine Zad ?_
 refine Zab (Zag rfl (by simp only [EV,Nat.reduceEqDiff,↓reduceIte,he];try rfl) ?_)
 refine Zab ?_
 refine Zbm i 12 (by simp only [EV,Nat.reduceEqDiff,↓reduceIte,he];try rfl) (by simp only [EV,Nat.reduceEqDiff,↓reduceIte,he];try rfl) ?_
 refine Zaf ?_
 apply ZaK 0 3 4 13
 iterate 4 ·simp only [EV,Nat.reduceEqDiff,↓reduceIte,he];try rfl
 clear he e
 intro e he
 refine Zav (t := decide (i < 12)) (by simp only [EV,Nat.reduceEqDiff,↓reduceIte,he];try rfl) (fun ht => ?_) (fun ht => ?_)
 ·have hlt : i < 12 := of_decide_eq_true ht
  refine Zaz ?_
  refine ZaD ?_
  repeat refine Zac ?_
  first|refine Zaa ?_|refine Zad ?_
  refine Zab (Zag rfl (by simp only [EV,Nat.reduceEqDiff,↓reduceIte,he];try rfl) ?_)
  refine Zab (Zag rfl (by simp only [EV,Nat.reduceEqDiff,↓reduceIte,he];try rfl) ?_)
  refine Zab ?_
  refine Zar (vs := [vI (1 : Nat), vI i]) (by simp only [List.map_cons, List.map_nil, EV,Nat.reduceEqDiff,↓reduceIte,he];try rfl) ?_
  refine Zka fun υ2 hXm => ?_
  refine Zab ?_
  refine ZcX (vs := [.raw (sV (mkT 1 i))]) (cells := [.raw (sV (mkT 1 i))]) (by simp only [List.map_cons, List.map_nil, EV,Nat.reduceEqDiff,↓reduceIte,he];try rfl) ZaR Zc8 Zj9 rfl (by decide) rfl fun b3 hu3 hb3 => ?_
  have hX3 := hXm.trans (Ext.put (σ := υ2) (.tail 9 (1 * 1) (1 * 1)) hb3)
  refine Zab ?_
  refine Za8 (m := 1) (news := [.raw (sV (mkT 1 i))]) (by simp only [EV,Nat.reduceEqDiff,↓reduceIte,he];try rfl) (by simp only [EV,Nat.reduceEqDiff,↓reduceIte,he];try rfl) ZaR Zc8 Zj9 Zl9 rfl (by omega) (hu.ext hX3) (Zb5 (rest := []) rfl (fun a ha => by rw [List.mem_singleton.1 ha]; rfl) (fun q => by cases q)) (by unfold maxLen; omega) (by omega) fun v4 υ4 hv4 hB4 hn4 => ?_
  refine Zab (Zag rfl (by simp only [EV,Nat.reduceEqDiff,↓reduceIte,he];try rfl) ?_)
  refine Zaf ?_
  apply ZaP 0 3 4
  iterate 3 ·simp only [EV,Nat.reduceEqDiff,↓reduceIte,he];try rfl
  clear he e
  intro e he
  repeat refine Zac ?_
  first|refine Zaa ?_|refine Zad ?_
  refine Zab (Zag rfl (by simp only [EV,Nat.reduceEqDiff,↓reduceIte,he];try rfl) ?_)
  refine Zab ?_
  refine ZaL i 1 (by simp only [EV,Nat.reduceEqDiff,↓reduceIte,he];try rfl) (by simp only [EV,Nat.reduceEqDiff,↓reduceIte,he];try rfl) (by omega) ?_
  refine Zab (Zag rfl (by simp only [EV,Nat.reduceEqDiff,↓reduceIte,he];try rfl) ?_)
  refine Zaf ?_
  show ∃ n', n' < _ /\ _
  refine ⟨_, (by omega : 12 - (i + 1) < 12 - i), i + 1, v4, rfl, hlt, ⟨by simp only [EV,Nat.reduceEqDiff,↓reduceIte,he];try rfl, by simp only [EV,Nat.reduceEqDiff,↓reduceIte,he];try rfl, by simp only [EV,Nat.reduceEqDiff,↓reduceIte,he];try rfl⟩, ?_, But.ext (hX.trans hX3) (fun c hc => (hN c hc).1) hB4, fun c hc => (hn4 c hc).elim (fun q => hN c q) fun q => ZaT.of q (hX.trans hX3)⟩
  rw [Zmb, <- List.append_assoc]
  exact hv4
 ·have hi12 : i = 12 := by have := of_decide_eq_false ht; omega
  subst hi12
  refine Zba ?_
  show Zay _ _ _ _ _ _
  rcases hu.2.2 with ⟨_, h0⟩ | ⟨b, c, all, hc, rfl, g1, g2, g3, g4, g5, g6⟩
  ·omega
  repeat refine Zac ?_
  first|refine Zaa ?_|refine Zad ?_
  refine Zab (Zag rfl (by simp only [EV,Nat.reduceEqDiff,↓reduceIte,he];try rfl) ?_)
  refine Zab (Zag rfl (by simp only [EV,Nat.reduceEqDiff,↓reduceIte,he];try rfl) ?_)
  refine Zab ?_
  refine Zbz (by simp only [EV,Nat.reduceEqDiff,↓reduceIte,he];try rfl) (hL.ext hX) rfl ZaR ?_
  refine Zab ?_
  refine ZiN (b := b) (n := ns.length + 12) (c := c) (u := ns.length) (by simp only [EV,Nat.reduceEqDiff,↓reduceIte,he];try rfl) (by simp only [EV,Nat.reduceEqDiff,↓reduceIte,he];try rfl) ZaR Zc8 (by omega) ?_
  refine Zab (Zag rfl (by simp only [EV,Nat.reduceEqDiff,↓reduceIte,he];try rfl) ?_)
  refine Zaf ?_
  refine Zaw ?_
  show ∃ r, Zaj _ _ _ _ r /\ _
  exact ⟨_, Zal rfl (by simp only [EV,Nat.reduceEqDiff,↓reduceIte,he];try rfl), hK b _ _ ⟨c, rfl, hu⟩ hX (hN b (ZcO hc))⟩
end
end Go.Proofs.Ytinpiaibhjmfaaa
