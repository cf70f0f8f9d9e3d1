/- The statements' own small functions: great, awake. -/
import Derived.Test.YtcplpfmickdccaaSumT
import Derived.Lib.SlBytesConst
namespace Go.Proofs.Ytcplpfmickdccaa
open Go.RowKit
/-- What 'great' tells. -/
def Small (rs : List (List UInt8)) (e : Ending) : Prop := ∃ g : Bool, e = .returned (.bool g) ∧ (g = false → rs.length + rs.flatten.length ≤ 20000)
theorem small_true (rs : List (List UInt8)) : Small rs (.returned (.bool true)) := ⟨true, rfl, fun h => by cases h⟩
set_option maxHeartbeats 1000000 in
theorem great_any (F : Nat → Prop) (rs : List (List UInt8)) (A : Option Addr) (n c : Nat) (w : World) (hr : Rep F w (dRows rs) (.slice A n c)) :
    Calls Try.prog 7 #[.slice A n c] w fun e w' => Small rs e ∧ Drawn w w' := by
  have hm := hr.rows_max
  have HR := Lib.hid hr
  clear hr
  go_enter Try.func7, Try.ntmps7
  go_wp2
  go_loopw [3, 4] (fun x i wr => ∃ k m : Nat, k ≤ n ∧ m ≤ 281474976710656 ∧ i = .int .i64 k ∧ x = .int .i64 m ∧ (m ≤ 20000 → m = rs.length + (rs.take k).flatten.length) ∧ Drawn w wr) (fun _ i _ => n - (intOf i).toNat)
  case atStart => exact ⟨0, n, by omega, by omega, rfl, rfl, fun _ => by rw [HR.out.rows_len]; rfl, Drawn.refl _⟩
  case round =>
    obtain ⟨k, m, hk, hm1, rfl, rfl, hx, hD⟩ := hrel
    have HX := Lib.hid hx
    have HD := Lib.hid hD
    by_cases hlt : k < n
    · by_cases hle : m ≤ 20000
      · obtain ⟨ad, A', c', rfl, hlr, hc1, hRk⟩ := (HR.out.kept hD.keep).rows_at hlt
        have hm2 := hRk.bytes_max
        clear hx hD hRk
        have hd : decide ((m : Int) ≤ 20000) = true := by simp; omega
        go_wp2
        go_roundw
        case rel =>
          have hs : rs.length = n := HR.out.rows_len
          have hle := HX.out hle
          have h2 : (rs.take (k + 1)).flatten.length = (rs.take k).flatten.length + rs[k].length := by
            rw [map_take_snoc rs k hlr, List.flatten_append, List.flatten_singleton, List.length_append]
          exact ⟨k + 1, m + rs[k].length, by omega, by omega, by go_num, by go_num, by omega, HD.out⟩
        case measure => simp [intOf]; omega
      · clear hx hD
        have hd : decide ((m : Int) ≤ 20000) = false := by simp; omega
        have hd2 : decide (20000 < (m : Int)) = true := by simp; omega
        go_wp2
        go_ret
        exact ⟨small_true _, HD.out⟩
    · have : k = n := by omega
      subst this
      clear hx hD hlt
      by_cases hle : m ≤ 20000
      · have hd : decide ((m : Int) ≤ 20000) = true := by simp; omega
        have hd2 : decide (20000 < (m : Int)) = false := by simp; omega
        have HLE := Lib.hid hle
        clear hle
        go_wp2
        go_ret
        refine ⟨⟨false, rfl, fun _ => ?_⟩, HD.out⟩
        have h1 := HX.out HLE.out
        have h2 := HLE.out
        have h3 : rs.length = k := HR.out.rows_len
        rw [List.take_of_length_le (by omega)] at h1
        omega
      · have hd : decide (20000 < (m : Int)) = true := by simp; omega
        clear hle
        go_wp2
        go_ret
        exact ⟨small_true _, HD.out⟩

/-! ### awake: the chapter's examples -/
def nine : List UInt8 := [49, 50, 51, 52, 53, 54, 55, 56, 57]
theorem nine_sum : ((Crc.more 0#32 nine).toNat : Int) = 3421780262 := by kernel_rfl
theorem none_sum : ((Crc.more 0#32 []).toNat : Int) = 0 := by kernel_rfl
theorem tab_1 : (tabCells 256)[1]? = some (.int .u32 1996959894) := by kernel_rfl
theorem nine_rep (w : World) : Rep (fun _ => True) ((w.alloc (.cells #[.int .u8 49, .int .u8 50, .int .u8 51, .int .u8 52, .int .u8 53, .int .u8 54, .int .u8 55, .int .u8 56, .int .u8 57] 5 (9, 10))).alloc (.cells #[.slice (some ⟨w.heap.size, 0, none⟩) 9 9] 34))
    (dRows [nine]) (.slice (some ⟨w.heap.size + 1, 0, none⟩) 1 1) := by
  refine Rep.of_list rfl (by omega) (by simp [maxLen]) (by omega) (fun h => by cases h) ?_
  intro ad ha _
  injection ha with ha
  subst ha
  refine ⟨trivial, by simp, fun j d hd => ?_⟩
  match j, hd with
  | 0, hd =>
    injection hd with hd
    subst hd
    refine ⟨.slice (some ⟨w.heap.size, 0, none⟩) 9 9, by simp [Addr.add], Rep.of_list rfl (by omega) (by simp [maxLen]) (by omega) (fun h => by cases h) ?_⟩
    intro ad ha _
    injection ha with ha
    subst ha
    refine ⟨trivial, by simp; omega, fun j d hd => ?_⟩
    match j, hd with
    | 0, hd | 1, hd | 2, hd | 3, hd | 4, hd | 5, hd | 6, hd | 7, hd | 8, hd => injection hd with hd; subst hd; exact ⟨_, (cellOld _ _ (by simp [Addr.add])).trans ((cellNew _ _ _ _ _).trans rfl), rfl⟩
theorem nil_rep {F : Nat → Prop} {w : World} : Rep F w (dRows []) (.slice none 0 0) := Rep.of_list rfl (by omega) (by simp [maxLen]) (by omega) (fun _ => ⟨rfl, rfl⟩) (fun ad ha _ => by cases ha)
theorem keep_two {S : Nat → Prop} {w w' : World} {o o' : Obj} (h : Keep S ((w.alloc o).alloc o') w') : Keep S w w' := (((Keep.refl _ _).alloc o).alloc o').trans h
set_option maxRecDepth 100000 in
set_option maxHeartbeats 1000000 in
theorem awake_any (w : World) :
    Calls Try.prog 8 #[] w fun e w' => e = .returned (.bool true) ∧ Keep (fun _ => False) w w' := by
  go_enter Try.func8, Try.ntmps8
  have kc := fun (w : World) (C : Array Value) (n c : Nat) => Lib.run_convert_bytes_const (P := Try.prog) w 34 5 C n c Try.underlying34 Try.underlying5
  go_wp2_with fail
  refine (Sum_any (fun _ => True) [nine] _ _ _ _ (nine_rep w)).mono ?_
  rintro e w1 ⟨rfl, hK1⟩
  have HK1 := Lib.hid (keep_two hK1)
  clear hK1
  rw [show [nine].flatten = nine from rfl, nine_sum]
  go_wp2_with fail
  refine (Sum_any (fun _ => True) [] _ _ _ _ nil_rep).mono ?_
  rintro e w2 ⟨rfl, hK2⟩
  have HK2 := Lib.hid hK2
  clear hK2
  rw [show ([] : List (List UInt8)).flatten = [] from rfl, none_sum]
  go_wp2_with fail
  refine (Table_any _).mono ?_
  rintro e w3 ⟨rfl, hK3⟩
  have HK3 := Lib.hid hK3
  clear hK3
  have hi : ∀ w, (Instr.index 35 (.agg (tabCells 256)) (.int .i64 1)).run Try.prog w = .ok (.int .u32 1996959894) w := fun _ => by kernel_rfl
  go_wp2
  go_ret
  exact ⟨rfl, (HK1.out.trans HK2.out).trans HK3.out⟩
end Go.Proofs.Ytcplpfmickdccaa
