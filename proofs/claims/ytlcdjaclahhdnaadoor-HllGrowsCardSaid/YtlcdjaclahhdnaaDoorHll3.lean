/- The calls of hll.Hash, bits.LeadingZeros64, hll.Add. -/
import Derived.Test.YtlcdjaclahhdnaaDoorHll2
import Derived.Test.YtlcdjaclahhdnaaDoorPutV
namespace Go.Proofs.YtlcdjaclahhdnaaDoor
open Go.RowKit
set_option linter.unusedSimpArgs false
set_option linter.unusedVariables false

theorem OwnB.some {w : World} {base : Nat} {v : Value} {l : List Nat} (h : OwnB w base v l) (hl : l ≠ []) :
    ∃ g c, v = .slice (some ⟨g, 0, none⟩) l.length c ∧ base ≤ g ∧ g < w.heap.size ∧ l.length ≤ c ∧ At w g 0 (bv l) := by
  rcases h.2 with ⟨rfl, h0⟩ | ⟨g, cap, cur, rfl, hb, hh, hc, _⟩
  · exact absurd (List.eq_nil_of_length_eq_zero h0) hl
  · refine ⟨g, cap, rfl, hb, (Array.getElem?_eq_some_iff.1 hh).1, hc, At.of_get fun j u hu => ?_⟩
    have := World.ownsRow.cells h (g := g) rfl j u hu
    rwa [add_at] at this
theorem putV_ne (v : Val) : putV v ≠ [] := by rw [putV_cons]; simp

theorem putFlat_length {p : Val} (hp : p.Flat) : (putFlat p).length ≤ 100 := by
  unfold putFlat
  cases hp with
  | null => simp
  | bool n h => simp
  | int n h => have := putUint_length (zig n); simp; omega
  | float x hx h => simp [fixed]
  | text s h => have := putUint_length s.size; have := textB_length s; simp [putText]; omega
theorem putV_length {v : Val} (h : v.Ok) : (putV v).length ≤ 100 := putFlat_length (Val.plain_flat h)

def hstep (h c : Int) : Int := IntKind.u64.wrap (bits BinOp.xor IntKind.u64 h (IntKind.u64.wrap c) * 1099511628211)
def hfold (l : List Nat) : Int := l.foldl (fun h (c : Nat) => hstep h (c : Int)) 14695981039346656037
theorem hfold_snoc (l : List Nat) (c : Nat) : hfold (l ++ [c]) = hstep (hfold l) c := by simp [hfold]
def hmix (h : Int) : Int := IntKind.u64.wrap (bits BinOp.xor IntKind.u64 h (h / 4294967296) * 11400714819323198485)
def hend (g : Int) : Int := bits BinOp.xor IntKind.u64 g (g / 536870912)
def hashV (v : Val) : Int := hend (hmix (hfold (putV v)))

set_option maxHeartbeats 2000000 in
theorem hash_of (v : Val) (w : World) (hv : v.Ok) :
    Calls Tryd.prog 16 #[.agg #[.int .i64 v.kind, .int .i64 v.int, .float .f64 v.flt, .string v.text]] w fun e w' => e = .returned (.int .u64 (hashV v)) ∧ Ext w w' := by
  have hlen : (putV v).length ≤ 100 := putV_length hv
  go_enter Tryd.func16, Tryd.ntmps16
  go_wp2_with (go_at_call 23; refine (putV_of (.slice none 0 0) [] v (w.heap.size + 1) _ (OwnB.nil _ _) ?_ ?_ hv).mono ?_; (focus (first | omega | (simp; done))); (focus (simp; done)); rintro e w1 ⟨v1, rfl, ho1, hw1⟩; rw [List.nil_append] at ho1; have hE1 : Ext w w1 := Ext.trans ((Ext.refl w).alloc _) (hw1.to_ext (by simp)); obtain ⟨g, cc, rfl, hg1, hg2, hgc, hga⟩ := ho1.some (putV_ne v); have HGA := Lib.hid hga; clear hga)
  go_loopw [3, 9] (fun x y wr => ∃ i : Nat, y = .int .i64 (i : Int) ∧ x = .int .u64 (hfold ((putV v).take i)) ∧ i ≤ (putV v).length ∧ wr = w1) (fun _ y _ => (putV v).length - (intOf y).toNat)
  case atStart => exact ⟨0, rfl, rfl, by omega, rfl⟩
  case round =>
    rename_i hrel
    obtain ⟨i, rfl, rfl, hi, rfl⟩ := hrel
    by_cases hlt : i < (putV v).length
    · have hlt' : (i : Int) < ((putV v).length : Int) := by omega
      have hw : wrap64 ((i : Int) + 1) = (i : Int) + 1 := by unfold wrap64; omega
      have hcell : wr.cell? ⟨g, i, none⟩ = some (.int .u8 ((putV v)[i] : Int)) := by
        have := HGA.out.get i (.int .u8 ((putV v)[i] : Int)) (by simp [bv, hlt])
        rwa [Nat.zero_add] at this
      have hsn : hfold ((putV v).take (i + 1)) = hstep (hfold ((putV v).take i)) ((putV v)[i] : Nat) := by rw [List.take_succ_eq_append_getElem hlt, hfold_snoc]
      have HSN := Lib.hid hsn; clear hsn
      go_wp2
      refine ⟨⟨i + 1, by simp, congrArg (Value.int .u64) HSN.out.symm, by omega, trivial⟩, by simp [intOf]; omega⟩
    · have hlt' : ¬ ((i : Int) < ((putV v).length : Int)) := by omega
      obtain rfl : i = (putV v).length := by omega
      rw [List.take_length]
      go_wp2
      go_ret
      exact ⟨rfl, hE1⟩

end Go.Proofs.YtlcdjaclahhdnaaDoor
