/- The walk's plain equations put into its set, so that a walk need not name them. -/
import Derived.Test.YtmkdbninmimndaaVmDraw
import Derived.Test.YtmkdbninmimndaaVmOpen
namespace Go.Vm
attribute [go_sem] List.length_cons List.length_nil Nat.one_mod Nat.zero_div List.getElem?_cons_zero List.getElem?_cons_succ List.getElem?_toArray List.getElem?_nil Bool.not_false Bool.not_true beq_self_eq_true Bool.not_eq_true true_and and_true true_or or_true false_or or_false List.append_nil List.nil_append List.cons_append Option.map_some Option.map_none Option.some.injEq decide_true decide_false if_true if_false Bool.false_eq_true gt_iff_lt ge_iff_le Nat.zero_add Nat.add_zero Nat.zero_mul Nat.mul_zero Nat.mul_one Nat.one_mul implies_true w_blt_t w_blt_f w_ble_t w_ble_f w_beq_t w_beq_f w_ilt_t w_ilt_f w_ile_t w_ile_f w_ieq_t w_ieq_f w_idx w_ite w_push_eq w_push_ne w_set_eq w_set_ne w_bset_eq w_bset_ne w_of_get w_i64 Blk.putA_short and_self Nat.add_eq Nat.le_refl Nat.le_add_right
end Go.Vm
